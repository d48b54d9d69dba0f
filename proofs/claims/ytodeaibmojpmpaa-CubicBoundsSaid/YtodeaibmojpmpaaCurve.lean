/- The curve of a cubic, the program's. -/
import Derived.Test.YtodeaibmojpmpaaPlain
namespace Go.Proofs.Ytodeaibmojpmpaa
open Go.RowKit
attribute [local go_sem] max2_is min2_is max_of_two min_of_two

set_option maxHeartbeats 4000000 in
theorem curve_is (g : Nat) (kd sz by_ sl rc pk ep st es no rt : Int) (w : World) (H : IsE 28 w g kd sz by_ sl rc pk ep st es) (hz0 : 1200 ≤ sz) (hz1 : sz ≤ 65535) (hs0 : 0 ≤ st) (hs1 : st ≤ pk) (hp : pk ≤ 1073741824)
    (hn : tm no) (hr : tm rt) (he0 : -1 ≤ ep) (he1 : ep ≤ 1125899906842624) :
    Calls Try.prog 26 #[.pointer (some ⟨g, 0, none⟩), .int .i64 no, .int .i64 rt] w fun e w' => e = .returned (.int .i64 (curveN pk st sz ep no rt)) ∧ Below w.heap.size w w' := by
  obtain ⟨s1, s2, s3, k0, k1⟩ := kN_in hz0 hs0 hs1 hp
  have dn : ¬ sz = 0 := by omega
  have ht := tN_in hn hr he0 he1
  obtain ⟨hn0, hn1⟩ := hn
  obtain ⟨hr0, hr1⟩ := hr
  have hx0 : -4503599627370496 ≤ no - ep + rt := by omega
  have hx1 : no - ep + rt ≤ 4503599627370496 := by omega
  obtain ⟨ht0, ht1⟩ := ht
  have H0 := Lib.hid H
  have hlt := H.lt
  obtain ⟨⟨c0, c1, c2, c3, c4, c5, c6, c7, c8⟩, f0, f1, f2, f3, f4, f5, f6, f7, f8⟩ := H.all
  clear H
  obtain ⟨C, hC⟩ : ∃ C, curveN pk st sz ep no rt = C := ⟨_, rfl⟩
  rw [hC]
  have HC := Lib.hid hC
  clear hC
  go_enter Try.func26, Try.ntmps26
  go_wp2_with fail
  go_still_tail 15, (by kernel_rfl)
  change wpList _ _ _ _ _ w.drew
  clear s1 s2 s3 dn
  obtain ⟨n, hk⟩ : ∃ n, kN pk st sz = n := ⟨_, rfl⟩
  rw [hk] at k0 k1 ⊢
  have HK := Lib.hid hk
  clear hk
  go_wp2_with fail
  refine (root_any n _ (by omega) k1).mono ?_
  rintro e w2 ⟨rfl, hL, hb⟩
  obtain ⟨hl0, hl1⟩ := root_in hL
  clear hL
  have HB2 := Lib.hid (show Below w.heap.size w w2 from ⟨hb.os, hb.tape, hb.output, hb.size, hb.block⟩)
  have H2 := Lib.hid (IsE.below H0.out HB2.out hlt)
  clear hb c0 c1 c2 c3 c4 c5 c6 c7 c8 f0 f1 f2 f3 f4 f5 f6 f7 f8
  obtain ⟨k, hk⟩ : ∃ k, rootOf n = k := ⟨_, rfl⟩
  rw [hk] at hl0 hl1 ⊢
  have HR := Lib.hid hk
  clear hk
  obtain ⟨⟨c0, c1, c2, c3, c4, c5, c6, c7, c8⟩, f0, f1, f2, f3, f4, f5, f6, f7, f8⟩ := H2.out.all
  have hd := dN_in (tN no ep rt) k
  unfold dN tN at hd
  obtain ⟨hd0, hd1⟩ := hd
  obtain ⟨hq0, hq1, hq2, hq3⟩ := cube_in hd0 hd1
  have HD := Lib.hid (show dN (tN no ep rt) k = min (max (min ((no - ep + rt).tdiv 1000) 1000000 - k) (-1000000)) 1000000 from rfl)
  go_wp2_with fail
  generalize min (max (min ((no - ep + rt).tdiv 1000) 1000000 - k) (-1000000)) 1000000 = d at *
  obtain ⟨cu, hcu⟩ : ∃ cu, d * d * d = cu := ⟨_, rfl⟩
  rw [hcu] at hq2 hq3 ⊢
  have HE := Lib.hid hcu
  clear hcu hd0 hd1 hq0 hq1
  obtain ⟨s1, s2, s3, s4, s5, s6, s7, _, _⟩ := scale_in hq2 hq3 (by omega) hz1
  have HF := Lib.hid (show scaleN cu sz = C from by rw [← HC.out, curveN, cuN, HK.out, HR.out, HD.out, HE.out])
  go_quiet (fail)
  go_wp2
  go_ret
  exact ⟨ret_int HF.out, below_drewN HB2.out _⟩
end Go.Proofs.Ytodeaibmojpmpaa

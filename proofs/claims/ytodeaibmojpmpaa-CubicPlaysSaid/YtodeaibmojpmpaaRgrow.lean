/- The growth of a cubic, the reference's. -/
import Derived.Test.YtodeaibmojpmpaaCurve
namespace Go.Proofs.Ytodeaibmojpmpaa
open Go.RowKit

theorem rootOf_in (n : Int) : 0 ≤ rootOf n ∧ rootOf n ≤ 2097151 := by
  unfold rootOf
  split
  · rename_i h; exact root_in h.choose_spec
  · decide
theorem tN_le (no ep rt : Int) : tN no ep rt ≤ 1000000 := by unfold tN; omega

set_option maxRecDepth 10000 in
set_option maxHeartbeats 4000000 in
theorem rgrow_on (g : Nat) (kd sz by_ sl rc pk ep st es ak no rt : Int) (w : World) (H : IsE 46 w g kd sz by_ sl rc pk ep st es) (hz0 : 1200 ≤ sz) (hz1 : sz ≤ 65535) (hb0 : 2400 ≤ by_) (hb1 : by_ ≤ 1073741824) (hp0 : 0 ≤ pk) (hp : pk ≤ 1073741824) (ha0 : 0 ≤ ak) (ha1 : ak ≤ 1048576) (hn : tm no) (hr : tm rt) (he0 : 0 ≤ ep) (he1 : ep ≤ 1125899906842624) (hs0 : 0 ≤ st) (hs1 : st ≤ pk) (hE0 : 0 ≤ es) (hE1 : es ≤ 1152921504606846976) :
    Calls Try.prog 25 #[.pointer (some ⟨g, 0, none⟩), .int .i64 ak, .int .i64 no, .int .i64 rt] w fun e w' => e = .returned (.tuple #[]) ∧ IsE 46 w' g kd sz (max (byN by_ (tgN pk by_ (curveN pk st sz ep no rt)) ak) (esN es sz ak by_)) sl rc pk ep st (esN es sz ak by_) ∧ Only w w' g := by
  have hn0 := hn.1
  have hn1 := hn.2
  have hr0 := hr.1
  have hr1 := hr.2
  have he0' : -1 ≤ ep := by omega
  obtain ⟨s1, s2, s3, k0, k1⟩ := kN_in hz0 hs0 hs1 hp
  have dz : ¬ sz = 0 := by omega
  have hx0 : -4503599627370496 ≤ no - ep + rt := by omega
  have hx1 : no - ep + rt ≤ 4503599627370496 := by omega
  obtain ⟨ht0, ht1⟩ := tN_in hn hr he0' he1
  clear hn hr
  have H0 := Lib.hid H
  have HO0 := Lib.hid (only_refl w g)
  clear H
  obtain ⟨⟨c0, c1, c2, c3, c4, c5, c6, c7, c8⟩, f0, f1, f2, f3, f4, f5, f6, f7, f8⟩ := H0.out.all
  have d0 : decide (ep < 0) = false := decide_eq_false (by omega)
  go_enter Try.func25, Try.ntmps25
  go_wp2_with fail
  go_quiet ((go_at_call 9; exact quiet_eq (rref_any (kN pk st sz) _ (by omega) k1)))
  clear s1 s2 s3 dz
  have H1 := Lib.hid (IsE.drewN H0.out nq)
  have HO1 := Lib.hid (only_drewN HO0.out nq)
  clear c0 c1 c2 c3 c4 c5 c6 c7 c8 f0 f1 f2 f3 f4 f5 f6 f7 f8
  generalize w.drewN nq = w1 at *
  obtain ⟨⟨c0, c1, c2, c3, c4, c5, c6, c7, c8⟩, f0, f1, f2, f3, f4, f5, f6, f7, f8⟩ := H1.out.all
  obtain ⟨k, hk⟩ : ∃ k, rootOf (kN pk st sz) = k := ⟨_, rfl⟩
  have hk0 := rootOf_in (kN pk st sz)
  rw [hk] at hk0 ⊢
  obtain ⟨hk0, hk1⟩ := hk0
  have HK := Lib.hid hk
  clear hk
  go_wp2_with fail
  refine (limited_is ((no - ep + rt).tdiv 1000) (-4611686018427387904) 1000000 _ (by decide)).mono ?_
  rintro e w' ⟨rfl, rfl⟩
  rw [show min (max ((no - ep + rt).tdiv 1000) (-4611686018427387904)) 1000000 = tN no ep rt by unfold tN; omega]
  have hT := tN_le no ep rt
  have hT2 : -4503599627370496 ≤ tN no ep rt := by unfold tN; omega
  obtain ⟨t, ht⟩ : ∃ t, tN no ep rt = t := ⟨_, rfl⟩
  rw [ht] at hT hT2 ⊢
  have HT' := Lib.hid ht
  clear ht ht0 ht1 hx0 hx1
  go_wp2_with fail
  refine (limited_is (t - k) (-1000000) 1000000 _ (by decide)).mono ?_
  rintro e w' ⟨rfl, rfl⟩
  obtain ⟨hd0, hd1⟩ := dN_in t k
  rw [show min (max (t - k) (-1000000)) 1000000 = dN t k from rfl]
  obtain ⟨d, hd⟩ : ∃ d, dN t k = d := ⟨_, rfl⟩
  rw [hd] at hd0 hd1 ⊢
  have HD := Lib.hid hd
  clear hd
  obtain ⟨hq0, hq1, hq2, hq3⟩ := cube_in hd0 hd1
  go_wp2_with fail
  obtain ⟨cu, hcu⟩ : ∃ cu, d * d * d = cu := ⟨_, rfl⟩
  rw [hcu] at hq2 hq3 ⊢
  have HE' := Lib.hid hcu
  clear hcu hd0 hd1 hq0 hq1 hT hT2
  obtain ⟨s1, s2, s3, s4, s5, s6, s7, hC0, hC1⟩ := scale_in hq2 hq3 (by omega) hz1
  go_quiet (fail)
  clear s1 s2 s3 s4 s5 s6 s7
  have H2 := Lib.hid (IsE.drewN H1.out nq)
  have HO2 := Lib.hid (only_drewN HO1.out nq)
  clear c0 c1 c2 c3 c4 c5 c6 c7 c8 f0 f1 f2 f3 f4 f5 f6 f7 f8
  generalize w1.drewN nq = w2 at *
  obtain ⟨⟨c0, c1, c2, c3, c4, c5, c6, c7, c8⟩, f0, f1, f2, f3, f4, f5, f6, f7, f8⟩ := H2.out.all
  have HF := Lib.hid (show scaleN cu sz = curveN pk st sz ep no rt by rw [curveN, cuN, HK.out, HT'.out, HD.out, HE'.out])
  obtain ⟨C, hC⟩ : ∃ C, scaleN cu sz = C := ⟨_, rfl⟩
  have HC := Lib.hid (show curveN pk st sz ep no rt = C from HF.out.symm.trans hC)
  rw [hC] at hC0 hC1 ⊢
  clear hC hq2 hq3 HF HK HT' HD HE' hk0 hk1
  have t1 : IntKind.i64.wrap (pk + C) = pk + C := wr_in (by omega) (by omega)
  have t2 : IntKind.i64.wrap (3 * by_) = 3 * by_ := wr_in (by omega) (by omega)
  have t3 : IntKind.i64.wrap ((3 * by_).tdiv 2) = 3 * by_ / 2 := wr_div (by omega) (by omega) (by omega)
  go_wp2_with fail
  go_quiet ((go_at_call 27; exact quiet_eq (limited_is (pk + C) by_ (3 * by_ / 2) _ (by omega))))
  clear t1 t2 t3
  have H3 := Lib.hid (IsE.drewN H2.out nq)
  have HO3 := Lib.hid (only_drewN HO2.out nq)
  clear c0 c1 c2 c3 c4 c5 c6 c7 c8 f0 f1 f2 f3 f4 f5 f6 f7 f8
  generalize w2.drewN nq = w3 at *
  obtain ⟨⟨c0, c1, c2, c3, c4, c5, c6, c7, c8⟩, f0, f1, f2, f3, f4, f5, f6, f7, f8⟩ := H3.out.all
  have htg : by_ ≤ tgN pk by_ C ∧ tgN pk by_ C ≤ 3 * by_ / 2 := tg_in hb0
  obtain ⟨tg, hT⟩ : ∃ tg, tgN pk by_ C = tg := ⟨_, rfl⟩
  rw [hT] at htg
  obtain ⟨htg0, htg1⟩ := htg
  rw [show min (max (pk + C) by_) (3 * by_ / 2) = tg from hT]
  have HG := Lib.hid hT
  clear hT hC0 hC1
  obtain ⟨e1, e2, e3, e4, e5, e6, e7⟩ := est_in hz0 hz1 ha0 ha1 hb0 hb1 hE0 hE1
  go_wp2_with fail
  go_still_tail 20, (by kernel_rfl)
  change wpList _ _ _ _ _ w3.drew
  clear e1 e2 e3 e4 e5 e6
  have H4 := Lib.hid (IsE.drew H3.out)
  have HO4 := Lib.hid (only_drew HO3.out)
  clear c0 c1 c2 c3 c4 c5 c6 c7 c8 f0 f1 f2 f3 f4 f5 f6 f7 f8
  generalize w3.drew = w4 at *
  obtain ⟨⟨c0, c1, c2, c3, c4, c5, c6, c7, c8⟩, f0, f1, f2, f3, f4, f5, f6, f7, f8⟩ := H4.out.all
  obtain ⟨E, hE⟩ : ∃ E, esN es sz ak by_ = E := ⟨_, rfl⟩
  rw [hE] at e7 ⊢
  have HE := Lib.hid hE
  clear hE
  go_wp2_with fail
  have H5 := Lib.hid (H4.out.set8 E)
  have HO5 := Lib.hid (only_set HO4.out 8 (.int .i64 E))
  clear c0 c1 c2 c3 c4 c5 c6 c7 c8 f0 f1 f2 f3 f4 f5 f6 f7 f8
  generalize w4.setCell ⟨g, 8, none⟩ (.int .i64 E) = w5 at *
  obtain ⟨⟨c0, c1, c2, c3, c4, c5, c6, c7, c8⟩, f0, f1, f2, f3, f4, f5, f6, f7, f8⟩ := H5.out.all
  obtain ⟨e1, e2, e3, e4, e5, e6⟩ := step_in hb0 hb1 htg0 htg1 ha0 ha1
  have dn : ¬ by_ = 0 := by omega
  go_still_tail 20, (by kernel_rfl)
  change wpList _ _ _ _ _ w5.drew
  clear e1 e2 e3 e4
  have H6 := Lib.hid (IsE.drew H5.out)
  have HO6 := Lib.hid (only_drew HO5.out)
  clear c0 c1 c2 c3 c4 c5 c6 c7 c8 f0 f1 f2 f3 f4 f5 f6 f7 f8
  generalize w5.drew = w6 at *
  obtain ⟨⟨c0, c1, c2, c3, c4, c5, c6, c7, c8⟩, f0, f1, f2, f3, f4, f5, f6, f7, f8⟩ := H6.out.all
  obtain ⟨Y, hY⟩ : ∃ Y, byN by_ tg ak = Y := ⟨_, rfl⟩
  rw [hY] at e5 e6 ⊢
  have HY := Lib.hid hY
  clear hY
  go_wp2_with fail
  have H7 := Lib.hid (H6.out.set2 Y)
  have HO7 := Lib.hid (only_set HO6.out 2 (.int .i64 Y))
  clear c0 c1 c2 c3 c4 c5 c6 c7 c8 f0 f1 f2 f3 f4 f5 f6 f7 f8
  generalize w6.setCell ⟨g, 2, none⟩ (.int .i64 Y) = w7 at *
  obtain ⟨⟨c0, c1, c2, c3, c4, c5, c6, c7, c8⟩, f0, f1, f2, f3, f4, f5, f6, f7, f8⟩ := H7.out.all
  rcases (show Y < E ∨ E ≤ Y by omega) with hy | hy
  · have d5 : decide (Y < E) = true := decide_eq_true hy
    have HM := Lib.hid (show max Y E = E by omega)
    clear hy
    go_quiet (fail)
    have H8 := Lib.hid (IsE.drewN H7.out nq)
    have HO8 := Lib.hid (only_drewN HO7.out nq)
    clear c0 c1 c2 c3 c4 c5 c6 c7 c8 f0 f1 f2 f3 f4 f5 f6 f7 f8
    generalize w7.drewN nq = w8 at *
    obtain ⟨⟨c0, c1, c2, c3, c4, c5, c6, c7, c8⟩, f0, f1, f2, f3, f4, f5, f6, f7, f8⟩ := H8.out.all
    go_wp2
    go_end0
    rw [HC.out, HG.out, HE.out, HY.out, HM.out]
    exact ⟨rfl, H8.out.set2 E, only_set HO8.out 2 _⟩
  · have d5 : decide (Y < E) = false := decide_eq_false (by omega)
    have HM := Lib.hid (show max Y E = Y by omega)
    clear hy
    go_quiet (fail)
    have H8 := Lib.hid (IsE.drewN H7.out nq)
    have HO8 := Lib.hid (only_drewN HO7.out nq)
    clear c0 c1 c2 c3 c4 c5 c6 c7 c8 f0 f1 f2 f3 f4 f5 f6 f7 f8
    generalize w7.drewN nq = w8 at *
    obtain ⟨⟨c0, c1, c2, c3, c4, c5, c6, c7, c8⟩, f0, f1, f2, f3, f4, f5, f6, f7, f8⟩ := H8.out.all
    go_wp2
    go_end0
    rw [HC.out, HG.out, HE.out, HY.out, HM.out]
    exact ⟨rfl, H8.out, HO8.out⟩
end Go.Proofs.Ytodeaibmojpmpaa

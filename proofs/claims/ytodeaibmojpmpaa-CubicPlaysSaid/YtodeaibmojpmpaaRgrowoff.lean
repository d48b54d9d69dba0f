/- The first growth of a cubic behind a loss, the reference's. -/
import Derived.Test.YtodeaibmojpmpaaRgrow
namespace Go.Proofs.Ytodeaibmojpmpaa
open Go.RowKit

set_option maxRecDepth 10000 in
set_option maxHeartbeats 4000000 in
theorem rgrow_up (g : Nat) (kd sz by_ sl rc pk ep st es ak no rt : Int) (w : World) (H : IsE 46 w g kd sz by_ sl rc pk ep st es) (hz0 : 1200 ≤ sz) (hz1 : sz ≤ 65535) (hb0 : 2400 ≤ by_) (hb1 : by_ ≤ 1073741824) (_hp0 : 0 ≤ pk) (_hp : pk ≤ 1073741824) (ha0 : 0 ≤ ak) (ha1 : ak ≤ 1048576) (hn : tm no) (hr : tm rt) (he : ep < 0) (hq : pk < by_) :
    Calls Try.prog 25 #[.pointer (some ⟨g, 0, none⟩), .int .i64 ak, .int .i64 no, .int .i64 rt] w fun e w' => e = .returned (.tuple #[]) ∧ IsE 46 w' g kd sz (max (byN by_ (tgN by_ by_ (curveN by_ by_ sz no no rt)) ak) (esN by_ sz ak by_)) sl rc by_ no by_ (esN by_ sz ak by_) ∧ Only w w' g := by
  have hn0 := hn.1
  have hn1 := hn.2
  have hr0 := hr.1
  have hr1 := hr.2
  have d0 : decide (ep < 0) = true := decide_eq_true he
  have d1 : decide (pk < by_) = true := decide_eq_true (by omega)
  obtain ⟨EP, hEP⟩ : ∃ x, x = no := ⟨_, rfl⟩
  obtain ⟨S, hS⟩ : ∃ x, x = by_ := ⟨_, rfl⟩
  obtain ⟨Z, hZ⟩ : ∃ x, x = by_ := ⟨_, rfl⟩
  obtain ⟨P, hP⟩ : ∃ x, x = by_ := ⟨_, rfl⟩
  have he0 : -1 ≤ EP := by omega
  have he1 : EP ≤ 1125899906842624 := by omega
  have hs0 : 0 ≤ S := by omega
  have hs1 : S ≤ P := by omega
  have hp1 : P ≤ 1073741824 := by omega
  have hE0 : 0 ≤ Z := by omega
  have hE1 : Z ≤ 1152921504606846976 := by omega
  obtain ⟨s1, s2, s3, k0, k1⟩ := kN_in hz0 hs0 hs1 hp1
  have dz : ¬ sz = 0 := by omega
  have hx0 : -4503599627370496 ≤ no - EP + rt := by omega
  have hx1 : no - EP + rt ≤ 4503599627370496 := by omega
  obtain ⟨ht0, ht1⟩ := tN_in hn hr he0 he1
  have HQ := Lib.hid (show EP = no ∧ S = by_ ∧ Z = by_ ∧ P = by_ from ⟨hEP, hS, hZ, hP⟩)
  clear hEP hS hZ hP
  clear hn hr
  have H0 := Lib.hid H
  have HO0 := Lib.hid (only_refl w g)
  clear H
  obtain ⟨⟨c0, c1, c2, c3, c4, c5, c6, c7, c8⟩, f0, f1, f2, f3, f4, f5, f6, f7, f8⟩ := H0.out.all
  go_enter Try.func25, Try.ntmps25
  go_wp2_with fail
  have H2 := Lib.hid (((H0.out.set6 no).set7 by_).set8 by_)
  have HO2 := Lib.hid (only_set (only_set (only_set HO0.out 6 (.int .i64 no)) 7 (.int .i64 by_)) 8 (.int .i64 by_))
  clear c0 c1 c2 c3 c4 c5 c6 c7 c8 f0 f1 f2 f3 f4 f5 f6 f7 f8
  generalize ((w.setCell ⟨g, 6, none⟩ (.int .i64 no)).setCell ⟨g, 7, none⟩ (.int .i64 by_)).setCell ⟨g, 8, none⟩ (.int .i64 by_) = w2 at *
  obtain ⟨⟨c0, c1, c2, c3, c4, c5, c6, c7, c8⟩, f0, f1, f2, f3, f4, f5, f6, f7, f8⟩ := H2.out.all
  go_quiet (fail)
  have H3 := Lib.hid (IsE.drewN H2.out nq)
  have HO3 := Lib.hid (only_drewN HO2.out nq)
  clear c0 c1 c2 c3 c4 c5 c6 c7 c8 f0 f1 f2 f3 f4 f5 f6 f7 f8
  generalize w2.drewN nq = w3 at *
  obtain ⟨⟨c0, c1, c2, c3, c4, c5, c6, c7, c8⟩, f0, f1, f2, f3, f4, f5, f6, f7, f8⟩ := H3.out.all
  clear d0 d1
  go_wp2_with fail
  have H4 := Lib.hid (H3.out.set5 by_)
  have HO4 := Lib.hid (only_set HO3.out 5 (.int .i64 by_))
  clear c0 c1 c2 c3 c4 c5 c6 c7 c8 f0 f1 f2 f3 f4 f5 f6 f7 f8
  generalize w3.setCell ⟨g, 5, none⟩ (.int .i64 by_) = w4 at *
  obtain ⟨⟨c0, c1, c2, c3, c4, c5, c6, c7, c8⟩, f0, f1, f2, f3, f4, f5, f6, f7, f8⟩ := H4.out.all
  clear c0 c1 c2 c3 c4 c5 c6 c7 c8 f0 f1 f2 f3 f4 f5 f6 f7 f8
  have H4' := Lib.hid (show IsE 46 w4 g kd sz by_ sl rc P EP S Z by rw [HQ.out.1, HQ.out.2.1, HQ.out.2.2.1, HQ.out.2.2.2]; exact H4.out)
  clear H4
  have H4 := H4'
  clear H4'
  obtain ⟨⟨c0, c1, c2, c3, c4, c5, c6, c7, c8⟩, f0, f1, f2, f3, f4, f5, f6, f7, f8⟩ := H4.out.all
  go_wp2_with fail
  go_quiet ((go_at_call 9; exact quiet_eq (rref_any (kN P S sz) _ (by omega) k1)))
  clear s1 s2 s3 dz
  have H5 := Lib.hid (IsE.drewN H4.out nq)
  have HO5 := Lib.hid (only_drewN HO4.out nq)
  clear c0 c1 c2 c3 c4 c5 c6 c7 c8 f0 f1 f2 f3 f4 f5 f6 f7 f8
  generalize w4.drewN nq = w5 at *
  obtain ⟨⟨c0, c1, c2, c3, c4, c5, c6, c7, c8⟩, f0, f1, f2, f3, f4, f5, f6, f7, f8⟩ := H5.out.all
  obtain ⟨k, hk⟩ : ∃ k, rootOf (kN P S sz) = k := ⟨_, rfl⟩
  have hk0 := rootOf_in (kN P S sz)
  rw [hk] at hk0 ⊢
  obtain ⟨hk0, hk1⟩ := hk0
  have HK := Lib.hid hk
  clear hk
  go_wp2_with fail
  refine (limited_is ((no - EP + rt).tdiv 1000) (-4611686018427387904) 1000000 _ (by decide)).mono ?_
  rintro e w' ⟨rfl, rfl⟩
  rw [show min (max ((no - EP + rt).tdiv 1000) (-4611686018427387904)) 1000000 = tN no EP rt by unfold tN; omega]
  have hT := tN_le no EP rt
  have hT2 : -4503599627370496 ≤ tN no EP rt := by unfold tN; omega
  obtain ⟨t, ht⟩ : ∃ t, tN no EP rt = t := ⟨_, rfl⟩
  rw [ht] at hT hT2 ⊢
  have HT' := Lib.hid ht
  clear ht ht0 ht1 hx0 hx1
  go_wp2_with fail
  refine (limited_is (t - k) (-1000000) 1000000 _ (by decide)).mono ?_
  rintro e w' ⟨rfl, rfl⟩
  obtain ⟨hd0, hd1⟩ := dN_in t k
  rw [show min (max (t - k) (-1000000)) 1000000 = dN t k from rfl]
  obtain ⟨d, hd⟩ : ∃ d, dN t k = d := ⟨_, rfl⟩
  rw [hd] at hd0 hd1 ⊢
  have HD := Lib.hid hd
  clear hd
  obtain ⟨hq0, hq1, hq2, hq3⟩ := cube_in hd0 hd1
  go_wp2_with fail
  obtain ⟨cu, hcu⟩ : ∃ cu, d * d * d = cu := ⟨_, rfl⟩
  rw [hcu] at hq2 hq3 ⊢
  have HE' := Lib.hid hcu
  clear hcu hd0 hd1 hq0 hq1 hT hT2
  obtain ⟨s1, s2, s3, s4, s5, s6, s7, hC0, hC1⟩ := scale_in hq2 hq3 (by omega) hz1
  go_quiet (fail)
  clear s1 s2 s3 s4 s5 s6 s7
  have H6 := Lib.hid (IsE.drewN H5.out nq)
  have HO6 := Lib.hid (only_drewN HO5.out nq)
  clear c0 c1 c2 c3 c4 c5 c6 c7 c8 f0 f1 f2 f3 f4 f5 f6 f7 f8
  generalize w5.drewN nq = w6 at *
  obtain ⟨⟨c0, c1, c2, c3, c4, c5, c6, c7, c8⟩, f0, f1, f2, f3, f4, f5, f6, f7, f8⟩ := H6.out.all
  have HF := Lib.hid (show scaleN cu sz = curveN P S sz EP no rt by rw [curveN, cuN, HK.out, HT'.out, HD.out, HE'.out])
  obtain ⟨C, hC⟩ : ∃ C, scaleN cu sz = C := ⟨_, rfl⟩
  have HC := Lib.hid (show curveN P S sz EP no rt = C from HF.out.symm.trans hC)
  rw [hC] at hC0 hC1 ⊢
  clear hC hq2 hq3 HF HK HT' HD HE' hk0 hk1
  have t1 : IntKind.i64.wrap (P + C) = P + C := wr_in (by omega) (by omega)
  have t2 : IntKind.i64.wrap (3 * by_) = 3 * by_ := wr_in (by omega) (by omega)
  have t3 : IntKind.i64.wrap ((3 * by_).tdiv 2) = 3 * by_ / 2 := wr_div (by omega) (by omega) (by omega)
  go_wp2_with fail
  go_quiet ((go_at_call 27; exact quiet_eq (limited_is (P + C) by_ (3 * by_ / 2) _ (by omega))))
  clear t1 t2 t3
  have H7 := Lib.hid (IsE.drewN H6.out nq)
  have HO7 := Lib.hid (only_drewN HO6.out nq)
  clear c0 c1 c2 c3 c4 c5 c6 c7 c8 f0 f1 f2 f3 f4 f5 f6 f7 f8
  generalize w6.drewN nq = w7 at *
  obtain ⟨⟨c0, c1, c2, c3, c4, c5, c6, c7, c8⟩, f0, f1, f2, f3, f4, f5, f6, f7, f8⟩ := H7.out.all
  have htg : by_ ≤ tgN P by_ C ∧ tgN P by_ C ≤ 3 * by_ / 2 := tg_in hb0
  obtain ⟨tg, hT⟩ : ∃ tg, tgN P by_ C = tg := ⟨_, rfl⟩
  rw [hT] at htg
  obtain ⟨htg0, htg1⟩ := htg
  rw [show min (max (P + C) by_) (3 * by_ / 2) = tg from hT]
  have HG := Lib.hid hT
  clear hT hC0 hC1
  obtain ⟨e1, e2, e3, e4, e5, e6, e7⟩ := est_in hz0 hz1 ha0 ha1 hb0 hb1 hE0 hE1
  go_wp2_with fail
  go_still_tail 20, (by kernel_rfl)
  change wpList _ _ _ _ _ w7.drew
  clear e1 e2 e3 e4 e5 e6
  have H8 := Lib.hid (IsE.drew H7.out)
  have HO8 := Lib.hid (only_drew HO7.out)
  clear c0 c1 c2 c3 c4 c5 c6 c7 c8 f0 f1 f2 f3 f4 f5 f6 f7 f8
  generalize w7.drew = w8 at *
  obtain ⟨⟨c0, c1, c2, c3, c4, c5, c6, c7, c8⟩, f0, f1, f2, f3, f4, f5, f6, f7, f8⟩ := H8.out.all
  obtain ⟨E, hE⟩ : ∃ E, esN Z sz ak by_ = E := ⟨_, rfl⟩
  rw [hE] at e7 ⊢
  have HE := Lib.hid hE
  clear hE
  go_wp2_with fail
  have H9 := Lib.hid (H8.out.set8 E)
  have HO9 := Lib.hid (only_set HO8.out 8 (.int .i64 E))
  clear c0 c1 c2 c3 c4 c5 c6 c7 c8 f0 f1 f2 f3 f4 f5 f6 f7 f8
  generalize w8.setCell ⟨g, 8, none⟩ (.int .i64 E) = w9 at *
  obtain ⟨⟨c0, c1, c2, c3, c4, c5, c6, c7, c8⟩, f0, f1, f2, f3, f4, f5, f6, f7, f8⟩ := H9.out.all
  obtain ⟨e1, e2, e3, e4, e5, e6⟩ := step_in hb0 hb1 htg0 htg1 ha0 ha1
  have dn : ¬ by_ = 0 := by omega
  go_still_tail 20, (by kernel_rfl)
  change wpList _ _ _ _ _ w9.drew
  clear e1 e2 e3 e4
  have H10 := Lib.hid (IsE.drew H9.out)
  have HO10 := Lib.hid (only_drew HO9.out)
  clear c0 c1 c2 c3 c4 c5 c6 c7 c8 f0 f1 f2 f3 f4 f5 f6 f7 f8
  generalize w9.drew = w10 at *
  obtain ⟨⟨c0, c1, c2, c3, c4, c5, c6, c7, c8⟩, f0, f1, f2, f3, f4, f5, f6, f7, f8⟩ := H10.out.all
  obtain ⟨Y, hY⟩ : ∃ Y, byN by_ tg ak = Y := ⟨_, rfl⟩
  rw [hY] at e5 e6 ⊢
  have HY := Lib.hid hY
  clear hY
  go_wp2_with fail
  have H11 := Lib.hid (H10.out.set2 Y)
  have HO11 := Lib.hid (only_set HO10.out 2 (.int .i64 Y))
  clear c0 c1 c2 c3 c4 c5 c6 c7 c8 f0 f1 f2 f3 f4 f5 f6 f7 f8
  generalize w10.setCell ⟨g, 2, none⟩ (.int .i64 Y) = w11 at *
  obtain ⟨⟨c0, c1, c2, c3, c4, c5, c6, c7, c8⟩, f0, f1, f2, f3, f4, f5, f6, f7, f8⟩ := H11.out.all
  rcases (show Y < E ∨ E ≤ Y by omega) with hy | hy
  · have d5 : decide (Y < E) = true := decide_eq_true hy
    have HM := Lib.hid (show max Y E = E by omega)
    clear hy
    go_quiet (fail)
    have H12 := Lib.hid (IsE.drewN H11.out nq)
    have HO12 := Lib.hid (only_drewN HO11.out nq)
    clear c0 c1 c2 c3 c4 c5 c6 c7 c8 f0 f1 f2 f3 f4 f5 f6 f7 f8
    generalize w11.drewN nq = w12 at *
    obtain ⟨⟨c0, c1, c2, c3, c4, c5, c6, c7, c8⟩, f0, f1, f2, f3, f4, f5, f6, f7, f8⟩ := H12.out.all
    go_wp2
    go_end0
    obtain ⟨rfl, rfl, rfl, rfl⟩ := HQ.out
    rw [HC.out, HG.out, HE.out, HY.out, HM.out]
    exact ⟨rfl, H12.out.set2 E, only_set HO12.out 2 _⟩
  · have d5 : decide (Y < E) = false := decide_eq_false (by omega)
    have HM := Lib.hid (show max Y E = Y by omega)
    clear hy
    go_quiet (fail)
    have H12 := Lib.hid (IsE.drewN H11.out nq)
    have HO12 := Lib.hid (only_drewN HO11.out nq)
    clear c0 c1 c2 c3 c4 c5 c6 c7 c8 f0 f1 f2 f3 f4 f5 f6 f7 f8
    generalize w11.drewN nq = w12 at *
    obtain ⟨⟨c0, c1, c2, c3, c4, c5, c6, c7, c8⟩, f0, f1, f2, f3, f4, f5, f6, f7, f8⟩ := H12.out.all
    go_wp2
    go_end0
    obtain ⟨rfl, rfl, rfl, rfl⟩ := HQ.out
    rw [HC.out, HG.out, HE.out, HY.out, HM.out]
    exact ⟨rfl, H12.out, HO12.out⟩

set_option maxRecDepth 10000 in
set_option maxHeartbeats 4000000 in
theorem rgrow_same (g : Nat) (kd sz by_ sl rc pk ep st es ak no rt : Int) (w : World) (H : IsE 46 w g kd sz by_ sl rc pk ep st es) (hz0 : 1200 ≤ sz) (hz1 : sz ≤ 65535) (hb0 : 2400 ≤ by_) (hb1 : by_ ≤ 1073741824) (hp0 : 0 ≤ pk) (hp : pk ≤ 1073741824) (ha0 : 0 ≤ ak) (ha1 : ak ≤ 1048576) (hn : tm no) (hr : tm rt) (he : ep < 0) (hq : by_ ≤ pk) :
    Calls Try.prog 25 #[.pointer (some ⟨g, 0, none⟩), .int .i64 ak, .int .i64 no, .int .i64 rt] w fun e w' => e = .returned (.tuple #[]) ∧ IsE 46 w' g kd sz (max (byN by_ (tgN pk by_ (curveN pk by_ sz no no rt)) ak) (esN by_ sz ak by_)) sl rc pk no by_ (esN by_ sz ak by_) ∧ Only w w' g := by
  have hn0 := hn.1
  have hn1 := hn.2
  have hr0 := hr.1
  have hr1 := hr.2
  have d0 : decide (ep < 0) = true := decide_eq_true he
  have d1 : decide (pk < by_) = false := decide_eq_false (by omega)
  obtain ⟨EP, hEP⟩ : ∃ x, x = no := ⟨_, rfl⟩
  obtain ⟨S, hS⟩ : ∃ x, x = by_ := ⟨_, rfl⟩
  obtain ⟨Z, hZ⟩ : ∃ x, x = by_ := ⟨_, rfl⟩
  have he0 : -1 ≤ EP := by omega
  have he1 : EP ≤ 1125899906842624 := by omega
  have hs0 : 0 ≤ S := by omega
  have hs1 : S ≤ pk := by omega
  have hp1 : pk ≤ 1073741824 := by omega
  have hE0 : 0 ≤ Z := by omega
  have hE1 : Z ≤ 1152921504606846976 := by omega
  obtain ⟨s1, s2, s3, k0, k1⟩ := kN_in hz0 hs0 hs1 hp1
  have dz : ¬ sz = 0 := by omega
  have hx0 : -4503599627370496 ≤ no - EP + rt := by omega
  have hx1 : no - EP + rt ≤ 4503599627370496 := by omega
  obtain ⟨ht0, ht1⟩ := tN_in hn hr he0 he1
  have HQ := Lib.hid (show EP = no ∧ S = by_ ∧ Z = by_ from ⟨hEP, hS, hZ⟩)
  clear hEP hS hZ
  clear hn hr
  have H0 := Lib.hid H
  have HO0 := Lib.hid (only_refl w g)
  clear H
  obtain ⟨⟨c0, c1, c2, c3, c4, c5, c6, c7, c8⟩, f0, f1, f2, f3, f4, f5, f6, f7, f8⟩ := H0.out.all
  go_enter Try.func25, Try.ntmps25
  go_wp2_with fail
  have H2 := Lib.hid (((H0.out.set6 no).set7 by_).set8 by_)
  have HO2 := Lib.hid (only_set (only_set (only_set HO0.out 6 (.int .i64 no)) 7 (.int .i64 by_)) 8 (.int .i64 by_))
  clear c0 c1 c2 c3 c4 c5 c6 c7 c8 f0 f1 f2 f3 f4 f5 f6 f7 f8
  generalize ((w.setCell ⟨g, 6, none⟩ (.int .i64 no)).setCell ⟨g, 7, none⟩ (.int .i64 by_)).setCell ⟨g, 8, none⟩ (.int .i64 by_) = w2 at *
  obtain ⟨⟨c0, c1, c2, c3, c4, c5, c6, c7, c8⟩, f0, f1, f2, f3, f4, f5, f6, f7, f8⟩ := H2.out.all
  go_quiet (fail)
  have H3 := Lib.hid (IsE.drewN H2.out nq)
  have HO3 := Lib.hid (only_drewN HO2.out nq)
  clear c0 c1 c2 c3 c4 c5 c6 c7 c8 f0 f1 f2 f3 f4 f5 f6 f7 f8
  generalize w2.drewN nq = w3 at *
  obtain ⟨⟨c0, c1, c2, c3, c4, c5, c6, c7, c8⟩, f0, f1, f2, f3, f4, f5, f6, f7, f8⟩ := H3.out.all
  clear d0 d1
  clear c0 c1 c2 c3 c4 c5 c6 c7 c8 f0 f1 f2 f3 f4 f5 f6 f7 f8
  have H3' := Lib.hid (show IsE 46 w3 g kd sz by_ sl rc pk EP S Z by rw [HQ.out.1, HQ.out.2.1, HQ.out.2.2]; exact H3.out)
  clear H3
  have H3 := H3'
  clear H3'
  obtain ⟨⟨c0, c1, c2, c3, c4, c5, c6, c7, c8⟩, f0, f1, f2, f3, f4, f5, f6, f7, f8⟩ := H3.out.all
  go_wp2_with fail
  go_quiet ((go_at_call 9; exact quiet_eq (rref_any (kN pk S sz) _ (by omega) k1)))
  clear s1 s2 s3 dz
  have H4 := Lib.hid (IsE.drewN H3.out nq)
  have HO4 := Lib.hid (only_drewN HO3.out nq)
  clear c0 c1 c2 c3 c4 c5 c6 c7 c8 f0 f1 f2 f3 f4 f5 f6 f7 f8
  generalize w3.drewN nq = w4 at *
  obtain ⟨⟨c0, c1, c2, c3, c4, c5, c6, c7, c8⟩, f0, f1, f2, f3, f4, f5, f6, f7, f8⟩ := H4.out.all
  obtain ⟨k, hk⟩ : ∃ k, rootOf (kN pk S sz) = k := ⟨_, rfl⟩
  have hk0 := rootOf_in (kN pk S sz)
  rw [hk] at hk0 ⊢
  obtain ⟨hk0, hk1⟩ := hk0
  have HK := Lib.hid hk
  clear hk
  go_wp2_with fail
  refine (limited_is ((no - EP + rt).tdiv 1000) (-4611686018427387904) 1000000 _ (by decide)).mono ?_
  rintro e w' ⟨rfl, rfl⟩
  rw [show min (max ((no - EP + rt).tdiv 1000) (-4611686018427387904)) 1000000 = tN no EP rt by unfold tN; omega]
  have hT := tN_le no EP rt
  have hT2 : -4503599627370496 ≤ tN no EP rt := by unfold tN; omega
  obtain ⟨t, ht⟩ : ∃ t, tN no EP rt = t := ⟨_, rfl⟩
  rw [ht] at hT hT2 ⊢
  have HT' := Lib.hid ht
  clear ht ht0 ht1 hx0 hx1
  go_wp2_with fail
  refine (limited_is (t - k) (-1000000) 1000000 _ (by decide)).mono ?_
  rintro e w' ⟨rfl, rfl⟩
  obtain ⟨hd0, hd1⟩ := dN_in t k
  rw [show min (max (t - k) (-1000000)) 1000000 = dN t k from rfl]
  obtain ⟨d, hd⟩ : ∃ d, dN t k = d := ⟨_, rfl⟩
  rw [hd] at hd0 hd1 ⊢
  have HD := Lib.hid hd
  clear hd
  obtain ⟨hq0, hq1, hq2, hq3⟩ := cube_in hd0 hd1
  go_wp2_with fail
  obtain ⟨cu, hcu⟩ : ∃ cu, d * d * d = cu := ⟨_, rfl⟩
  rw [hcu] at hq2 hq3 ⊢
  have HE' := Lib.hid hcu
  clear hcu hd0 hd1 hq0 hq1 hT hT2
  obtain ⟨s1, s2, s3, s4, s5, s6, s7, hC0, hC1⟩ := scale_in hq2 hq3 (by omega) hz1
  go_quiet (fail)
  clear s1 s2 s3 s4 s5 s6 s7
  have H5 := Lib.hid (IsE.drewN H4.out nq)
  have HO5 := Lib.hid (only_drewN HO4.out nq)
  clear c0 c1 c2 c3 c4 c5 c6 c7 c8 f0 f1 f2 f3 f4 f5 f6 f7 f8
  generalize w4.drewN nq = w5 at *
  obtain ⟨⟨c0, c1, c2, c3, c4, c5, c6, c7, c8⟩, f0, f1, f2, f3, f4, f5, f6, f7, f8⟩ := H5.out.all
  have HF := Lib.hid (show scaleN cu sz = curveN pk S sz EP no rt by rw [curveN, cuN, HK.out, HT'.out, HD.out, HE'.out])
  obtain ⟨C, hC⟩ : ∃ C, scaleN cu sz = C := ⟨_, rfl⟩
  have HC := Lib.hid (show curveN pk S sz EP no rt = C from HF.out.symm.trans hC)
  rw [hC] at hC0 hC1 ⊢
  clear hC hq2 hq3 HF HK HT' HD HE' hk0 hk1
  have t1 : IntKind.i64.wrap (pk + C) = pk + C := wr_in (by omega) (by omega)
  have t2 : IntKind.i64.wrap (3 * by_) = 3 * by_ := wr_in (by omega) (by omega)
  have t3 : IntKind.i64.wrap ((3 * by_).tdiv 2) = 3 * by_ / 2 := wr_div (by omega) (by omega) (by omega)
  go_wp2_with fail
  go_quiet ((go_at_call 27; exact quiet_eq (limited_is (pk + C) by_ (3 * by_ / 2) _ (by omega))))
  clear t1 t2 t3
  have H6 := Lib.hid (IsE.drewN H5.out nq)
  have HO6 := Lib.hid (only_drewN HO5.out nq)
  clear c0 c1 c2 c3 c4 c5 c6 c7 c8 f0 f1 f2 f3 f4 f5 f6 f7 f8
  generalize w5.drewN nq = w6 at *
  obtain ⟨⟨c0, c1, c2, c3, c4, c5, c6, c7, c8⟩, f0, f1, f2, f3, f4, f5, f6, f7, f8⟩ := H6.out.all
  have htg : by_ ≤ tgN pk by_ C ∧ tgN pk by_ C ≤ 3 * by_ / 2 := tg_in hb0
  obtain ⟨tg, hT⟩ : ∃ tg, tgN pk by_ C = tg := ⟨_, rfl⟩
  rw [hT] at htg
  obtain ⟨htg0, htg1⟩ := htg
  rw [show min (max (pk + C) by_) (3 * by_ / 2) = tg from hT]
  have HG := Lib.hid hT
  clear hT hC0 hC1
  obtain ⟨e1, e2, e3, e4, e5, e6, e7⟩ := est_in hz0 hz1 ha0 ha1 hb0 hb1 hE0 hE1
  go_wp2_with fail
  go_still_tail 20, (by kernel_rfl)
  change wpList _ _ _ _ _ w6.drew
  clear e1 e2 e3 e4 e5 e6
  have H7 := Lib.hid (IsE.drew H6.out)
  have HO7 := Lib.hid (only_drew HO6.out)
  clear c0 c1 c2 c3 c4 c5 c6 c7 c8 f0 f1 f2 f3 f4 f5 f6 f7 f8
  generalize w6.drew = w7 at *
  obtain ⟨⟨c0, c1, c2, c3, c4, c5, c6, c7, c8⟩, f0, f1, f2, f3, f4, f5, f6, f7, f8⟩ := H7.out.all
  obtain ⟨E, hE⟩ : ∃ E, esN Z sz ak by_ = E := ⟨_, rfl⟩
  rw [hE] at e7 ⊢
  have HE := Lib.hid hE
  clear hE
  go_wp2_with fail
  have H8 := Lib.hid (H7.out.set8 E)
  have HO8 := Lib.hid (only_set HO7.out 8 (.int .i64 E))
  clear c0 c1 c2 c3 c4 c5 c6 c7 c8 f0 f1 f2 f3 f4 f5 f6 f7 f8
  generalize w7.setCell ⟨g, 8, none⟩ (.int .i64 E) = w8 at *
  obtain ⟨⟨c0, c1, c2, c3, c4, c5, c6, c7, c8⟩, f0, f1, f2, f3, f4, f5, f6, f7, f8⟩ := H8.out.all
  obtain ⟨e1, e2, e3, e4, e5, e6⟩ := step_in hb0 hb1 htg0 htg1 ha0 ha1
  have dn : ¬ by_ = 0 := by omega
  go_still_tail 20, (by kernel_rfl)
  change wpList _ _ _ _ _ w8.drew
  clear e1 e2 e3 e4
  have H9 := Lib.hid (IsE.drew H8.out)
  have HO9 := Lib.hid (only_drew HO8.out)
  clear c0 c1 c2 c3 c4 c5 c6 c7 c8 f0 f1 f2 f3 f4 f5 f6 f7 f8
  generalize w8.drew = w9 at *
  obtain ⟨⟨c0, c1, c2, c3, c4, c5, c6, c7, c8⟩, f0, f1, f2, f3, f4, f5, f6, f7, f8⟩ := H9.out.all
  obtain ⟨Y, hY⟩ : ∃ Y, byN by_ tg ak = Y := ⟨_, rfl⟩
  rw [hY] at e5 e6 ⊢
  have HY := Lib.hid hY
  clear hY
  go_wp2_with fail
  have H10 := Lib.hid (H9.out.set2 Y)
  have HO10 := Lib.hid (only_set HO9.out 2 (.int .i64 Y))
  clear c0 c1 c2 c3 c4 c5 c6 c7 c8 f0 f1 f2 f3 f4 f5 f6 f7 f8
  generalize w9.setCell ⟨g, 2, none⟩ (.int .i64 Y) = w10 at *
  obtain ⟨⟨c0, c1, c2, c3, c4, c5, c6, c7, c8⟩, f0, f1, f2, f3, f4, f5, f6, f7, f8⟩ := H10.out.all
  rcases (show Y < E ∨ E ≤ Y by omega) with hy | hy
  · have d5 : decide (Y < E) = true := decide_eq_true hy
    have HM := Lib.hid (show max Y E = E by omega)
    clear hy
    go_quiet (fail)
    have H11 := Lib.hid (IsE.drewN H10.out nq)
    have HO11 := Lib.hid (only_drewN HO10.out nq)
    clear c0 c1 c2 c3 c4 c5 c6 c7 c8 f0 f1 f2 f3 f4 f5 f6 f7 f8
    generalize w10.drewN nq = w11 at *
    obtain ⟨⟨c0, c1, c2, c3, c4, c5, c6, c7, c8⟩, f0, f1, f2, f3, f4, f5, f6, f7, f8⟩ := H11.out.all
    go_wp2
    go_end0
    obtain ⟨rfl, rfl, rfl⟩ := HQ.out
    rw [HC.out, HG.out, HE.out, HY.out, HM.out]
    exact ⟨rfl, H11.out.set2 E, only_set HO11.out 2 _⟩
  · have d5 : decide (Y < E) = false := decide_eq_false (by omega)
    have HM := Lib.hid (show max Y E = Y by omega)
    clear hy
    go_quiet (fail)
    have H11 := Lib.hid (IsE.drewN H10.out nq)
    have HO11 := Lib.hid (only_drewN HO10.out nq)
    clear c0 c1 c2 c3 c4 c5 c6 c7 c8 f0 f1 f2 f3 f4 f5 f6 f7 f8
    generalize w10.drewN nq = w11 at *
    obtain ⟨⟨c0, c1, c2, c3, c4, c5, c6, c7, c8⟩, f0, f1, f2, f3, f4, f5, f6, f7, f8⟩ := H11.out.all
    go_wp2
    go_end0
    obtain ⟨rfl, rfl, rfl⟩ := HQ.out
    rw [HC.out, HG.out, HE.out, HY.out, HM.out]
    exact ⟨rfl, H11.out, HO11.out⟩

set_option maxRecDepth 10000 in
set_option maxHeartbeats 4000000 in
theorem rgrow_off (g : Nat) (kd sz by_ sl rc pk ep st es ak no rt : Int) (w : World) (H : IsE 46 w g kd sz by_ sl rc pk ep st es) (hz0 : 1200 ≤ sz) (hz1 : sz ≤ 65535) (hb0 : 2400 ≤ by_) (hb1 : by_ ≤ 1073741824) (hp0 : 0 ≤ pk) (hp : pk ≤ 1073741824) (ha0 : 0 ≤ ak) (ha1 : ak ≤ 1048576) (hn : tm no) (hr : tm rt) (he : ep < 0) :
    Calls Try.prog 25 #[.pointer (some ⟨g, 0, none⟩), .int .i64 ak, .int .i64 no, .int .i64 rt] w fun e w' => e = .returned (.tuple #[]) ∧ IsE 46 w' g kd sz (max (byN by_ (tgN (max pk by_) by_ (curveN (max pk by_) by_ sz no no rt)) ak) (esN by_ sz ak by_)) sl rc (max pk by_) no by_ (esN by_ sz ak by_) ∧ Only w w' g := by
  rcases (show pk < by_ ∨ by_ ≤ pk by omega) with hq | hq
  · rw [show max pk by_ = by_ by omega]
    exact rgrow_up g kd sz by_ sl rc pk ep st es ak no rt w H hz0 hz1 hb0 hb1 hp0 hp ha0 ha1 hn hr he hq
  · rw [show max pk by_ = pk by omega]
    exact rgrow_same g kd sz by_ sl rc pk ep st es ak no rt w H hz0 hz1 hb0 hb1 hp0 hp ha0 ha1 hn hr he hq
end Go.Proofs.Ytodeaibmojpmpaa

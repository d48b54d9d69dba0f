/- The growth of a cubic, the program's. -/
import Derived.Test.YtodeaibmojpmpaaCurve
namespace Go.Proofs.Ytodeaibmojpmpaa
open Go.RowKit
attribute [local go_sem] max2_is min2_is max_of_two min_of_two
attribute [local go_sem ↓] Go.wp_at_zero Go.wp_at_succ

set_option maxHeartbeats 4000000 in
theorem grow_on (g : Nat) (kd sz by_ sl rc pk ep st es ak no rt : Int) (w : World) (H : IsE 28 w g kd sz by_ sl rc pk ep st es) (hz0 : 1200 ≤ sz) (hz1 : sz ≤ 65535) (hb0 : 2400 ≤ by_) (hb1 : by_ ≤ 1073741824) (hp0 : 0 ≤ pk) (hp : pk ≤ 1073741824) (ha0 : 0 ≤ ak) (ha1 : ak ≤ 1048576) (hn : tm no) (hr : tm rt) (he0 : 0 ≤ ep) (he1 : ep ≤ 1125899906842624) (hs0 : 0 ≤ st) (hs1 : st ≤ pk) (hE0 : 0 ≤ es) (hE1 : es ≤ 1152921504606846976) :
    Calls Try.prog 23 #[.pointer (some ⟨g, 0, none⟩), .int .i64 ak, .int .i64 no, .int .i64 rt] w fun e w' => e = .returned (.tuple #[]) ∧ IsE 28 w' g kd sz (max (byN by_ (tgN pk by_ (curveN pk st sz ep no rt)) ak) (esN es sz ak by_)) sl rc pk ep st (esN es sz ak by_) ∧ Only w w' g := by
  have HN := Lib.hid hn
  have HT := Lib.hid hr
  clear hn hr
  have H0 := Lib.hid H
  have HO0 := Lib.hid (only_refl w g)
  obtain ⟨⟨c0, c1, c2, c3, c4, c5, c6, c7, c8⟩, f0, f1, f2, f3, f4, f5, f6, f7, f8⟩ := H.all
  clear H
  have hg0 := H0.out.lt
  obtain ⟨C, hC⟩ : ∃ C, curveN pk st sz ep no rt = C := ⟨_, rfl⟩
  rw [hC]
  have hcv := scale_in (cu := cuN pk st sz ep no rt) (sz := sz) (by unfold cuN; exact (cube_in (dN_in _ _).1 (dN_in _ _).2).2.2.1) (by unfold cuN; exact (cube_in (dN_in _ _).1 (dN_in _ _).2).2.2.2) (by omega) hz1
  have hC0 : -400000000000000 ≤ C := by rw [← hC]; exact hcv.2.2.2.2.2.2.2.1
  have hC1 : C ≤ 400000000000000 := by rw [← hC]; exact hcv.2.2.2.2.2.2.2.2
  have HC := Lib.hid hC
  clear hC hcv
  have t1 : IntKind.i64.wrap (pk + C) = pk + C := wr_in (by omega) (by omega)
  have t2 : IntKind.i64.wrap (3 * by_) = 3 * by_ := wr_in (by omega) (by omega)
  have t3 : IntKind.i64.wrap ((3 * by_).tdiv 2) = 3 * by_ / 2 := wr_div (by omega) (by omega) (by omega)
  have d0 : decide (ep < 0) = false := decide_eq_false (by omega)
  go_enter Try.func23, Try.ntmps23
  go_wp2_with fail
  go_region_held3 (fun w' => w'.cell? ⟨g, 2, none⟩ = some (.int .i64 by_) ∧ w'.cell? ⟨g, 5, none⟩ = some (.int .i64 pk)) (first | exact ⟨c2, c5⟩ | exact q2)
    ((go_at_call 26; refine (curve_is g kd sz by_ sl rc pk ep st es no rt _ (by first | exact H0.out | exact IsE.drew H0.out) hz0 hz1 hs0 hs1 hp HN.out HT.out (by omega) he1).mono ?_; rw [HC.out]; rintro e w2 ⟨rfl, hP2⟩; have hb2 : Below w.heap.size w w2 := (by first | exact hP2 | exact (Below.drew (Below.refl w.heap.size w)).trans hP2); have q2 : w2.cell? ⟨g, 2, none⟩ = some (.int .i64 by_) ∧ w2.cell? ⟨g, 5, none⟩ = some (.int .i64 pk) := ⟨(hb2.cell hg0).trans c2, (hb2.cell hg0).trans c5⟩))
  have H2 := Lib.hid (IsE.below H0.out hb2 hg0)
  have HO2 := Lib.hid (only_below2 HO0.out hb2)
  clear c0 c1 c2 c3 c4 c5 c6 c7 c8 f0 f1 f2 f3 f4 f5 f6 f7 f8 q2 hP2 hb2 hg0 t1 t2 t3 H0 HO0
  try clear hHeld
  have htg : by_ ≤ tgN pk by_ C ∧ tgN pk by_ C ≤ 3 * by_ / 2 := tg_in hb0
  obtain ⟨tg, hT⟩ : ∃ tg, tgN pk by_ C = tg := ⟨_, rfl⟩
  rw [hT] at htg
  obtain ⟨htg0, htg1⟩ := htg
  rw [show min (max (pk + C) by_) (3 * by_ / 2) = tg from hT]
  have HG := Lib.hid hT
  clear hT
  obtain ⟨e1, e2, e3, e4, e5, e6, e7⟩ := est_in hz0 hz1 ha0 ha1 hb0 hb1 hE0 hE1
  obtain ⟨⟨c0, c1, c2, c3, c4, c5, c6, c7, c8⟩, f0, f1, f2, f3, f4, f5, f6, f7, f8⟩ := H2.out.all
  go_wp2_with fail
  go_still_tail 19, (by kernel_rfl)
  change wpList _ _ _ _ _ w2.drew
  clear e1 e2 e3 e4 e5 e6
  have H3 := Lib.hid (IsE.drew H2.out)
  have HO3 := Lib.hid (only_drew HO2.out)
  clear c0 c1 c2 c3 c4 c5 c6 c7 c8 f0 f1 f2 f3 f4 f5 f6 f7 f8
  generalize w2.drew = w3 at *
  obtain ⟨⟨c0, c1, c2, c3, c4, c5, c6, c7, c8⟩, f0, f1, f2, f3, f4, f5, f6, f7, f8⟩ := H3.out.all
  obtain ⟨E, hE⟩ : ∃ E, esN es sz ak by_ = E := ⟨_, rfl⟩
  rw [hE] at e7 ⊢
  have HE := Lib.hid hE
  clear hE
  go_wp2_with fail
  have H4 := Lib.hid (H3.out.set8 E)
  have HO4 := Lib.hid (only_set HO3.out 8 (.int .i64 E))
  clear c0 c1 c2 c3 c4 c5 c6 c7 c8 f0 f1 f2 f3 f4 f5 f6 f7 f8
  generalize w3.setCell ⟨g, 8, none⟩ (.int .i64 E) = w4 at *
  obtain ⟨⟨c0, c1, c2, c3, c4, c5, c6, c7, c8⟩, f0, f1, f2, f3, f4, f5, f6, f7, f8⟩ := H4.out.all
  obtain ⟨e1, e2, e3, e4, e5, e6⟩ := step_in hb0 hb1 htg0 htg1 ha0 ha1
  have dn : ¬ by_ = 0 := by omega
  go_still_tail 19, (by kernel_rfl)
  change wpList _ _ _ _ _ w4.drew
  clear e1 e2 e3 e4
  have H5 := Lib.hid (IsE.drew H4.out)
  have HO5 := Lib.hid (only_drew HO4.out)
  clear c0 c1 c2 c3 c4 c5 c6 c7 c8 f0 f1 f2 f3 f4 f5 f6 f7 f8
  generalize w4.drew = w5 at *
  obtain ⟨⟨c0, c1, c2, c3, c4, c5, c6, c7, c8⟩, f0, f1, f2, f3, f4, f5, f6, f7, f8⟩ := H5.out.all
  obtain ⟨Y, hY⟩ : ∃ Y, byN by_ tg ak = Y := ⟨_, rfl⟩
  rw [hY] at e5 e6 ⊢
  have HY := Lib.hid hY
  clear hY
  go_wp2_with fail
  have H6 := Lib.hid (H5.out.set2 Y)
  have HO6 := Lib.hid (only_set HO5.out 2 (.int .i64 Y))
  clear c0 c1 c2 c3 c4 c5 c6 c7 c8 f0 f1 f2 f3 f4 f5 f6 f7 f8
  generalize w5.setCell ⟨g, 2, none⟩ (.int .i64 Y) = w6 at *
  obtain ⟨⟨c0, c1, c2, c3, c4, c5, c6, c7, c8⟩, f0, f1, f2, f3, f4, f5, f6, f7, f8⟩ := H6.out.all
  go_still_tail 11, (by kernel_rfl)
  change wpList _ _ _ _ _ w6.drew
  have H7 := Lib.hid (IsE.drew H6.out)
  have HO7 := Lib.hid (only_drew HO6.out)
  clear c0 c1 c2 c3 c4 c5 c6 c7 c8 f0 f1 f2 f3 f4 f5 f6 f7 f8
  generalize w6.drew = w7 at *
  obtain ⟨⟨c0, c1, c2, c3, c4, c5, c6, c7, c8⟩, f0, f1, f2, f3, f4, f5, f6, f7, f8⟩ := H7.out.all
  go_wp2
  go_end0
  rw [HG.out, HE.out, HY.out]
  exact ⟨rfl, H7.out.set2 (max Y E), only_set HO7.out 2 _⟩
end Go.Proofs.Ytodeaibmojpmpaa

/- The first growth of a cubic behind a loss, the program's. -/
import Derived.Test.YtodeaibmojpmpaaCurve
namespace Go.Proofs.Ytodeaibmojpmpaa
open Go.RowKit
attribute [local go_sem] max2_is min2_is max_of_two min_of_two
attribute [local go_sem ↓] Go.wp_at_zero Go.wp_at_succ

set_option maxHeartbeats 4000000 in
theorem grow_off (g : Nat) (kd sz by_ sl rc pk ep st es ak no rt : Int) (w : World) (H : IsE 28 w g kd sz by_ sl rc pk ep st es) (hz0 : 1200 ≤ sz) (hz1 : sz ≤ 65535) (hb0 : 2400 ≤ by_) (hb1 : by_ ≤ 1073741824) (hp0 : 0 ≤ pk) (hp : pk ≤ 1073741824) (ha0 : 0 ≤ ak) (ha1 : ak ≤ 1048576) (hn : tm no) (hr : tm rt) (he : ep < 0) :
    Calls Try.prog 23 #[.pointer (some ⟨g, 0, none⟩), .int .i64 ak, .int .i64 no, .int .i64 rt] w fun e w' => e = .returned (.tuple #[]) ∧ IsE 28 w' g kd sz (max (byN by_ (tgN (max pk by_) by_ (curveN (max pk by_) by_ sz no no rt)) ak) (esN by_ sz ak by_)) sl rc (max pk by_) no by_ (esN by_ sz ak by_) ∧ Only w w' g := by
  have HN := Lib.hid hn
  have HT := Lib.hid hr
  have hn0 := hn.1
  have he1 := hn.2
  clear hn hr
  have H0 := Lib.hid H
  have HO0 := Lib.hid (only_refl w g)
  obtain ⟨⟨c0, c1, c2, c3, c4, c5, c6, c7, c8⟩, f0, f1, f2, f3, f4, f5, f6, f7, f8⟩ := H.all
  clear H
  have d0 : decide (ep < 0) = true := decide_eq_true he
  obtain ⟨P, hP⟩ : ∃ P, max pk by_ = P := ⟨_, rfl⟩
  rw [hP]
  have hs0 : 0 ≤ by_ := by omega
  have hs1 : by_ ≤ P := by omega
  have hp' : P ≤ 1073741824 := by omega
  have hE0 : 0 ≤ by_ := by omega
  have hE1 : by_ ≤ 1152921504606846976 := by omega
  have HP := Lib.hid hP
  clear hP
  obtain ⟨C, hC⟩ : ∃ C, curveN P by_ sz no no rt = C := ⟨_, rfl⟩
  rw [hC]
  have hcv := scale_in (cu := cuN P by_ sz no no rt) (sz := sz) (by unfold cuN; exact (cube_in (dN_in _ _).1 (dN_in _ _).2).2.2.1) (by unfold cuN; exact (cube_in (dN_in _ _).1 (dN_in _ _).2).2.2.2) (by omega) hz1
  have hC0 : -400000000000000 ≤ C := by rw [← hC]; exact hcv.2.2.2.2.2.2.2.1
  have hC1 : C ≤ 400000000000000 := by rw [← hC]; exact hcv.2.2.2.2.2.2.2.2
  have HC := Lib.hid hC
  clear hC hcv
  go_enter Try.func23, Try.ntmps23
  go_wp2_with fail
  go_region
  have H2 := Lib.hid (IsE.drew (((H0.out.set6 no).set7 by_).set8 by_))
  have HO2 := Lib.hid (only_drew (only_set (only_set (only_set HO0.out 6 (.int .i64 no)) 7 (.int .i64 by_)) 8 (.int .i64 by_)))
  clear c0 c1 c2 c3 c4 c5 c6 c7 c8 f0 f1 f2 f3 f4 f5 f6 f7 f8
  generalize (((w.setCell ⟨g, 6, none⟩ (.int .i64 no)).setCell ⟨g, 7, none⟩ (.int .i64 by_)).setCell ⟨g, 8, none⟩ (.int .i64 by_)).drew = w2 at *
  obtain ⟨⟨c0, c1, c2, c3, c4, c5, c6, c7, c8⟩, f0, f1, f2, f3, f4, f5, f6, f7, f8⟩ := H2.out.all
  go_wp2_with fail
  go_still_tail 11, (by kernel_rfl)
  change wpList _ _ _ _ _ w2.drew
  have H3 := Lib.hid (IsE.drew H2.out)
  have HO3 := Lib.hid (only_drew HO2.out)
  clear c0 c1 c2 c3 c4 c5 c6 c7 c8 f0 f1 f2 f3 f4 f5 f6 f7 f8
  generalize w2.drew = w3 at *
  obtain ⟨⟨c0, c1, c2, c3, c4, c5, c6, c7, c8⟩, f0, f1, f2, f3, f4, f5, f6, f7, f8⟩ := H3.out.all
  rw [HP.out]
  go_wp2_with fail
  have H4 := Lib.hid (H3.out.set5 P)
  have HO4 := Lib.hid (only_set HO3.out 5 (.int .i64 P))
  clear c0 c1 c2 c3 c4 c5 c6 c7 c8 f0 f1 f2 f3 f4 f5 f6 f7 f8
  generalize w3.setCell ⟨g, 5, none⟩ (.int .i64 P) = w4 at *
  obtain ⟨⟨c0, c1, c2, c3, c4, c5, c6, c7, c8⟩, f0, f1, f2, f3, f4, f5, f6, f7, f8⟩ := H4.out.all
  have hg4 := H4.out.lt
  have t1 : IntKind.i64.wrap (P + C) = P + C := wr_in (by omega) (by omega)
  have t2 : IntKind.i64.wrap (3 * by_) = 3 * by_ := wr_in (by omega) (by omega)
  have t3 : IntKind.i64.wrap ((3 * by_).tdiv 2) = 3 * by_ / 2 := wr_div (by omega) (by omega) (by omega)
  clear d0
  go_region_held3 (fun w' => w'.cell? ⟨g, 2, none⟩ = some (.int .i64 by_) ∧ w'.cell? ⟨g, 5, none⟩ = some (.int .i64 P)) (first | exact ⟨c2, c5⟩ | exact q2)
    ((go_at_call 26; refine (curve_is g kd sz by_ sl rc P no by_ by_ no rt _ (by first | exact H4.out | exact IsE.drew H4.out) hz0 hz1 hs0 hs1 hp' HN.out HT.out (by omega) he1).mono ?_; rw [HC.out]; rintro e w6 ⟨rfl, hP2⟩; have hb2 : Below w4.heap.size w4 w6 := (by first | exact hP2 | exact (Below.drew (Below.refl w4.heap.size w4)).trans hP2); have q2 : w6.cell? ⟨g, 2, none⟩ = some (.int .i64 by_) ∧ w6.cell? ⟨g, 5, none⟩ = some (.int .i64 P) := ⟨(hb2.cell hg4).trans c2, (hb2.cell hg4).trans c5⟩))
  have H6 := Lib.hid (IsE.below H4.out hb2 hg4)
  have HO6 := Lib.hid (only_below2 HO4.out hb2)
  clear c0 c1 c2 c3 c4 c5 c6 c7 c8 f0 f1 f2 f3 f4 f5 f6 f7 f8 q2 hP2 hb2 hg4 t1 t2 t3 H4 HO4
  have htg : by_ ≤ tgN P by_ C ∧ tgN P by_ C ≤ 3 * by_ / 2 := tg_in hb0
  obtain ⟨tg, hT⟩ : ∃ tg, tgN P by_ C = tg := ⟨_, rfl⟩
  rw [hT] at htg
  obtain ⟨htg0, htg1⟩ := htg
  rw [show min (max (P + C) by_) (3 * by_ / 2) = tg from hT]
  have HG := Lib.hid hT
  clear hT
  obtain ⟨e1, e2, e3, e4, e5, e6, e7⟩ := est_in hz0 hz1 ha0 ha1 hb0 hb1 hE0 hE1
  obtain ⟨⟨c0, c1, c2, c3, c4, c5, c6, c7, c8⟩, f0, f1, f2, f3, f4, f5, f6, f7, f8⟩ := H6.out.all
  go_wp2_with fail
  go_still_tail 19, (by kernel_rfl)
  change wpList _ _ _ _ _ w6.drew
  clear e1 e2 e3 e4 e5 e6
  have H7 := Lib.hid (IsE.drew H6.out)
  have HO7 := Lib.hid (only_drew HO6.out)
  clear c0 c1 c2 c3 c4 c5 c6 c7 c8 f0 f1 f2 f3 f4 f5 f6 f7 f8
  generalize w6.drew = w7 at *
  obtain ⟨⟨c0, c1, c2, c3, c4, c5, c6, c7, c8⟩, f0, f1, f2, f3, f4, f5, f6, f7, f8⟩ := H7.out.all
  obtain ⟨E, hE⟩ : ∃ E, esN by_ sz ak by_ = E := ⟨_, rfl⟩
  rw [hE] at e7 ⊢
  have HE := Lib.hid hE
  clear hE
  go_wp2_with fail
  have H8 := Lib.hid (H7.out.set8 E)
  have HO8 := Lib.hid (only_set HO7.out 8 (.int .i64 E))
  clear c0 c1 c2 c3 c4 c5 c6 c7 c8 f0 f1 f2 f3 f4 f5 f6 f7 f8
  generalize w7.setCell ⟨g, 8, none⟩ (.int .i64 E) = w8 at *
  obtain ⟨⟨c0, c1, c2, c3, c4, c5, c6, c7, c8⟩, f0, f1, f2, f3, f4, f5, f6, f7, f8⟩ := H8.out.all
  obtain ⟨e1, e2, e3, e4, e5, e6⟩ := step_in hb0 hb1 htg0 htg1 ha0 ha1
  have dn : ¬ by_ = 0 := by omega
  go_still_tail 19, (by kernel_rfl)
  change wpList _ _ _ _ _ w8.drew
  clear e1 e2 e3 e4
  have H9 := Lib.hid (IsE.drew H8.out)
  have HO9 := Lib.hid (only_drew HO8.out)
  clear c0 c1 c2 c3 c4 c5 c6 c7 c8 f0 f1 f2 f3 f4 f5 f6 f7 f8
  generalize w8.drew = w9 at *
  obtain ⟨⟨c0, c1, c2, c3, c4, c5, c6, c7, c8⟩, f0, f1, f2, f3, f4, f5, f6, f7, f8⟩ := H9.out.all
  obtain ⟨Y, hY⟩ : ∃ Y, byN by_ tg ak = Y := ⟨_, rfl⟩
  rw [hY] at e5 e6 ⊢
  have HY := Lib.hid hY
  clear hY
  go_wp2_with fail
  have H10 := Lib.hid (H9.out.set2 Y)
  have HO10 := Lib.hid (only_set HO9.out 2 (.int .i64 Y))
  clear c0 c1 c2 c3 c4 c5 c6 c7 c8 f0 f1 f2 f3 f4 f5 f6 f7 f8
  generalize w9.setCell ⟨g, 2, none⟩ (.int .i64 Y) = w10 at *
  obtain ⟨⟨c0, c1, c2, c3, c4, c5, c6, c7, c8⟩, f0, f1, f2, f3, f4, f5, f6, f7, f8⟩ := H10.out.all
  go_still_tail 11, (by kernel_rfl)
  change wpList _ _ _ _ _ w10.drew
  have H11 := Lib.hid (IsE.drew H10.out)
  have HO11 := Lib.hid (only_drew HO10.out)
  clear c0 c1 c2 c3 c4 c5 c6 c7 c8 f0 f1 f2 f3 f4 f5 f6 f7 f8
  generalize w10.drew = w11 at *
  obtain ⟨⟨c0, c1, c2, c3, c4, c5, c6, c7, c8⟩, f0, f1, f2, f3, f4, f5, f6, f7, f8⟩ := H11.out.all
  go_wp2
  go_end0
  rw [HG.out, HE.out, HY.out]
  exact ⟨rfl, H11.out.set2 (max Y E), only_set HO11.out 2 _⟩
end Go.Proofs.Ytodeaibmojpmpaa

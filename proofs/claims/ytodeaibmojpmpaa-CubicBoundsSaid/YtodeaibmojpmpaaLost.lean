/- Lost, the program's. -/
import Derived.Test.YtodeaibmojpmpaaNew
namespace Go.Proofs.Ytodeaibmojpmpaa
open Go.RowKit
attribute [local go_sem] max2_is min2_is max_of_two min_of_two

set_option maxHeartbeats 4000000 in
theorem lost_bad (g : Nat) (kd sz by_ sl rc pk ep st es : Int) (se no : Int) (w : World) (H : IsE 28 w g kd sz by_ sl rc pk ep st es) (hz0 : 1200 ≤ sz) (_hz1 : sz ≤ 65535) (_hb0 : 0 ≤ by_) (_hb1 : by_ ≤ 1073741824) (ht : ¬ (tm se ∧ tm no)) :
    Calls Try.prog 13 #[.pointer (some ⟨g, 0, none⟩), .int .i64 se, .int .i64 no] w fun e w' => e = .returned (.int .i64 2) ∧ IsE 28 w' g kd sz by_ sl rc pk ep st es ∧ Only w w' g := by
  have HT := Lib.hid ht
  clear ht
  have H0 := Lib.hid H
  have H1 := Lib.hid (IsE.alloc H (.cells #[.int .i64 se, .int .i64 no] 3))
  have HO1 := Lib.hid (only_alloc (only_refl w g) (.cells #[.int .i64 se, .int .i64 no] 3))
  clear H
  go_enter Try.func13, Try.ntmps13
  go_wp2_with fail
  refine (none_no g kd sz by_ sl rc pk ep st es _ H0.out hz0).mono ?_
  rintro e w' ⟨rfl, rfl⟩
  go_wp2_with fail
  refine (times2 se no _).mono ?_
  rw [decide_eq_false HT.out]
  rintro e w' ⟨rfl, rfl⟩
  clear H0
  generalize w.alloc (.cells #[.int .i64 se, .int .i64 no] 3) = w1 at *
  go_wp2
  go_ret
  exact ⟨rfl, H1.out, HO1.out⟩

set_option maxHeartbeats 4000000 in
theorem lost_old (g : Nat) (kd sz by_ sl rc pk ep st es : Int) (se no : Int) (w : World) (H : IsE 28 w g kd sz by_ sl rc pk ep st es) (hz0 : 1200 ≤ sz) (_hz1 : sz ≤ 65535) (_hb0 : 0 ≤ by_) (_hb1 : by_ ≤ 1073741824) (ht : tm se ∧ tm no) (hr : se ≤ rc) :
    Calls Try.prog 13 #[.pointer (some ⟨g, 0, none⟩), .int .i64 se, .int .i64 no] w fun e w' => e = .returned (.int .i64 0) ∧ IsE 28 w' g kd sz by_ sl rc pk ep st es ∧ Only w w' g := by
  have HT := Lib.hid ht
  clear ht
  have H0 := Lib.hid H
  have H1 := Lib.hid (IsE.alloc H (.cells #[.int .i64 se, .int .i64 no] 3))
  have HO1 := Lib.hid (only_alloc (only_refl w g) (.cells #[.int .i64 se, .int .i64 no] 3))
  clear H
  go_enter Try.func13, Try.ntmps13
  go_wp2_with fail
  refine (none_no g kd sz by_ sl rc pk ep st es _ H0.out hz0).mono ?_
  rintro e w' ⟨rfl, rfl⟩
  go_wp2_with fail
  refine (times2 se no _).mono ?_
  rw [decide_eq_true HT.out]
  rintro e w' ⟨rfl, rfl⟩
  clear H0
  generalize w.alloc (.cells #[.int .i64 se, .int .i64 no] 3) = w1 at *
  obtain ⟨⟨c0, c1, c2, c3, c4, c5, c6, c7, c8⟩, f0, f1, f2, f3, f4, f5, f6, f7, f8⟩ := H1.out.all
  go_wp2
  go_ret
  exact ⟨rfl, H1.out, HO1.out⟩

set_option maxHeartbeats 4000000 in
theorem lost_reno (g : Nat) (kd sz by_ sl rc pk ep st es : Int) (se no : Int) (w : World) (H : IsE 28 w g kd sz by_ sl rc pk ep st es) (hz0 : 1200 ≤ sz) (hz1 : sz ≤ 65535) (hb0 : 0 ≤ by_) (hb1 : by_ ≤ 1073741824) (ht : tm se ∧ tm no) (hr : rc < se) (hk : kd = 0) :
    Calls Try.prog 13 #[.pointer (some ⟨g, 0, none⟩), .int .i64 se, .int .i64 no] w fun e w' => e = .returned (.int .i64 0) ∧ IsE 28 w' g kd sz (max (by_ / 2) (2 * sz)) (max (by_ / 2) (2 * sz)) no pk ep st es ∧ Only w w' g := by
  have HT := Lib.hid ht
  clear ht
  subst hk
  have H0 := Lib.hid H
  have H1 := Lib.hid (IsE.alloc H (.cells #[.int .i64 se, .int .i64 no] 3))
  have HO1 := Lib.hid (only_alloc (only_refl w g) (.cells #[.int .i64 se, .int .i64 no] 3))
  clear H
  go_enter Try.func13, Try.ntmps13
  go_wp2_with fail
  refine (none_no g 0 sz by_ sl rc pk ep st es _ H0.out hz0).mono ?_
  rintro e w' ⟨rfl, rfl⟩
  go_wp2_with fail
  refine (times2 se no _).mono ?_
  rw [decide_eq_true HT.out]
  rintro e w' ⟨rfl, rfl⟩
  clear H0
  generalize w.alloc (.cells #[.int .i64 se, .int .i64 no] 3) = w1 at *
  obtain ⟨⟨c0, c1, c2, c3, c4, c5, c6, c7, c8⟩, f0, f1, f2, f3, f4, f5, f6, f7, f8⟩ := H1.out.all
  go_wp2_with fail
  have H2 := Lib.hid ((H1.out.set4 no).set2 (by_ / 2))
  have HO2 := Lib.hid (only_set (only_set HO1.out 4 (.int .i64 no)) 2 (.int .i64 (by_ / 2)))
  clear c0 c1 c2 c3 c4 c5 c6 c7 c8 f0 f1 f2 f3 f4 f5 f6 f7 f8
  generalize (w1.setCell ⟨g, 4, none⟩ (.int .i64 no)).setCell ⟨g, 2, none⟩ (.int .i64 (by_ / 2)) = w2 at *
  obtain ⟨⟨c0, c1, c2, c3, c4, c5, c6, c7, c8⟩, f0, f1, f2, f3, f4, f5, f6, f7, f8⟩ := H2.out.all
  have s9 : IntKind.i64.wrap (2 * sz) = 2 * sz := wr_in (by omega) (by omega)
  go_still_tail 12, (by kernel_rfl)
  change wpList _ _ _ _ _ w2.drew
  clear s9
  have H3 := Lib.hid (IsE.drew H2.out)
  have HO3 := Lib.hid (only_drew HO2.out)
  clear c0 c1 c2 c3 c4 c5 c6 c7 c8 f0 f1 f2 f3 f4 f5 f6 f7 f8
  generalize w2.drew = w3 at *
  obtain ⟨⟨c0, c1, c2, c3, c4, c5, c6, c7, c8⟩, f0, f1, f2, f3, f4, f5, f6, f7, f8⟩ := H3.out.all
  go_wp2
  go_ret
  exact ⟨rfl, (H3.out.set2 (max (by_ / 2) (2 * sz))).set3 (max (by_ / 2) (2 * sz)), only_set (only_set HO3.out 2 _) 3 _⟩

set_option maxHeartbeats 4000000 in
theorem lost_low (g : Nat) (kd sz by_ sl rc pk ep st es : Int) (se no : Int) (w : World) (H : IsE 28 w g kd sz by_ sl rc pk ep st es) (hz0 : 1200 ≤ sz) (hz1 : sz ≤ 65535) (hb0 : 0 ≤ by_) (hb1 : by_ ≤ 1073741824) (ht : tm se ∧ tm no) (hr : rc < se) (hk : kd ≠ 0) (hp : by_ < pk) :
    Calls Try.prog 13 #[.pointer (some ⟨g, 0, none⟩), .int .i64 se, .int .i64 no] w fun e w' => e = .returned (.int .i64 0) ∧ IsE 28 w' g kd sz (max (7 * by_ / 10) (2 * sz)) (max (7 * by_ / 10) (2 * sz)) no (17 * by_ / 20) (-1) st es ∧ Only w w' g := by
  have HT := Lib.hid ht
  clear ht
  have dk : (kd == 0) = false := by simpa using hk
  clear hk
  have dp : decide (by_ < pk) = true := decide_eq_true (by omega)
  have H0 := Lib.hid H
  have H1 := Lib.hid (IsE.alloc H (.cells #[.int .i64 se, .int .i64 no] 3))
  have HO1 := Lib.hid (only_alloc (only_refl w g) (.cells #[.int .i64 se, .int .i64 no] 3))
  clear H
  go_enter Try.func13, Try.ntmps13
  go_wp2_with fail
  refine (none_no g kd sz by_ sl rc pk ep st es _ H0.out hz0).mono ?_
  rintro e w' ⟨rfl, rfl⟩
  go_wp2_with fail
  refine (times2 se no _).mono ?_
  rw [decide_eq_true HT.out]
  rintro e w' ⟨rfl, rfl⟩
  clear H0
  generalize w.alloc (.cells #[.int .i64 se, .int .i64 no] 3) = w1 at *
  obtain ⟨⟨c0, c1, c2, c3, c4, c5, c6, c7, c8⟩, f0, f1, f2, f3, f4, f5, f6, f7, f8⟩ := H1.out.all
  go_wp2_with fail
  have H2 := Lib.hid (H1.out.set4 no)
  have HO2 := Lib.hid (only_set HO1.out 4 (.int .i64 no))
  clear c0 c1 c2 c3 c4 c5 c6 c7 c8 f0 f1 f2 f3 f4 f5 f6 f7 f8
  generalize w1.setCell ⟨g, 4, none⟩ (.int .i64 no) = w2 at *
  obtain ⟨⟨c0, c1, c2, c3, c4, c5, c6, c7, c8⟩, f0, f1, f2, f3, f4, f5, f6, f7, f8⟩ := H2.out.all
  go_quiet (fail)
  have H3 := Lib.hid (IsE.drewN H2.out nq)
  have HO3 := Lib.hid (only_drewN HO2.out nq)
  clear c0 c1 c2 c3 c4 c5 c6 c7 c8 f0 f1 f2 f3 f4 f5 f6 f7 f8
  generalize w2.drewN nq = w3 at *
  obtain ⟨⟨c0, c1, c2, c3, c4, c5, c6, c7, c8⟩, f0, f1, f2, f3, f4, f5, f6, f7, f8⟩ := H3.out.all
  go_wp2_with fail
  have H4 := Lib.hid (((H3.out.set5 (17 * by_ / 20)).set2 (7 * by_ / 10)).set6 (-1))
  have HO4 := Lib.hid (only_set (only_set (only_set HO3.out 5 (.int .i64 (17 * by_ / 20))) 2 (.int .i64 (7 * by_ / 10))) 6 (.int .i64 (-1)))
  clear c0 c1 c2 c3 c4 c5 c6 c7 c8 f0 f1 f2 f3 f4 f5 f6 f7 f8
  generalize ((w3.setCell ⟨g, 5, none⟩ (.int .i64 (17 * by_ / 20))).setCell ⟨g, 2, none⟩ (.int .i64 (7 * by_ / 10))).setCell ⟨g, 6, none⟩ (.int .i64 (-1)) = w4 at *
  obtain ⟨⟨c0, c1, c2, c3, c4, c5, c6, c7, c8⟩, f0, f1, f2, f3, f4, f5, f6, f7, f8⟩ := H4.out.all
  have s9 : IntKind.i64.wrap (2 * sz) = 2 * sz := wr_in (by omega) (by omega)
  go_still_tail 12, (by kernel_rfl)
  change wpList _ _ _ _ _ w4.drew
  clear s9
  have H5 := Lib.hid (IsE.drew H4.out)
  have HO5 := Lib.hid (only_drew HO4.out)
  clear c0 c1 c2 c3 c4 c5 c6 c7 c8 f0 f1 f2 f3 f4 f5 f6 f7 f8
  generalize w4.drew = w5 at *
  obtain ⟨⟨c0, c1, c2, c3, c4, c5, c6, c7, c8⟩, f0, f1, f2, f3, f4, f5, f6, f7, f8⟩ := H5.out.all
  go_wp2
  go_ret
  exact ⟨rfl, (H5.out.set2 (max (7 * by_ / 10) (2 * sz))).set3 (max (7 * by_ / 10) (2 * sz)), only_set (only_set HO5.out 2 _) 3 _⟩

set_option maxHeartbeats 4000000 in
theorem lost_high (g : Nat) (kd sz by_ sl rc pk ep st es : Int) (se no : Int) (w : World) (H : IsE 28 w g kd sz by_ sl rc pk ep st es) (hz0 : 1200 ≤ sz) (hz1 : sz ≤ 65535) (hb0 : 0 ≤ by_) (hb1 : by_ ≤ 1073741824) (ht : tm se ∧ tm no) (hr : rc < se) (hk : kd ≠ 0) (hp : pk ≤ by_) :
    Calls Try.prog 13 #[.pointer (some ⟨g, 0, none⟩), .int .i64 se, .int .i64 no] w fun e w' => e = .returned (.int .i64 0) ∧ IsE 28 w' g kd sz (max (7 * by_ / 10) (2 * sz)) (max (7 * by_ / 10) (2 * sz)) no by_ (-1) st es ∧ Only w w' g := by
  have HT := Lib.hid ht
  clear ht
  have dk : (kd == 0) = false := by simpa using hk
  clear hk
  have dp : decide (by_ < pk) = false := decide_eq_false (by omega)
  have H0 := Lib.hid H
  have H1 := Lib.hid (IsE.alloc H (.cells #[.int .i64 se, .int .i64 no] 3))
  have HO1 := Lib.hid (only_alloc (only_refl w g) (.cells #[.int .i64 se, .int .i64 no] 3))
  clear H
  go_enter Try.func13, Try.ntmps13
  go_wp2_with fail
  refine (none_no g kd sz by_ sl rc pk ep st es _ H0.out hz0).mono ?_
  rintro e w' ⟨rfl, rfl⟩
  go_wp2_with fail
  refine (times2 se no _).mono ?_
  rw [decide_eq_true HT.out]
  rintro e w' ⟨rfl, rfl⟩
  clear H0
  generalize w.alloc (.cells #[.int .i64 se, .int .i64 no] 3) = w1 at *
  obtain ⟨⟨c0, c1, c2, c3, c4, c5, c6, c7, c8⟩, f0, f1, f2, f3, f4, f5, f6, f7, f8⟩ := H1.out.all
  go_wp2_with fail
  have H2 := Lib.hid (H1.out.set4 no)
  have HO2 := Lib.hid (only_set HO1.out 4 (.int .i64 no))
  clear c0 c1 c2 c3 c4 c5 c6 c7 c8 f0 f1 f2 f3 f4 f5 f6 f7 f8
  generalize w1.setCell ⟨g, 4, none⟩ (.int .i64 no) = w2 at *
  obtain ⟨⟨c0, c1, c2, c3, c4, c5, c6, c7, c8⟩, f0, f1, f2, f3, f4, f5, f6, f7, f8⟩ := H2.out.all
  go_quiet (fail)
  have H3 := Lib.hid (IsE.drewN H2.out nq)
  have HO3 := Lib.hid (only_drewN HO2.out nq)
  clear c0 c1 c2 c3 c4 c5 c6 c7 c8 f0 f1 f2 f3 f4 f5 f6 f7 f8
  generalize w2.drewN nq = w3 at *
  obtain ⟨⟨c0, c1, c2, c3, c4, c5, c6, c7, c8⟩, f0, f1, f2, f3, f4, f5, f6, f7, f8⟩ := H3.out.all
  go_wp2_with fail
  have H4 := Lib.hid (((H3.out.set5 by_).set2 (7 * by_ / 10)).set6 (-1))
  have HO4 := Lib.hid (only_set (only_set (only_set HO3.out 5 (.int .i64 by_)) 2 (.int .i64 (7 * by_ / 10))) 6 (.int .i64 (-1)))
  clear c0 c1 c2 c3 c4 c5 c6 c7 c8 f0 f1 f2 f3 f4 f5 f6 f7 f8
  generalize ((w3.setCell ⟨g, 5, none⟩ (.int .i64 by_)).setCell ⟨g, 2, none⟩ (.int .i64 (7 * by_ / 10))).setCell ⟨g, 6, none⟩ (.int .i64 (-1)) = w4 at *
  obtain ⟨⟨c0, c1, c2, c3, c4, c5, c6, c7, c8⟩, f0, f1, f2, f3, f4, f5, f6, f7, f8⟩ := H4.out.all
  have s9 : IntKind.i64.wrap (2 * sz) = 2 * sz := wr_in (by omega) (by omega)
  go_still_tail 12, (by kernel_rfl)
  change wpList _ _ _ _ _ w4.drew
  clear s9
  have H5 := Lib.hid (IsE.drew H4.out)
  have HO5 := Lib.hid (only_drew HO4.out)
  clear c0 c1 c2 c3 c4 c5 c6 c7 c8 f0 f1 f2 f3 f4 f5 f6 f7 f8
  generalize w4.drew = w5 at *
  obtain ⟨⟨c0, c1, c2, c3, c4, c5, c6, c7, c8⟩, f0, f1, f2, f3, f4, f5, f6, f7, f8⟩ := H5.out.all
  go_wp2
  go_ret
  exact ⟨rfl, (H5.out.set2 (max (7 * by_ / 10) (2 * sz))).set3 (max (7 * by_ / 10) (2 * sz)), only_set (only_set HO5.out 2 _) 3 _⟩
end Go.Proofs.Ytodeaibmojpmpaa

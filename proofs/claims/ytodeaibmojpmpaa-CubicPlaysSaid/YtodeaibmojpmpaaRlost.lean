/- Lost, the reference's. -/
import Derived.Test.YtodeaibmojpmpaaNew
namespace Go.Proofs.Ytodeaibmojpmpaa
open Go.RowKit
attribute [local go_sem] max2_is min2_is max_of_two min_of_two

set_option maxHeartbeats 4000000 in
theorem rlost_bad (g : Nat) (kd sz by_ sl rc pk ep st es : Int) (se no : Int) (w : World) (H : IsE 46 w g kd sz by_ sl rc pk ep st es) (_hz0 : 1200 ≤ sz) (_hz1 : sz ≤ 65535) (_hb0 : 0 ≤ by_) (_hb1 : by_ ≤ 1073741824) (ht : ¬ (tm se ∧ tm no)) :
    Calls Try.prog 18 #[.pointer (some ⟨g, 0, none⟩), .int .i64 se, .int .i64 no] w fun e w' => e = .returned (.int .i64 2) ∧ IsE 46 w' g kd sz by_ sl rc pk ep st es ∧ Only w w' g := by
  have HT := Lib.hid ht
  clear ht
  by_cases ha : tm se
  · have hb : ¬ tm no := fun hb => HT.out ⟨ha, hb⟩
    have HA := Lib.hid ha
    have HB := Lib.hid hb
    clear ha hb
    have H1 := Lib.hid H
    have HO1 := Lib.hid (only_refl w g)
    clear H
    go_enter Try.func18, Try.ntmps18
    go_wp2_with fail
    refine (rtime_is se _).mono ?_
    rw [decide_eq_true HA.out]
    rintro e w' ⟨rfl, rfl⟩
    go_wp2_with fail
    refine (rtime_is no _).mono ?_
    rw [decide_eq_false HB.out]
    rintro e w' ⟨rfl, rfl⟩
    go_wp2
    go_ret
    exact ⟨rfl, H1.out, HO1.out⟩
  · have HA := Lib.hid ha
    clear ha
    have H1 := Lib.hid H
    have HO1 := Lib.hid (only_refl w g)
    clear H
    go_enter Try.func18, Try.ntmps18
    go_wp2_with fail
    refine (rtime_is se _).mono ?_
    rw [decide_eq_false HA.out]
    rintro e w' ⟨rfl, rfl⟩
    go_wp2
    go_ret
    exact ⟨rfl, H1.out, HO1.out⟩

set_option maxHeartbeats 4000000 in
theorem rlost_old (g : Nat) (kd sz by_ sl rc pk ep st es : Int) (se no : Int) (w : World) (H : IsE 46 w g kd sz by_ sl rc pk ep st es) (_hz0 : 1200 ≤ sz) (_hz1 : sz ≤ 65535) (_hb0 : 0 ≤ by_) (_hb1 : by_ ≤ 1073741824) (ht : tm se ∧ tm no) (hr : se ≤ rc) :
    Calls Try.prog 18 #[.pointer (some ⟨g, 0, none⟩), .int .i64 se, .int .i64 no] w fun e w' => e = .returned (.int .i64 0) ∧ IsE 46 w' g kd sz by_ sl rc pk ep st es ∧ Only w w' g := by
  have HT := Lib.hid ht
  clear ht
  have H1 := Lib.hid H
  have HO1 := Lib.hid (only_refl w g)
  clear H
  go_enter Try.func18, Try.ntmps18
  go_wp2_with fail
  refine (rtime_is se _).mono ?_
  rw [decide_eq_true HT.out.1]
  rintro e w' ⟨rfl, rfl⟩
  go_wp2_with fail
  refine (rtime_is no _).mono ?_
  rw [decide_eq_true HT.out.2]
  rintro e w' ⟨rfl, rfl⟩
  obtain ⟨⟨c0, c1, c2, c3, c4, c5, c6, c7, c8⟩, f0, f1, f2, f3, f4, f5, f6, f7, f8⟩ := H1.out.all
  go_wp2
  go_ret
  exact ⟨rfl, H1.out, HO1.out⟩

set_option maxHeartbeats 4000000 in
theorem rlost_reno (g : Nat) (kd sz by_ sl rc pk ep st es : Int) (se no : Int) (w : World) (H : IsE 46 w g kd sz by_ sl rc pk ep st es) (hz0 : 1200 ≤ sz) (hz1 : sz ≤ 65535) (hb0 : 0 ≤ by_) (hb1 : by_ ≤ 1073741824) (ht : tm se ∧ tm no) (hr : rc < se) (hk : kd = 0) :
    Calls Try.prog 18 #[.pointer (some ⟨g, 0, none⟩), .int .i64 se, .int .i64 no] w fun e w' => e = .returned (.int .i64 0) ∧ IsE 46 w' g kd sz (max (by_ / 2) (2 * sz)) (max (by_ / 2) (2 * sz)) no pk ep st es ∧ Only w w' g := by
  have HT := Lib.hid ht
  clear ht
  subst hk
  have H1 := Lib.hid H
  have HO1 := Lib.hid (only_refl w g)
  clear H
  go_enter Try.func18, Try.ntmps18
  go_wp2_with fail
  refine (rtime_is se _).mono ?_
  rw [decide_eq_true HT.out.1]
  rintro e w' ⟨rfl, rfl⟩
  go_wp2_with fail
  refine (rtime_is no _).mono ?_
  rw [decide_eq_true HT.out.2]
  rintro e w' ⟨rfl, rfl⟩
  obtain ⟨⟨c0, c1, c2, c3, c4, c5, c6, c7, c8⟩, f0, f1, f2, f3, f4, f5, f6, f7, f8⟩ := H1.out.all
  go_wp2_with fail
  have H2 := Lib.hid ((H1.out.set4 no).set2 (by_ / 2))
  have HO2 := Lib.hid (only_set (only_set HO1.out 4 (.int .i64 no)) 2 (.int .i64 (by_ / 2)))
  clear c0 c1 c2 c3 c4 c5 c6 c7 c8 f0 f1 f2 f3 f4 f5 f6 f7 f8
  generalize (w.setCell ⟨g, 4, none⟩ (.int .i64 no)).setCell ⟨g, 2, none⟩ (.int .i64 (by_ / 2)) = w2 at *
  obtain ⟨⟨c0, c1, c2, c3, c4, c5, c6, c7, c8⟩, f0, f1, f2, f3, f4, f5, f6, f7, f8⟩ := H2.out.all
  rcases (show by_ / 2 < 2 * sz ∨ 2 * sz ≤ by_ / 2 by omega) with hm | hm
  · have s9 : IntKind.i64.wrap (2 * sz) = 2 * sz := wr_in (by omega) (by omega)
    have d9 : decide (by_ / 2 < 2 * sz) = true := decide_eq_true (by omega)
    have HM := Lib.hid (show max (by_ / 2) (2 * sz) = 2 * sz by omega)
    clear hm
    go_quiet (fail)
    clear s9
    go_wp2
    go_ret
    rw [HM.out]
    exact ⟨rfl, ((H2.out.drewN _).set2 (2 * sz)).set3 (2 * sz), only_set (only_set (only_drewN HO2.out _) 2 _) 3 _⟩
  · have s9 : IntKind.i64.wrap (2 * sz) = 2 * sz := wr_in (by omega) (by omega)
    have d9 : decide (by_ / 2 < 2 * sz) = false := decide_eq_false (by omega)
    have HM := Lib.hid (show max (by_ / 2) (2 * sz) = by_ / 2 by omega)
    clear hm
    go_quiet (fail)
    clear s9
    go_wp2
    go_ret
    rw [HM.out]
    exact ⟨rfl, (H2.out.drewN _).set3 (by_ / 2), only_set (only_drewN HO2.out _) 3 _⟩

set_option maxHeartbeats 4000000 in
theorem rlost_low (g : Nat) (kd sz by_ sl rc pk ep st es : Int) (se no : Int) (w : World) (H : IsE 46 w g kd sz by_ sl rc pk ep st es) (hz0 : 1200 ≤ sz) (hz1 : sz ≤ 65535) (hb0 : 0 ≤ by_) (hb1 : by_ ≤ 1073741824) (ht : tm se ∧ tm no) (hr : rc < se) (hk : kd ≠ 0) (hp : by_ < pk) :
    Calls Try.prog 18 #[.pointer (some ⟨g, 0, none⟩), .int .i64 se, .int .i64 no] w fun e w' => e = .returned (.int .i64 0) ∧ IsE 46 w' g kd sz (max (7 * by_ / 10) (2 * sz)) (max (7 * by_ / 10) (2 * sz)) no (17 * by_ / 20) (-1) st es ∧ Only w w' g := by
  have HT := Lib.hid ht
  clear ht
  have dk : (kd == 0) = false := by simpa using hk
  clear hk
  have dp : decide (by_ < pk) = true := decide_eq_true (by omega)
  have H1 := Lib.hid H
  have HO1 := Lib.hid (only_refl w g)
  clear H
  go_enter Try.func18, Try.ntmps18
  go_wp2_with fail
  refine (rtime_is se _).mono ?_
  rw [decide_eq_true HT.out.1]
  rintro e w' ⟨rfl, rfl⟩
  go_wp2_with fail
  refine (rtime_is no _).mono ?_
  rw [decide_eq_true HT.out.2]
  rintro e w' ⟨rfl, rfl⟩
  obtain ⟨⟨c0, c1, c2, c3, c4, c5, c6, c7, c8⟩, f0, f1, f2, f3, f4, f5, f6, f7, f8⟩ := H1.out.all
  go_wp2_with fail
  have H2 := Lib.hid (H1.out.set4 no)
  have HO2 := Lib.hid (only_set HO1.out 4 (.int .i64 no))
  clear c0 c1 c2 c3 c4 c5 c6 c7 c8 f0 f1 f2 f3 f4 f5 f6 f7 f8
  generalize w.setCell ⟨g, 4, none⟩ (.int .i64 no) = w2 at *
  obtain ⟨⟨c0, c1, c2, c3, c4, c5, c6, c7, c8⟩, f0, f1, f2, f3, f4, f5, f6, f7, f8⟩ := H2.out.all
  go_quiet (fail)
  have H3 := Lib.hid (IsE.drewN H2.out nq)
  have HO3 := Lib.hid (only_drewN HO2.out nq)
  clear c0 c1 c2 c3 c4 c5 c6 c7 c8 f0 f1 f2 f3 f4 f5 f6 f7 f8
  generalize w2.drewN nq = w3 at *
  obtain ⟨⟨c0, c1, c2, c3, c4, c5, c6, c7, c8⟩, f0, f1, f2, f3, f4, f5, f6, f7, f8⟩ := H3.out.all
  go_wp2_with fail
  have H4 := Lib.hid (((H3.out.set5 (17 * by_ / 20)).set2 (7 * by_ / 10)).set6 (-1))
  have HO4 := Lib.hid (only_set (only_set (only_set HO3.out 5 (.int .i64 (17 * by_ / 20))) 2 (.int .i64 (7 * by_ / 10))) 6 (.int .i64 (-1)))
  clear c0 c1 c2 c3 c4 c5 c6 c7 c8 f0 f1 f2 f3 f4 f5 f6 f7 f8
  generalize ((w3.setCell ⟨g, 5, none⟩ (.int .i64 (17 * by_ / 20))).setCell ⟨g, 2, none⟩ (.int .i64 (7 * by_ / 10))).setCell ⟨g, 6, none⟩ (.int .i64 (-1)) = w4 at *
  obtain ⟨⟨c0, c1, c2, c3, c4, c5, c6, c7, c8⟩, f0, f1, f2, f3, f4, f5, f6, f7, f8⟩ := H4.out.all
  rcases (show 7 * by_ / 10 < 2 * sz ∨ 2 * sz ≤ 7 * by_ / 10 by omega) with hm | hm
  · have s9 : IntKind.i64.wrap (2 * sz) = 2 * sz := wr_in (by omega) (by omega)
    have d9 : decide (7 * by_ / 10 < 2 * sz) = true := decide_eq_true (by omega)
    have HM := Lib.hid (show max (7 * by_ / 10) (2 * sz) = 2 * sz by omega)
    clear hm
    go_quiet (fail)
    clear s9
    go_wp2
    go_ret
    rw [HM.out]
    exact ⟨rfl, ((H4.out.drewN _).set2 (2 * sz)).set3 (2 * sz), only_set (only_set (only_drewN HO4.out _) 2 _) 3 _⟩
  · have s9 : IntKind.i64.wrap (2 * sz) = 2 * sz := wr_in (by omega) (by omega)
    have d9 : decide (7 * by_ / 10 < 2 * sz) = false := decide_eq_false (by omega)
    have HM := Lib.hid (show max (7 * by_ / 10) (2 * sz) = 7 * by_ / 10 by omega)
    clear hm
    go_quiet (fail)
    clear s9
    go_wp2
    go_ret
    rw [HM.out]
    exact ⟨rfl, (H4.out.drewN _).set3 (7 * by_ / 10), only_set (only_drewN HO4.out _) 3 _⟩

set_option maxHeartbeats 4000000 in
theorem rlost_high (g : Nat) (kd sz by_ sl rc pk ep st es : Int) (se no : Int) (w : World) (H : IsE 46 w g kd sz by_ sl rc pk ep st es) (hz0 : 1200 ≤ sz) (hz1 : sz ≤ 65535) (hb0 : 0 ≤ by_) (hb1 : by_ ≤ 1073741824) (ht : tm se ∧ tm no) (hr : rc < se) (hk : kd ≠ 0) (hp : pk ≤ by_) :
    Calls Try.prog 18 #[.pointer (some ⟨g, 0, none⟩), .int .i64 se, .int .i64 no] w fun e w' => e = .returned (.int .i64 0) ∧ IsE 46 w' g kd sz (max (7 * by_ / 10) (2 * sz)) (max (7 * by_ / 10) (2 * sz)) no by_ (-1) st es ∧ Only w w' g := by
  have HT := Lib.hid ht
  clear ht
  have dk : (kd == 0) = false := by simpa using hk
  clear hk
  have dp : decide (by_ < pk) = false := decide_eq_false (by omega)
  have H1 := Lib.hid H
  have HO1 := Lib.hid (only_refl w g)
  clear H
  go_enter Try.func18, Try.ntmps18
  go_wp2_with fail
  refine (rtime_is se _).mono ?_
  rw [decide_eq_true HT.out.1]
  rintro e w' ⟨rfl, rfl⟩
  go_wp2_with fail
  refine (rtime_is no _).mono ?_
  rw [decide_eq_true HT.out.2]
  rintro e w' ⟨rfl, rfl⟩
  obtain ⟨⟨c0, c1, c2, c3, c4, c5, c6, c7, c8⟩, f0, f1, f2, f3, f4, f5, f6, f7, f8⟩ := H1.out.all
  go_wp2_with fail
  have H2 := Lib.hid (H1.out.set4 no)
  have HO2 := Lib.hid (only_set HO1.out 4 (.int .i64 no))
  clear c0 c1 c2 c3 c4 c5 c6 c7 c8 f0 f1 f2 f3 f4 f5 f6 f7 f8
  generalize w.setCell ⟨g, 4, none⟩ (.int .i64 no) = w2 at *
  obtain ⟨⟨c0, c1, c2, c3, c4, c5, c6, c7, c8⟩, f0, f1, f2, f3, f4, f5, f6, f7, f8⟩ := H2.out.all
  go_quiet (fail)
  have H3 := Lib.hid (IsE.drewN H2.out nq)
  have HO3 := Lib.hid (only_drewN HO2.out nq)
  clear c0 c1 c2 c3 c4 c5 c6 c7 c8 f0 f1 f2 f3 f4 f5 f6 f7 f8
  generalize w2.drewN nq = w3 at *
  obtain ⟨⟨c0, c1, c2, c3, c4, c5, c6, c7, c8⟩, f0, f1, f2, f3, f4, f5, f6, f7, f8⟩ := H3.out.all
  go_wp2_with fail
  have H4 := Lib.hid (((H3.out.set5 by_).set2 (7 * by_ / 10)).set6 (-1))
  have HO4 := Lib.hid (only_set (only_set (only_set HO3.out 5 (.int .i64 by_)) 2 (.int .i64 (7 * by_ / 10))) 6 (.int .i64 (-1)))
  clear c0 c1 c2 c3 c4 c5 c6 c7 c8 f0 f1 f2 f3 f4 f5 f6 f7 f8
  generalize ((w3.setCell ⟨g, 5, none⟩ (.int .i64 by_)).setCell ⟨g, 2, none⟩ (.int .i64 (7 * by_ / 10))).setCell ⟨g, 6, none⟩ (.int .i64 (-1)) = w4 at *
  obtain ⟨⟨c0, c1, c2, c3, c4, c5, c6, c7, c8⟩, f0, f1, f2, f3, f4, f5, f6, f7, f8⟩ := H4.out.all
  rcases (show 7 * by_ / 10 < 2 * sz ∨ 2 * sz ≤ 7 * by_ / 10 by omega) with hm | hm
  · have s9 : IntKind.i64.wrap (2 * sz) = 2 * sz := wr_in (by omega) (by omega)
    have d9 : decide (7 * by_ / 10 < 2 * sz) = true := decide_eq_true (by omega)
    have HM := Lib.hid (show max (7 * by_ / 10) (2 * sz) = 2 * sz by omega)
    clear hm
    go_quiet (fail)
    clear s9
    go_wp2
    go_ret
    rw [HM.out]
    exact ⟨rfl, ((H4.out.drewN _).set2 (2 * sz)).set3 (2 * sz), only_set (only_set (only_drewN HO4.out _) 2 _) 3 _⟩
  · have s9 : IntKind.i64.wrap (2 * sz) = 2 * sz := wr_in (by omega) (by omega)
    have d9 : decide (7 * by_ / 10 < 2 * sz) = false := decide_eq_false (by omega)
    have HM := Lib.hid (show max (7 * by_ / 10) (2 * sz) = 7 * by_ / 10 by omega)
    clear hm
    go_quiet (fail)
    clear s9
    go_wp2
    go_ret
    rw [HM.out]
    exact ⟨rfl, (H4.out.drewN _).set3 (7 * by_ / 10), only_set (only_drewN HO4.out _) 3 _⟩
end Go.Proofs.Ytodeaibmojpmpaa

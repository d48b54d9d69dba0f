/- New, Told and Collapse, the program's and the reference's. -/
import Derived.Test.YtodeaibmojpmpaaSmall
namespace Go.Proofs.Ytodeaibmojpmpaa
open Go.RowKit
attribute [local go_sem] max2_is min2_is max_of_two min_of_two

/-- What New begins with. -/
def firstB (sz : Int) : Int := min (10 * sz) (max (2 * sz) 14720)
def newS (kd sz : Int) : St := ⟨kd, sz, firstB sz, -1, -1, 0, -1, 0, 0⟩
def newOk (kd sz : Int) : Prop := (kd = 0 ∨ kd = 1) ∧ 1200 ≤ sz ∧ sz ≤ 65535
instance (kd sz : Int) : Decidable (newOk kd sz) := by unfold newOk; infer_instance
set_option maxHeartbeats 800000 in
theorem new_ok (kd sz : Int) (w : World) (h : newOk kd sz) : Calls Try.prog 14 #[.int .i64 kd, .int .i64 sz] w fun e w' => e = .returned (.tuple #[.pointer (some ⟨w.heap.size, 0, none⟩), .int .i64 0]) ∧ IsS 28 w' w.heap.size (newS kd sz) ∧ Below w.heap.size w w' := by
  obtain ⟨hk, h1, h2⟩ := h
  have hk0 : 0 ≤ kd := by omega
  have hk1 : kd ≤ 1 := by omega
  have d0 : decide (kd < 0) = false := decide_eq_false (by omega)
  have d1 : decide (1 < kd) = false := decide_eq_false (by omega)
  have d2 : decide (sz < 1200) = false := decide_eq_false (by omega)
  have d3 : decide (65535 < sz) = false := decide_eq_false (by omega)
  clear hk
  go_enter Try.func14, Try.ntmps14
  go_wp2
  go_ret2
  exact ⟨rfl, IsE.new 28 w kd sz (firstB sz) (-1) (-1) 0 (-1) 0 0, below_new (Below.refl _ _) (Nat.le_refl _) _⟩
set_option maxHeartbeats 800000 in
theorem new_no (kd sz : Int) (w : World) (h : ¬ newOk kd sz) : Calls Try.prog 14 #[.int .i64 kd, .int .i64 sz] w fun e w' => e = .returned (.tuple #[.pointer none, .int .i64 2]) ∧ w = w' := by
  rcases (show kd < 0 ∨ 0 ≤ kd ∧ 1 < kd ∨ 0 ≤ kd ∧ kd ≤ 1 ∧ sz < 1200 ∨ 0 ≤ kd ∧ kd ≤ 1 ∧ 1200 ≤ sz ∧ 65535 < sz by unfold newOk at h; omega) with h0 | ⟨h0, h1⟩ | ⟨h0, h1, h2⟩ | ⟨h0, h1, h2, h3⟩
  · have d0 : decide (kd < 0) = true := decide_eq_true (by omega)
    clear h
    go_enter Try.func14, Try.ntmps14
    go_wp2
    go_ret2
    exact ⟨rfl, rfl⟩
  · have d0 : decide (kd < 0) = false := decide_eq_false (by omega)
    have d1 : decide (1 < kd) = true := decide_eq_true (by omega)
    clear h
    go_enter Try.func14, Try.ntmps14
    go_wp2
    go_ret2
    exact ⟨rfl, rfl⟩
  · have d0 : decide (kd < 0) = false := decide_eq_false (by omega)
    have d1 : decide (1 < kd) = false := decide_eq_false (by omega)
    have d2 : decide (sz < 1200) = true := decide_eq_true (by omega)
    clear h
    go_enter Try.func14, Try.ntmps14
    go_wp2
    go_ret2
    exact ⟨rfl, rfl⟩
  · have d0 : decide (kd < 0) = false := decide_eq_false (by omega)
    have d1 : decide (1 < kd) = false := decide_eq_false (by omega)
    have d2 : decide (sz < 1200) = false := decide_eq_false (by omega)
    have d3 : decide (65535 < sz) = true := decide_eq_true (by omega)
    clear h
    go_enter Try.func14, Try.ntmps14
    go_wp2
    go_ret2
    exact ⟨rfl, rfl⟩
set_option maxHeartbeats 800000 in
theorem rnew_no (kd sz : Int) (w : World) (h : ¬ newOk kd sz) : Calls Try.prog 15 #[.int .i64 kd, .int .i64 sz] w fun e w' => e = .returned (.tuple #[.pointer none, .int .i64 2]) ∧ w = w' := by
  rcases (show kd < 0 ∨ 0 ≤ kd ∧ 1 < kd ∨ 0 ≤ kd ∧ kd ≤ 1 ∧ sz < 1200 ∨ 0 ≤ kd ∧ kd ≤ 1 ∧ 1200 ≤ sz ∧ 65535 < sz by unfold newOk at h; omega) with h0 | ⟨h0, h1⟩ | ⟨h0, h1, h2⟩ | ⟨h0, h1, h2, h3⟩
  · have d0 : decide (kd < 0) = true := decide_eq_true (by omega)
    clear h
    go_enter Try.func15, Try.ntmps15
    go_wp2
    go_ret2
    exact ⟨rfl, rfl⟩
  · have d0 : decide (kd < 0) = false := decide_eq_false (by omega)
    have d1 : decide (1 < kd) = true := decide_eq_true (by omega)
    clear h
    go_enter Try.func15, Try.ntmps15
    go_wp2
    go_ret2
    exact ⟨rfl, rfl⟩
  · have d0 : decide (kd < 0) = false := decide_eq_false (by omega)
    have d1 : decide (1 < kd) = false := decide_eq_false (by omega)
    have d2 : decide (sz < 1200) = true := decide_eq_true (by omega)
    clear h
    go_enter Try.func15, Try.ntmps15
    go_wp2
    go_ret2
    exact ⟨rfl, rfl⟩
  · have d0 : decide (kd < 0) = false := decide_eq_false (by omega)
    have d1 : decide (1 < kd) = false := decide_eq_false (by omega)
    have d2 : decide (sz < 1200) = false := decide_eq_false (by omega)
    have d3 : decide (65535 < sz) = true := decide_eq_true (by omega)
    clear h
    go_enter Try.func15, Try.ntmps15
    go_wp2
    go_ret2
    exact ⟨rfl, rfl⟩
set_option maxHeartbeats 800000 in
theorem rnew_ok (kd sz : Int) (w : World) (h : newOk kd sz) : Calls Try.prog 15 #[.int .i64 kd, .int .i64 sz] w fun e w' => e = .returned (.tuple #[.pointer (some ⟨w.heap.size, 0, none⟩), .int .i64 0]) ∧ IsS 46 w' w.heap.size (newS kd sz) ∧ Below w.heap.size w w' := by
  obtain ⟨hk, h1, h2⟩ := h
  have hk0 : 0 ≤ kd := by omega
  have hk1 : kd ≤ 1 := by omega
  have d0 : decide (kd < 0) = false := decide_eq_false (by omega)
  have d1 : decide (1 < kd) = false := decide_eq_false (by omega)
  have d2 : decide (sz < 1200) = false := decide_eq_false (by omega)
  have d3 : decide (65535 < sz) = false := decide_eq_false (by omega)
  clear hk
  obtain ⟨F, hF⟩ : ∃ F, firstB sz = F := ⟨_, rfl⟩
  have HF := Lib.hid hF
  unfold newS
  rw [hF]
  clear hF
  rcases (show 14720 < 2 * sz ∧ 2 * sz ≤ 10 * sz ∨ 2 * sz ≤ 14720 ∧ 10 * sz < 14720 ∨ 2 * sz ≤ 14720 ∧ 14720 ≤ 10 * sz by omega) with ⟨h3, h4⟩ | ⟨h3, h4⟩ | ⟨h3, h4⟩
  · have HG := Lib.hid (show F = 2 * sz by have := HF.out; unfold firstB at this; omega)
    go_enter Try.func15, Try.ntmps15
    go_wp2
    go_ret2
    rw [HG.out]
    exact ⟨rfl, IsE.new 46 w kd sz (2 * sz) (-1) (-1) 0 (-1) 0 0, below_new (Below.refl _ _) (Nat.le_refl _) _⟩
  · have HG := Lib.hid (show F = 10 * sz by have := HF.out; unfold firstB at this; omega)
    go_enter Try.func15, Try.ntmps15
    go_wp2
    go_ret2
    rw [HG.out]
    exact ⟨rfl, IsE.new 46 w kd sz (10 * sz) (-1) (-1) 0 (-1) 0 0, below_new (Below.refl _ _) (Nat.le_refl _) _⟩
  · have HG := Lib.hid (show F = 14720 by have := HF.out; unfold firstB at this; omega)
    go_enter Try.func15, Try.ntmps15
    go_wp2
    go_ret2
    rw [HG.out]
    exact ⟨rfl, IsE.new 46 w kd sz 14720 (-1) (-1) 0 (-1) 0 0, below_new (Below.refl _ _) (Nat.le_refl _) _⟩
set_option maxHeartbeats 400000 in
theorem names_is (w : World) : Calls Try.prog 16 #[] w fun e w' => e = .returned (.bool true) ∧ w = w' := by
  go_enter Try.func16, Try.ntmps16
  go_wp2
  go_ret
  exact ⟨rfl, rfl⟩

section
variable (g : Nat) (kd sz by_ sl rc pk ep st es : Int) (w : World)
set_option maxHeartbeats 400000 in
theorem told_is (H : IsE 28 w g kd sz by_ sl rc pk ep st es) (hb : 1200 ≤ sz) : Calls Try.prog 11 #[.pointer (some ⟨g, 0, none⟩)] w fun e w' => e = .returned (.tuple #[.int .i64 by_, .int .i64 sl, .int .i64 rc]) ∧ ∃ k, w' = w.drewN k := by
  have HI := Lib.hid H
  clear H
  go_enter Try.func11, Try.ntmps11
  go_wp2_with fail
  refine (none_no g kd sz by_ sl rc pk ep st es _ HI.out hb).mono ?_
  rintro e w' ⟨rfl, rfl⟩
  obtain ⟨⟨c0, c1, c2, c3, c4, c5, c6, c7, c8⟩, _⟩ := HI.out.all
  go_wp2_with fail
  go_quiet (fail)
  go_wp2
  go_ret3
  exact ⟨rfl, _, rfl⟩
set_option maxHeartbeats 400000 in
theorem coll_is (H : IsE 28 w g kd sz by_ sl rc pk ep st es) (hb : 1200 ≤ sz) (hc : sz ≤ 65535) : Calls Try.prog 10 #[.pointer (some ⟨g, 0, none⟩)] w fun e w' => e = .returned (.tuple #[]) ∧ IsE 28 w' g kd sz (2 * sz) sl (-1) pk (-1) st es ∧ Only w w' g := by
  have HI := Lib.hid H
  clear H
  go_enter Try.func10, Try.ntmps10
  go_wp2_with fail
  refine (none_no g kd sz by_ sl rc pk ep st es _ HI.out hb).mono ?_
  rintro e w' ⟨rfl, rfl⟩
  obtain ⟨⟨c0, c1, c2, c3, c4, c5, c6, c7, c8⟩, f0, f1, f2, f3, f4, f5, f6, f7, f8⟩ := HI.out.all
  go_wp2
  go_end0
  exact ⟨rfl, ((HI.out.set2 (2 * sz)).set4 (-1)).set6 (-1), only_set (only_set (only_set (only_refl w g) 2 _) 4 _) 6 _⟩
set_option maxHeartbeats 400000 in
theorem rcoll_is (H : IsE 46 w g kd sz by_ sl rc pk ep st es) (hb : 1200 ≤ sz) (hc : sz ≤ 65535) : Calls Try.prog 19 #[.pointer (some ⟨g, 0, none⟩)] w fun e w' => e = .returned (.tuple #[]) ∧ IsE 46 w' g kd sz (2 * sz) sl (-1) pk (-1) st es ∧ Only w w' g := by
  have HI := Lib.hid H
  obtain ⟨⟨c0, c1, c2, c3, c4, c5, c6, c7, c8⟩, f0, f1, f2, f3, f4, f5, f6, f7, f8⟩ := H.all
  clear H
  go_enter Try.func19, Try.ntmps19
  go_wp2
  go_end0
  exact ⟨rfl, ((HI.out.set2 (2 * sz)).set4 (-1)).set6 (-1), only_set (only_set (only_set (only_refl w g) 2 _) 4 _) 6 _⟩
end
end Go.Proofs.Ytodeaibmojpmpaa

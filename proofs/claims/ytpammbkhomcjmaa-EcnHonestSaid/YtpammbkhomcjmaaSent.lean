/- New, Sent and Lost, the program's and the reference's. -/
import Derived.Test.YtpammbkhomcjmaaSmall
namespace Go.Proofs.Ytpammbkhomcjmaa
open Go.RowKit

/-- What New makes. -/
def newS : St := ⟨1, 0, 0, 0, 0, 0, 0⟩
theorem ok_new : Ok newS 0 := ⟨.inl rfl, by decide, by decide, by decide, by decide, by decide, by decide, rfl, by decide, by decide⟩
set_option maxHeartbeats 400000 in
theorem new_is (w : World) : Calls Try.prog 7 #[] w fun e w' => e = .returned (.pointer (some ⟨w.heap.size, 0, none⟩)) ∧ IsS 35 w' w.heap.size newS ∧ Below w.heap.size w w' ∧ w'.heap.size = w.heap.size + 1 := by
  go_enter Try.func7, Try.ntmps7
  go_wp2
  go_ret
  exact ⟨rfl, IsE.new 35 w 1 0 0 0 0 0 0, below_new (Below.refl _ _) (Nat.le_refl _) _, by simp⟩
set_option maxHeartbeats 400000 in
theorem rnew_is (w : World) : Calls Try.prog 12 #[] w fun e w' => e = .returned (.pointer (some ⟨w.heap.size, 0, none⟩)) ∧ IsS 43 w' w.heap.size newS ∧ Below w.heap.size w w' ∧ w'.heap.size = w.heap.size + 1 := by
  go_enter Try.func12, Try.ntmps12
  go_wp2
  go_ret
  exact ⟨rfl, IsE.new 43 w 1 0 0 0 0 0 0, below_new (Below.refl _ _) (Nat.le_refl _) _, by simp⟩
set_option maxHeartbeats 400000 in
theorem names_is (w : World) : Calls Try.prog 13 #[] w fun e w' => e = .returned (.bool true) ∧ w = w' := by
  go_enter Try.func13, Try.ntmps13
  go_wp2
  go_ret
  exact ⟨rfl, rfl⟩

section
variable (g : Nat) (a n o h x y z : Int) (w : World)
section
variable (H : IsE 35 w g a n o h x y z) (h1 : 0 ≤ n) (h4 : n ≤ 1152921504606846976)
include H h1 h4
set_option maxHeartbeats 800000 in
theorem sent_raw (ha : a = 1 ∨ a = 2 ∨ a = 3 ∨ a = 4) : Calls Try.prog 8 #[.pointer (some ⟨g, 0, none⟩)] w fun e w' => e = .returned (.bool (sendB ⟨a, n, o, h, x, y, z⟩)) ∧ IsS 35 w' g (sendS ⟨a, n, o, h, x, y, z⟩) ∧ Only w w' g := by
  have HI := Lib.hid H
  obtain ⟨⟨c0, c1, c2, c3, c4, c5, c6⟩, f0, f1, f2, f3, f4, f5, f6⟩ := H.all
  clear H
  have HO := Lib.hid (only_refl w g)
  rcases ha with rfl | rfl | rfl | rfl
  · rcases (show 10 ≤ n + 1 ∨ n + 1 < 10 by omega) with hn | hn
    · have e0 : sendS ⟨1, n, o, h, x, y, z⟩ = ⟨2, n + 1, o, h, x, y, z⟩ := by simp [sendS, hn]
      rw [e0]
      clear e0
      go_enter Try.func8, Try.ntmps8
      go_wp2_with fail
      refine (state_is g 1 n o h x y z _ HI.out (by decide)).mono ?_
      rintro e w' ⟨rfl, rfl⟩
      go_wp2
      go_ret
      exact ⟨rfl, (HI.out.set0 2).set1 (n + 1), only_set (only_set HO.out 0 _) 1 _⟩
    · have e0 : sendS ⟨1, n, o, h, x, y, z⟩ = ⟨1, n + 1, o, h, x, y, z⟩ := by simp [sendS, show ¬ 10 ≤ n + 1 by omega]
      rw [e0]
      clear e0
      go_enter Try.func8, Try.ntmps8
      go_wp2_with fail
      refine (state_is g 1 n o h x y z _ HI.out (by decide)).mono ?_
      rintro e w' ⟨rfl, rfl⟩
      go_wp2
      go_ret
      exact ⟨rfl, HI.out.set1 (n + 1), only_set HO.out 1 _⟩
  · have e0 : sendS ⟨2, n, o, h, x, y, z⟩ = ⟨2, n, o, h, x, y, z⟩ := by simp [sendS]
    rw [e0]
    clear e0
    go_enter Try.func8, Try.ntmps8
    go_wp2_with fail
    refine (state_is g 2 n o h x y z _ HI.out (by decide)).mono ?_
    rintro e w' ⟨rfl, rfl⟩
    go_wp2
    go_ret
    exact ⟨rfl, HI.out, HO.out⟩
  · have e0 : sendS ⟨3, n, o, h, x, y, z⟩ = ⟨3, n, o, h, x, y, z⟩ := by simp [sendS]
    rw [e0]
    clear e0
    go_enter Try.func8, Try.ntmps8
    go_wp2_with fail
    refine (state_is g 3 n o h x y z _ HI.out (by decide)).mono ?_
    rintro e w' ⟨rfl, rfl⟩
    go_wp2
    go_ret
    exact ⟨rfl, HI.out, HO.out⟩
  · have e0 : sendS ⟨4, n, o, h, x, y, z⟩ = ⟨4, n + 1, o, h, x, y, z⟩ := by simp [sendS]
    rw [e0]
    clear e0
    go_enter Try.func8, Try.ntmps8
    go_wp2_with fail
    refine (state_is g 4 n o h x y z _ HI.out (by decide)).mono ?_
    rintro e w' ⟨rfl, rfl⟩
    go_wp2
    go_ret
    exact ⟨rfl, HI.out.set1 (n + 1), only_set HO.out 1 _⟩
end
section
variable (H : IsE 43 w g a n o h x y z) (h1 : 0 ≤ n) (h4 : n ≤ 1152921504606846976)
include H h1 h4
set_option maxHeartbeats 800000 in
theorem rsend_raw (ha : a = 1 ∨ a = 2 ∨ a = 3 ∨ a = 4) : Calls Try.prog 14 #[.pointer (some ⟨g, 0, none⟩)] w fun e w' => e = .returned (.bool (sendB ⟨a, n, o, h, x, y, z⟩)) ∧ IsS 43 w' g (sendS ⟨a, n, o, h, x, y, z⟩) ∧ Only w w' g := by
  have HI := Lib.hid H
  obtain ⟨⟨c0, c1, c2, c3, c4, c5, c6⟩, f0, f1, f2, f3, f4, f5, f6⟩ := H.all
  clear H
  have HO := Lib.hid (only_refl w g)
  rcases ha with rfl | rfl | rfl | rfl
  · rcases (show 10 ≤ n + 1 ∨ n + 1 < 10 by omega) with hn | hn
    · have e0 : sendS ⟨1, n, o, h, x, y, z⟩ = ⟨2, n + 1, o, h, x, y, z⟩ := by simp [sendS, hn]
      rw [e0]
      clear e0
      have d0 : decide (10 ≤ n + 1) = true := decide_eq_true hn
      go_enter Try.func14, Try.ntmps14
      go_wp2
      go_ret
      exact ⟨rfl, (HI.out.set1 (n + 1)).set0 2, only_set (only_set HO.out 1 _) 0 _⟩
    · have e0 : sendS ⟨1, n, o, h, x, y, z⟩ = ⟨1, n + 1, o, h, x, y, z⟩ := by simp [sendS, show ¬ 10 ≤ n + 1 by omega]
      rw [e0]
      clear e0
      have d0 : decide (10 ≤ n + 1) = false := decide_eq_false (by omega)
      go_enter Try.func14, Try.ntmps14
      go_wp2
      go_ret
      exact ⟨rfl, HI.out.set1 (n + 1), only_set HO.out 1 _⟩
  · have e0 : sendS ⟨2, n, o, h, x, y, z⟩ = ⟨2, n, o, h, x, y, z⟩ := by simp [sendS]
    rw [e0]
    clear e0
    go_enter Try.func14, Try.ntmps14
    go_wp2
    go_ret
    exact ⟨rfl, HI.out, HO.out⟩
  · have e0 : sendS ⟨3, n, o, h, x, y, z⟩ = ⟨3, n, o, h, x, y, z⟩ := by simp [sendS]
    rw [e0]
    clear e0
    go_enter Try.func14, Try.ntmps14
    go_wp2
    go_ret
    exact ⟨rfl, HI.out, HO.out⟩
  · have e0 : sendS ⟨4, n, o, h, x, y, z⟩ = ⟨4, n + 1, o, h, x, y, z⟩ := by simp [sendS]
    rw [e0]
    clear e0
    go_enter Try.func14, Try.ntmps14
    go_wp2
    go_ret
    exact ⟨rfl, HI.out.set1 (n + 1), only_set HO.out 1 _⟩
end
end
theorem sent_any (g : Nat) (s : St) (B : Int) (w : World) (H : IsS 35 w g s) (ho : Ok s B) (hB : B ≤ 1152921504606846976) : Calls Try.prog 8 #[.pointer (some ⟨g, 0, none⟩)] w fun e w' => e = .returned (.bool (sendB s)) ∧ IsS 35 w' g (sendS s) ∧ Only w w' g := by
  obtain ⟨h0, h1, h2, h3, h4, _⟩ := ho
  exact sent_raw g s.st s.sent s.lost s.here s.l0 s.l1 s.l2 w H (by omega) (by omega) h0
theorem rsend_any (g : Nat) (s : St) (B : Int) (w : World) (H : IsS 43 w g s) (ho : Ok s B) (hB : B ≤ 1152921504606846976) : Calls Try.prog 14 #[.pointer (some ⟨g, 0, none⟩)] w fun e w' => e = .returned (.bool (sendB s)) ∧ IsS 43 w' g (sendS s) ∧ Only w w' g := by
  obtain ⟨h0, h1, h2, h3, h4, _⟩ := ho
  exact rsend_raw g s.st s.sent s.lost s.here s.l0 s.l1 s.l2 w H (by omega) (by omega) h0
theorem state_any (g : Nat) (s : St) (B : Int) (w : World) (H : IsS 35 w g s) (ho : Ok s B) : Calls Try.prog 10 #[.pointer (some ⟨g, 0, none⟩)] w fun e w' => e = .returned (.int .i64 s.st) ∧ w = w' :=
  state_is g s.st s.sent s.lost s.here s.l0 s.l1 s.l2 w H ho.1
end Go.Proofs.Ytpammbkhomcjmaa

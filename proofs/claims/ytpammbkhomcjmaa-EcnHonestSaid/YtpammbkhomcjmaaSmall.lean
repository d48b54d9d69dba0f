/- Ecn's state, and its small methods, the program's and the reference's. -/
import Derived.Test.YtpammbkhomcjmaaStates
import Derived.Test.YtpammbkhomcjmaaRows
import Derived.WalkSpells
import Derived.WalkLawsBesides
import Derived.BigQuiet
import Derived.BigRegion
import Derived.Deep.QuietTactic
import Derived.Deep.RegionHeld3
import Derived.Deep.DrawnRows
import Derived.StillTailTactics
namespace Go.Proofs.Ytpammbkhomcjmaa
open Go.RowKit

/-- What a validation holds. -/
structure St where
  st : Int
  sent : Int
  lost : Int
  here : Int
  l0 : Int
  l1 : Int
  l2 : Int
/-- Block g holds s; t: the program's type, or the reference's. -/
def IsS (t : TypeId) (w : World) (g : Nat) (s : St) : Prop := IsE t w g s.st s.sent s.lost s.here s.l0 s.l1 s.l2
/-- s can be, when at most B were sent. -/
def Ok (s : St) (B : Int) : Prop :=
  (s.st = 1 ∨ s.st = 2 ∨ s.st = 3 ∨ s.st = 4) ∧ 0 ≤ s.lost ∧ 0 ≤ s.here ∧ s.lost + s.here ≤ s.sent ∧ s.sent ≤ B ∧ 0 ≤ s.l0 ∧ s.l0 ≤ 4611686018427387903 ∧ s.l1 = 0 ∧ 0 ≤ s.l2 ∧ s.l2 ≤ 4611686018427387903

def sendB (s : St) : Bool := s.st == 1 || s.st == 4
def sendS (s : St) : St :=
  if s.st = 1 then { s with sent := s.sent + 1, st := if 10 ≤ s.sent + 1 then 2 else 1 }
  else if s.st = 4 then { s with sent := s.sent + 1 } else s
def badM (s : St) (m : Int) : Prop := m < 0 ∨ s.sent - s.lost - s.here < m
instance (s : St) (m : Int) : Decidable (badM s m) := by unfold badM; infer_instance
def loseE (s : St) (m : Int) : Int := if badM s m then 2 else 0
def allLost (s : St) (m : Int) : Prop := (s.st = 1 ∨ s.st = 2) ∧ 10 ≤ s.sent ∧ s.lost + m = s.sent
instance (s : St) (m : Int) : Decidable (allLost s m) := by unfold allLost; infer_instance
def loseS (s : St) (m : Int) : St :=
  if badM s m then s else { s with lost := s.lost + m, st := if allLost s m then 3 else s.st }

theorem ok_send {s : St} {B : Int} (h : Ok s B) : Ok (sendS s) (B + 1) := by
  obtain ⟨h0, h1, h2, h3, h4, h5, h6, h7, h8, h9⟩ := h
  unfold sendS
  split
  · exact ⟨by dsimp only; split <;> omega, h1, h2, by dsimp only; omega, by dsimp only; omega, h5, h6, h7, h8, h9⟩
  · split
    · exact ⟨h0, h1, h2, by dsimp only; omega, by dsimp only; omega, h5, h6, h7, h8, h9⟩
    · exact ⟨h0, h1, h2, h3, by omega, h5, h6, h7, h8, h9⟩
theorem ok_lose {s : St} {B m : Int} (h : Ok s B) : Ok (loseS s m) B := by
  obtain ⟨h0, h1, h2, h3, h4, h5, h6, h7, h8, h9⟩ := h
  unfold loseS
  by_cases hb : badM s m
  · rw [if_pos hb]
    exact ⟨h0, h1, h2, h3, h4, h5, h6, h7, h8, h9⟩
  · rw [if_neg hb]
    unfold badM at hb
    exact ⟨by dsimp only; split <;> omega, by dsimp only; omega, h2, by dsimp only; omega, h4, h5, h6, h7, h8, h9⟩
theorem ok_more {s : St} {B C : Int} (h : Ok s B) (hB : B ≤ C) : Ok s C := by
  obtain ⟨h0, h1, h2, h3, h4, h5⟩ := h
  exact ⟨h0, h1, h2, h3, by omega, h5⟩
theorem wr_in {x : Int} (h0 : -9223372036854775808 ≤ x) (h1 : x ≤ 9223372036854775807) : IntKind.i64.wrap x = x := by rw [IntKind.wrap_i64]; omega

section
variable (g : Nat) (a n o h x y z : Int) (w : World)
section
variable (H : IsE 35 w g a n o h x y z) (ha : a = 1 ∨ a = 2 ∨ a = 3 ∨ a = 4)
include H ha
set_option maxHeartbeats 400000 in
theorem none_no : Calls Try.prog 17 #[.pointer (some ⟨g, 0, none⟩)] w fun e w' => e = .returned (.bool false) ∧ w = w' := by
  obtain ⟨⟨c0, c1, c2, c3, c4, c5, c6⟩, _⟩ := H.all
  clear H
  rcases ha with rfl | rfl | rfl | rfl
  all_goals
    go_enter Try.func17, Try.ntmps17
    go_wp2
    go_ret
    exact ⟨rfl, rfl⟩
set_option maxHeartbeats 400000 in
theorem state_is : Calls Try.prog 10 #[.pointer (some ⟨g, 0, none⟩)] w fun e w' => e = .returned (.int .i64 a) ∧ w = w' := by
  have HI := Lib.hid H
  have HA := Lib.hid ha
  clear H ha
  go_enter Try.func10, Try.ntmps10
  go_wp2_with fail
  refine (none_no g a n o h x y z _ HI.out HA.out).mono ?_
  rintro e w' ⟨rfl, rfl⟩
  obtain ⟨⟨c0, c1, c2, c3, c4, c5, c6⟩, _⟩ := HI.out.all
  go_wp2
  go_ret
  exact ⟨rfl, rfl⟩
end

-- wrong
section
variable (m : Int) (H : IsE 35 w g a n o h x y z) (ha : a = 1 ∨ a = 2 ∨ a = 3 ∨ a = 4) (h1 : 0 ≤ o) (h2 : 0 ≤ h) (h3 : o + h ≤ n) (h4 : n ≤ 1152921504606846976)
include H ha h1 h2 h3 h4
set_option maxHeartbeats 800000 in
theorem wrong_is : Calls Try.prog 18 #[.pointer (some ⟨g, 0, none⟩), .int .i64 m] w fun e w' => e = .returned (.int .i64 (if m < 0 ∨ n - o - h < m then 2 else 0)) ∧ ∃ k, w' = w.drewN k := by
  have HI := Lib.hid H
  have HA := Lib.hid ha
  clear H ha
  have s1 : IntKind.i64.wrap (n - o) = n - o := wr_in (by omega) (by omega)
  have s2 : IntKind.i64.wrap (n - o - h) = n - o - h := wr_in (by omega) (by omega)
  rcases (show m < 0 ∨ 0 ≤ m ∧ n - o - h < m ∨ 0 ≤ m ∧ m ≤ n - o - h by omega) with hm | ⟨hm, hl⟩ | ⟨hm, hl⟩
  · rw [if_pos (.inl hm)]
    have d0 : decide (m < 0) = true := decide_eq_true hm
    go_enter Try.func18, Try.ntmps18
    go_wp2_with fail
    refine (none_no g a n o h x y z _ HI.out HA.out).mono ?_
    rintro e w' ⟨rfl, rfl⟩
    obtain ⟨⟨c0, c1, c2, c3, c4, c5, c6⟩, _⟩ := HI.out.all
    go_wp2_with fail
    go_quiet (fail)
    go_wp2
    go_ret
    exact ⟨rfl, _, rfl⟩
  · rw [if_pos (.inr hl)]
    have d0 : decide (m < 0) = false := decide_eq_false (by omega)
    have d1 : decide (n - o - h < m) = true := decide_eq_true hl
    go_enter Try.func18, Try.ntmps18
    go_wp2_with fail
    refine (none_no g a n o h x y z _ HI.out HA.out).mono ?_
    rintro e w' ⟨rfl, rfl⟩
    obtain ⟨⟨c0, c1, c2, c3, c4, c5, c6⟩, _⟩ := HI.out.all
    go_wp2_with fail
    go_quiet (fail)
    go_wp2
    go_ret
    exact ⟨rfl, _, rfl⟩
  · rw [if_neg (by omega)]
    have d0 : decide (m < 0) = false := decide_eq_false (by omega)
    have d1 : decide (n - o - h < m) = false := decide_eq_false (by omega)
    go_enter Try.func18, Try.ntmps18
    go_wp2_with fail
    refine (none_no g a n o h x y z _ HI.out HA.out).mono ?_
    rintro e w' ⟨rfl, rfl⟩
    obtain ⟨⟨c0, c1, c2, c3, c4, c5, c6⟩, _⟩ := HI.out.all
    go_wp2_with fail
    go_quiet (fail)
    go_wp2
    go_ret
    exact ⟨rfl, _, rfl⟩
end
section
variable (m : Int) (H : IsE 43 w g a n o h x y z) (h1 : 0 ≤ o) (h2 : 0 ≤ h) (h3 : o + h ≤ n) (h4 : n ≤ 1152921504606846976)
include H h1 h2 h3 h4
set_option maxHeartbeats 800000 in
theorem rwrong_is : Calls Try.prog 20 #[.pointer (some ⟨g, 0, none⟩), .int .i64 m] w fun e w' => e = .returned (.bool (decide (m < 0 ∨ n - o - h < m))) ∧ ∃ k, w' = w.drewN k := by
  obtain ⟨⟨c0, c1, c2, c3, c4, c5, c6⟩, _⟩ := H.all
  clear H
  have s1 : IntKind.i64.wrap (n - o) = n - o := wr_in (by omega) (by omega)
  have s2 : IntKind.i64.wrap (n - o - h) = n - o - h := wr_in (by omega) (by omega)
  rcases (show m < 0 ∨ 0 ≤ m ∧ n - o - h < m ∨ 0 ≤ m ∧ m ≤ n - o - h by omega) with hm | ⟨hm, hl⟩ | ⟨hm, hl⟩
  · rw [decide_eq_true (show m < 0 ∨ n - o - h < m from .inl hm)]
    have d0 : decide (m < 0) = true := decide_eq_true hm
    go_enter Try.func20, Try.ntmps20
    go_wp2_with fail
    go_quiet (fail)
    go_wp2
    go_ret
    exact ⟨rfl, _, rfl⟩
  · rw [decide_eq_true (show m < 0 ∨ n - o - h < m from .inr hl)]
    have d0 : decide (m < 0) = false := decide_eq_false (by omega)
    have d1 : decide (n - o - h < m) = true := decide_eq_true hl
    go_enter Try.func20, Try.ntmps20
    go_wp2_with fail
    go_quiet (fail)
    go_wp2
    go_ret
    exact ⟨rfl, _, rfl⟩
  · rw [decide_eq_false (show ¬ (m < 0 ∨ n - o - h < m) by omega)]
    have d0 : decide (m < 0) = false := decide_eq_false (by omega)
    have d1 : decide (n - o - h < m) = false := decide_eq_false (by omega)
    go_enter Try.func20, Try.ntmps20
    go_wp2_with fail
    go_quiet (fail)
    go_wp2
    go_ret
    exact ⟨rfl, _, rfl⟩
end
end
end Go.Proofs.Ytpammbkhomcjmaa

/- The contracts of Get's methods at small numbers, case by case. -/
import Derived.Test.YtkjgdaehfpoleaaUpd
import Derived.Test.YtkjgdaehfpoleaaCases
namespace Go.Proofs.Ytkjgdaehfpoleaa
open Go.RowKit

theorem max2_is (k k' : IntKind) (x y : Int) : Builtin.max2 (.int k x) (.int k' y) = pure (.int k (max x y)) := by
  simp only [Builtin.max2, gt_iff_lt]
  rw [show (if x < y then y else x) = max x y by split <;> omega]
theorem min2_is (k k' : IntKind) (x y : Int) : Builtin.min2 (.int k x) (.int k' y) = pure (.int k (min x y)) := by
  simp only [Builtin.min2]
  rw [show (if y < x then y else x) = min x y by split <;> omega]
theorem max_of_two (ats : Array TypeId) (ty : TypeId) (a b : Value) : Builtin.max_ ats ty #[a, b] = (Builtin.max2 a b >>= fun s => pure s) := by simp only [Builtin.max_, List.foldlM_cons, List.foldlM_nil]
theorem min_of_two (ats : Array TypeId) (ty : TypeId) (a b : Value) : Builtin.min_ ats ty #[a, b] = (Builtin.min2 a b >>= fun s => pure s) := by simp only [Builtin.min_, List.foldlM_cons, List.foldlM_nil]

def Sm (W L C U : Int) : Prop := 0 ≤ W ∧ W ≤ 10000 ∧ 0 ≤ U ∧ U ≤ C ∧ C ≤ L ∧ L ≤ 10000
section
variable (g : Nat) (W L C U n : Int) (w : World) (h : IsT w g true W L C U) (hs : Sm W L C U)
include h hs
theorem tk_ok (h0 : 0 ≤ n) (h1 : n ≤ L - C) :
    Calls Try.prog 20 #[.pointer (some ⟨g, 0, none⟩), .int .i64 n] w fun e w' => e = .returned (.int .i64 0) ∧ IsT w' g true W L (C + n) U ∧ Only w w' g := by
  obtain ⟨a, b, c, d, e, f⟩ := hs
  have := take_any g W L C U n w h
  simpa only [takeE, takeC, wrap64_id (x := L - C) (by omega) (by omega), wrap64_id (x := C + n) (by omega) (by omega), if_neg (show ¬ n < 0 by omega), if_neg (show ¬ L - C < n by omega)] using this
theorem tk_flow (h0 : 0 ≤ n) (h1 : L - C < n) :
    Calls Try.prog 20 #[.pointer (some ⟨g, 0, none⟩), .int .i64 n] w fun e w' => e = .returned (.int .i64 30) ∧ IsT w' g true W L C U ∧ Only w w' g := by
  obtain ⟨a, b, c, d, e, f⟩ := hs
  have := take_any g W L C U n w h
  simpa only [takeE, takeC, wrap64_id (x := L - C) (by omega) (by omega), if_neg (show ¬ n < 0 by omega), if_pos h1] using this
theorem us_ok (h0 : 0 ≤ n) (h1 : n ≤ C - U) :
    Calls Try.prog 22 #[.pointer (some ⟨g, 0, none⟩), .int .i64 n] w fun e w' => e = .returned (.int .i64 0) ∧ IsT w' g true W L C (U + n) ∧ Only w w' g := by
  obtain ⟨a, b, c, d, e, f⟩ := hs
  have := used_any g W L C U n w h
  simpa only [usedE, usedU, wrap64_id (x := C - U) (by omega) (by omega), wrap64_id (x := U + n) (by omega) (by omega), if_neg (show ¬ n < 0 by omega), if_neg (show ¬ C - U < n by omega)] using this
omit h in
theorem updB_is (h0 : 0 < W) : updB W L U = decide (W ≤ 2 * (U + W - L)) := by
  obtain ⟨a, b, c, d, e, f⟩ := hs
  unfold updB
  rw [if_pos h0, wrap64_id (x := U + W) (by omega) (by omega), wrap64_id (x := U + W - L) (by omega) (by omega), wrap64_id (x := 2 * (U + W - L)) (by omega) (by omega)]
theorem up_yes (h0 : 0 < W) (h1 : W ≤ 2 * (U + W - L)) :
    Calls Try.prog 24 #[.pointer (some ⟨g, 0, none⟩)] w fun e w' => e = .returned (.tuple #[.int .i64 (U + W), .bool true]) ∧ IsT w' g true W (U + W) C U ∧ Only w w' g := by
  have hb : updB W L U = true := by rw [updB_is W L C U hs h0]; simpa using h1
  obtain ⟨a, b, c, d, e, f⟩ := hs
  have := upd_any g W L C U w h a
  simpa only [updX, updL, hb, if_true, wrap64_id (x := U + W) (by omega) (by omega)] using this
theorem up_no (h0 : 0 < W) (h1 : 2 * (U + W - L) < W) :
    Calls Try.prog 24 #[.pointer (some ⟨g, 0, none⟩)] w fun e w' => e = .returned (.tuple #[.int .i64 0, .bool false]) ∧ IsT w' g true W L C U ∧ Only w w' g := by
  have hb : updB W L U = false := by rw [updB_is W L C U hs h0]; simpa using h1
  obtain ⟨a, b, c, d, e, f⟩ := hs
  have := upd_any g W L C U w h a
  simpa [updX, updL, hb] using this
end
end Go.Proofs.Ytkjgdaehfpoleaa

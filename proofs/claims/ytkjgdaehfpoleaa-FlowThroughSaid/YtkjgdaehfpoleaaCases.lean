/- The contracts of Give's methods, case by case. -/
import Derived.Test.YtkjgdaehfpoleaaGive
namespace Go.Proofs.Ytkjgdaehfpoleaa
open Go.RowKit

section
variable (g : Nat) (L S T n : Int) (w : World) (h : IsG w g true L S T)
include h
theorem blocked_less (ho : Gok L S T) (hc : S < L) :
    Calls Try.prog 15 #[.pointer (some ⟨g, 0, none⟩)] w fun e w' => e = .returned (.tuple #[.int .i64 0, .bool false]) ∧ IsG w' g true L S T ∧ Only w w' g := by
  have := blocked_any g L S T w h ho
  simpa only [blkX, blkB, blkT, if_pos hc] using this
theorem blocked_told (ho : Gok L S T) (hc : ¬ S < L) (ht : T = L + 1) :
    Calls Try.prog 15 #[.pointer (some ⟨g, 0, none⟩)] w fun e w' => e = .returned (.tuple #[.int .i64 0, .bool false]) ∧ IsG w' g true L S T ∧ Only w w' g := by
  have := blocked_any g L S T w h ho
  simpa only [blkX, blkB, blkT, if_neg hc, if_pos ht] using this
theorem blocked_new (ho : Gok L S T) (hc : ¬ S < L) (ht : T ≠ L + 1) :
    Calls Try.prog 15 #[.pointer (some ⟨g, 0, none⟩)] w fun e w' => e = .returned (.tuple #[.int .i64 L, .bool true]) ∧ IsG w' g true L S (L + 1) ∧ Only w w' g := by
  have := blocked_any g L S T w h ho
  simpa only [blkX, blkB, blkT, if_neg hc, if_neg ht] using this
theorem spend_ok (ho : Gok L S T) (h0 : ¬ n < 0) (h1 : ¬ L - S < n) :
    Calls Try.prog 13 #[.pointer (some ⟨g, 0, none⟩), .int .i64 n] w fun e w' => e = .returned (.int .i64 0) ∧ IsG w' g true L (S + n) T ∧ Only w w' g := by
  have := spend_any g L S T n w h ho
  simpa only [spendE, spendS, if_neg h0, if_neg h1] using this
theorem spend_flow (ho : Gok L S T) (h0 : ¬ n < 0) (h1 : L - S < n) :
    Calls Try.prog 13 #[.pointer (some ⟨g, 0, none⟩), .int .i64 n] w fun e w' => e = .returned (.int .i64 30) ∧ IsG w' g true L S T ∧ Only w w' g := by
  have := spend_any g L S T n w h ho
  simpa only [spendE, spendS, if_neg h0, if_pos h1] using this
theorem raise_up (hl : lie n) (hn : L ≤ n) :
    Calls Try.prog 11 #[.pointer (some ⟨g, 0, none⟩), .int .i64 n] w fun e w' => e = .returned (.int .i64 0) ∧ IsG w' g true n S T ∧ Only w w' g := by
  have := raise_any g L S T n w h
  simpa only [raiseE, raiseL, if_pos hl, show max L n = n by omega] using this
theorem raise_stay (hl : lie n) (hn : n ≤ L) :
    Calls Try.prog 11 #[.pointer (some ⟨g, 0, none⟩), .int .i64 n] w fun e w' => e = .returned (.int .i64 0) ∧ IsG w' g true L S T ∧ Only w w' g := by
  have := raise_any g L S T n w h
  simpa only [raiseE, raiseL, if_pos hl, show max L n = L by omega] using this
end
end Go.Proofs.Ytkjgdaehfpoleaa

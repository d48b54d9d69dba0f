/- What a list of acts that came in reads as. -/
import Derived.Test.YtkjgdaehfpoleaaBase
namespace Go.Proofs.Ytkjgdaehfpoleaa

/-- One act. -/
structure Act where
  kind : Int
  num : Int
deriving Inhabited

/-- The list of acts that came in: n of them at A. -/
def IsActs (w : World) (A : Option Addr) (n : Nat) (f : Nat → Act) : Prop :=
  n * 16 ≤ 140737488351232 ∧ (n = 0 ∨ ∃ b off, A = some ⟨b, off, none⟩ ∧ b < w.heap.size ∧ ∀ i, i < n →
    (w.cell? ⟨b, off + i * 2, none⟩ = some (.int .i64 (f i).kind) ∧ w.cell? ⟨b, off + i * 2 + 1, none⟩ = some (.int .i64 (f i).num)) ∧ (-9223372036854775808 ≤ (f i).kind ∧ (f i).kind ≤ 9223372036854775807) ∧ (-9223372036854775808 ≤ (f i).num ∧ (f i).num ≤ 9223372036854775807))
end Go.Proofs.Ytkjgdaehfpoleaa

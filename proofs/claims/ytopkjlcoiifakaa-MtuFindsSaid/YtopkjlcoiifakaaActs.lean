/- What a list of acts that came in reads as. -/
import Derived.Test.YtopkjlcoiifakaaBase
namespace Go.Proofs.Ytopkjlcoiifakaa

/-- One act. -/
structure Act where
  kind : Int
  size : Int
  odd : Bool
deriving Inhabited

/-- The list of acts that came in: n of them at A. -/
def IsActs (w : World) (A : Option Addr) (n : Nat) (f : Nat → Act) : Prop :=
  n * 24 ≤ 140737488351232 ∧ (n = 0 ∨ ∃ b off, A = some ⟨b, off, none⟩ ∧ b < w.heap.size ∧ ∀ i, i < n →
    (w.cell? ⟨b, off + i * 3, none⟩ = some (.int .i64 (f i).kind) ∧ w.cell? ⟨b, off + i * 3 + 1, none⟩ = some (.int .i64 (f i).size) ∧ w.cell? ⟨b, off + i * 3 + 2, none⟩ = some (.bool (f i).odd)) ∧ (-9223372036854775808 ≤ (f i).kind ∧ (f i).kind ≤ 9223372036854775807) ∧ (-9223372036854775808 ≤ (f i).size ∧ (f i).size ≤ 9223372036854775807))
end Go.Proofs.Ytopkjlcoiifakaa

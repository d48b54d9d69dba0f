/- What a list of acts that came in reads as. -/
import Derived.Test.YtmlhebbklccegaaBase
namespace Go.Proofs.Ytmlhebbklccegaa

/-- One act. -/
structure Act where
  took : Int
  waited : Int
  known : Bool
deriving Inhabited

/-- The list of acts that came in: n of them at A. -/
def IsActs (w : World) (A : Option Addr) (n : Nat) (f : Nat → Act) : Prop :=
  n * 24 ≤ 140737488351232 ∧ (n = 0 ∨ ∃ b off, A = some ⟨b, off, none⟩ ∧ b < w.heap.size ∧ ∀ i, i < n →
    (w.cell? ⟨b, off + i * 3, none⟩ = some (.int .i64 (f i).took) ∧ w.cell? ⟨b, off + i * 3 + 1, none⟩ = some (.int .i64 (f i).waited) ∧ w.cell? ⟨b, off + i * 3 + 2, none⟩ = some (.bool (f i).known)) ∧ (-9223372036854775808 ≤ (f i).took ∧ (f i).took ≤ 9223372036854775807) ∧ (-9223372036854775808 ≤ (f i).waited ∧ (f i).waited ≤ 9223372036854775807))
end Go.Proofs.Ytmlhebbklccegaa

/- What a list of acts that came in reads as. -/
import Derived.Test.YtpammbkhomcjmaaBase
namespace Go.Proofs.Ytpammbkhomcjmaa

/-- One act. -/
structure Act where
  kind : Int
  marked : Int
  counts0 : Int
  counts1 : Int
  counts2 : Int
  says : Bool
deriving Inhabited

/-- The list of acts that came in: n of them at A. -/
def IsActs (w : World) (A : Option Addr) (n : Nat) (f : Nat → Act) : Prop :=
  n * 48 ≤ 140737488351232 ∧ (n = 0 ∨ ∃ b off, A = some ⟨b, off, none⟩ ∧ b < w.heap.size ∧ ∀ i, i < n →
    (w.cell? ⟨b, off + i * 6, none⟩ = some (.int .i64 (f i).kind) ∧ w.cell? ⟨b, off + i * 6 + 1, none⟩ = some (.int .i64 (f i).marked) ∧ w.cell? ⟨b, off + i * 6 + 2, none⟩ = some (.int .i64 (f i).counts0) ∧ w.cell? ⟨b, off + i * 6 + 3, none⟩ = some (.int .i64 (f i).counts1) ∧ w.cell? ⟨b, off + i * 6 + 4, none⟩ = some (.int .i64 (f i).counts2) ∧ w.cell? ⟨b, off + i * 6 + 5, none⟩ = some (.bool (f i).says)) ∧ (-9223372036854775808 ≤ (f i).kind ∧ (f i).kind ≤ 9223372036854775807) ∧ (-9223372036854775808 ≤ (f i).marked ∧ (f i).marked ≤ 9223372036854775807) ∧ (-9223372036854775808 ≤ (f i).counts0 ∧ (f i).counts0 ≤ 9223372036854775807) ∧ (-9223372036854775808 ≤ (f i).counts1 ∧ (f i).counts1 ≤ 9223372036854775807) ∧ (-9223372036854775808 ≤ (f i).counts2 ∧ (f i).counts2 ≤ 9223372036854775807))
end Go.Proofs.Ytpammbkhomcjmaa

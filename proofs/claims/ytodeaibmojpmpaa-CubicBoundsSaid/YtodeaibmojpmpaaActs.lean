/- What a list of acts that came in reads as. -/
import Derived.Test.YtodeaibmojpmpaaBase
namespace Go.Proofs.Ytodeaibmojpmpaa

/-- One act. -/
structure Act where
  kind : Int
  bytes : Int
  sent : Int
  now : Int
  rtt : Int
  full : Bool
deriving Inhabited

/-- The list of acts that came in: n of them at A. -/
def IsActs (w : World) (A : Option Addr) (n : Nat) (f : Nat → Act) : Prop :=
  n * 48 ≤ 140737488351232 ∧ (n = 0 ∨ ∃ b off, A = some ⟨b, off, none⟩ ∧ b < w.heap.size ∧ ∀ i, i < n →
    (w.cell? ⟨b, off + i * 6, none⟩ = some (.int .i64 (f i).kind) ∧ w.cell? ⟨b, off + i * 6 + 1, none⟩ = some (.int .i64 (f i).bytes) ∧ w.cell? ⟨b, off + i * 6 + 2, none⟩ = some (.int .i64 (f i).sent) ∧ w.cell? ⟨b, off + i * 6 + 3, none⟩ = some (.int .i64 (f i).now) ∧ w.cell? ⟨b, off + i * 6 + 4, none⟩ = some (.int .i64 (f i).rtt) ∧ w.cell? ⟨b, off + i * 6 + 5, none⟩ = some (.bool (f i).full)) ∧ (-9223372036854775808 ≤ (f i).kind ∧ (f i).kind ≤ 9223372036854775807) ∧ (-9223372036854775808 ≤ (f i).bytes ∧ (f i).bytes ≤ 9223372036854775807) ∧ (-9223372036854775808 ≤ (f i).sent ∧ (f i).sent ≤ 9223372036854775807) ∧ (-9223372036854775808 ≤ (f i).now ∧ (f i).now ≤ 9223372036854775807) ∧ (-9223372036854775808 ≤ (f i).rtt ∧ (f i).rtt ≤ 9223372036854775807))
end Go.Proofs.Ytodeaibmojpmpaa

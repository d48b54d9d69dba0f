/- What a world keeps of a state, by its name. -/
import Derived.Test.YtpammbkhomcjmaaAll
namespace Go.Proofs.Ytpammbkhomcjmaa
open Go.RowKit
section
variable {t : TypeId} {w w' : World} {g k : Nat} {s : St}
theorem IsS.cells (h : IsS t w g s) : w.cell? ⟨g, 0, none⟩ = some (.int .i64 s.st) := (IsE.all h).1.1
theorem IsS.drew (h : IsS t w g s) : IsS t w.drew g s := h
theorem IsS.drewN (h : IsS t w g s) (n : Nat) : IsS t (w.drewN n) g s := h
theorem IsS.alloc (h : IsS t w g s) (o : Obj) : IsS t (w.alloc o) g s := IsE.alloc h o
theorem IsS.lt (h : IsS t w g s) : g < w.heap.size := IsE.lt h
theorem IsS.only (h : IsS t w g s) (hb : Only w w' k) (hg : g ≠ k) : IsS t w' g s := IsE.only h hb hg
theorem IsS.below (h : IsS t w g s) (hb : Below w.heap.size w w') : IsS t w' g s := IsE.below h hb h.lt
end
end Go.Proofs.Ytpammbkhomcjmaa

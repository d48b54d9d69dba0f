/- The states of layer 14: blocks whose cells are known. -/
import Derived.Test.YtmlhebbklccegaaBase
namespace Go.Proofs.Ytmlhebbklccegaa
open Go.RowKit

/-- Block g holds a state of type 26. -/
def IsQ (w : World) (g : Nat) (x0 : Bool) (x1 : Int) (x2 : Bool) (x3 : Int) (x4 : Int) (x5 : Int) (x6 : Int) : Prop := Bk w g 26 #[.bool x0, .int .i64 x1, .bool x2, .int .i64 x3, .int .i64 x4, .int .i64 x5, .int .i64 x6]
section
variable {w w' : World} {g k : Nat} {x0 : Bool} {x1 : Int} {x2 : Bool} {x3 : Int} {x4 : Int} {x5 : Int} {x6 : Int}
theorem IsQ.all (h : IsQ w g x0 x1 x2 x3 x4 x5 x6) : (w.cell? ⟨g, 0, none⟩ = some (.bool x0) ∧ w.cell? ⟨g, 1, none⟩ = some (.int .i64 x1) ∧ w.cell? ⟨g, 2, none⟩ = some (.bool x2) ∧ w.cell? ⟨g, 3, none⟩ = some (.int .i64 x3) ∧ w.cell? ⟨g, 4, none⟩ = some (.int .i64 x4) ∧ w.cell? ⟨g, 5, none⟩ = some (.int .i64 x5) ∧ w.cell? ⟨g, 6, none⟩ = some (.int .i64 x6)) ∧ w.frozen? ⟨g, 0, none⟩ = false ∧ w.frozen? ⟨g, 1, none⟩ = false ∧ w.frozen? ⟨g, 2, none⟩ = false ∧ w.frozen? ⟨g, 3, none⟩ = false ∧ w.frozen? ⟨g, 4, none⟩ = false ∧ w.frozen? ⟨g, 5, none⟩ = false ∧ w.frozen? ⟨g, 6, none⟩ = false :=
  ⟨⟨Bk.cell h 0, Bk.cell h 1, Bk.cell h 2, Bk.cell h 3, Bk.cell h 4, Bk.cell h 5, Bk.cell h 6⟩, Bk.frozen h 0, Bk.frozen h 1, Bk.frozen h 2, Bk.frozen h 3, Bk.frozen h 4, Bk.frozen h 5, Bk.frozen h 6⟩
theorem IsQ.set0 (h : IsQ w g x0 x1 x2 x3 x4 x5 x6) (y : Bool) : IsQ (w.setCell ⟨g, 0, none⟩ (.bool y)) g y x1 x2 x3 x4 x5 x6 := Bk.at_ h 0 _
theorem IsQ.set1 (h : IsQ w g x0 x1 x2 x3 x4 x5 x6) (y : Int) : IsQ (w.setCell ⟨g, 1, none⟩ (.int .i64 y)) g x0 y x2 x3 x4 x5 x6 := Bk.at_ h 1 _
theorem IsQ.set2 (h : IsQ w g x0 x1 x2 x3 x4 x5 x6) (y : Bool) : IsQ (w.setCell ⟨g, 2, none⟩ (.bool y)) g x0 x1 y x3 x4 x5 x6 := Bk.at_ h 2 _
theorem IsQ.set3 (h : IsQ w g x0 x1 x2 x3 x4 x5 x6) (y : Int) : IsQ (w.setCell ⟨g, 3, none⟩ (.int .i64 y)) g x0 x1 x2 y x4 x5 x6 := Bk.at_ h 3 _
theorem IsQ.set4 (h : IsQ w g x0 x1 x2 x3 x4 x5 x6) (y : Int) : IsQ (w.setCell ⟨g, 4, none⟩ (.int .i64 y)) g x0 x1 x2 x3 y x5 x6 := Bk.at_ h 4 _
theorem IsQ.set5 (h : IsQ w g x0 x1 x2 x3 x4 x5 x6) (y : Int) : IsQ (w.setCell ⟨g, 5, none⟩ (.int .i64 y)) g x0 x1 x2 x3 x4 y x6 := Bk.at_ h 5 _
theorem IsQ.set6 (h : IsQ w g x0 x1 x2 x3 x4 x5 x6) (y : Int) : IsQ (w.setCell ⟨g, 6, none⟩ (.int .i64 y)) g x0 x1 x2 x3 x4 x5 y := Bk.at_ h 6 _
theorem IsQ.drew (h : IsQ w g x0 x1 x2 x3 x4 x5 x6) : IsQ w.drew g x0 x1 x2 x3 x4 x5 x6 := h
theorem IsQ.drewN (h : IsQ w g x0 x1 x2 x3 x4 x5 x6) (n : Nat) : IsQ (w.drewN n) g x0 x1 x2 x3 x4 x5 x6 := h
theorem IsQ.alloc (h : IsQ w g x0 x1 x2 x3 x4 x5 x6) (o : Obj) : IsQ (w.alloc o) g x0 x1 x2 x3 x4 x5 x6 := Bk.alloc h o
theorem IsQ.lt (h : IsQ w g x0 x1 x2 x3 x4 x5 x6) : g < w.heap.size := Bk.lt h
theorem IsQ.below {B : Nat} (h : IsQ w g x0 x1 x2 x3 x4 x5 x6) (hb : Below B w w') (hg : g < B) : IsQ w' g x0 x1 x2 x3 x4 x5 x6 := Bk.below h hb hg
theorem IsQ.only (h : IsQ w g x0 x1 x2 x3 x4 x5 x6) (hb : Only w w' k) (hg : g ≠ k) : IsQ w' g x0 x1 x2 x3 x4 x5 x6 := Bk.only h hb hg
theorem IsQ.far (h : IsQ w g x0 x1 x2 x3 x4 x5 x6) {p : Addr} (hp : g ≠ p.block) (u : Value) : IsQ (w.setCell p u) g x0 x1 x2 x3 x4 x5 x6 := Bk.far h hp u
theorem IsQ.new (w : World) (x0 : Bool) (x1 : Int) (x2 : Bool) (x3 : Int) (x4 : Int) (x5 : Int) (x6 : Int) : IsQ (w.alloc (.cells #[.bool x0, .int .i64 x1, .bool x2, .int .i64 x3, .int .i64 x4, .int .i64 x5, .int .i64 x6] 26)) w.heap.size x0 x1 x2 x3 x4 x5 x6 := Bk.new w _ _
end

/-- Block g holds a state of type 45. -/
def IsR (w : World) (g : Nat) (x0 : Int) (x1 : Bool) (x2 : Int) (x3 : Int) (x4 : Int) (x5 : Int) : Prop := Bk w g 45 #[.int .i64 x0, .bool x1, .int .i64 x2, .int .i64 x3, .int .i64 x4, .int .i64 x5]
section
variable {w w' : World} {g k : Nat} {x0 : Int} {x1 : Bool} {x2 : Int} {x3 : Int} {x4 : Int} {x5 : Int}
theorem IsR.all (h : IsR w g x0 x1 x2 x3 x4 x5) : (w.cell? ⟨g, 0, none⟩ = some (.int .i64 x0) ∧ w.cell? ⟨g, 1, none⟩ = some (.bool x1) ∧ w.cell? ⟨g, 2, none⟩ = some (.int .i64 x2) ∧ w.cell? ⟨g, 3, none⟩ = some (.int .i64 x3) ∧ w.cell? ⟨g, 4, none⟩ = some (.int .i64 x4) ∧ w.cell? ⟨g, 5, none⟩ = some (.int .i64 x5)) ∧ w.frozen? ⟨g, 0, none⟩ = false ∧ w.frozen? ⟨g, 1, none⟩ = false ∧ w.frozen? ⟨g, 2, none⟩ = false ∧ w.frozen? ⟨g, 3, none⟩ = false ∧ w.frozen? ⟨g, 4, none⟩ = false ∧ w.frozen? ⟨g, 5, none⟩ = false :=
  ⟨⟨Bk.cell h 0, Bk.cell h 1, Bk.cell h 2, Bk.cell h 3, Bk.cell h 4, Bk.cell h 5⟩, Bk.frozen h 0, Bk.frozen h 1, Bk.frozen h 2, Bk.frozen h 3, Bk.frozen h 4, Bk.frozen h 5⟩
theorem IsR.set0 (h : IsR w g x0 x1 x2 x3 x4 x5) (y : Int) : IsR (w.setCell ⟨g, 0, none⟩ (.int .i64 y)) g y x1 x2 x3 x4 x5 := Bk.at_ h 0 _
theorem IsR.set1 (h : IsR w g x0 x1 x2 x3 x4 x5) (y : Bool) : IsR (w.setCell ⟨g, 1, none⟩ (.bool y)) g x0 y x2 x3 x4 x5 := Bk.at_ h 1 _
theorem IsR.set2 (h : IsR w g x0 x1 x2 x3 x4 x5) (y : Int) : IsR (w.setCell ⟨g, 2, none⟩ (.int .i64 y)) g x0 x1 y x3 x4 x5 := Bk.at_ h 2 _
theorem IsR.set3 (h : IsR w g x0 x1 x2 x3 x4 x5) (y : Int) : IsR (w.setCell ⟨g, 3, none⟩ (.int .i64 y)) g x0 x1 x2 y x4 x5 := Bk.at_ h 3 _
theorem IsR.set4 (h : IsR w g x0 x1 x2 x3 x4 x5) (y : Int) : IsR (w.setCell ⟨g, 4, none⟩ (.int .i64 y)) g x0 x1 x2 x3 y x5 := Bk.at_ h 4 _
theorem IsR.set5 (h : IsR w g x0 x1 x2 x3 x4 x5) (y : Int) : IsR (w.setCell ⟨g, 5, none⟩ (.int .i64 y)) g x0 x1 x2 x3 x4 y := Bk.at_ h 5 _
theorem IsR.drew (h : IsR w g x0 x1 x2 x3 x4 x5) : IsR w.drew g x0 x1 x2 x3 x4 x5 := h
theorem IsR.drewN (h : IsR w g x0 x1 x2 x3 x4 x5) (n : Nat) : IsR (w.drewN n) g x0 x1 x2 x3 x4 x5 := h
theorem IsR.alloc (h : IsR w g x0 x1 x2 x3 x4 x5) (o : Obj) : IsR (w.alloc o) g x0 x1 x2 x3 x4 x5 := Bk.alloc h o
theorem IsR.lt (h : IsR w g x0 x1 x2 x3 x4 x5) : g < w.heap.size := Bk.lt h
theorem IsR.below {B : Nat} (h : IsR w g x0 x1 x2 x3 x4 x5) (hb : Below B w w') (hg : g < B) : IsR w' g x0 x1 x2 x3 x4 x5 := Bk.below h hb hg
theorem IsR.only (h : IsR w g x0 x1 x2 x3 x4 x5) (hb : Only w w' k) (hg : g ≠ k) : IsR w' g x0 x1 x2 x3 x4 x5 := Bk.only h hb hg
theorem IsR.far (h : IsR w g x0 x1 x2 x3 x4 x5) {p : Addr} (hp : g ≠ p.block) (u : Value) : IsR (w.setCell p u) g x0 x1 x2 x3 x4 x5 := Bk.far h hp u
theorem IsR.new (w : World) (x0 : Int) (x1 : Bool) (x2 : Int) (x3 : Int) (x4 : Int) (x5 : Int) : IsR (w.alloc (.cells #[.int .i64 x0, .bool x1, .int .i64 x2, .int .i64 x3, .int .i64 x4, .int .i64 x5] 45)) w.heap.size x0 x1 x2 x3 x4 x5 := Bk.new w _ _
end
end Go.Proofs.Ytmlhebbklccegaa

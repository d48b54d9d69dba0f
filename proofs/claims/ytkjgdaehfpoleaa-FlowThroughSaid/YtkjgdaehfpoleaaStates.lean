/- The states of layer 20: blocks whose cells are known. -/
import Derived.Test.YtkjgdaehfpoleaaBase
namespace Go.Proofs.Ytkjgdaehfpoleaa
open Go.RowKit

/-- Block g holds a state of type 55. -/
def IsG (w : World) (g : Nat) (x0 : Bool) (x1 : Int) (x2 : Int) (x3 : Int) : Prop := Bk w g 55 #[.bool x0, .int .i64 x1, .int .i64 x2, .int .i64 x3]
section
variable {w w' : World} {g k : Nat} {x0 : Bool} {x1 : Int} {x2 : Int} {x3 : Int}
theorem IsG.all (h : IsG w g x0 x1 x2 x3) : (w.cell? ⟨g, 0, none⟩ = some (.bool x0) ∧ w.cell? ⟨g, 1, none⟩ = some (.int .i64 x1) ∧ w.cell? ⟨g, 2, none⟩ = some (.int .i64 x2) ∧ w.cell? ⟨g, 3, none⟩ = some (.int .i64 x3)) ∧ w.frozen? ⟨g, 0, none⟩ = false ∧ w.frozen? ⟨g, 1, none⟩ = false ∧ w.frozen? ⟨g, 2, none⟩ = false ∧ w.frozen? ⟨g, 3, none⟩ = false :=
  ⟨⟨Bk.cell h 0, Bk.cell h 1, Bk.cell h 2, Bk.cell h 3⟩, Bk.frozen h 0, Bk.frozen h 1, Bk.frozen h 2, Bk.frozen h 3⟩
theorem IsG.set0 (h : IsG w g x0 x1 x2 x3) (y : Bool) : IsG (w.setCell ⟨g, 0, none⟩ (.bool y)) g y x1 x2 x3 := Bk.at_ h 0 _
theorem IsG.set1 (h : IsG w g x0 x1 x2 x3) (y : Int) : IsG (w.setCell ⟨g, 1, none⟩ (.int .i64 y)) g x0 y x2 x3 := Bk.at_ h 1 _
theorem IsG.set2 (h : IsG w g x0 x1 x2 x3) (y : Int) : IsG (w.setCell ⟨g, 2, none⟩ (.int .i64 y)) g x0 x1 y x3 := Bk.at_ h 2 _
theorem IsG.set3 (h : IsG w g x0 x1 x2 x3) (y : Int) : IsG (w.setCell ⟨g, 3, none⟩ (.int .i64 y)) g x0 x1 x2 y := Bk.at_ h 3 _
theorem IsG.drew (h : IsG w g x0 x1 x2 x3) : IsG w.drew g x0 x1 x2 x3 := h
theorem IsG.drewN (h : IsG w g x0 x1 x2 x3) (n : Nat) : IsG (w.drewN n) g x0 x1 x2 x3 := h
theorem IsG.alloc (h : IsG w g x0 x1 x2 x3) (o : Obj) : IsG (w.alloc o) g x0 x1 x2 x3 := Bk.alloc h o
theorem IsG.lt (h : IsG w g x0 x1 x2 x3) : g < w.heap.size := Bk.lt h
theorem IsG.below {B : Nat} (h : IsG w g x0 x1 x2 x3) (hb : Below B w w') (hg : g < B) : IsG w' g x0 x1 x2 x3 := Bk.below h hb hg
theorem IsG.only (h : IsG w g x0 x1 x2 x3) (hb : Only w w' k) (hg : g ≠ k) : IsG w' g x0 x1 x2 x3 := Bk.only h hb hg
theorem IsG.far (h : IsG w g x0 x1 x2 x3) {p : Addr} (hp : g ≠ p.block) (u : Value) : IsG (w.setCell p u) g x0 x1 x2 x3 := Bk.far h hp u
theorem IsG.new (w : World) (x0 : Bool) (x1 : Int) (x2 : Int) (x3 : Int) : IsG (w.alloc (.cells #[.bool x0, .int .i64 x1, .int .i64 x2, .int .i64 x3] 55)) w.heap.size x0 x1 x2 x3 := Bk.new w _ _
end

/-- Block g holds a state of type 58. -/
def IsT (w : World) (g : Nat) (x0 : Bool) (x1 : Int) (x2 : Int) (x3 : Int) (x4 : Int) : Prop := Bk w g 58 #[.bool x0, .int .i64 x1, .int .i64 x2, .int .i64 x3, .int .i64 x4]
section
variable {w w' : World} {g k : Nat} {x0 : Bool} {x1 : Int} {x2 : Int} {x3 : Int} {x4 : Int}
theorem IsT.all (h : IsT w g x0 x1 x2 x3 x4) : (w.cell? ⟨g, 0, none⟩ = some (.bool x0) ∧ w.cell? ⟨g, 1, none⟩ = some (.int .i64 x1) ∧ w.cell? ⟨g, 2, none⟩ = some (.int .i64 x2) ∧ w.cell? ⟨g, 3, none⟩ = some (.int .i64 x3) ∧ w.cell? ⟨g, 4, none⟩ = some (.int .i64 x4)) ∧ w.frozen? ⟨g, 0, none⟩ = false ∧ w.frozen? ⟨g, 1, none⟩ = false ∧ w.frozen? ⟨g, 2, none⟩ = false ∧ w.frozen? ⟨g, 3, none⟩ = false ∧ w.frozen? ⟨g, 4, none⟩ = false :=
  ⟨⟨Bk.cell h 0, Bk.cell h 1, Bk.cell h 2, Bk.cell h 3, Bk.cell h 4⟩, Bk.frozen h 0, Bk.frozen h 1, Bk.frozen h 2, Bk.frozen h 3, Bk.frozen h 4⟩
theorem IsT.set0 (h : IsT w g x0 x1 x2 x3 x4) (y : Bool) : IsT (w.setCell ⟨g, 0, none⟩ (.bool y)) g y x1 x2 x3 x4 := Bk.at_ h 0 _
theorem IsT.set1 (h : IsT w g x0 x1 x2 x3 x4) (y : Int) : IsT (w.setCell ⟨g, 1, none⟩ (.int .i64 y)) g x0 y x2 x3 x4 := Bk.at_ h 1 _
theorem IsT.set2 (h : IsT w g x0 x1 x2 x3 x4) (y : Int) : IsT (w.setCell ⟨g, 2, none⟩ (.int .i64 y)) g x0 x1 y x3 x4 := Bk.at_ h 2 _
theorem IsT.set3 (h : IsT w g x0 x1 x2 x3 x4) (y : Int) : IsT (w.setCell ⟨g, 3, none⟩ (.int .i64 y)) g x0 x1 x2 y x4 := Bk.at_ h 3 _
theorem IsT.set4 (h : IsT w g x0 x1 x2 x3 x4) (y : Int) : IsT (w.setCell ⟨g, 4, none⟩ (.int .i64 y)) g x0 x1 x2 x3 y := Bk.at_ h 4 _
theorem IsT.drew (h : IsT w g x0 x1 x2 x3 x4) : IsT w.drew g x0 x1 x2 x3 x4 := h
theorem IsT.drewN (h : IsT w g x0 x1 x2 x3 x4) (n : Nat) : IsT (w.drewN n) g x0 x1 x2 x3 x4 := h
theorem IsT.alloc (h : IsT w g x0 x1 x2 x3 x4) (o : Obj) : IsT (w.alloc o) g x0 x1 x2 x3 x4 := Bk.alloc h o
theorem IsT.lt (h : IsT w g x0 x1 x2 x3 x4) : g < w.heap.size := Bk.lt h
theorem IsT.below {B : Nat} (h : IsT w g x0 x1 x2 x3 x4) (hb : Below B w w') (hg : g < B) : IsT w' g x0 x1 x2 x3 x4 := Bk.below h hb hg
theorem IsT.only (h : IsT w g x0 x1 x2 x3 x4) (hb : Only w w' k) (hg : g ≠ k) : IsT w' g x0 x1 x2 x3 x4 := Bk.only h hb hg
theorem IsT.far (h : IsT w g x0 x1 x2 x3 x4) {p : Addr} (hp : g ≠ p.block) (u : Value) : IsT (w.setCell p u) g x0 x1 x2 x3 x4 := Bk.far h hp u
theorem IsT.new (w : World) (x0 : Bool) (x1 : Int) (x2 : Int) (x3 : Int) (x4 : Int) : IsT (w.alloc (.cells #[.bool x0, .int .i64 x1, .int .i64 x2, .int .i64 x3, .int .i64 x4] 58)) w.heap.size x0 x1 x2 x3 x4 := Bk.new w _ _
end

/-- Block g holds a state of type 40. -/
def IsRG (w : World) (g : Nat) (x0 : Int) (x1 : Int) (x2 : Int) : Prop := Bk w g 40 #[.int .i64 x0, .int .i64 x1, .int .i64 x2]
section
variable {w w' : World} {g k : Nat} {x0 : Int} {x1 : Int} {x2 : Int}
theorem IsRG.all (h : IsRG w g x0 x1 x2) : (w.cell? ⟨g, 0, none⟩ = some (.int .i64 x0) ∧ w.cell? ⟨g, 1, none⟩ = some (.int .i64 x1) ∧ w.cell? ⟨g, 2, none⟩ = some (.int .i64 x2)) ∧ w.frozen? ⟨g, 0, none⟩ = false ∧ w.frozen? ⟨g, 1, none⟩ = false ∧ w.frozen? ⟨g, 2, none⟩ = false :=
  ⟨⟨Bk.cell h 0, Bk.cell h 1, Bk.cell h 2⟩, Bk.frozen h 0, Bk.frozen h 1, Bk.frozen h 2⟩
theorem IsRG.set0 (h : IsRG w g x0 x1 x2) (y : Int) : IsRG (w.setCell ⟨g, 0, none⟩ (.int .i64 y)) g y x1 x2 := Bk.at_ h 0 _
theorem IsRG.set1 (h : IsRG w g x0 x1 x2) (y : Int) : IsRG (w.setCell ⟨g, 1, none⟩ (.int .i64 y)) g x0 y x2 := Bk.at_ h 1 _
theorem IsRG.set2 (h : IsRG w g x0 x1 x2) (y : Int) : IsRG (w.setCell ⟨g, 2, none⟩ (.int .i64 y)) g x0 x1 y := Bk.at_ h 2 _
theorem IsRG.drew (h : IsRG w g x0 x1 x2) : IsRG w.drew g x0 x1 x2 := h
theorem IsRG.drewN (h : IsRG w g x0 x1 x2) (n : Nat) : IsRG (w.drewN n) g x0 x1 x2 := h
theorem IsRG.alloc (h : IsRG w g x0 x1 x2) (o : Obj) : IsRG (w.alloc o) g x0 x1 x2 := Bk.alloc h o
theorem IsRG.lt (h : IsRG w g x0 x1 x2) : g < w.heap.size := Bk.lt h
theorem IsRG.below {B : Nat} (h : IsRG w g x0 x1 x2) (hb : Below B w w') (hg : g < B) : IsRG w' g x0 x1 x2 := Bk.below h hb hg
theorem IsRG.only (h : IsRG w g x0 x1 x2) (hb : Only w w' k) (hg : g ≠ k) : IsRG w' g x0 x1 x2 := Bk.only h hb hg
theorem IsRG.far (h : IsRG w g x0 x1 x2) {p : Addr} (hp : g ≠ p.block) (u : Value) : IsRG (w.setCell p u) g x0 x1 x2 := Bk.far h hp u
theorem IsRG.new (w : World) (x0 : Int) (x1 : Int) (x2 : Int) : IsRG (w.alloc (.cells #[.int .i64 x0, .int .i64 x1, .int .i64 x2] 40)) w.heap.size x0 x1 x2 := Bk.new w _ _
end

/-- Block g holds a state of type 53. -/
def IsRT (w : World) (g : Nat) (x0 : Int) (x1 : Int) (x2 : Int) (x3 : Int) : Prop := Bk w g 53 #[.int .i64 x0, .int .i64 x1, .int .i64 x2, .int .i64 x3]
section
variable {w w' : World} {g k : Nat} {x0 : Int} {x1 : Int} {x2 : Int} {x3 : Int}
theorem IsRT.all (h : IsRT w g x0 x1 x2 x3) : (w.cell? ⟨g, 0, none⟩ = some (.int .i64 x0) ∧ w.cell? ⟨g, 1, none⟩ = some (.int .i64 x1) ∧ w.cell? ⟨g, 2, none⟩ = some (.int .i64 x2) ∧ w.cell? ⟨g, 3, none⟩ = some (.int .i64 x3)) ∧ w.frozen? ⟨g, 0, none⟩ = false ∧ w.frozen? ⟨g, 1, none⟩ = false ∧ w.frozen? ⟨g, 2, none⟩ = false ∧ w.frozen? ⟨g, 3, none⟩ = false :=
  ⟨⟨Bk.cell h 0, Bk.cell h 1, Bk.cell h 2, Bk.cell h 3⟩, Bk.frozen h 0, Bk.frozen h 1, Bk.frozen h 2, Bk.frozen h 3⟩
theorem IsRT.set0 (h : IsRT w g x0 x1 x2 x3) (y : Int) : IsRT (w.setCell ⟨g, 0, none⟩ (.int .i64 y)) g y x1 x2 x3 := Bk.at_ h 0 _
theorem IsRT.set1 (h : IsRT w g x0 x1 x2 x3) (y : Int) : IsRT (w.setCell ⟨g, 1, none⟩ (.int .i64 y)) g x0 y x2 x3 := Bk.at_ h 1 _
theorem IsRT.set2 (h : IsRT w g x0 x1 x2 x3) (y : Int) : IsRT (w.setCell ⟨g, 2, none⟩ (.int .i64 y)) g x0 x1 y x3 := Bk.at_ h 2 _
theorem IsRT.set3 (h : IsRT w g x0 x1 x2 x3) (y : Int) : IsRT (w.setCell ⟨g, 3, none⟩ (.int .i64 y)) g x0 x1 x2 y := Bk.at_ h 3 _
theorem IsRT.drew (h : IsRT w g x0 x1 x2 x3) : IsRT w.drew g x0 x1 x2 x3 := h
theorem IsRT.drewN (h : IsRT w g x0 x1 x2 x3) (n : Nat) : IsRT (w.drewN n) g x0 x1 x2 x3 := h
theorem IsRT.alloc (h : IsRT w g x0 x1 x2 x3) (o : Obj) : IsRT (w.alloc o) g x0 x1 x2 x3 := Bk.alloc h o
theorem IsRT.lt (h : IsRT w g x0 x1 x2 x3) : g < w.heap.size := Bk.lt h
theorem IsRT.below {B : Nat} (h : IsRT w g x0 x1 x2 x3) (hb : Below B w w') (hg : g < B) : IsRT w' g x0 x1 x2 x3 := Bk.below h hb hg
theorem IsRT.only (h : IsRT w g x0 x1 x2 x3) (hb : Only w w' k) (hg : g ≠ k) : IsRT w' g x0 x1 x2 x3 := Bk.only h hb hg
theorem IsRT.far (h : IsRT w g x0 x1 x2 x3) {p : Addr} (hp : g ≠ p.block) (u : Value) : IsRT (w.setCell p u) g x0 x1 x2 x3 := Bk.far h hp u
theorem IsRT.new (w : World) (x0 : Int) (x1 : Int) (x2 : Int) (x3 : Int) : IsRT (w.alloc (.cells #[.int .i64 x0, .int .i64 x1, .int .i64 x2, .int .i64 x3] 53)) w.heap.size x0 x1 x2 x3 := Bk.new w _ _
end
end Go.Proofs.Ytkjgdaehfpoleaa

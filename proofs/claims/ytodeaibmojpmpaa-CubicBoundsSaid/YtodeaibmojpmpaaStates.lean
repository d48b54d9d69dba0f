/- The states of layer 16: blocks whose cells are known; one predicate for both types. -/
import Derived.Test.YtodeaibmojpmpaaBase
namespace Go.Proofs.Ytodeaibmojpmpaa
open Go.RowKit

/-- Block g holds a state of type t. -/
def IsE (t : TypeId) (w : World) (g : Nat) (x0 : Int) (x1 : Int) (x2 : Int) (x3 : Int) (x4 : Int) (x5 : Int) (x6 : Int) (x7 : Int) (x8 : Int) : Prop := Bk w g t #[.int .i64 x0, .int .i64 x1, .int .i64 x2, .int .i64 x3, .int .i64 x4, .int .i64 x5, .int .i64 x6, .int .i64 x7, .int .i64 x8]
section
variable {t : TypeId} {w w' : World} {g k : Nat} {x0 : Int} {x1 : Int} {x2 : Int} {x3 : Int} {x4 : Int} {x5 : Int} {x6 : Int} {x7 : Int} {x8 : Int}
theorem IsE.all (h : IsE t w g x0 x1 x2 x3 x4 x5 x6 x7 x8) : (w.cell? ⟨g, 0, none⟩ = some (.int .i64 x0) ∧ w.cell? ⟨g, 1, none⟩ = some (.int .i64 x1) ∧ w.cell? ⟨g, 2, none⟩ = some (.int .i64 x2) ∧ w.cell? ⟨g, 3, none⟩ = some (.int .i64 x3) ∧ w.cell? ⟨g, 4, none⟩ = some (.int .i64 x4) ∧ w.cell? ⟨g, 5, none⟩ = some (.int .i64 x5) ∧ w.cell? ⟨g, 6, none⟩ = some (.int .i64 x6) ∧ w.cell? ⟨g, 7, none⟩ = some (.int .i64 x7) ∧ w.cell? ⟨g, 8, none⟩ = some (.int .i64 x8)) ∧ w.frozen? ⟨g, 0, none⟩ = false ∧ w.frozen? ⟨g, 1, none⟩ = false ∧ w.frozen? ⟨g, 2, none⟩ = false ∧ w.frozen? ⟨g, 3, none⟩ = false ∧ w.frozen? ⟨g, 4, none⟩ = false ∧ w.frozen? ⟨g, 5, none⟩ = false ∧ w.frozen? ⟨g, 6, none⟩ = false ∧ w.frozen? ⟨g, 7, none⟩ = false ∧ w.frozen? ⟨g, 8, none⟩ = false :=
  ⟨⟨Bk.cell h 0, Bk.cell h 1, Bk.cell h 2, Bk.cell h 3, Bk.cell h 4, Bk.cell h 5, Bk.cell h 6, Bk.cell h 7, Bk.cell h 8⟩, Bk.frozen h 0, Bk.frozen h 1, Bk.frozen h 2, Bk.frozen h 3, Bk.frozen h 4, Bk.frozen h 5, Bk.frozen h 6, Bk.frozen h 7, Bk.frozen h 8⟩
theorem IsE.set0 (h : IsE t w g x0 x1 x2 x3 x4 x5 x6 x7 x8) (y : Int) : IsE t (w.setCell ⟨g, 0, none⟩ (.int .i64 y)) g y x1 x2 x3 x4 x5 x6 x7 x8 := Bk.at_ h 0 _
theorem IsE.set1 (h : IsE t w g x0 x1 x2 x3 x4 x5 x6 x7 x8) (y : Int) : IsE t (w.setCell ⟨g, 1, none⟩ (.int .i64 y)) g x0 y x2 x3 x4 x5 x6 x7 x8 := Bk.at_ h 1 _
theorem IsE.set2 (h : IsE t w g x0 x1 x2 x3 x4 x5 x6 x7 x8) (y : Int) : IsE t (w.setCell ⟨g, 2, none⟩ (.int .i64 y)) g x0 x1 y x3 x4 x5 x6 x7 x8 := Bk.at_ h 2 _
theorem IsE.set3 (h : IsE t w g x0 x1 x2 x3 x4 x5 x6 x7 x8) (y : Int) : IsE t (w.setCell ⟨g, 3, none⟩ (.int .i64 y)) g x0 x1 x2 y x4 x5 x6 x7 x8 := Bk.at_ h 3 _
theorem IsE.set4 (h : IsE t w g x0 x1 x2 x3 x4 x5 x6 x7 x8) (y : Int) : IsE t (w.setCell ⟨g, 4, none⟩ (.int .i64 y)) g x0 x1 x2 x3 y x5 x6 x7 x8 := Bk.at_ h 4 _
theorem IsE.set5 (h : IsE t w g x0 x1 x2 x3 x4 x5 x6 x7 x8) (y : Int) : IsE t (w.setCell ⟨g, 5, none⟩ (.int .i64 y)) g x0 x1 x2 x3 x4 y x6 x7 x8 := Bk.at_ h 5 _
theorem IsE.set6 (h : IsE t w g x0 x1 x2 x3 x4 x5 x6 x7 x8) (y : Int) : IsE t (w.setCell ⟨g, 6, none⟩ (.int .i64 y)) g x0 x1 x2 x3 x4 x5 y x7 x8 := Bk.at_ h 6 _
theorem IsE.set7 (h : IsE t w g x0 x1 x2 x3 x4 x5 x6 x7 x8) (y : Int) : IsE t (w.setCell ⟨g, 7, none⟩ (.int .i64 y)) g x0 x1 x2 x3 x4 x5 x6 y x8 := Bk.at_ h 7 _
theorem IsE.set8 (h : IsE t w g x0 x1 x2 x3 x4 x5 x6 x7 x8) (y : Int) : IsE t (w.setCell ⟨g, 8, none⟩ (.int .i64 y)) g x0 x1 x2 x3 x4 x5 x6 x7 y := Bk.at_ h 8 _
theorem IsE.drew (h : IsE t w g x0 x1 x2 x3 x4 x5 x6 x7 x8) : IsE t w.drew g x0 x1 x2 x3 x4 x5 x6 x7 x8 := h
theorem IsE.drewN (h : IsE t w g x0 x1 x2 x3 x4 x5 x6 x7 x8) (n : Nat) : IsE t (w.drewN n) g x0 x1 x2 x3 x4 x5 x6 x7 x8 := h
theorem IsE.alloc (h : IsE t w g x0 x1 x2 x3 x4 x5 x6 x7 x8) (o : Obj) : IsE t (w.alloc o) g x0 x1 x2 x3 x4 x5 x6 x7 x8 := Bk.alloc h o
theorem IsE.lt (h : IsE t w g x0 x1 x2 x3 x4 x5 x6 x7 x8) : g < w.heap.size := Bk.lt h
theorem IsE.below {B : Nat} (h : IsE t w g x0 x1 x2 x3 x4 x5 x6 x7 x8) (hb : Below B w w') (hg : g < B) : IsE t w' g x0 x1 x2 x3 x4 x5 x6 x7 x8 := Bk.below h hb hg
theorem IsE.only (h : IsE t w g x0 x1 x2 x3 x4 x5 x6 x7 x8) (hb : Only w w' k) (hg : g ≠ k) : IsE t w' g x0 x1 x2 x3 x4 x5 x6 x7 x8 := Bk.only h hb hg
theorem IsE.far (h : IsE t w g x0 x1 x2 x3 x4 x5 x6 x7 x8) {p : Addr} (hp : g ≠ p.block) (u : Value) : IsE t (w.setCell p u) g x0 x1 x2 x3 x4 x5 x6 x7 x8 := Bk.far h hp u
theorem IsE.new (t : TypeId) (w : World) (x0 : Int) (x1 : Int) (x2 : Int) (x3 : Int) (x4 : Int) (x5 : Int) (x6 : Int) (x7 : Int) (x8 : Int) : IsE t (w.alloc (.cells #[.int .i64 x0, .int .i64 x1, .int .i64 x2, .int .i64 x3, .int .i64 x4, .int .i64 x5, .int .i64 x6, .int .i64 x7, .int .i64 x8] t)) w.heap.size x0 x1 x2 x3 x4 x5 x6 x7 x8 := Bk.new w _ _
end
end Go.Proofs.Ytodeaibmojpmpaa

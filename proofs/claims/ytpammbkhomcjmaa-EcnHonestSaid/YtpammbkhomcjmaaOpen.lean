/- That what came in reads so: the arguments opened to cells. -/
import Derived.Test.YtpammbkhomcjmaaRows
import Derived.Test.YtpammbkhomcjmaaActs
import Derived.WalkKit
import Derived.ProofKit
import Derived.OpenShut
import Derived.Deep.Slices
import Derived.Deep.Fields
import Derived.ChangeSame
namespace Go.Proofs.Ytpammbkhomcjmaa
open Go.ChangeShapes Go.WideShapes Go.ChangeAt Go.RowKit Go.Deep

theorem cells_int : Try.prog.cellsOf 3 = 1 := by kernel_rfl
theorem cells_bool : Try.prog.cellsOf 4 = 1 := by kernel_rfl
theorem cells_arr : Try.prog.cellsOf 25 = 3 := by kernel_rfl
theorem cells_act : Try.prog.cellsOf 33 = 6 := by kernel_rfl
section
variable {H : Type} {enc : TypeId × Value → H} {w : World} {base : Nat} {spare : Nat → Bool} {held : Bool}
theorem arr_at {fuel : Nat} {cs : List Value} {x : DataW H × List MemPlace} (h : DataW.trod enc Try.prog w base spare held fuel 25 cs = some x) :
    ∃ a b c : Int, cs = [.int .i64 a, .int .i64 b, .int .i64 c] ∧ (Lit.int .i64 a).wf = true ∧ (Lit.int .i64 b).wf = true ∧ (Lit.int .i64 c).wf = true := by
  obtain ⟨xs, m, _, _, hlen, hxl, hf⟩ := DataW.trod_array Try.underlying25 h
  have hl : cs.length = 3 := hlen.trans cells_arr
  match cs, hl with
  | [v0, v1, v2], _ =>
    match xs, hxl with
    | [y0, y1, y2], _ =>
      have f0 := hf 0 (by omega)
      have f1 := hf 1 (by omega)
      have f2 := hf 2 (by omega)
      simp [cells_int] at f0 f1 f2
      obtain ⟨a0, e0, _, w0⟩ := DataW.trod_int Try.underlying3 f0
      obtain ⟨a1, e1, _, w1⟩ := DataW.trod_int Try.underlying3 f1
      obtain ⟨a2, e2, _, w2⟩ := DataW.trod_int Try.underlying3 f2
      simp only [List.cons.injEq, and_true] at e0 e1 e2
      subst e0 e1 e2
      exact ⟨a0, a1, a2, rfl, w0, w1, w2⟩
theorem act_at {fuel : Nat} {cs : List Value} {x : DataW H × List MemPlace} (h : DataW.trod enc Try.prog w base spare held fuel 33 cs = some x) :
    ∃ (x0 : Int) (x1 : Int) (x2 : Int) (x3 : Int) (x4 : Int) (x5 : Bool), cs = [.int .i64 x0, .int .i64 x1, .int .i64 x2, .int .i64 x3, .int .i64 x4, .bool x5] ∧ (Lit.int .i64 x0).wf = true ∧ (Lit.int .i64 x1).wf = true ∧ (Lit.int .i64 x2).wf = true ∧ (Lit.int .i64 x3).wf = true ∧ (Lit.int .i64 x4).wf = true := by
  obtain ⟨xs, m, _, _, hlen, hxl, hf⟩ := DataW.trod_struct Try.underlying33 h
  have hl : cs.length = 6 := hlen.trans cells_act
  match cs, hl with
  | [v0, v1, v2, v3, v4, v5], _ =>
    match xs, hxl with
    | [y0, y1, y2, y3], _ =>
      have f0 := hf 0 _ rfl
      have f1 := hf 1 _ rfl
      have f2 := hf 2 _ rfl
      have f3 := hf 3 _ rfl
      simp [cells_int, cells_bool, cells_arr] at f0 f1 f2 f3
      obtain ⟨x0, e0, _, w0⟩ := DataW.trod_int Try.underlying3 f0
      simp only [List.cons.injEq, and_true] at e0
      subst e0
      obtain ⟨x1, e1, _, w1⟩ := DataW.trod_int Try.underlying3 f1
      simp only [List.cons.injEq, and_true] at e1
      subst e1
      obtain ⟨x2, x3, x4, e2, w2, w3, w4⟩ := arr_at f2
      simp only [List.cons.injEq, and_true] at e2
      obtain ⟨rfl, rfl, rfl⟩ := e2
      obtain ⟨x5, e5, _⟩ := DataW.trod_bool Try.underlying4 f3
      simp only [List.cons.injEq, and_true] at e5
      subst e5
      exact ⟨x0, x1, x2, x3, x4, x5, rfl, w0, w1, w2, w3, w4⟩
end

theorem acts_open {H : Type} {enc : TypeId × Value → H} {w : World} {fuel : Nat} {a : Option Addr} {len cap : Nat} {d : DataW H} {p : List MemPlace} (h : DataW.trod enc Try.prog w 0 (fun _ => true) true fuel 39 [.slice a len cap] = some (d, p)) :
    (len = 0 ∨ ∃ el sp, d = .slice el sp ∧ el.length = len) ∧ ∃ f : Nat → Act, len * 48 ≤ 140737488351232 → IsActs w a len f := by
  rcases open_slice Try.underlying39 h with ⟨hcs, _⟩ | ⟨b0, len', cap', m, fu, D, Pl, hcs, _, hl, hm, hmm, hx, hi⟩
  · simp only [List.cons.injEq, Value.slice.injEq, and_true] at hcs
    obtain ⟨rfl, rfl, rfl⟩ := hcs
    exact ⟨.inl rfl, fun _ => default, fun hr => ⟨hr, .inl rfl⟩⟩
  · simp only [List.cons.injEq, Value.slice.injEq, and_true] at hcs
    obtain ⟨rfl, rfl, rfl⟩ := hcs
    simp only [Prod.mk.injEq] at hx
    refine ⟨.inr ⟨_, _, hx.1, by simp⟩, ?_⟩
    have hlm : len ≤ m := by rw [hmm, if_pos rfl]; exact hl
    by_cases h0 : len = 0
    · exact ⟨fun _ => default, fun hr => ⟨hr, .inl h0⟩⟩
    have hex : ∀ i, i < len → ∃ x : Act, w.cell? (b0.add (i * 6 + 0)) = some (.int .i64 x.kind) ∧ w.cell? (b0.add (i * 6 + 1)) = some (.int .i64 x.marked) ∧ w.cell? (b0.add (i * 6 + 2)) = some (.int .i64 x.counts0) ∧ w.cell? (b0.add (i * 6 + 3)) = some (.int .i64 x.counts1) ∧ w.cell? (b0.add (i * 6 + 4)) = some (.int .i64 x.counts2) ∧ w.cell? (b0.add (i * 6 + 5)) = some (.bool x.says) ∧ (Lit.int .i64 x.kind).wf = true ∧ (Lit.int .i64 x.marked).wf = true ∧ (Lit.int .i64 x.counts0).wf = true ∧ (Lit.int .i64 x.counts1).wf = true ∧ (Lit.int .i64 x.counts2).wf = true := by
      intro i hil
      obtain ⟨cs', hc, ht⟩ := hi i (by omega)
      obtain ⟨x0, x1, x2, x3, x4, x5, rfl, w0, w1, w2, w3, w4⟩ := act_at ht
      rw [cells_act] at hc
      obtain ⟨_, _, hat⟩ := World.cells?_some hc
      refine ⟨⟨x0, x1, x2, x3, x4, x5⟩, ?_, ?_, ?_, ?_, ?_, ?_, w0, w1, w2, w3, w4⟩
      · have := hat 0 (by omega)
        rw [add_add] at this
        exact this
      · have := hat 1 (by omega)
        rw [add_add] at this
        exact this
      · have := hat 2 (by omega)
        rw [add_add] at this
        exact this
      · have := hat 3 (by omega)
        rw [add_add] at this
        exact this
      · have := hat 4 (by omega)
        rw [add_add] at this
        exact this
      · have := hat 5 (by omega)
        rw [add_add] at this
        exact this
    obtain ⟨f, hf⟩ := choose_lt hex
    obtain ⟨blk, off, spot⟩ := b0
    have hspot : spot = none := by
      have := World.cell?_spot (hf 0 (by omega)).1
      simpa [Addr.add] using this
    subst hspot
    refine ⟨f, fun hr => ⟨hr, .inr ⟨blk, off, rfl, ?_, fun i hil => ?_⟩⟩⟩
    · have := World.block_lt_of_cell? w _ (hf 0 (by omega)).1
      simpa [Addr.add] using this
    · obtain ⟨c0, c1, c2, c3, c4, c5, w0, w1, w2, w3, w4⟩ := hf i hil
      simp only [Go.WideShapes.add_plain, Nat.add_zero, ← Nat.add_assoc] at c0 c1 c2 c3 c4 c5
      exact ⟨⟨c0, c1, c2, c3, c4, c5⟩, bounds_i64 w0, bounds_i64 w1, bounds_i64 w2, bounds_i64 w3, bounds_i64 w4⟩

theorem ints_open {H : Type} {enc : TypeId × Value → H} {w : World} {fuel : Nat} {a : Option Addr} {len cap : Nat} {d : DataW H} {p : List MemPlace} (h : DataW.trod enc Try.prog w 0 (fun _ => true) true fuel 48 [.slice a len cap] = some (d, p)) :
    (len = 0 ∨ ∃ el sp, d = .slice el sp ∧ el.length = len) ∧ ∃ f : Nat → Int, len * 8 ≤ 140737488351232 → IsInts w a len f := by
  rcases open_slice Try.underlying48 h with ⟨hcs, _⟩ | ⟨b0, len', cap', m, fu, D, Pl, hcs, _, hl, hm, hmm, hx, hi⟩
  · simp only [List.cons.injEq, Value.slice.injEq, and_true] at hcs
    obtain ⟨rfl, rfl, rfl⟩ := hcs
    exact ⟨.inl rfl, fun _ => 0, fun hr => ⟨hr, .inl rfl⟩⟩
  · simp only [List.cons.injEq, Value.slice.injEq, and_true] at hcs
    obtain ⟨rfl, rfl, rfl⟩ := hcs
    simp only [Prod.mk.injEq] at hx
    refine ⟨.inr ⟨_, _, hx.1, by simp⟩, ?_⟩
    have hlm : len ≤ m := by rw [hmm, if_pos rfl]; exact hl
    by_cases h0 : len = 0
    · exact ⟨fun _ => 0, fun hr => ⟨hr, .inl h0⟩⟩
    have hex : ∀ i, i < len → ∃ x : Int, w.cell? (b0.add i) = some (.int .i64 x) ∧ (Lit.int .i64 x).wf = true := by
      intro i hil
      obtain ⟨cs', hc, ht⟩ := hi i (by omega)
      obtain ⟨x, rfl, _, wx⟩ := DataW.trod_int Try.underlying3 ht
      rw [cells_int] at hc
      obtain ⟨_, _, hat⟩ := World.cells?_some hc
      refine ⟨x, ?_, wx⟩
      have := hat 0 (by omega)
      rw [add_add] at this
      simpa using this
    obtain ⟨f, hf⟩ := choose_lt hex
    obtain ⟨blk, off, spot⟩ := b0
    have hspot : spot = none := by
      have := World.cell?_spot (hf 0 (by omega)).1
      simpa [Addr.add] using this
    subst hspot
    refine ⟨f, fun hr => ⟨hr, .inr ⟨blk, off, rfl, ?_, fun i hil => ?_⟩⟩⟩
    · have := World.block_lt_of_cell? w _ (hf 0 (by omega)).1
      simpa [Addr.add] using this
    · obtain ⟨c0, w0⟩ := hf i hil
      simp only [Go.WideShapes.add_plain] at c0
      exact ⟨c0, bounds_i64 w0⟩

end Go.Proofs.Ytpammbkhomcjmaa

/- That what came in reads so: the arguments opened to cells. -/
import Derived.Test.YtodeaibmojpmpaaRows
import Derived.Test.YtodeaibmojpmpaaActs
import Derived.WalkKit
import Derived.ProofKit
import Derived.OpenShut
import Derived.Deep.Slices
import Derived.Deep.Fields
import Derived.ChangeSame
namespace Go.Proofs.Ytodeaibmojpmpaa
open Go.ChangeShapes Go.WideShapes Go.ChangeAt Go.RowKit Go.Deep

theorem cells_int : Try.prog.cellsOf 3 = 1 := by kernel_rfl
theorem cells_bool : Try.prog.cellsOf 4 = 1 := by kernel_rfl
theorem cells_act : Try.prog.cellsOf 25 = 6 := by kernel_rfl
section
variable {H : Type} {enc : TypeId × Value → H} {w : World} {base : Nat} {spare : Nat → Bool} {held : Bool}
theorem act_at {fuel : Nat} {cs : List Value} {x : DataW H × List MemPlace} (h : DataW.trod enc Try.prog w base spare held fuel 25 cs = some x) :
    ∃ (x0 : Int) (x1 : Int) (x2 : Int) (x3 : Int) (x4 : Int) (x5 : Bool), cs = [.int .i64 x0, .int .i64 x1, .int .i64 x2, .int .i64 x3, .int .i64 x4, .bool x5] ∧ (Lit.int .i64 x0).wf = true ∧ (Lit.int .i64 x1).wf = true ∧ (Lit.int .i64 x2).wf = true ∧ (Lit.int .i64 x3).wf = true ∧ (Lit.int .i64 x4).wf = true := by
  obtain ⟨xs, m, _, _, hlen, hxl, hf⟩ := DataW.trod_struct Try.underlying25 h
  have hl : cs.length = 6 := hlen.trans cells_act
  match cs, hl with
  | [v0, v1, v2, v3, v4, v5], _ =>
    match xs, hxl with
    | [y0, y1, y2, y3, y4, y5], _ =>
      have f0 := hf 0 _ rfl
      have f1 := hf 1 _ rfl
      have f2 := hf 2 _ rfl
      have f3 := hf 3 _ rfl
      have f4 := hf 4 _ rfl
      have f5 := hf 5 _ rfl
      simp [cells_int, cells_bool] at f0 f1 f2 f3 f4 f5
      obtain ⟨x0, e0, _, w0⟩ := DataW.trod_int Try.underlying3 f0
      simp only [List.cons.injEq, and_true] at e0
      subst e0
      obtain ⟨x1, e1, _, w1⟩ := DataW.trod_int Try.underlying3 f1
      simp only [List.cons.injEq, and_true] at e1
      subst e1
      obtain ⟨x2, e2, _, w2⟩ := DataW.trod_int Try.underlying3 f2
      simp only [List.cons.injEq, and_true] at e2
      subst e2
      obtain ⟨x3, e3, _, w3⟩ := DataW.trod_int Try.underlying3 f3
      simp only [List.cons.injEq, and_true] at e3
      subst e3
      obtain ⟨x4, e4, _, w4⟩ := DataW.trod_int Try.underlying3 f4
      simp only [List.cons.injEq, and_true] at e4
      subst e4
      obtain ⟨x5, e5, _⟩ := DataW.trod_bool Try.underlying4 f5
      simp only [List.cons.injEq, and_true] at e5
      subst e5
      exact ⟨x0, x1, x2, x3, x4, x5, rfl, w0, w1, w2, w3, w4⟩
end

theorem acts_open {H : Type} {enc : TypeId × Value → H} {w : World} {fuel : Nat} {a : Option Addr} {len cap : Nat} {d : DataW H} {p : List MemPlace} (h : DataW.trod enc Try.prog w 0 (fun _ => true) true fuel 40 [.slice a len cap] = some (d, p)) :
    (len = 0 ∨ ∃ el sp, d = .slice el sp ∧ el.length = len) ∧ ∃ f : Nat → Act, len * 48 ≤ 140737488351232 → IsActs w a len f := by
  rcases open_slice Try.underlying40 h with ⟨hcs, _⟩ | ⟨b0, len', cap', m, fu, D, Pl, hcs, _, hl, hm, hmm, hx, hi⟩
  · simp only [List.cons.injEq, Value.slice.injEq, and_true] at hcs
    obtain ⟨rfl, rfl, rfl⟩ := hcs
    exact ⟨.inl rfl, fun _ => default, fun hr => ⟨hr, .inl rfl⟩⟩
  · simp only [List.cons.injEq, Value.slice.injEq, and_true] at hcs
    obtain ⟨rfl, rfl, rfl⟩ := hcs
    simp only [Prod.mk.injEq] at hx
    refine ⟨.inr ⟨_, _, hx.1, by simp⟩, ?_⟩
    have hlm : len ≤ m := by rw [hmm, if_pos rfl]; exact hl
    by_cases h0 : len = 0
    · exact ⟨fun _ => default, fun hr => ⟨hr, .inl h0⟩⟩
    have hex : ∀ i, i < len → ∃ x : Act, w.cell? (b0.add (i * 6 + 0)) = some (.int .i64 x.kind) ∧ w.cell? (b0.add (i * 6 + 1)) = some (.int .i64 x.bytes) ∧ w.cell? (b0.add (i * 6 + 2)) = some (.int .i64 x.sent) ∧ w.cell? (b0.add (i * 6 + 3)) = some (.int .i64 x.now) ∧ w.cell? (b0.add (i * 6 + 4)) = some (.int .i64 x.rtt) ∧ w.cell? (b0.add (i * 6 + 5)) = some (.bool x.full) ∧ (Lit.int .i64 x.kind).wf = true ∧ (Lit.int .i64 x.bytes).wf = true ∧ (Lit.int .i64 x.sent).wf = true ∧ (Lit.int .i64 x.now).wf = true ∧ (Lit.int .i64 x.rtt).wf = true := by
      intro i hil
      obtain ⟨cs', hc, ht⟩ := hi i (by omega)
      obtain ⟨x0, x1, x2, x3, x4, x5, rfl, w0, w1, w2, w3, w4⟩ := act_at ht
      rw [cells_act] at hc
      obtain ⟨_, _, hat⟩ := World.cells?_some hc
      refine ⟨⟨x0, x1, x2, x3, x4, x5⟩, ?_, ?_, ?_, ?_, ?_, ?_, w0, w1, w2, w3, w4⟩
      · have := hat 0 (by omega)
        rw [add_add] at this
        exact this
      · have := hat 1 (by omega)
        rw [add_add] at this
        exact this
      · have := hat 2 (by omega)
        rw [add_add] at this
        exact this
      · have := hat 3 (by omega)
        rw [add_add] at this
        exact this
      · have := hat 4 (by omega)
        rw [add_add] at this
        exact this
      · have := hat 5 (by omega)
        rw [add_add] at this
        exact this
    obtain ⟨f, hf⟩ := choose_lt hex
    obtain ⟨blk, off, spot⟩ := b0
    have hspot : spot = none := by
      have := World.cell?_spot (hf 0 (by omega)).1
      simpa [Addr.add] using this
    subst hspot
    refine ⟨f, fun hr => ⟨hr, .inr ⟨blk, off, rfl, ?_, fun i hil => ?_⟩⟩⟩
    · have := World.block_lt_of_cell? w _ (hf 0 (by omega)).1
      simpa [Addr.add] using this
    · obtain ⟨c0, c1, c2, c3, c4, c5, w0, w1, w2, w3, w4⟩ := hf i hil
      simp only [Go.WideShapes.add_plain, Nat.add_zero, ← Nat.add_assoc] at c0 c1 c2 c3 c4 c5
      exact ⟨⟨c0, c1, c2, c3, c4, c5⟩, bounds_i64 w0, bounds_i64 w1, bounds_i64 w2, bounds_i64 w3, bounds_i64 w4⟩

theorem ints_open {H : Type} {enc : TypeId × Value → H} {w : World} {fuel : Nat} {a : Option Addr} {len cap : Nat} {d : DataW H} {p : List MemPlace} (h : DataW.trod enc Try.prog w 0 (fun _ => true) true fuel 36 [.slice a len cap] = some (d, p)) :
    (len = 0 ∨ ∃ el sp, d = .slice el sp ∧ el.length = len) ∧ ∃ f : Nat → Int, len * 8 ≤ 140737488351232 → IsInts w a len f := by
  rcases open_slice Try.underlying36 h with ⟨hcs, _⟩ | ⟨b0, len', cap', m, fu, D, Pl, hcs, _, hl, hm, hmm, hx, hi⟩
  · simp only [List.cons.injEq, Value.slice.injEq, and_true] at hcs
    obtain ⟨rfl, rfl, rfl⟩ := hcs
    exact ⟨.inl rfl, fun _ => 0, fun hr => ⟨hr, .inl rfl⟩⟩
  · simp only [List.cons.injEq, Value.slice.injEq, and_true] at hcs
    obtain ⟨rfl, rfl, rfl⟩ := hcs
    simp only [Prod.mk.injEq] at hx
    refine ⟨.inr ⟨_, _, hx.1, by simp⟩, ?_⟩
    have hlm : len ≤ m := by rw [hmm, if_pos rfl]; exact hl
    by_cases h0 : len = 0
    · exact ⟨fun _ => 0, fun hr => ⟨hr, .inl h0⟩⟩
    have hex : ∀ i, i < len → ∃ x : Int, w.cell? (b0.add i) = some (.int .i64 x) ∧ (Lit.int .i64 x).wf = true := by
      intro i hil
      obtain ⟨cs', hc, ht⟩ := hi i (by omega)
      obtain ⟨x, rfl, _, wx⟩ := DataW.trod_int Try.underlying3 ht
      rw [cells_int] at hc
      obtain ⟨_, _, hat⟩ := World.cells?_some hc
      refine ⟨x, ?_, wx⟩
      have := hat 0 (by omega)
      rw [add_add] at this
      simpa using this
    obtain ⟨f, hf⟩ := choose_lt hex
    obtain ⟨blk, off, spot⟩ := b0
    have hspot : spot = none := by
      have := World.cell?_spot (hf 0 (by omega)).1
      simpa [Addr.add] using this
    subst hspot
    refine ⟨f, fun hr => ⟨hr, .inr ⟨blk, off, rfl, ?_, fun i hil => ?_⟩⟩⟩
    · have := World.block_lt_of_cell? w _ (hf 0 (by omega)).1
      simpa [Addr.add] using this
    · obtain ⟨c0, w0⟩ := hf i hil
      simp only [Go.WideShapes.add_plain] at c0
      exact ⟨c0, bounds_i64 w0⟩

end Go.Proofs.Ytodeaibmojpmpaa

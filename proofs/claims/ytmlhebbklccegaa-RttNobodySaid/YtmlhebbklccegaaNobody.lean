/- The walk of the law RttNobody: the methods at a nil pointer and at an estimate that no call made. -/
import Derived.Test.YtmlhebbklccegaaAll
namespace Go.Proofs.Ytmlhebbklccegaa
open Go.RowKit

/-- No estimate: nil, or one that no call made. -/
def NoQ (w : World) (p : Option Addr) : Prop := p = none ∨ ∃ g, p = some ⟨g, 0, none⟩ ∧ IsQ w g false 0 false 0 0 0 0
theorem NoQ.below {w w' : World} {p : Option Addr} (h : NoQ w p) (hb : Below w.heap.size w w') : NoQ w' p := by
  rcases h with rfl | ⟨g, rfl, hI⟩
  · exact .inl rfl
  · exact .inr ⟨g, rfl, IsQ.below hI hb hI.lt⟩
set_option maxHeartbeats 400000 in
theorem none_yes (p : Option Addr) (w : World) (h : NoQ w p) :
    Calls Try.prog 17 #[.pointer p] w fun e w' => e = .returned (.bool true) ∧ w = w' := by
  rcases h with rfl | ⟨g, rfl, hI⟩
  · go_enter Try.func17, Try.ntmps17
    go_wp2
    go_ret
    exact ⟨rfl, rfl⟩
  · obtain ⟨⟨c0, c1, c2, c3, c4, c5, c6⟩, _⟩ := hI.all
    clear hI
    go_enter Try.func17, Try.ntmps17
    go_wp2
    go_ret
    exact ⟨rfl, rfl⟩

set_option maxHeartbeats 400000 in
theorem told_no (p : Option Addr) (w : World) (h : NoQ w p) :
    Calls Try.prog 7 #[.pointer p] w fun e w' => e = .returned (.tuple #[.int .i64 0, .int .i64 0, .int .i64 0, .int .i64 0]) ∧ Below w.heap.size w w' := by
  have H := Lib.hid (NoQ.below h (Below.refl w.heap.size w))
  clear h
  go_enter Try.func7, Try.ntmps7
  go_wp2_with fail
  refine (none_yes p _ H.out).mono ?_
  rintro e w' ⟨rfl, rfl⟩
  go_wp2
  refine bodyPost_ret (results_four rfl _ _ _) rfl ?_
  exact ⟨rfl, Below.refl w.heap.size w⟩

set_option maxHeartbeats 400000 in
theorem wait_no (p : Option Addr) (t : Int) (d : Bool) (w : World) (h : NoQ w p) :
    Calls Try.prog 9 #[.pointer p, .int .i64 t, .bool d] w fun e w' => e = .returned (.int .i64 0) ∧ Below w.heap.size w w' := by
  have H := Lib.hid (NoQ.below h (Below.refl w.heap.size w))
  clear h
  go_enter Try.func9, Try.ntmps9
  go_wp2_with fail
  refine (none_yes p _ H.out).mono ?_
  rintro e w' ⟨rfl, rfl⟩
  go_wp2
  go_ret
  exact ⟨rfl, Below.refl w.heap.size w⟩

set_option maxHeartbeats 400000 in
theorem late_no (p : Option Addr) (w : World) (h : NoQ w p) :
    Calls Try.prog 10 #[.pointer p] w fun e w' => e = .returned (.int .i64 0) ∧ Below w.heap.size w w' := by
  have H := Lib.hid (NoQ.below h (Below.refl w.heap.size w))
  clear h
  go_enter Try.func10, Try.ntmps10
  go_wp2_with fail
  refine (none_yes p _ H.out).mono ?_
  rintro e w' ⟨rfl, rfl⟩
  go_wp2
  go_ret
  exact ⟨rfl, Below.refl w.heap.size w⟩

set_option maxHeartbeats 400000 in
theorem sample_no (p : Option Addr) (a b : Int) (d : Bool) (w : World) (h : NoQ w p) :
    Calls Try.prog 8 #[.pointer p, .int .i64 a, .int .i64 b, .bool d] w fun e w' => e = .returned (.int .i64 1) ∧ Below w.heap.size w w' := by
  have H := Lib.hid (NoQ.below h (below_new (below_new (below_new (Below.refl w.heap.size w) (Nat.le_refl _) (.cells #[.pointer p] 24)) (Nat.le_refl _) (.cells #[.int .i64 a] 3)) (Nat.le_refl _) (.cells #[.int .i64 b] 3)))
  clear h
  go_enter Try.func8, Try.ntmps8
  go_wp2_with fail
  refine (none_yes p _ H.out).mono ?_
  rintro e w' ⟨rfl, rfl⟩
  go_wp2
  go_ret
  exact ⟨rfl, below_new (below_new (below_new (Below.refl w.heap.size w) (Nat.le_refl _) (.cells #[.pointer p] 24)) (Nat.le_refl _) (.cells #[.int .i64 a] 3)) (Nat.le_refl _) (.cells #[.int .i64 b] 3)⟩

/-- What the law has laid ahead of its loop: the act, an estimate that no call made, the list of both. -/
def Scene (w : World) (B : Nat) (a b : Int) (d : Bool) : Prop :=
  Bk w B 23 #[.int .i64 a, .int .i64 b, .bool d] ∧ IsQ w (B + 1) false 0 false 0 0 0 0 ∧ Bk w (B + 1 + 1) 24 #[.pointer none, .pointer (some ⟨B + 1, 0, none⟩)]
theorem Scene.below {w w' : World} {B : Nat} {a b : Int} {d : Bool} (h : Scene w B a b d) (hb : Below w.heap.size w w') : Scene w' B a b d :=
  ⟨h.1.below hb h.1.lt, IsQ.below h.2.1 hb (IsQ.lt h.2.1), h.2.2.below hb h.2.2.lt⟩

set_option maxHeartbeats 4000000 in
set_option maxRecDepth 100000 in
theorem nobody_at (w : World) (a b : Int) (d : Bool) (t : Int) (_h0 : -9223372036854775808 ≤ a) (_h1 : a ≤ 9223372036854775807) (_h2 : -9223372036854775808 ≤ b) (_h3 : b ≤ 9223372036854775807) :
    Calls Try.prog 3 #[.agg #[.int .i64 a, .int .i64 b, .bool d], .int .i64 t] w fun e w' => e = .returned (.bool true) ∧ Below w.heap.size w w' := by
  go_enter Try.func3, Try.ntmps3
  go_wp2_with fail
  go_loopw [15] (fun i wr => ∃ j : Nat, j ≤ 2 ∧ i = .int .i64 j ∧ Hid (Scene wr w.heap.size a b d) ∧ Hid (Below w.heap.size w wr)) (fun i _ => 2 - (intOf i).toNat)
  case atStart =>
    refine ⟨0, by omega, rfl, Lib.hid ⟨((Bk.new w _ _).alloc _).alloc _, ?_, ?_⟩, Lib.hid (below_new (below_new (below_new (Below.refl _ _) (Nat.le_refl _) _) (Nat.le_refl _) _) (Nat.le_refl _) _)⟩
    · have := (IsQ.new (w.alloc (.cells #[.int .i64 a, .int .i64 b, .bool d] 23)) false 0 false 0 0 0 0).alloc (.cells #[.pointer none, .pointer (some ⟨w.heap.size + 1, 0, none⟩)] 24)
      simpa using this
    · have := Bk.new ((w.alloc (.cells #[.int .i64 a, .int .i64 b, .bool d] 23)).alloc (.cells #[.bool false, .int .i64 0, .bool false, .int .i64 0, .int .i64 0, .int .i64 0, .int .i64 0] 26)) 24 #[.pointer none, .pointer (some ⟨w.heap.size + 1, 0, none⟩)]
      simpa using this
  case round =>
    obtain ⟨j, hj, rfl, HS0, HB0⟩ := hrel
    by_cases hlt : j < 2
    · obtain ⟨p, hp, hN⟩ : ∃ p, wr.cell? ⟨w.heap.size + 1 + 1, j, none⟩ = some (.pointer p) ∧ NoQ wr p := by
        rcases (show j = 0 ∨ j = 1 by omega) with rfl | rfl
        · exact ⟨none, HS0.out.2.2.cell 0, .inl rfl⟩
        · exact ⟨some ⟨w.heap.size + 1, 0, none⟩, HS0.out.2.2.cell 1, .inr ⟨_, rfl, HS0.out.2.1⟩⟩
      have HN0 := Lib.hid hN
      clear hN
      go_wp2_with fail
      refine (told_no p _ HN0.out).mono ?_
      rintro e v1 ⟨rfl, hb⟩
      have HN1 := Lib.hid (HN0.out.below hb)
      have HS1 := Lib.hid (HS0.out.below hb)
      have HB1 := Lib.hid (HB0.out.trans (hb.mono HB0.out.size))
      clear hb
      clear hp
      obtain ⟨hc, _⟩ := HS1.out
      have c0 := hc.cell 0
      have c1 := hc.cell 1
      have c2 := hc.cell 2
      simp only [List.getElem?_toArray, List.getElem?_cons_zero, List.getElem?_cons_succ] at c0 c1 c2
      clear hc
      go_wp2_with fail
      refine (sample_no p a b d _ HN1.out).mono ?_
      rintro e v2 ⟨rfl, hb⟩
      have HN2 := Lib.hid (HN1.out.below hb)
      have HS2 := Lib.hid (HS1.out.below hb)
      have HB2 := Lib.hid (HB1.out.trans (hb.mono HB1.out.size))
      clear hb
      clear c0 c1 c2
      go_wp2_with fail
      refine (wait_no p t true _ HN2.out).mono ?_
      rintro e v3 ⟨rfl, hb⟩
      have HN3 := Lib.hid (HN2.out.below hb)
      have HS3 := Lib.hid (HS2.out.below hb)
      have HB3 := Lib.hid (HB2.out.trans (hb.mono HB2.out.size))
      clear hb
      go_wp2_with fail
      refine (late_no p _ HN3.out).mono ?_
      rintro e v4 ⟨rfl, hb⟩
      have HN4 := Lib.hid (HN3.out.below hb)
      have HS4 := Lib.hid (HS3.out.below hb)
      have HB4 := Lib.hid (HB3.out.trans (hb.mono HB3.out.size))
      clear hb
      go_wp2
      go_roundw
      case rel => exact ⟨j + 1, by omega, by go_num, HS4, HB4⟩
      case measure => simp [intOf]; omega
    · go_wp2
      go_ret
      exact ⟨rfl, HB0.out⟩
end Go.Proofs.Ytmlhebbklccegaa

/- The walk of the law CubicNobody: the methods at a nil pointer and at a window that no call made. -/
import Derived.Test.YtodeaibmojpmpaaSmall
namespace Go.Proofs.Ytodeaibmojpmpaa
open Go.RowKit

/-- No window: nil, or one that no call made. -/
def NoE (w : World) (p : Option Addr) : Prop := p = none ∨ ∃ g, p = some ⟨g, 0, none⟩ ∧ IsE 28 w g 0 0 0 0 0 0 0 0 0
theorem NoE.below {w w' : World} {p : Option Addr} (h : NoE w p) (hb : Below w.heap.size w w') : NoE w' p := by
  rcases h with rfl | ⟨g, rfl, hI⟩
  · exact .inl rfl
  · exact .inr ⟨g, rfl, IsE.below hI hb hI.lt⟩
set_option maxHeartbeats 400000 in
theorem none_yes (p : Option Addr) (w : World) (h : NoE w p) :
    Calls Try.prog 21 #[.pointer p] w fun e w' => e = .returned (.bool true) ∧ w = w' := by
  rcases h with rfl | ⟨g, rfl, hI⟩
  · go_enter Try.func21, Try.ntmps21
    go_wp2
    go_ret
    exact ⟨rfl, rfl⟩
  · obtain ⟨⟨c0, c1, c2, c3, c4, c5, c6, c7, c8⟩, _⟩ := hI.all
    clear hI
    go_enter Try.func21, Try.ntmps21
    go_wp2
    go_ret
    exact ⟨rfl, rfl⟩

set_option maxHeartbeats 400000 in
theorem told_no (p : Option Addr) (w : World) (h : NoE w p) :
    Calls Try.prog 11 #[.pointer p] w fun e w' => e = .returned (.tuple #[.int .i64 0, .int .i64 0, .int .i64 0]) ∧ Below w.heap.size w w' := by
  have H := Lib.hid h
  clear h
  go_enter Try.func11, Try.ntmps11
  go_wp2_with fail
  refine (none_yes p _ H.out).mono ?_
  rintro e w' ⟨rfl, rfl⟩
  go_wp2
  go_ret3
  exact ⟨rfl, Below.refl _ _⟩

set_option maxHeartbeats 400000 in
theorem ack_no (p : Option Addr) (a b c d : Int) (f : Bool) (w : World) (h : NoE w p) :
    Calls Try.prog 12 #[.pointer p, .int .i64 a, .int .i64 b, .int .i64 c, .int .i64 d, .bool f] w fun e w' => e = .returned (.int .i64 1) ∧ Below w.heap.size w w' := by
  have H := Lib.hid h
  clear h
  go_enter Try.func12, Try.ntmps12
  go_wp2_with fail
  refine (none_yes p _ H.out).mono ?_
  rintro e w' ⟨rfl, rfl⟩
  go_wp2
  go_ret
  exact ⟨rfl, Below.refl _ _⟩

set_option maxHeartbeats 400000 in
theorem lost_no (p : Option Addr) (a b : Int) (w : World) (h : NoE w p) :
    Calls Try.prog 13 #[.pointer p, .int .i64 a, .int .i64 b] w fun e w' => e = .returned (.int .i64 1) ∧ Below w.heap.size w w' := by
  have H := Lib.hid h
  clear h
  go_enter Try.func13, Try.ntmps13
  go_wp2_with fail
  refine (none_yes p _ H.out).mono ?_
  rintro e w' ⟨rfl, rfl⟩
  go_wp2
  go_ret
  exact ⟨rfl, Below.refl _ _⟩

set_option maxHeartbeats 400000 in
theorem coll_no (p : Option Addr) (w : World) (h : NoE w p) :
    Calls Try.prog 10 #[.pointer p] w fun e w' => e = .returned (.tuple #[]) ∧ Below w.heap.size w w' := by
  have H := Lib.hid h
  clear h
  go_enter Try.func10, Try.ntmps10
  go_wp2_with fail
  refine (none_yes p _ H.out).mono ?_
  rintro e w' ⟨rfl, rfl⟩
  go_wp2
  go_end0
  exact ⟨rfl, Below.refl _ _⟩

/-- What the law has laid ahead of its loop: the act, a window that no call made, the list of both. -/
def Scene (w : World) (B : Nat) (kd a b c d : Int) (f : Bool) : Prop :=
  Bk w B 25 #[.int .i64 kd, .int .i64 a, .int .i64 b, .int .i64 c, .int .i64 d, .bool f] ∧ IsE 28 w (B + 1) 0 0 0 0 0 0 0 0 0 ∧ Bk w (B + 1 + 1) 26 #[.pointer none, .pointer (some ⟨B + 1, 0, none⟩)]
theorem Scene.below {w w' : World} {B : Nat} {kd a b c d : Int} {f : Bool} (h : Scene w B kd a b c d f) (hb : Below w.heap.size w w') : Scene w' B kd a b c d f :=
  ⟨h.1.below hb h.1.lt, IsE.below h.2.1 hb (IsE.lt h.2.1), h.2.2.below hb h.2.2.lt⟩

set_option maxHeartbeats 4000000 in
set_option maxRecDepth 100000 in
theorem nobody_at (w : World) (kd a b c d : Int) (f : Bool) (_h0 : -9223372036854775808 ≤ kd) (_k0 : kd ≤ 9223372036854775807) (_h1 : -9223372036854775808 ≤ a) (_k1 : a ≤ 9223372036854775807) (_h2 : -9223372036854775808 ≤ b) (_k2 : b ≤ 9223372036854775807) (_h3 : -9223372036854775808 ≤ c) (_k3 : c ≤ 9223372036854775807) (_h4 : -9223372036854775808 ≤ d) (_k4 : d ≤ 9223372036854775807) :
    Calls Try.prog 4 #[.agg #[.int .i64 kd, .int .i64 a, .int .i64 b, .int .i64 c, .int .i64 d, .bool f]] w fun e w' => e = .returned (.bool true) ∧ Below w.heap.size w w' := by
  go_enter Try.func4, Try.ntmps4
  go_wp2_with fail
  go_loopw [12] (fun i wr => ∃ j : Nat, j ≤ 2 ∧ i = .int .i64 j ∧ Hid (Scene wr w.heap.size kd a b c d f) ∧ Hid (Below w.heap.size w wr)) (fun i _ => 2 - (intOf i).toNat)
  case atStart =>
    refine ⟨0, by omega, rfl, Lib.hid ⟨((Bk.new w _ _).alloc _).alloc _, ?_, ?_⟩, Lib.hid (below_new (below_new (below_new (Below.refl _ _) (Nat.le_refl _) _) (Nat.le_refl _) _) (Nat.le_refl _) _)⟩
    · have := (IsE.new 28 (w.alloc (.cells #[.int .i64 kd, .int .i64 a, .int .i64 b, .int .i64 c, .int .i64 d, .bool f] 25)) 0 0 0 0 0 0 0 0 0).alloc (.cells #[.pointer none, .pointer (some ⟨w.heap.size + 1, 0, none⟩)] 26)
      simpa using this
    · have := Bk.new ((w.alloc (.cells #[.int .i64 kd, .int .i64 a, .int .i64 b, .int .i64 c, .int .i64 d, .bool f] 25)).alloc (.cells #[.int .i64 0, .int .i64 0, .int .i64 0, .int .i64 0, .int .i64 0, .int .i64 0, .int .i64 0, .int .i64 0, .int .i64 0] 28)) 26 #[.pointer none, .pointer (some ⟨w.heap.size + 1, 0, none⟩)]
      simpa using this
  case round =>
    obtain ⟨j, hj, rfl, HS0, HB0⟩ := hrel
    by_cases hlt : j < 2
    · obtain ⟨p, hp, hN⟩ : ∃ p, wr.cell? ⟨w.heap.size + 1 + 1, j, none⟩ = some (.pointer p) ∧ NoE wr p := by
        rcases (show j = 0 ∨ j = 1 by omega) with rfl | rfl
        · exact ⟨none, HS0.out.2.2.cell 0, .inl rfl⟩
        · exact ⟨some ⟨w.heap.size + 1, 0, none⟩, HS0.out.2.2.cell 1, .inr ⟨_, rfl, HS0.out.2.1⟩⟩
      have HN0 := Lib.hid hN
      clear hN
      go_wp2_with fail
      refine (coll_no p _ HN0.out).mono ?_
      rintro e v1 ⟨rfl, hb⟩
      have HN1 := Lib.hid (HN0.out.below hb)
      have HS1 := Lib.hid (HS0.out.below hb)
      have HB1 := Lib.hid (HB0.out.trans (hb.mono HB0.out.size))
      clear hb
      clear hp
      go_wp2_with fail
      refine (told_no p _ HN1.out).mono ?_
      rintro e v2 ⟨rfl, hb⟩
      have HN2 := Lib.hid (HN1.out.below hb)
      have HS2 := Lib.hid (HS1.out.below hb)
      have HB2 := Lib.hid (HB1.out.trans (hb.mono HB1.out.size))
      clear hb
      obtain ⟨hc, _⟩ := HS2.out
      have c0 := hc.cell 0
      have c1 := hc.cell 1
      have c2 := hc.cell 2
      have c3 := hc.cell 3
      have c4 := hc.cell 4
      have c5 := hc.cell 5
      simp only [List.getElem?_toArray, List.getElem?_cons_zero, List.getElem?_cons_succ] at c0 c1 c2 c3 c4 c5
      clear hc
      go_wp2_with fail
      refine (ack_no p a b c d f _ HN2.out).mono ?_
      rintro e v3 ⟨rfl, hb⟩
      have HN3 := Lib.hid (HN2.out.below hb)
      have HS3 := Lib.hid (HS2.out.below hb)
      have HB3 := Lib.hid (HB2.out.trans (hb.mono HB2.out.size))
      clear hb
      clear c0 c1 c2 c3 c4 c5
      obtain ⟨hc, _⟩ := HS3.out
      have c0 := hc.cell 0
      have c1 := hc.cell 1
      have c2 := hc.cell 2
      have c3 := hc.cell 3
      have c4 := hc.cell 4
      have c5 := hc.cell 5
      simp only [List.getElem?_toArray, List.getElem?_cons_zero, List.getElem?_cons_succ] at c0 c1 c2 c3 c4 c5
      clear hc
      go_wp2_with fail
      refine (lost_no p b c _ HN3.out).mono ?_
      rintro e v4 ⟨rfl, hb⟩
      have HN4 := Lib.hid (HN3.out.below hb)
      have HS4 := Lib.hid (HS3.out.below hb)
      have HB4 := Lib.hid (HB3.out.trans (hb.mono HB3.out.size))
      clear hb
      clear c0 c1 c2 c3 c4 c5
      go_wp2
      go_roundw
      case rel => exact ⟨j + 1, by omega, by go_num, HS4, HB4⟩
      case measure => simp [intOf]; omega
    · go_wp2
      go_ret
      exact ⟨rfl, HB0.out⟩
end Go.Proofs.Ytodeaibmojpmpaa

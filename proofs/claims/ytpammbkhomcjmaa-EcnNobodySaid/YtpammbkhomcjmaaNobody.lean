/- The walk of the law EcnNobody: the methods at a nil pointer and at a validation that no call made. -/
import Derived.Test.YtpammbkhomcjmaaLost
import Derived.LoopTactic
namespace Go.Proofs.Ytpammbkhomcjmaa
open Go.RowKit

/-- No validation: nil, or one that no call made. -/
def NoE (w : World) (p : Option Addr) : Prop := p = none ∨ ∃ g, p = some ⟨g, 0, none⟩ ∧ IsE 35 w g 0 0 0 0 0 0 0
theorem NoE.below {w w' : World} {p : Option Addr} (h : NoE w p) (hb : Below w.heap.size w w') : NoE w' p := by
  rcases h with rfl | ⟨g, rfl, hI⟩
  · exact .inl rfl
  · exact .inr ⟨g, rfl, IsE.below hI hb hI.lt⟩
set_option maxHeartbeats 400000 in
theorem none_yes (p : Option Addr) (w : World) (h : NoE w p) :
    Calls Try.prog 17 #[.pointer p] w fun e w' => e = .returned (.bool true) ∧ w = w' := by
  rcases h with rfl | ⟨g, rfl, hI⟩
  · go_enter Try.func17, Try.ntmps17
    go_wp2
    go_ret
    exact ⟨rfl, rfl⟩
  · obtain ⟨⟨c0, c1, c2, c3, c4, c5, c6⟩, _⟩ := hI.all
    clear hI
    have z : ∀ w : World, (Op.equalIn 9999 25 (.agg #[.int .i64 0, .int .i64 0, .int .i64 0]) (.agg #[.int .i64 0, .int .i64 0, .int .i64 0])).run Try.prog w = .ok true w := fun _ => by kernel_rfl
    go_enter Try.func17, Try.ntmps17
    go_wp2
    go_ret
    exact ⟨rfl, rfl⟩

set_option maxHeartbeats 400000 in
theorem state_no (p : Option Addr) (w : World) (h : NoE w p) :
    Calls Try.prog 10 #[.pointer p] w fun e w' => e = .returned (.int .i64 0) ∧ Below w.heap.size w w' := by
  have H := Lib.hid (NoE.below h (Below.refl w.heap.size w))
  clear h
  go_enter Try.func10, Try.ntmps10
  go_wp2_with fail
  refine (none_yes p _ H.out).mono ?_
  rintro e w' ⟨rfl, rfl⟩
  go_wp2
  go_ret
  exact ⟨rfl, Below.refl w.heap.size w⟩

set_option maxHeartbeats 400000 in
theorem wrong_no (p : Option Addr) (m : Int) (w : World) (h : NoE w p) :
    Calls Try.prog 18 #[.pointer p, .int .i64 m] w fun e w' => e = .returned (.int .i64 1) ∧ Below w.heap.size w w' := by
  have H := Lib.hid (NoE.below h (Below.refl w.heap.size w))
  clear h
  go_enter Try.func18, Try.ntmps18
  go_wp2_with fail
  refine (none_yes p _ H.out).mono ?_
  rintro e w' ⟨rfl, rfl⟩
  go_wp2
  go_ret
  exact ⟨rfl, Below.refl w.heap.size w⟩

set_option maxHeartbeats 400000 in
theorem sent_no (p : Option Addr) (w : World) (h : NoE w p) :
    Calls Try.prog 8 #[.pointer p] w fun e w' => e = .returned (.bool false) ∧ Below w.heap.size w w' := by
  have H := Lib.hid (NoE.below h (Below.refl w.heap.size w))
  clear h
  go_enter Try.func8, Try.ntmps8
  go_wp2_with fail
  refine (state_no p _ H.out).mono ?_
  rintro e w' ⟨rfl, hb⟩
  go_wp2
  go_ret
  exact ⟨rfl, hb⟩

set_option maxHeartbeats 400000 in
theorem lost_no (p : Option Addr) (m : Int) (w : World) (h : NoE w p) :
    Calls Try.prog 11 #[.pointer p, .int .i64 m] w fun e w' => e = .returned (.int .i64 1) ∧ Below w.heap.size w w' := by
  have H := Lib.hid (NoE.below h (Below.refl w.heap.size w))
  clear h
  go_enter Try.func11, Try.ntmps11
  go_wp2_with fail
  refine (wrong_no p m _ H.out).mono ?_
  rintro e w' ⟨rfl, hb⟩
  go_wp2
  go_ret
  exact ⟨rfl, hb⟩

set_option maxHeartbeats 400000 in
theorem ack_no (p : Option Addr) (m x y z : Int) (d : Bool) (w : World) (h : NoE w p) :
    Calls Try.prog 9 #[.pointer p, .int .i64 m, .agg #[.int .i64 x, .int .i64 y, .int .i64 z], .bool d] w fun e w' => e = .returned (.tuple #[.bool false, .int .i64 1]) ∧ Below w.heap.size w w' := by
  have H := Lib.hid (NoE.below h (below_new (Below.refl w.heap.size w) (Nat.le_refl _) (.cells #[.int .i64 x, .int .i64 y, .int .i64 z] 25)))
  clear h
  go_enter Try.func9, Try.ntmps9
  go_wp2_with fail
  refine (none_yes p _ H.out).mono ?_
  rintro e w' ⟨rfl, rfl⟩
  go_wp2
  go_ret2
  exact ⟨rfl, below_new (Below.refl w.heap.size w) (Nat.le_refl _) (.cells #[.int .i64 x, .int .i64 y, .int .i64 z] 25)⟩

/-- What the law has laid ahead of its loop: the act, a validation that no call made, the list of both. -/
def Scene (w : World) (B : Nat) (kd m x y z : Int) (d : Bool) : Prop :=
  Bk w B 33 #[.int .i64 kd, .int .i64 m, .int .i64 x, .int .i64 y, .int .i64 z, .bool d] ∧ IsE 35 w (B + 1) 0 0 0 0 0 0 0 ∧ Bk w (B + 1 + 1) 22 #[.pointer none, .pointer (some ⟨B + 1, 0, none⟩)]
theorem Scene.below {w w' : World} {B : Nat} {kd m x y z : Int} {d : Bool} (h : Scene w B kd m x y z d) (hb : Below w.heap.size w w') : Scene w' B kd m x y z d :=
  ⟨h.1.below hb h.1.lt, IsE.below h.2.1 hb (IsE.lt h.2.1), h.2.2.below hb h.2.2.lt⟩

set_option maxHeartbeats 4000000 in
set_option maxRecDepth 100000 in
theorem nobody_at (w : World) (kd m x y z : Int) (d : Bool) (_h0 : -9223372036854775808 ≤ kd) (_k0 : kd ≤ 9223372036854775807) (_h1 : -9223372036854775808 ≤ m) (_k1 : m ≤ 9223372036854775807) (_h2 : -9223372036854775808 ≤ x) (_k2 : x ≤ 9223372036854775807) (_h3 : -9223372036854775808 ≤ y) (_k3 : y ≤ 9223372036854775807) (_h4 : -9223372036854775808 ≤ z) (_k4 : z ≤ 9223372036854775807) :
    Calls Try.prog 4 #[.agg #[.int .i64 kd, .int .i64 m, .int .i64 x, .int .i64 y, .int .i64 z, .bool d]] w fun e w' => e = .returned (.bool true) ∧ Below w.heap.size w w' := by
  go_enter Try.func4, Try.ntmps4
  go_wp2_with fail
  go_loopw [11] (fun i wr => ∃ j : Nat, j ≤ 2 ∧ i = .int .i64 j ∧ Hid (Scene wr w.heap.size kd m x y z d) ∧ Hid (Below w.heap.size w wr)) (fun i _ => 2 - (intOf i).toNat)
  case atStart =>
    refine ⟨0, by omega, rfl, Lib.hid ⟨((Bk.new w _ _).alloc _).alloc _, ?_, ?_⟩, Lib.hid (below_new (below_new (below_new (Below.refl _ _) (Nat.le_refl _) _) (Nat.le_refl _) _) (Nat.le_refl _) _)⟩
    · have := (IsE.new 35 (w.alloc (.cells #[.int .i64 kd, .int .i64 m, .int .i64 x, .int .i64 y, .int .i64 z, .bool d] 33)) 0 0 0 0 0 0 0).alloc (.cells #[.pointer none, .pointer (some ⟨w.heap.size + 1, 0, none⟩)] 22)
      simpa using this
    · have := Bk.new ((w.alloc (.cells #[.int .i64 kd, .int .i64 m, .int .i64 x, .int .i64 y, .int .i64 z, .bool d] 33)).alloc (.cells #[.int .i64 0, .int .i64 0, .int .i64 0, .int .i64 0, .int .i64 0, .int .i64 0, .int .i64 0] 35)) 22 #[.pointer none, .pointer (some ⟨w.heap.size + 1, 0, none⟩)]
      simpa using this
  case round =>
    obtain ⟨j, hj, rfl, HS0, HB0⟩ := hrel
    by_cases hlt : j < 2
    · obtain ⟨p, hp, hN⟩ : ∃ p, wr.cell? ⟨w.heap.size + 1 + 1, j, none⟩ = some (.pointer p) ∧ NoE wr p := by
        rcases (show j = 0 ∨ j = 1 by omega) with rfl | rfl
        · exact ⟨none, HS0.out.2.2.cell 0, .inl rfl⟩
        · exact ⟨some ⟨w.heap.size + 1, 0, none⟩, HS0.out.2.2.cell 1, .inr ⟨_, rfl, HS0.out.2.1⟩⟩
      have HN0 := Lib.hid hN
      clear hN
      obtain ⟨hc, _⟩ := HS0.out
      have c0 := hc.cell 0
      have c1 := hc.cell 1
      have c2 := hc.cell 2
      have c3 := hc.cell 3
      have c4 := hc.cell 4
      have c5 := hc.cell 5
      simp only [List.getElem?_toArray, List.getElem?_cons_zero, List.getElem?_cons_succ] at c0 c1 c2 c3 c4 c5
      clear hc
      go_wp2_with fail
      refine (ack_no p m x y z d _ HN0.out).mono ?_
      rintro e v1 ⟨rfl, hb⟩
      have HN1 := Lib.hid (HN0.out.below hb)
      have HS1 := Lib.hid (HS0.out.below hb)
      have HB1 := Lib.hid (HB0.out.trans (hb.mono HB0.out.size))
      clear hb
      clear hp
      clear c0 c1 c2 c3 c4 c5
      go_wp2_with fail
      refine (state_no p _ HN1.out).mono ?_
      rintro e v2 ⟨rfl, hb⟩
      have HN2 := Lib.hid (HN1.out.below hb)
      have HS2 := Lib.hid (HS1.out.below hb)
      have HB2 := Lib.hid (HB1.out.trans (hb.mono HB1.out.size))
      clear hb
      go_wp2_with fail
      refine (sent_no p _ HN2.out).mono ?_
      rintro e v3 ⟨rfl, hb⟩
      have HN3 := Lib.hid (HN2.out.below hb)
      have HS3 := Lib.hid (HS2.out.below hb)
      have HB3 := Lib.hid (HB2.out.trans (hb.mono HB2.out.size))
      clear hb
      obtain ⟨hc, _⟩ := HS3.out
      have c0 := hc.cell 0
      have c1 := hc.cell 1
      have c2 := hc.cell 2
      have c3 := hc.cell 3
      have c4 := hc.cell 4
      have c5 := hc.cell 5
      simp only [List.getElem?_toArray, List.getElem?_cons_zero, List.getElem?_cons_succ] at c0 c1 c2 c3 c4 c5
      clear hc
      go_wp2_with fail
      refine (lost_no p m _ HN3.out).mono ?_
      rintro e v4 ⟨rfl, hb⟩
      have HN4 := Lib.hid (HN3.out.below hb)
      have HS4 := Lib.hid (HS3.out.below hb)
      have HB4 := Lib.hid (HB3.out.trans (hb.mono HB3.out.size))
      clear hb
      clear c0 c1 c2 c3 c4 c5
      go_wp2
      go_roundw
      case rel => exact ⟨j + 1, by omega, by go_num, HS4, HB4⟩
      case measure => simp [intOf]; omega
    · go_wp2
      go_ret
      exact ⟨rfl, HB0.out⟩
end Go.Proofs.Ytpammbkhomcjmaa

/- The walk of the law FlowNobody: the methods at a nil pointer and at a side that no call made. -/
import Derived.Test.YtkjgdaehfpoleaaUpd
namespace Go.Proofs.Ytkjgdaehfpoleaa
open Go.RowKit

/-- No side: nil, or one that no call made. -/
def NoG (w : World) (p : Option Addr) : Prop := p = none ∨ ∃ g, p = some ⟨g, 0, none⟩ ∧ IsG w g false 0 0 0
theorem NoG.below {w w' : World} {p : Option Addr} (h : NoG w p) (hb : Below w.heap.size w w') : NoG w' p := by
  rcases h with rfl | ⟨g, rfl, hI⟩
  · exact .inl rfl
  · exact .inr ⟨g, rfl, hI.below hb hI.lt⟩
theorem NoG.drewN {w : World} {p : Option Addr} (h : NoG w p) (n : Nat) : NoG (w.drewN n) p := h
set_option maxHeartbeats 400000 in
theorem NoG_none (p : Option Addr) (w : World) (h : NoG w p) :
    Calls Try.prog 28 #[.pointer p] w fun e w' => e = .returned (.bool true) ∧ w = w' := by
  rcases h with rfl | ⟨g, rfl, hI⟩
  · go_enter Try.func28, Try.ntmps28
    go_wp2
    go_ret
    exact ⟨rfl, rfl⟩
  · obtain ⟨⟨c0, c1, c2, c3⟩, _⟩ := hI.all
    clear hI
    go_enter Try.func28, Try.ntmps28
    go_wp2
    go_ret
    exact ⟨rfl, rfl⟩

/-- No side: nil, or one that no call made. -/
def NoT (w : World) (p : Option Addr) : Prop := p = none ∨ ∃ g, p = some ⟨g, 0, none⟩ ∧ IsT w g false 0 0 0 0
theorem NoT.below {w w' : World} {p : Option Addr} (h : NoT w p) (hb : Below w.heap.size w w') : NoT w' p := by
  rcases h with rfl | ⟨g, rfl, hI⟩
  · exact .inl rfl
  · exact .inr ⟨g, rfl, hI.below hb hI.lt⟩
theorem NoT.drewN {w : World} {p : Option Addr} (h : NoT w p) (n : Nat) : NoT (w.drewN n) p := h
set_option maxHeartbeats 400000 in
theorem NoT_none (p : Option Addr) (w : World) (h : NoT w p) :
    Calls Try.prog 29 #[.pointer p] w fun e w' => e = .returned (.bool true) ∧ w = w' := by
  rcases h with rfl | ⟨g, rfl, hI⟩
  · go_enter Try.func29, Try.ntmps29
    go_wp2
    go_ret
    exact ⟨rfl, rfl⟩
  · obtain ⟨⟨c0, c1, c2, c3, c4⟩, _⟩ := hI.all
    clear hI
    go_enter Try.func29, Try.ntmps29
    go_wp2
    go_ret
    exact ⟨rfl, rfl⟩

set_option maxHeartbeats 400000 in
theorem raise_no (p : Option Addr) (n : Int) (w : World) (h : NoG w p) :
    Calls Try.prog 11 #[.pointer p, .int .i64 n] w fun e w' => e = .returned (.int .i64 1) ∧ w = w' := by
  have H := Lib.hid h
  clear h
  go_enter Try.func11, Try.ntmps11
  go_wp2_with fail
  refine (NoG_none p _ H.out).mono ?_
  rintro e w' ⟨rfl, rfl⟩
  go_wp2
  go_ret
  exact ⟨rfl, rfl⟩

set_option maxHeartbeats 400000 in
theorem spend_no (p : Option Addr) (n : Int) (w : World) (h : NoG w p) :
    Calls Try.prog 13 #[.pointer p, .int .i64 n] w fun e w' => e = .returned (.int .i64 1) ∧ w = w' := by
  have H := Lib.hid h
  clear h
  go_enter Try.func13, Try.ntmps13
  go_wp2_with fail
  refine (NoG_none p _ H.out).mono ?_
  rintro e w' ⟨rfl, rfl⟩
  go_wp2
  go_ret
  exact ⟨rfl, rfl⟩

set_option maxHeartbeats 400000 in
theorem left_no (p : Option Addr) (w : World) (h : NoG w p) :
    Calls Try.prog 17 #[.pointer p] w fun e w' => e = .returned (.tuple #[.int .i64 0, .int .i64 0]) ∧ w = w' := by
  have H := Lib.hid h
  clear h
  go_enter Try.func17, Try.ntmps17
  go_wp2_with fail
  refine (NoG_none p _ H.out).mono ?_
  rintro e w' ⟨rfl, rfl⟩
  go_wp2
  go_ret2
  exact ⟨rfl, rfl⟩

set_option maxHeartbeats 400000 in
theorem take_no (p : Option Addr) (n : Int) (w : World) (h : NoT w p) :
    Calls Try.prog 20 #[.pointer p, .int .i64 n] w fun e w' => e = .returned (.int .i64 1) ∧ w = w' := by
  have H := Lib.hid h
  clear h
  go_enter Try.func20, Try.ntmps20
  go_wp2_with fail
  refine (NoT_none p _ H.out).mono ?_
  rintro e w' ⟨rfl, rfl⟩
  go_wp2
  go_ret
  exact ⟨rfl, rfl⟩

set_option maxHeartbeats 400000 in
theorem used_no (p : Option Addr) (n : Int) (w : World) (h : NoT w p) :
    Calls Try.prog 22 #[.pointer p, .int .i64 n] w fun e w' => e = .returned (.int .i64 1) ∧ w = w' := by
  have H := Lib.hid h
  clear h
  go_enter Try.func22, Try.ntmps22
  go_wp2_with fail
  refine (NoT_none p _ H.out).mono ?_
  rintro e w' ⟨rfl, rfl⟩
  go_wp2
  go_ret
  exact ⟨rfl, rfl⟩

set_option maxHeartbeats 400000 in
theorem told_no (p : Option Addr) (w : World) (h : NoT w p) :
    Calls Try.prog 26 #[.pointer p] w fun e w' => e = .returned (.tuple #[.int .i64 0, .int .i64 0, .int .i64 0]) ∧ w = w' := by
  have H := Lib.hid h
  clear h
  go_enter Try.func26, Try.ntmps26
  go_wp2_with fail
  refine (NoT_none p _ H.out).mono ?_
  rintro e w' ⟨rfl, rfl⟩
  go_wp2
  go_ret3
  exact ⟨rfl, rfl⟩

set_option maxHeartbeats 400000 in
theorem blocked_no (p : Option Addr) (w : World) (h : NoG w p) :
    Calls Try.prog 15 #[.pointer p] w fun e w' => e = .returned (.tuple #[.int .i64 0, .bool false]) ∧ Below w.heap.size w w' := by
  have H := Lib.hid h
  clear h
  go_enter Try.func15, Try.ntmps15
  go_wp2_with fail
  go_quiet ((go_at_call 28; exact quiet_eq (NoG_none p _ (H.out.drewN _))))
  go_wp2
  go_ret2
  exact ⟨rfl, below_drewN (Below.refl _ _) _⟩

set_option maxHeartbeats 400000 in
theorem upd_no (p : Option Addr) (w : World) (h : NoT w p) :
    Calls Try.prog 24 #[.pointer p] w fun e w' => e = .returned (.tuple #[.int .i64 0, .bool false]) ∧ Below w.heap.size w w' := by
  have H := Lib.hid (h.below (below_new (Below.refl _ w) (Nat.le_refl _) (.cells #[.pointer p] 44)))
  clear h
  go_enter Try.func24, Try.ntmps24
  go_wp2_with fail
  refine (NoT_none p _ H.out).mono ?_
  rintro e w' ⟨rfl, rfl⟩
  go_wp2
  go_ret2
  exact ⟨rfl, below_new (Below.refl _ _) (Nat.le_refl _) _⟩

/-- What the law has laid ahead of a loop: a side that no call made, the list of nil and it. -/
def Scene (w : World) (B : Nat) (P : World → Nat → Prop) (t : TypeId) : Prop := P w B ∧ Bk w (B + 1) t #[.pointer none, .pointer (some ⟨B, 0, none⟩)]

set_option maxHeartbeats 4000000 in
set_option maxRecDepth 100000 in
theorem nobody_at (w : World) (n : Int) (_h0 : -9223372036854775808 ≤ n) (_h1 : n ≤ 9223372036854775807) :
    Calls Try.prog 6 #[.int .i64 n] w fun e w' => e = .returned (.bool true) ∧ Below w.heap.size w w' := by
  go_enter Try.func6, Try.ntmps6
  go_wp2_with fail
  go_loopw [20] (fun i wr => ∃ j : Nat, j ≤ 2 ∧ i = .int .i64 j ∧ Hid (IsG wr w.heap.size false 0 0 0) ∧ Hid (Bk wr (w.heap.size + 1) 23 #[.pointer none, .pointer (some ⟨w.heap.size, 0, none⟩)]) ∧ Hid (Below w.heap.size w wr)) (fun i _ => 2 - (intOf i).toNat)
  case atStart =>
    refine ⟨0, by omega, rfl, Lib.hid ((IsG.new w false 0 0 0).alloc _), Lib.hid ?_, Lib.hid (below_new (below_new (Below.refl _ _) (Nat.le_refl _) _) (Nat.le_refl _) _)⟩
    have := Bk.new (w.alloc (.cells #[.bool false, .int .i64 0, .int .i64 0, .int .i64 0] 55)) 23 #[.pointer none, .pointer (some ⟨w.heap.size, 0, none⟩)]
    simpa using this
  case round =>
    obtain ⟨j, hj, rfl, HS, HL, HB⟩ := hrel
    by_cases hlt : j < 2
    · obtain ⟨p, hp, hN⟩ : ∃ p, wr.cell? ⟨w.heap.size + 1, j, none⟩ = some (.pointer p) ∧ NoG wr p := by
        rcases (show j = 0 ∨ j = 1 by omega) with rfl | rfl
        · exact ⟨none, HL.out.cell 0, .inl rfl⟩
        · exact ⟨some ⟨w.heap.size, 0, none⟩, HL.out.cell 1, .inr ⟨_, rfl, HS.out⟩⟩
      have HN := Lib.hid hN
      clear hN
      go_wp2_with fail
      refine (left_no p _ HN.out).mono ?_
      rintro e v ⟨rfl, rfl⟩
      go_wp2_with fail
      refine (blocked_no p _ HN.out).mono ?_
      rintro e v ⟨rfl, hb⟩
      have HN2 := Lib.hid (HN.out.below hb)
      have HS2 := Lib.hid (HS.out.below hb HS.out.lt)
      have HL2 := Lib.hid (HL.out.below hb HL.out.lt)
      have HB2 := Lib.hid (HB.out.trans (hb.mono HB.out.size))
      clear hb hp HN HS HL HB
      go_wp2_with fail
      refine (raise_no p n _ HN2.out).mono ?_
      rintro e v ⟨rfl, rfl⟩
      go_wp2_with fail
      refine (spend_no p n _ HN2.out).mono ?_
      rintro e v ⟨rfl, rfl⟩
      go_wp2
      go_roundw
      case rel => exact ⟨j + 1, by omega, by go_num, HS2, HL2, HB2⟩
      case measure => simp [intOf]; omega
    · have hj2 : 2 ≤ j := by omega
      clear hlt
      obtain ⟨wq, hwq⟩ : ∃ wq, wq = wr := ⟨_, rfl⟩
      subst hwq
      go_wp2_with fail
      go_loopw [64] (fun i wx => ∃ j : Nat, j ≤ 2 ∧ i = .int .i64 j ∧ Hid (IsT wx wq.heap.size false 0 0 0 0) ∧ Hid (Bk wx (wq.heap.size + 1) 44 #[.pointer none, .pointer (some ⟨wq.heap.size, 0, none⟩)]) ∧ Hid (Below w.heap.size w wx)) (fun i _ => 2 - (intOf i).toNat)
      case atStart =>
        refine ⟨0, by omega, rfl, Lib.hid ((IsT.new wq false 0 0 0 0).alloc _), Lib.hid ?_, Lib.hid (below_new (below_new HB.out (Nat.le_refl _) _) (Nat.le_refl _) _)⟩
        have := Bk.new (wq.alloc (.cells #[.bool false, .int .i64 0, .int .i64 0, .int .i64 0, .int .i64 0] 58)) 44 #[.pointer none, .pointer (some ⟨wq.heap.size, 0, none⟩)]
        simpa using this
      case round =>
        obtain ⟨j, hj, rfl, HS, HL, HB⟩ := hrel
        by_cases hlt : j < 2
        · obtain ⟨p, hp, hN⟩ : ∃ p, wr.cell? ⟨wq.heap.size + 1, j, none⟩ = some (.pointer p) ∧ NoT wr p := by
            rcases (show j = 0 ∨ j = 1 by omega) with rfl | rfl
            · exact ⟨none, HL.out.cell 0, .inl rfl⟩
            · exact ⟨some ⟨wq.heap.size, 0, none⟩, HL.out.cell 1, .inr ⟨_, rfl, HS.out⟩⟩
          have HN := Lib.hid hN
          clear hN
          go_wp2_with fail
          refine (told_no p _ HN.out).mono ?_
          rintro e v ⟨rfl, rfl⟩
          go_wp2_with fail
          refine (upd_no p _ HN.out).mono ?_
          rintro e v ⟨rfl, hb⟩
          have HN2 := Lib.hid (HN.out.below hb)
          have HS2 := Lib.hid (HS.out.below hb HS.out.lt)
          have HL2 := Lib.hid (HL.out.below hb HL.out.lt)
          have HB2 := Lib.hid (HB.out.trans (hb.mono HB.out.size))
          clear hb hp HN HS HL HB
          go_wp2_with fail
          refine (take_no p n _ HN2.out).mono ?_
          rintro e v ⟨rfl, rfl⟩
          go_wp2_with fail
          refine (used_no p n _ HN2.out).mono ?_
          rintro e v ⟨rfl, rfl⟩
          go_wp2
          go_roundw
          case rel => exact ⟨j + 1, by omega, by go_num, HS2, HL2, HB2⟩
          case measure => simp [intOf]; omega
        · have hj2 : 2 ≤ j := by omega
          clear hlt
          go_wp2
          go_ret
          exact ⟨rfl, HB.out⟩
end Go.Proofs.Ytkjgdaehfpoleaa

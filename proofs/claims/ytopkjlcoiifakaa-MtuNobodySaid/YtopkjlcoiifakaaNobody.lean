/- The walk of the law MtuNobody: the methods at a nil pointer and at a search that no call made. -/
import Derived.Test.YtopkjlcoiifakaaMeth
namespace Go.Proofs.Ytopkjlcoiifakaa
open Go.RowKit

/-- No search: nil, or one that no call made. -/
def NoM (w : World) (p : Option Addr) : Prop := p = none ∨ ∃ g, p = some ⟨g, 0, none⟩ ∧ IsM w g 0 0 0 0
theorem NoM.below {w w' : World} {p : Option Addr} (h : NoM w p) (hb : Below w.heap.size w w') : NoM w' p := by
  rcases h with rfl | ⟨g, rfl, hI⟩
  · exact .inl rfl
  · exact .inr ⟨g, rfl, hI.below hb hI.lt⟩
theorem NoM.drewN {w : World} {p : Option Addr} (h : NoM w p) (n : Nat) : NoM (w.drewN n) p := h

set_option maxHeartbeats 400000 in
theorem none_yes (p : Option Addr) (w : World) (h : NoM w p) :
    Calls Try.prog 19 #[.pointer p] w fun e w' => e = .returned (.bool true) ∧ w = w' := by
  rcases h with rfl | ⟨g, rfl, hI⟩
  · go_enter Try.func19, Try.ntmps19
    go_wp2
    go_ret
    exact ⟨rfl, rfl⟩
  · obtain ⟨⟨c0, c1, c2, c3⟩, _⟩ := hI.all
    clear hI
    go_enter Try.func19, Try.ntmps19
    go_wp2
    go_ret
    exact ⟨rfl, rfl⟩

set_option maxHeartbeats 400000 in
theorem size_no (p : Option Addr) (w : World) (h : NoM w p) :
    Calls Try.prog 8 #[.pointer p] w fun e w' => e = .returned (.int .i64 0) ∧ w = w' := by
  have H := Lib.hid h
  clear h
  go_enter Try.func8, Try.ntmps8
  go_wp2_with fail
  refine (none_yes p _ H.out).mono ?_
  rintro e w' ⟨rfl, rfl⟩
  go_wp2
  go_ret
  exact ⟨rfl, rfl⟩

set_option maxHeartbeats 400000 in
theorem on_no (p : Option Addr) (k : Nat) (w : World) (h : NoM w p) (hk : w.cell? ⟨k, 0, none⟩ = some (.pointer p)) :
    Calls Try.prog 20 #[.pointer (some ⟨k, 0, none⟩)] w fun e w' => e = .returned (.bool false) ∧ ∃ n, w' = w.drewN n := by
  have H := Lib.hid h
  clear h
  go_enter Try.func20, Try.ntmps20
  go_wp2_with fail
  go_quiet ((go_at_call 19; exact quiet_eq (none_yes p _ (H.out.drewN _))))
  go_wp2
  go_ret
  exact ⟨rfl, _, rfl⟩

set_option maxHeartbeats 400000 in
theorem probe_no (p : Option Addr) (w : World) (h : NoM w p) :
    Calls Try.prog 9 #[.pointer p] w fun e w' => e = .returned (.tuple #[.int .i64 0, .bool false]) ∧ Below w.heap.size w w' := by
  have H := Lib.hid (h.below (below_new (Below.refl _ w) (Nat.le_refl _) (.cells #[.pointer p] 22)))
  have ck : (w.alloc (.cells #[.pointer p] 22)).cell? ⟨w.heap.size, 0, none⟩ = some (.pointer p) := by simp
  clear h
  go_enter Try.func9, Try.ntmps9
  go_wp2_with fail
  refine (on_no p _ _ H.out ck).mono ?_
  rintro e w' ⟨rfl, n, rfl⟩
  go_wp2
  go_ret2
  exact ⟨rfl, below_drewN (below_new (Below.refl _ _) (Nat.le_refl _) _) _⟩

set_option maxHeartbeats 400000 in
theorem wrong_no (p : Option Addr) (n : Int) (w : World) (h : NoM w p) :
    Calls Try.prog 21 #[.pointer p, .int .i64 n] w fun e w' => e = .returned (.int .i64 1) ∧ Below w.heap.size w w' := by
  have H := Lib.hid h
  clear h
  go_enter Try.func21, Try.ntmps21
  go_wp2_with fail
  refine (probe_no p _ H.out).mono ?_
  rintro e w1 ⟨rfl, hb⟩
  go_wp2_with fail
  refine (none_yes p _ (H.out.below hb)).mono ?_
  rintro e w2 ⟨rfl, rfl⟩
  go_wp2
  go_ret
  exact ⟨rfl, hb⟩

set_option maxHeartbeats 400000 in
theorem acked_no (p : Option Addr) (n : Int) (w : World) (h : NoM w p) :
    Calls Try.prog 10 #[.pointer p, .int .i64 n] w fun e w' => e = .returned (.int .i64 1) ∧ Below w.heap.size w w' := by
  have H := Lib.hid h
  clear h
  go_enter Try.func10, Try.ntmps10
  go_wp2_with fail
  refine (wrong_no p n _ H.out).mono ?_
  rintro e w1 ⟨rfl, hb⟩
  go_wp2
  go_ret
  exact ⟨rfl, hb⟩

set_option maxHeartbeats 400000 in
theorem lost_no (p : Option Addr) (n : Int) (w : World) (h : NoM w p) :
    Calls Try.prog 12 #[.pointer p, .int .i64 n] w fun e w' => e = .returned (.int .i64 1) ∧ Below w.heap.size w w' := by
  have H := Lib.hid h
  clear h
  go_enter Try.func12, Try.ntmps12
  go_wp2_with fail
  refine (wrong_no p n _ H.out).mono ?_
  rintro e w1 ⟨rfl, hb⟩
  go_wp2
  go_ret
  exact ⟨rfl, hb⟩

set_option maxHeartbeats 400000 in
theorem hole_no (p : Option Addr) (w : World) (h : NoM w p) :
    Calls Try.prog 11 #[.pointer p] w fun e w' => e = .returned (.tuple #[]) ∧ w = w' := by
  have H := Lib.hid h
  clear h
  go_enter Try.func11, Try.ntmps11
  go_wp2_with fail
  refine (none_yes p _ H.out).mono ?_
  rintro e w1 ⟨rfl, rfl⟩
  go_wp2
  go_end0
  exact ⟨rfl, rfl⟩

/-- What the law has laid ahead of its loop: the act, a search that no call made, the list of both. -/
def Scene (w : World) (B : Nat) (k s : Int) (o : Bool) : Prop :=
  Bk w B 32 #[.int .i64 k, .int .i64 s, .bool o] ∧ IsM w (B + 1) 0 0 0 0 ∧ Bk w (B + 1 + 1) 22 #[.pointer none, .pointer (some ⟨B + 1, 0, none⟩)]
theorem Scene.below {w w' : World} {B : Nat} {k s : Int} {o : Bool} (h : Scene w B k s o) (hb : Below w.heap.size w w') : Scene w' B k s o :=
  ⟨h.1.below hb h.1.lt, h.2.1.below hb h.2.1.lt, h.2.2.below hb h.2.2.lt⟩

set_option maxHeartbeats 1000000 in
theorem nobody_at (w : World) (k s : Int) (o : Bool) :
    Calls Try.prog 4 #[.agg #[.int .i64 k, .int .i64 s, .bool o]] w fun e w' => e = .returned (.bool true) ∧ Below w.heap.size w w' := by
  go_enter Try.func4, Try.ntmps4
  go_wp2_with fail
  go_loopw [11] (fun i wr => ∃ j : Nat, j ≤ 2 ∧ i = .int .i64 j ∧ Hid (Scene wr w.heap.size k s o) ∧ Hid (Below w.heap.size w wr)) (fun i _ => 2 - (intOf i).toNat)
  case atStart =>
    refine ⟨0, by omega, rfl, Lib.hid ⟨((Bk.new w _ _).alloc _).alloc _, ?_, ?_⟩, Lib.hid (below_new (below_new (below_new (Below.refl _ _) (Nat.le_refl _) _) (Nat.le_refl _) _) (Nat.le_refl _) _)⟩
    · have := (IsM.new (w.alloc (.cells #[.int .i64 k, .int .i64 s, .bool o] 32)) 0 0 0 0).alloc (.cells #[.pointer none, .pointer (some ⟨w.heap.size + 1, 0, none⟩)] 22)
      simpa using this
    · have := Bk.new ((w.alloc (.cells #[.int .i64 k, .int .i64 s, .bool o] 32)).alloc (.cells #[.int .i64 0, .int .i64 0, .int .i64 0, .int .i64 0] 34)) 22 #[.pointer none, .pointer (some ⟨w.heap.size + 1, 0, none⟩)]
      simpa using this
  case round =>
    obtain ⟨j, hj, rfl, HS, HB⟩ := hrel
    have hsz := HB.out.size
    by_cases hlt : j < 2
    · obtain ⟨p, hp, hN⟩ : ∃ p, wr.cell? ⟨w.heap.size + 1 + 1, j, none⟩ = some (.pointer p) ∧ NoM wr p := by
        rcases (show j = 0 ∨ j = 1 by omega) with rfl | rfl
        · exact ⟨none, HS.out.2.2.cell 0, .inl rfl⟩
        · exact ⟨some ⟨w.heap.size + 1, 0, none⟩, HS.out.2.2.cell 1, .inr ⟨_, rfl, HS.out.2.1⟩⟩
      have HN := Lib.hid hN
      clear hN
      go_wp2_with fail
      refine (hole_no p _ HN.out).mono ?_
      rintro e w1 ⟨rfl, rfl⟩
      go_wp2_with fail
      refine (probe_no p _ HN.out).mono ?_
      rintro e w2 ⟨rfl, hb2⟩
      have HN2 := Lib.hid (HN.out.below hb2)
      have HS2 := Lib.hid (HS.out.below hb2)
      have HB2 := Lib.hid (HB.out.trans (hb2.mono hsz))
      clear hb2 hp HN HS HB hsz
      have hsz := HB2.out.size
      go_wp2_with fail
      refine (size_no p _ HN2.out).mono ?_
      rintro e w3 ⟨rfl, rfl⟩
      have c1 : w2.cell? ⟨w.heap.size, 1, none⟩ = some (.int .i64 s) := HS2.out.1.cell 1
      go_wp2_with fail
      refine (acked_no p s _ HN2.out).mono ?_
      rintro e w4 ⟨rfl, hb4⟩
      have HN4 := Lib.hid (HN2.out.below hb4)
      have HS4 := Lib.hid (HS2.out.below hb4)
      have HB4 := Lib.hid (HB2.out.trans (hb4.mono hsz))
      clear hb4 HN2 HS2 HB2 hsz c1
      have hsz := HB4.out.size
      have c1 : w4.cell? ⟨w.heap.size, 1, none⟩ = some (.int .i64 s) := HS4.out.1.cell 1
      go_wp2_with fail
      refine (lost_no p s _ HN4.out).mono ?_
      rintro e w5 ⟨rfl, hb5⟩
      have HS5 := Lib.hid (HS4.out.below hb5)
      have HB5 := Lib.hid (HB4.out.trans (hb5.mono hsz))
      clear hb5 HN4 HS4 HB4 hsz c1
      go_wp2
      go_roundw
      case rel => exact ⟨j + 1, by omega, by go_num, HS5, HB5⟩
      case measure => simp [intOf]; omega
    · go_wp2
      go_ret
      exact ⟨rfl, HB.out⟩
end Go.Proofs.Ytopkjlcoiifakaa

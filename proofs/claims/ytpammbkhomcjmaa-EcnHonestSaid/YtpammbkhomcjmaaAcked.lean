/- Acked, the program's. -/
import Derived.Test.YtpammbkhomcjmaaRight
namespace Go.Proofs.Ytpammbkhomcjmaa
open Go.RowKit

/-- A number that a peer may tell. -/
def inR (p : Int) : Prop := 0 ≤ p ∧ p ≤ 4611686018427387903
instance (p : Int) : Decidable (inR p) := by unfold inR; infer_instance
def inAll (p q r : Int) : Prop := inR p ∧ inR q ∧ inR r
instance (p q r : Int) : Decidable (inAll p q r) := by unfold inAll; infer_instance
def ackE (s : St) (m p q r : Int) : Int := if inAll p q r ∧ ¬ badM s m then 0 else 2
def ackB (s : St) (m p q r : Int) (says : Bool) : Bool := decide ((inAll p q r ∧ ¬ badM s m) ∧ s.st ≠ 3 ∧ says = true ∧ fine s m p q r ∧ s.l2 < r)
def ackS (s : St) (m p q r : Int) (says : Bool) : St :=
  if inAll p q r ∧ ¬ badM s m then
    if s.st = 3 ∨ says = false ∧ m = 0 then { s with here := s.here + m }
    else if says = true ∧ fine s m p q r then { s with here := s.here + m, l0 := p, l1 := q, l2 := r, st := if 0 < m then 4 else s.st }
    else { s with here := s.here + m, st := 3 }
  else s
theorem only_below2 {a w w' : World} {g : Nat} (h : Only a w g) (hb : Below w.heap.size w w') : Only a w' g :=
  ⟨hb.os.trans h.os, hb.tape.trans h.tape, hb.output.trans h.output, Nat.le_trans h.size hb.size, fun i hi hn => (hb.block i (Nat.lt_of_lt_of_le hi h.size)).trans (h.block i hi hn)⟩
theorem IsC.drewN {w : World} {g : Nat} {p q r : Int} (h : IsC w g p q r) (k : Nat) : IsC (w.drewN k) g p q r := Bk.drewN h k
theorem IsC.far {w : World} {g : Nat} {p q r : Int} (h : IsC w g p q r) {a : Addr} (hp : g ≠ a.block) (u : Value) : IsC (w.setCell a u) g p q r := Bk.far h hp u
theorem IsC.below {w w' : World} {g : Nat} {p q r : Int} (h : IsC w g p q r) (hb : Below w.heap.size w w') : IsC w' g p q r := Bk.below h hb h.lt
theorem ok_ack {s : St} {B m p q r : Int} {says : Bool} (h : Ok s B) : Ok (ackS s m p q r says) B := by
  obtain ⟨h0, h1, h2, h3, h4, h5, h6, h7, h8, h9⟩ := h
  unfold ackS
  by_cases hc : inAll p q r ∧ ¬ badM s m
  · rw [if_pos hc]
    obtain ⟨⟨⟨a0, a1⟩, ⟨b0, b1⟩, ⟨c0, c1⟩⟩, hb⟩ := hc
    unfold badM at hb
    split
    · exact ⟨h0, h1, by dsimp only; omega, by dsimp only; omega, h4, h5, h6, h7, h8, h9⟩
    · split
      · rename_i hf
        exact ⟨by dsimp only; split <;> omega, h1, by dsimp only; omega, by dsimp only; omega, h4, a0, a1, hf.2.2.2.1, c0, c1⟩
      · exact ⟨by dsimp only; omega, h1, by dsimp only; omega, by dsimp only; omega, h4, h5, h6, h7, h8, h9⟩
  · rw [if_neg hc]
    exact ⟨h0, h1, h2, h3, h4, h5, h6, h7, h8, h9⟩

set_option maxHeartbeats 4000000 in
theorem ack_out (g : Nat) (a n o h x y z m p q r : Int) (says : Bool) (w : World) (H : IsE 35 w g a n o h x y z) (ha : a = 1 ∨ a = 2 ∨ a = 3 ∨ a = 4) (hb : ¬ inAll p q r) :
    Calls Try.prog 9 #[.pointer (some ⟨g, 0, none⟩), .int .i64 m, .agg #[.int .i64 p, .int .i64 q, .int .i64 r], .bool says] w fun e w' => e = .returned (.tuple #[.bool false, .int .i64 2]) ∧ IsE 35 w' g a n o h x y z ∧ Only w w' g := by
  have HN := Lib.hid hb
  have HA := Lib.hid ha
  clear hb ha
  have i0 := idx0 p q r
  have i1 := idx1 p q r
  have i2 := idx2 p q r
  have H1 := Lib.hid (IsE.alloc H (.cells #[.int .i64 p, .int .i64 q, .int .i64 r] 25))
  have HX1 := Lib.hid (show IsC (w.alloc (.cells #[.int .i64 p, .int .i64 q, .int .i64 r] 25)) w.heap.size p q r from Bk.new w 25 _)
  have HO1 := Lib.hid (only_alloc (only_refl w g) (.cells #[.int .i64 p, .int .i64 q, .int .i64 r] 25))
  have hlt := H.lt
  have hlt1 : g < (w.alloc (.cells #[.int .i64 p, .int .i64 q, .int .i64 r] 25)).heap.size := (IsE.alloc H (.cells #[.int .i64 p, .int .i64 q, .int .i64 r] 25)).lt
  have hkg : w.heap.size ≠ g := by omega
  clear H
  go_enter Try.func9, Try.ntmps9
  go_wp2_with fail
  generalize w.alloc (.cells #[.int .i64 p, .int .i64 q, .int .i64 r] 25) = w1 at *
  obtain ⟨K, hkq⟩ : ∃ K, w.heap.size = K := ⟨_, rfl⟩
  rw [hkq] at HX1 hkg ⊢
  clear hkq hlt
  go_wp2_with fail
  refine (none_no g a n o h x y z _ H1.out HA.out).mono ?_
  rintro e w' ⟨rfl, rfl⟩
  obtain ⟨x0, x1, x2⟩ := HX1.out.all
  go_wp2_with fail
  go_loop [16] (fun i => ∃ k : Nat, k ≤ 2 ∧ i = .int .i64 k ∧ (1 ≤ k → inR p) ∧ (2 ≤ k → inR q)) (fun i => 3 - (intOf i).toNat)
  case atStart => exact ⟨0, by omega, rfl, fun h => by omega, fun h => by omega⟩
  case round =>
    obtain ⟨k, hk, rfl, k1, k2⟩ := hrel
    rcases (show k = 0 ∨ k = 1 ∨ k = 2 by omega) with rfl | rfl | rfl
    · clear k1 k2
      rcases (show p < 0 ∨ 0 ≤ p ∧ 4611686018427387903 < p ∨ 0 ≤ p ∧ p ≤ 4611686018427387903 by omega) with hd | ⟨hc, hd⟩ | ⟨hc, hd⟩
      · have d0 : decide (p < 0) = true := decide_eq_true hd
        go_wp2
        go_ret2
        exact ⟨rfl, H1.out, HO1.out⟩
      · have d0 : decide (p < 0) = false := decide_eq_false (by omega)
        have d1 : decide (4611686018427387903 < p) = true := decide_eq_true hd
        go_wp2
        go_ret2
        exact ⟨rfl, H1.out, HO1.out⟩
      · have d0 : decide (p < 0) = false := decide_eq_false (by omega)
        have d1 : decide (4611686018427387903 < p) = false := decide_eq_false (by omega)
        go_wp2
        go_round
        case rel => exact ⟨1, by omega, rfl, fun _ => ⟨hc, hd⟩, fun h => by omega⟩
        case measure => simp [intOf]
    · have j1 := k1 (by omega)
      clear k1 k2
      rcases (show q < 0 ∨ 0 ≤ q ∧ 4611686018427387903 < q ∨ 0 ≤ q ∧ q ≤ 4611686018427387903 by omega) with hd | ⟨hc, hd⟩ | ⟨hc, hd⟩
      · have d0 : decide (q < 0) = true := decide_eq_true hd
        go_wp2
        go_ret2
        exact ⟨rfl, H1.out, HO1.out⟩
      · have d0 : decide (q < 0) = false := decide_eq_false (by omega)
        have d1 : decide (4611686018427387903 < q) = true := decide_eq_true hd
        go_wp2
        go_ret2
        exact ⟨rfl, H1.out, HO1.out⟩
      · have d0 : decide (q < 0) = false := decide_eq_false (by omega)
        have d1 : decide (4611686018427387903 < q) = false := decide_eq_false (by omega)
        go_wp2
        go_round
        case rel => exact ⟨2, by omega, rfl, fun _ => j1, fun _ => ⟨hc, hd⟩⟩
        case measure => simp [intOf]
    · have j1 := k1 (by omega)
      have j2 := k2 (by omega)
      clear k1 k2
      rcases (show r < 0 ∨ 0 ≤ r ∧ 4611686018427387903 < r ∨ 0 ≤ r ∧ r ≤ 4611686018427387903 by omega) with hd | ⟨hc, hd⟩ | ⟨hc, hd⟩
      · have d0 : decide (r < 0) = true := decide_eq_true hd
        go_wp2
        go_ret2
        exact ⟨rfl, H1.out, HO1.out⟩
      · have d0 : decide (r < 0) = false := decide_eq_false (by omega)
        have d1 : decide (4611686018427387903 < r) = true := decide_eq_true hd
        go_wp2
        go_ret2
        exact ⟨rfl, H1.out, HO1.out⟩
      · exact absurd ⟨j1, j2, hc, hd⟩ HN.out

set_option maxHeartbeats 4000000 in
theorem ack_bad (g : Nat) (a n o h x y z m p q r : Int) (says : Bool) (w : World) (H : IsE 35 w g a n o h x y z) (ha : a = 1 ∨ a = 2 ∨ a = 3 ∨ a = 4) (h1 : 0 ≤ o) (h2 : 0 ≤ h) (h3 : o + h ≤ n) (h4 : n ≤ 1152921504606846976) (hi : inAll p q r) (hm : m < 0 ∨ n - o - h < m) :
    Calls Try.prog 9 #[.pointer (some ⟨g, 0, none⟩), .int .i64 m, .agg #[.int .i64 p, .int .i64 q, .int .i64 r], .bool says] w fun e w' => e = .returned (.tuple #[.bool false, .int .i64 2]) ∧ IsE 35 w' g a n o h x y z ∧ Only w w' g := by
  have HM := Lib.hid hm
  have HA := Lib.hid ha
  clear hm ha
  have i0 := idx0 p q r
  have i1 := idx1 p q r
  have i2 := idx2 p q r
  obtain ⟨⟨p0, p1⟩, ⟨q0, q1⟩, ⟨r0, r1⟩⟩ := hi
  have ep0 : decide (p < 0) = false := decide_eq_false (by omega)
  have ep1 : decide (4611686018427387903 < p) = false := decide_eq_false (by omega)
  have eq0 : decide (q < 0) = false := decide_eq_false (by omega)
  have eq1 : decide (4611686018427387903 < q) = false := decide_eq_false (by omega)
  have er0 : decide (r < 0) = false := decide_eq_false (by omega)
  have er1 : decide (4611686018427387903 < r) = false := decide_eq_false (by omega)
  have H1 := Lib.hid (IsE.alloc H (.cells #[.int .i64 p, .int .i64 q, .int .i64 r] 25))
  have HX1 := Lib.hid (show IsC (w.alloc (.cells #[.int .i64 p, .int .i64 q, .int .i64 r] 25)) w.heap.size p q r from Bk.new w 25 _)
  have HO1 := Lib.hid (only_alloc (only_refl w g) (.cells #[.int .i64 p, .int .i64 q, .int .i64 r] 25))
  have hlt := H.lt
  have hlt1 : g < (w.alloc (.cells #[.int .i64 p, .int .i64 q, .int .i64 r] 25)).heap.size := (IsE.alloc H (.cells #[.int .i64 p, .int .i64 q, .int .i64 r] 25)).lt
  have hkg : w.heap.size ≠ g := by omega
  clear H
  go_enter Try.func9, Try.ntmps9
  go_wp2_with fail
  generalize w.alloc (.cells #[.int .i64 p, .int .i64 q, .int .i64 r] 25) = w1 at *
  obtain ⟨K, hkq⟩ : ∃ K, w.heap.size = K := ⟨_, rfl⟩
  rw [hkq] at HX1 hkg ⊢
  clear hkq hlt
  go_wp2_with fail
  refine (none_no g a n o h x y z _ H1.out HA.out).mono ?_
  rintro e w' ⟨rfl, rfl⟩
  obtain ⟨x0, x1, x2⟩ := HX1.out.all
  go_wp2_with fail
  go_loop [16] (fun i => ∃ k : Nat, k ≤ 3 ∧ i = .int .i64 k) (fun i => 3 - (intOf i).toNat)
  case atStart => exact ⟨0, by omega, rfl⟩
  case round =>
    obtain ⟨k, hk, rfl⟩ := hrel
    rcases (show k = 0 ∨ k = 1 ∨ k = 2 ∨ k = 3 by omega) with rfl | rfl | rfl | rfl
    · go_wp2
      go_round
      case rel => exact ⟨1, by omega, rfl⟩
      case measure => simp [intOf]
    · go_wp2
      go_round
      case rel => exact ⟨2, by omega, rfl⟩
      case measure => simp [intOf]
    · go_wp2
      go_round
      case rel => exact ⟨3, by omega, rfl⟩
      case measure => simp [intOf]
    · go_wp2_with fail
      refine (wrong_is g a n o h x y z _ m H1.out HA.out h1 h2 h3 h4).mono ?_
      rw [if_pos HM.out]
      rintro e w' ⟨rfl, kk, rfl⟩
      clear x0 x1 x2
      have H2 := Lib.hid (H1.out.drewN kk)
      have HX2 := Lib.hid (HX1.out.drewN kk)
      have HO2 := Lib.hid (only_drewN HO1.out kk)
      have hlt2 : g < (w1.drewN kk).heap.size := hlt1
      clear H1 HX1 HO1 hlt1
      generalize w1.drewN kk = w2 at *
      go_wp2
      go_ret2
      exact ⟨rfl, H2.out, HO2.out⟩

set_option maxHeartbeats 4000000 in
theorem ack_failed (g : Nat) (a n o h x y z m p q r : Int) (says : Bool) (w : World) (H : IsE 35 w g a n o h x y z) (ha : a = 1 ∨ a = 2 ∨ a = 3 ∨ a = 4) (h1 : 0 ≤ o) (h2 : 0 ≤ h) (h3 : o + h ≤ n) (h4 : n ≤ 1152921504606846976) (hi : inAll p q r) (hm : ¬ (m < 0 ∨ n - o - h < m)) (h3' : a = 3) :
    Calls Try.prog 9 #[.pointer (some ⟨g, 0, none⟩), .int .i64 m, .agg #[.int .i64 p, .int .i64 q, .int .i64 r], .bool says] w fun e w' => e = .returned (.tuple #[.bool false, .int .i64 0]) ∧ IsE 35 w' g 3 n o (h + m) x y z ∧ Only w w' g := by
  subst h3'
  have hm0 : 0 ≤ m := by omega
  have hm1 : m ≤ n - o - h := by omega
  have s1 : IntKind.i64.wrap (h + m) = h + m := wr_in (by omega) (by omega)
  have HM := Lib.hid hm
  have HA := Lib.hid ha
  clear hm ha
  have i0 := idx0 p q r
  have i1 := idx1 p q r
  have i2 := idx2 p q r
  obtain ⟨⟨p0, p1⟩, ⟨q0, q1⟩, ⟨r0, r1⟩⟩ := hi
  have ep0 : decide (p < 0) = false := decide_eq_false (by omega)
  have ep1 : decide (4611686018427387903 < p) = false := decide_eq_false (by omega)
  have eq0 : decide (q < 0) = false := decide_eq_false (by omega)
  have eq1 : decide (4611686018427387903 < q) = false := decide_eq_false (by omega)
  have er0 : decide (r < 0) = false := decide_eq_false (by omega)
  have er1 : decide (4611686018427387903 < r) = false := decide_eq_false (by omega)
  have H1 := Lib.hid (IsE.alloc H (.cells #[.int .i64 p, .int .i64 q, .int .i64 r] 25))
  have HX1 := Lib.hid (show IsC (w.alloc (.cells #[.int .i64 p, .int .i64 q, .int .i64 r] 25)) w.heap.size p q r from Bk.new w 25 _)
  have HO1 := Lib.hid (only_alloc (only_refl w g) (.cells #[.int .i64 p, .int .i64 q, .int .i64 r] 25))
  have hlt := H.lt
  have hlt1 : g < (w.alloc (.cells #[.int .i64 p, .int .i64 q, .int .i64 r] 25)).heap.size := (IsE.alloc H (.cells #[.int .i64 p, .int .i64 q, .int .i64 r] 25)).lt
  have hkg : w.heap.size ≠ g := by omega
  clear H
  go_enter Try.func9, Try.ntmps9
  go_wp2_with fail
  generalize w.alloc (.cells #[.int .i64 p, .int .i64 q, .int .i64 r] 25) = w1 at *
  obtain ⟨K, hkq⟩ : ∃ K, w.heap.size = K := ⟨_, rfl⟩
  rw [hkq] at HX1 hkg ⊢
  clear hkq hlt
  go_wp2_with fail
  refine (none_no g 3 n o h x y z _ H1.out (by decide)).mono ?_
  rintro e w' ⟨rfl, rfl⟩
  obtain ⟨x0, x1, x2⟩ := HX1.out.all
  go_wp2_with fail
  go_loop [16] (fun i => ∃ k : Nat, k ≤ 3 ∧ i = .int .i64 k) (fun i => 3 - (intOf i).toNat)
  case atStart => exact ⟨0, by omega, rfl⟩
  case round =>
    obtain ⟨k, hk, rfl⟩ := hrel
    rcases (show k = 0 ∨ k = 1 ∨ k = 2 ∨ k = 3 by omega) with rfl | rfl | rfl | rfl
    · go_wp2
      go_round
      case rel => exact ⟨1, by omega, rfl⟩
      case measure => simp [intOf]
    · go_wp2
      go_round
      case rel => exact ⟨2, by omega, rfl⟩
      case measure => simp [intOf]
    · go_wp2
      go_round
      case rel => exact ⟨3, by omega, rfl⟩
      case measure => simp [intOf]
    · go_wp2_with fail
      refine (wrong_is g 3 n o h x y z _ m H1.out (by decide)  h1 h2 h3 h4).mono ?_
      rw [if_neg HM.out]
      rintro e w' ⟨rfl, kk, rfl⟩
      clear x0 x1 x2
      have H2 := Lib.hid (H1.out.drewN kk)
      have HX2 := Lib.hid (HX1.out.drewN kk)
      have HO2 := Lib.hid (only_drewN HO1.out kk)
      have hlt2 : g < (w1.drewN kk).heap.size := hlt1
      clear H1 HX1 HO1 hlt1
      generalize w1.drewN kk = w2 at *
      obtain ⟨⟨c0, c1, c2, c3, c4, c5, c6⟩, f0, f1, f2, f3, f4, f5, f6⟩ := H2.out.all
      obtain ⟨x0, x1, x2⟩ := HX2.out.all
      go_wp2_with fail
      clear c0 c1 c2 c3 c4 c5 c6 f0 f1 f2 f3 f4 f5 f6 x0 x1 x2
      have H3 := Lib.hid (H2.out.set3 (h + m))
      have HX3 := Lib.hid (HX2.out.far (a := ⟨g, 3, none⟩) hkg (.int .i64 (h + m)))
      have HO3 := Lib.hid (only_set HO2.out 3 (.int .i64 (h + m)))
      have hlt3 : g < (w2.setCell ⟨g, 3, none⟩ (.int .i64 (h + m))).heap.size := H3.out.lt
      clear H2 HX2 HO2 hlt2
      generalize w2.setCell ⟨g, 3, none⟩ (.int .i64 (h + m)) = w3 at *
      obtain ⟨⟨c0, c1, c2, c3, c4, c5, c6⟩, f0, f1, f2, f3, f4, f5, f6⟩ := H3.out.all
      obtain ⟨x0, x1, x2⟩ := HX3.out.all
      go_wp2
      go_ret2
      exact ⟨rfl, H3.out, HO3.out⟩

set_option maxHeartbeats 4000000 in
theorem ack_mute0 (g : Nat) (a n o h x y z m p q r : Int) (w : World) (H : IsE 35 w g a n o h x y z) (ha : a = 1 ∨ a = 2 ∨ a = 3 ∨ a = 4) (h1 : 0 ≤ o) (h2 : 0 ≤ h) (h3 : o + h ≤ n) (h4 : n ≤ 1152921504606846976) (hi : inAll p q r) (hm : ¬ (m < 0 ∨ n - o - h < m)) (hne : a ≠ 3) (hm2 : m = 0) :
    Calls Try.prog 9 #[.pointer (some ⟨g, 0, none⟩), .int .i64 m, .agg #[.int .i64 p, .int .i64 q, .int .i64 r], .bool false] w fun e w' => e = .returned (.tuple #[.bool false, .int .i64 0]) ∧ IsE 35 w' g a n o (h + m) x y z ∧ Only w w' g := by
  have d3 : (a == 3) = false := by simpa using hne
  have d4 : (m == 0) = true := by simpa using hm2
  have d5 : m ≤ 0 := by omega
  clear hne
  have hm0 : 0 ≤ m := by omega
  have hm1 : m ≤ n - o - h := by omega
  have s1 : IntKind.i64.wrap (h + m) = h + m := wr_in (by omega) (by omega)
  have HM := Lib.hid hm
  have HA := Lib.hid ha
  clear hm ha hm2
  have i0 := idx0 p q r
  have i1 := idx1 p q r
  have i2 := idx2 p q r
  obtain ⟨⟨p0, p1⟩, ⟨q0, q1⟩, ⟨r0, r1⟩⟩ := hi
  have ep0 : decide (p < 0) = false := decide_eq_false (by omega)
  have ep1 : decide (4611686018427387903 < p) = false := decide_eq_false (by omega)
  have eq0 : decide (q < 0) = false := decide_eq_false (by omega)
  have eq1 : decide (4611686018427387903 < q) = false := decide_eq_false (by omega)
  have er0 : decide (r < 0) = false := decide_eq_false (by omega)
  have er1 : decide (4611686018427387903 < r) = false := decide_eq_false (by omega)
  have H1 := Lib.hid (IsE.alloc H (.cells #[.int .i64 p, .int .i64 q, .int .i64 r] 25))
  have HX1 := Lib.hid (show IsC (w.alloc (.cells #[.int .i64 p, .int .i64 q, .int .i64 r] 25)) w.heap.size p q r from Bk.new w 25 _)
  have HO1 := Lib.hid (only_alloc (only_refl w g) (.cells #[.int .i64 p, .int .i64 q, .int .i64 r] 25))
  have hlt := H.lt
  have hlt1 : g < (w.alloc (.cells #[.int .i64 p, .int .i64 q, .int .i64 r] 25)).heap.size := (IsE.alloc H (.cells #[.int .i64 p, .int .i64 q, .int .i64 r] 25)).lt
  have hkg : w.heap.size ≠ g := by omega
  clear H
  go_enter Try.func9, Try.ntmps9
  go_wp2_with fail
  generalize w.alloc (.cells #[.int .i64 p, .int .i64 q, .int .i64 r] 25) = w1 at *
  obtain ⟨K, hkq⟩ : ∃ K, w.heap.size = K := ⟨_, rfl⟩
  rw [hkq] at HX1 hkg ⊢
  clear hkq hlt
  go_wp2_with fail
  refine (none_no g a n o h x y z _ H1.out HA.out).mono ?_
  rintro e w' ⟨rfl, rfl⟩
  obtain ⟨x0, x1, x2⟩ := HX1.out.all
  go_wp2_with fail
  go_loop [16] (fun i => ∃ k : Nat, k ≤ 3 ∧ i = .int .i64 k) (fun i => 3 - (intOf i).toNat)
  case atStart => exact ⟨0, by omega, rfl⟩
  case round =>
    obtain ⟨k, hk, rfl⟩ := hrel
    rcases (show k = 0 ∨ k = 1 ∨ k = 2 ∨ k = 3 by omega) with rfl | rfl | rfl | rfl
    · go_wp2
      go_round
      case rel => exact ⟨1, by omega, rfl⟩
      case measure => simp [intOf]
    · go_wp2
      go_round
      case rel => exact ⟨2, by omega, rfl⟩
      case measure => simp [intOf]
    · go_wp2
      go_round
      case rel => exact ⟨3, by omega, rfl⟩
      case measure => simp [intOf]
    · go_wp2_with fail
      refine (wrong_is g a n o h x y z _ m H1.out HA.out h1 h2 h3 h4).mono ?_
      rw [if_neg HM.out]
      rintro e w' ⟨rfl, kk, rfl⟩
      clear x0 x1 x2
      have H2 := Lib.hid (H1.out.drewN kk)
      have HX2 := Lib.hid (HX1.out.drewN kk)
      have HO2 := Lib.hid (only_drewN HO1.out kk)
      have hlt2 : g < (w1.drewN kk).heap.size := hlt1
      clear H1 HX1 HO1 hlt1
      generalize w1.drewN kk = w2 at *
      obtain ⟨⟨c0, c1, c2, c3, c4, c5, c6⟩, f0, f1, f2, f3, f4, f5, f6⟩ := H2.out.all
      obtain ⟨x0, x1, x2⟩ := HX2.out.all
      go_wp2_with fail
      clear c0 c1 c2 c3 c4 c5 c6 f0 f1 f2 f3 f4 f5 f6 x0 x1 x2
      have H3 := Lib.hid (H2.out.set3 (h + m))
      have HX3 := Lib.hid (HX2.out.far (a := ⟨g, 3, none⟩) hkg (.int .i64 (h + m)))
      have HO3 := Lib.hid (only_set HO2.out 3 (.int .i64 (h + m)))
      have hlt3 : g < (w2.setCell ⟨g, 3, none⟩ (.int .i64 (h + m))).heap.size := H3.out.lt
      clear H2 HX2 HO2 hlt2
      generalize w2.setCell ⟨g, 3, none⟩ (.int .i64 (h + m)) = w3 at *
      obtain ⟨⟨c0, c1, c2, c3, c4, c5, c6⟩, f0, f1, f2, f3, f4, f5, f6⟩ := H3.out.all
      obtain ⟨x0, x1, x2⟩ := HX3.out.all
      go_wp2
      go_ret2
      exact ⟨rfl, H3.out, HO3.out⟩

set_option maxHeartbeats 4000000 in
theorem ack_mute (g : Nat) (a n o h x y z m p q r : Int) (w : World) (H : IsE 35 w g a n o h x y z) (ha : a = 1 ∨ a = 2 ∨ a = 3 ∨ a = 4) (h1 : 0 ≤ o) (h2 : 0 ≤ h) (h3 : o + h ≤ n) (h4 : n ≤ 1152921504606846976) (hi : inAll p q r) (hm : ¬ (m < 0 ∨ n - o - h < m)) (hne : a ≠ 3) (hm2 : m ≠ 0) :
    Calls Try.prog 9 #[.pointer (some ⟨g, 0, none⟩), .int .i64 m, .agg #[.int .i64 p, .int .i64 q, .int .i64 r], .bool false] w fun e w' => e = .returned (.tuple #[.bool false, .int .i64 0]) ∧ IsE 35 w' g 3 n o (h + m) x y z ∧ Only w w' g := by
  have d3 : (a == 3) = false := by simpa using hne
  have d4 : (m == 0) = false := by simpa using hm2
  clear hne
  have hm0 : 0 ≤ m := by omega
  have hm1 : m ≤ n - o - h := by omega
  have s1 : IntKind.i64.wrap (h + m) = h + m := wr_in (by omega) (by omega)
  have HM := Lib.hid hm
  have HA := Lib.hid ha
  clear hm ha
  have i0 := idx0 p q r
  have i1 := idx1 p q r
  have i2 := idx2 p q r
  obtain ⟨⟨p0, p1⟩, ⟨q0, q1⟩, ⟨r0, r1⟩⟩ := hi
  have ep0 : decide (p < 0) = false := decide_eq_false (by omega)
  have ep1 : decide (4611686018427387903 < p) = false := decide_eq_false (by omega)
  have eq0 : decide (q < 0) = false := decide_eq_false (by omega)
  have eq1 : decide (4611686018427387903 < q) = false := decide_eq_false (by omega)
  have er0 : decide (r < 0) = false := decide_eq_false (by omega)
  have er1 : decide (4611686018427387903 < r) = false := decide_eq_false (by omega)
  have H1 := Lib.hid (IsE.alloc H (.cells #[.int .i64 p, .int .i64 q, .int .i64 r] 25))
  have HX1 := Lib.hid (show IsC (w.alloc (.cells #[.int .i64 p, .int .i64 q, .int .i64 r] 25)) w.heap.size p q r from Bk.new w 25 _)
  have HO1 := Lib.hid (only_alloc (only_refl w g) (.cells #[.int .i64 p, .int .i64 q, .int .i64 r] 25))
  have hlt := H.lt
  have hlt1 : g < (w.alloc (.cells #[.int .i64 p, .int .i64 q, .int .i64 r] 25)).heap.size := (IsE.alloc H (.cells #[.int .i64 p, .int .i64 q, .int .i64 r] 25)).lt
  have hkg : w.heap.size ≠ g := by omega
  clear H
  go_enter Try.func9, Try.ntmps9
  go_wp2_with fail
  generalize w.alloc (.cells #[.int .i64 p, .int .i64 q, .int .i64 r] 25) = w1 at *
  obtain ⟨K, hkq⟩ : ∃ K, w.heap.size = K := ⟨_, rfl⟩
  rw [hkq] at HX1 hkg ⊢
  clear hkq hlt
  go_wp2_with fail
  refine (none_no g a n o h x y z _ H1.out HA.out).mono ?_
  rintro e w' ⟨rfl, rfl⟩
  obtain ⟨x0, x1, x2⟩ := HX1.out.all
  go_wp2_with fail
  go_loop [16] (fun i => ∃ k : Nat, k ≤ 3 ∧ i = .int .i64 k) (fun i => 3 - (intOf i).toNat)
  case atStart => exact ⟨0, by omega, rfl⟩
  case round =>
    obtain ⟨k, hk, rfl⟩ := hrel
    rcases (show k = 0 ∨ k = 1 ∨ k = 2 ∨ k = 3 by omega) with rfl | rfl | rfl | rfl
    · go_wp2
      go_round
      case rel => exact ⟨1, by omega, rfl⟩
      case measure => simp [intOf]
    · go_wp2
      go_round
      case rel => exact ⟨2, by omega, rfl⟩
      case measure => simp [intOf]
    · go_wp2
      go_round
      case rel => exact ⟨3, by omega, rfl⟩
      case measure => simp [intOf]
    · go_wp2_with fail
      refine (wrong_is g a n o h x y z _ m H1.out HA.out h1 h2 h3 h4).mono ?_
      rw [if_neg HM.out]
      rintro e w' ⟨rfl, kk, rfl⟩
      clear x0 x1 x2
      have H2 := Lib.hid (H1.out.drewN kk)
      have HX2 := Lib.hid (HX1.out.drewN kk)
      have HO2 := Lib.hid (only_drewN HO1.out kk)
      have hlt2 : g < (w1.drewN kk).heap.size := hlt1
      clear H1 HX1 HO1 hlt1
      generalize w1.drewN kk = w2 at *
      obtain ⟨⟨c0, c1, c2, c3, c4, c5, c6⟩, f0, f1, f2, f3, f4, f5, f6⟩ := H2.out.all
      obtain ⟨x0, x1, x2⟩ := HX2.out.all
      go_wp2_with fail
      clear c0 c1 c2 c3 c4 c5 c6 f0 f1 f2 f3 f4 f5 f6 x0 x1 x2
      have H3 := Lib.hid (H2.out.set3 (h + m))
      have HX3 := Lib.hid (HX2.out.far (a := ⟨g, 3, none⟩) hkg (.int .i64 (h + m)))
      have HO3 := Lib.hid (only_set HO2.out 3 (.int .i64 (h + m)))
      have hlt3 : g < (w2.setCell ⟨g, 3, none⟩ (.int .i64 (h + m))).heap.size := H3.out.lt
      clear H2 HX2 HO2 hlt2
      generalize w2.setCell ⟨g, 3, none⟩ (.int .i64 (h + m)) = w3 at *
      obtain ⟨⟨c0, c1, c2, c3, c4, c5, c6⟩, f0, f1, f2, f3, f4, f5, f6⟩ := H3.out.all
      obtain ⟨x0, x1, x2⟩ := HX3.out.all
      go_wp2
      go_ret2
      exact ⟨rfl, H3.out.set0 3, only_set HO3.out 0 _⟩

set_option maxHeartbeats 4000000 in
theorem ack_lie (g : Nat) (a n o h x y z m p q r : Int) (w : World) (H : IsE 35 w g a n o h x y z) (ha : a = 1 ∨ a = 2 ∨ a = 3 ∨ a = 4) (h1 : 0 ≤ o) (h2 : 0 ≤ h) (h3 : o + h ≤ n) (h4 : n ≤ 1152921504606846976) (hi : inAll p q r) (hm : ¬ (m < 0 ∨ n - o - h < m)) (hne : a ≠ 3) (hx0 : 0 ≤ x) (hx1 : x ≤ 4611686018427387903) (hy : y = 0) (hz0 : 0 ≤ z) (hz1 : z ≤ 4611686018427387903) (hf : ¬ fine ⟨a, n, o, h, x, y, z⟩ m p q r) :
    Calls Try.prog 9 #[.pointer (some ⟨g, 0, none⟩), .int .i64 m, .agg #[.int .i64 p, .int .i64 q, .int .i64 r], .bool true] w fun e w' => e = .returned (.tuple #[.bool false, .int .i64 0]) ∧ IsE 35 w' g 3 n o (h + m) x y z ∧ Only w w' g := by
  have d3 : (a == 3) = false := by simpa using hne
  have HY := Lib.hid hy
  have HF := Lib.hid hf
  clear hne hy hf
  have hm0 : 0 ≤ m := by omega
  have hm1 : m ≤ n - o - h := by omega
  have s1 : IntKind.i64.wrap (h + m) = h + m := wr_in (by omega) (by omega)
  have HM := Lib.hid hm
  have HA := Lib.hid ha
  clear hm ha
  have i0 := idx0 p q r
  have i1 := idx1 p q r
  have i2 := idx2 p q r
  obtain ⟨⟨p0, p1⟩, ⟨q0, q1⟩, ⟨r0, r1⟩⟩ := hi
  have ep0 : decide (p < 0) = false := decide_eq_false (by omega)
  have ep1 : decide (4611686018427387903 < p) = false := decide_eq_false (by omega)
  have eq0 : decide (q < 0) = false := decide_eq_false (by omega)
  have eq1 : decide (4611686018427387903 < q) = false := decide_eq_false (by omega)
  have er0 : decide (r < 0) = false := decide_eq_false (by omega)
  have er1 : decide (4611686018427387903 < r) = false := decide_eq_false (by omega)
  have H1 := Lib.hid (IsE.alloc H (.cells #[.int .i64 p, .int .i64 q, .int .i64 r] 25))
  have HX1 := Lib.hid (show IsC (w.alloc (.cells #[.int .i64 p, .int .i64 q, .int .i64 r] 25)) w.heap.size p q r from Bk.new w 25 _)
  have HO1 := Lib.hid (only_alloc (only_refl w g) (.cells #[.int .i64 p, .int .i64 q, .int .i64 r] 25))
  have hlt := H.lt
  have hlt1 : g < (w.alloc (.cells #[.int .i64 p, .int .i64 q, .int .i64 r] 25)).heap.size := (IsE.alloc H (.cells #[.int .i64 p, .int .i64 q, .int .i64 r] 25)).lt
  have hkg : w.heap.size ≠ g := by omega
  clear H
  go_enter Try.func9, Try.ntmps9
  go_wp2_with fail
  generalize w.alloc (.cells #[.int .i64 p, .int .i64 q, .int .i64 r] 25) = w1 at *
  obtain ⟨K, hkq⟩ : ∃ K, w.heap.size = K := ⟨_, rfl⟩
  rw [hkq] at HX1 hkg ⊢
  clear hkq hlt
  go_wp2_with fail
  refine (none_no g a n o h x y z _ H1.out HA.out).mono ?_
  rintro e w' ⟨rfl, rfl⟩
  obtain ⟨x0, x1, x2⟩ := HX1.out.all
  go_wp2_with fail
  go_loop [16] (fun i => ∃ k : Nat, k ≤ 3 ∧ i = .int .i64 k) (fun i => 3 - (intOf i).toNat)
  case atStart => exact ⟨0, by omega, rfl⟩
  case round =>
    obtain ⟨k, hk, rfl⟩ := hrel
    rcases (show k = 0 ∨ k = 1 ∨ k = 2 ∨ k = 3 by omega) with rfl | rfl | rfl | rfl
    · go_wp2
      go_round
      case rel => exact ⟨1, by omega, rfl⟩
      case measure => simp [intOf]
    · go_wp2
      go_round
      case rel => exact ⟨2, by omega, rfl⟩
      case measure => simp [intOf]
    · go_wp2
      go_round
      case rel => exact ⟨3, by omega, rfl⟩
      case measure => simp [intOf]
    · go_wp2_with fail
      refine (wrong_is g a n o h x y z _ m H1.out HA.out h1 h2 h3 h4).mono ?_
      rw [if_neg HM.out]
      rintro e w' ⟨rfl, kk, rfl⟩
      clear x0 x1 x2
      have H2 := Lib.hid (H1.out.drewN kk)
      have HX2 := Lib.hid (HX1.out.drewN kk)
      have HO2 := Lib.hid (only_drewN HO1.out kk)
      have hlt2 : g < (w1.drewN kk).heap.size := hlt1
      clear H1 HX1 HO1 hlt1
      generalize w1.drewN kk = w2 at *
      obtain ⟨⟨c0, c1, c2, c3, c4, c5, c6⟩, f0, f1, f2, f3, f4, f5, f6⟩ := H2.out.all
      obtain ⟨x0, x1, x2⟩ := HX2.out.all
      go_wp2_with fail
      clear c0 c1 c2 c3 c4 c5 c6 f0 f1 f2 f3 f4 f5 f6 x0 x1 x2
      have H3 := Lib.hid (H2.out.set3 (h + m))
      have HX3 := Lib.hid (HX2.out.far (a := ⟨g, 3, none⟩) hkg (.int .i64 (h + m)))
      have HO3 := Lib.hid (only_set HO2.out 3 (.int .i64 (h + m)))
      have hlt3 : g < (w2.setCell ⟨g, 3, none⟩ (.int .i64 (h + m))).heap.size := H3.out.lt
      clear H2 HX2 HO2 hlt2
      generalize w2.setCell ⟨g, 3, none⟩ (.int .i64 (h + m)) = w3 at *
      obtain ⟨⟨c0, c1, c2, c3, c4, c5, c6⟩, f0, f1, f2, f3, f4, f5, f6⟩ := H3.out.all
      obtain ⟨x0, x1, x2⟩ := HX3.out.all
      refine (right_raw g a n o (h + m) x y z m p q r _ H3.out HY.out (by omega) h4 hx0 hx1 hz0 hz1 p0 p1 q0 r0 r1).mono ?_
      rw [decide_eq_false (show ¬ fine ⟨a, n, o, h + m, x, y, z⟩ m p q r from HF.out)]
      rintro e w4 ⟨rfl, hb4⟩
      clear c0 c1 c2 c3 c4 c5 c6 f0 f1 f2 f3 f4 f5 f6 x0 x1 x2
      have H4 := Lib.hid (H3.out.below hb4 hlt3)
      have HX4 := Lib.hid (HX3.out.below hb4)
      have HO4 := Lib.hid (only_below2 HO3.out hb4)
      clear hb4
      obtain ⟨⟨c0, c1, c2, c3, c4, c5, c6⟩, f0, f1, f2, f3, f4, f5, f6⟩ := H4.out.all
      obtain ⟨x0, x1, x2⟩ := HX4.out.all
      go_wp2
      go_ret2
      exact ⟨rfl, H4.out.set0 3, only_set HO4.out 0 _⟩

set_option maxHeartbeats 4000000 in
theorem ack_mc (g : Nat) (a n o h x y z m p q r : Int) (w : World) (H : IsE 35 w g a n o h x y z) (ha : a = 1 ∨ a = 2 ∨ a = 3 ∨ a = 4) (h1 : 0 ≤ o) (h2 : 0 ≤ h) (h3 : o + h ≤ n) (h4 : n ≤ 1152921504606846976) (hi : inAll p q r) (hm : ¬ (m < 0 ∨ n - o - h < m)) (hne : a ≠ 3) (hx0 : 0 ≤ x) (hx1 : x ≤ 4611686018427387903) (hy : y = 0) (hz0 : 0 ≤ z) (hz1 : z ≤ 4611686018427387903) (hf : fine ⟨a, n, o, h, x, y, z⟩ m p q r) (hmm : 0 < m) (hz : z < r) :
    Calls Try.prog 9 #[.pointer (some ⟨g, 0, none⟩), .int .i64 m, .agg #[.int .i64 p, .int .i64 q, .int .i64 r], .bool true] w fun e w' => e = .returned (.tuple #[.bool true, .int .i64 0]) ∧ IsE 35 w' g 4 n o (h + m) p q r ∧ Only w w' g := by
  have hcz : z < r := hz
  have dz : decide (z < r) = true := decide_eq_true hz
  have d3 : (a == 3) = false := by simpa using hne
  have HY := Lib.hid hy
  have HF := Lib.hid hf
  clear hne hy hf
  have hm0 : 0 ≤ m := by omega
  have hm1 : m ≤ n - o - h := by omega
  have s1 : IntKind.i64.wrap (h + m) = h + m := wr_in (by omega) (by omega)
  have HM := Lib.hid hm
  have HA := Lib.hid ha
  clear hm ha
  have i0 := idx0 p q r
  have i1 := idx1 p q r
  have i2 := idx2 p q r
  obtain ⟨⟨p0, p1⟩, ⟨q0, q1⟩, ⟨r0, r1⟩⟩ := hi
  have ep0 : decide (p < 0) = false := decide_eq_false (by omega)
  have ep1 : decide (4611686018427387903 < p) = false := decide_eq_false (by omega)
  have eq0 : decide (q < 0) = false := decide_eq_false (by omega)
  have eq1 : decide (4611686018427387903 < q) = false := decide_eq_false (by omega)
  have er0 : decide (r < 0) = false := decide_eq_false (by omega)
  have er1 : decide (4611686018427387903 < r) = false := decide_eq_false (by omega)
  have H1 := Lib.hid (IsE.alloc H (.cells #[.int .i64 p, .int .i64 q, .int .i64 r] 25))
  have HX1 := Lib.hid (show IsC (w.alloc (.cells #[.int .i64 p, .int .i64 q, .int .i64 r] 25)) w.heap.size p q r from Bk.new w 25 _)
  have HO1 := Lib.hid (only_alloc (only_refl w g) (.cells #[.int .i64 p, .int .i64 q, .int .i64 r] 25))
  have hlt := H.lt
  have hlt1 : g < (w.alloc (.cells #[.int .i64 p, .int .i64 q, .int .i64 r] 25)).heap.size := (IsE.alloc H (.cells #[.int .i64 p, .int .i64 q, .int .i64 r] 25)).lt
  have hkg : w.heap.size ≠ g := by omega
  clear H
  go_enter Try.func9, Try.ntmps9
  go_wp2_with fail
  generalize w.alloc (.cells #[.int .i64 p, .int .i64 q, .int .i64 r] 25) = w1 at *
  obtain ⟨K, hkq⟩ : ∃ K, w.heap.size = K := ⟨_, rfl⟩
  rw [hkq] at HX1 hkg ⊢
  clear hkq hlt
  go_wp2_with fail
  refine (none_no g a n o h x y z _ H1.out HA.out).mono ?_
  rintro e w' ⟨rfl, rfl⟩
  obtain ⟨x0, x1, x2⟩ := HX1.out.all
  go_wp2_with fail
  go_loop [16] (fun i => ∃ k : Nat, k ≤ 3 ∧ i = .int .i64 k) (fun i => 3 - (intOf i).toNat)
  case atStart => exact ⟨0, by omega, rfl⟩
  case round =>
    obtain ⟨k, hk, rfl⟩ := hrel
    rcases (show k = 0 ∨ k = 1 ∨ k = 2 ∨ k = 3 by omega) with rfl | rfl | rfl | rfl
    · go_wp2
      go_round
      case rel => exact ⟨1, by omega, rfl⟩
      case measure => simp [intOf]
    · go_wp2
      go_round
      case rel => exact ⟨2, by omega, rfl⟩
      case measure => simp [intOf]
    · go_wp2
      go_round
      case rel => exact ⟨3, by omega, rfl⟩
      case measure => simp [intOf]
    · go_wp2_with fail
      refine (wrong_is g a n o h x y z _ m H1.out HA.out h1 h2 h3 h4).mono ?_
      rw [if_neg HM.out]
      rintro e w' ⟨rfl, kk, rfl⟩
      clear x0 x1 x2
      have H2 := Lib.hid (H1.out.drewN kk)
      have HX2 := Lib.hid (HX1.out.drewN kk)
      have HO2 := Lib.hid (only_drewN HO1.out kk)
      have hlt2 : g < (w1.drewN kk).heap.size := hlt1
      clear H1 HX1 HO1 hlt1
      generalize w1.drewN kk = w2 at *
      obtain ⟨⟨c0, c1, c2, c3, c4, c5, c6⟩, f0, f1, f2, f3, f4, f5, f6⟩ := H2.out.all
      obtain ⟨x0, x1, x2⟩ := HX2.out.all
      go_wp2_with fail
      clear c0 c1 c2 c3 c4 c5 c6 f0 f1 f2 f3 f4 f5 f6 x0 x1 x2
      have H3 := Lib.hid (H2.out.set3 (h + m))
      have HX3 := Lib.hid (HX2.out.far (a := ⟨g, 3, none⟩) hkg (.int .i64 (h + m)))
      have HO3 := Lib.hid (only_set HO2.out 3 (.int .i64 (h + m)))
      have hlt3 : g < (w2.setCell ⟨g, 3, none⟩ (.int .i64 (h + m))).heap.size := H3.out.lt
      clear H2 HX2 HO2 hlt2
      generalize w2.setCell ⟨g, 3, none⟩ (.int .i64 (h + m)) = w3 at *
      obtain ⟨⟨c0, c1, c2, c3, c4, c5, c6⟩, f0, f1, f2, f3, f4, f5, f6⟩ := H3.out.all
      obtain ⟨x0, x1, x2⟩ := HX3.out.all
      refine (right_raw g a n o (h + m) x y z m p q r _ H3.out HY.out (by omega) h4 hx0 hx1 hz0 hz1 p0 p1 q0 r0 r1).mono ?_
      rw [decide_eq_true (show fine ⟨a, n, o, h + m, x, y, z⟩ m p q r from HF.out)]
      rintro e w4 ⟨rfl, hb4⟩
      clear c0 c1 c2 c3 c4 c5 c6 f0 f1 f2 f3 f4 f5 f6 x0 x1 x2
      have H4 := Lib.hid (H3.out.below hb4 hlt3)
      have HX4 := Lib.hid (HX3.out.below hb4)
      have HO4 := Lib.hid (only_below2 HO3.out hb4)
      clear hb4
      obtain ⟨⟨c0, c1, c2, c3, c4, c5, c6⟩, f0, f1, f2, f3, f4, f5, f6⟩ := H4.out.all
      obtain ⟨x0, x1, x2⟩ := HX4.out.all
      go_wp2_with fail
      go_quiet (fail)
      go_wp2
      go_ret2
      exact ⟨rfl, ((((H4.out.drewN _).set4 p).set5 q).set6 r).set0 4, only_set (only_set (only_set (only_set (only_drewN HO4.out _) 4 _) 5 _) 6 _) 0 _⟩

set_option maxHeartbeats 4000000 in
theorem ack_md (g : Nat) (a n o h x y z m p q r : Int) (w : World) (H : IsE 35 w g a n o h x y z) (ha : a = 1 ∨ a = 2 ∨ a = 3 ∨ a = 4) (h1 : 0 ≤ o) (h2 : 0 ≤ h) (h3 : o + h ≤ n) (h4 : n ≤ 1152921504606846976) (hi : inAll p q r) (hm : ¬ (m < 0 ∨ n - o - h < m)) (hne : a ≠ 3) (hx0 : 0 ≤ x) (hx1 : x ≤ 4611686018427387903) (hy : y = 0) (hz0 : 0 ≤ z) (hz1 : z ≤ 4611686018427387903) (hf : fine ⟨a, n, o, h, x, y, z⟩ m p q r) (hmm : 0 < m) (hz : ¬ z < r) :
    Calls Try.prog 9 #[.pointer (some ⟨g, 0, none⟩), .int .i64 m, .agg #[.int .i64 p, .int .i64 q, .int .i64 r], .bool true] w fun e w' => e = .returned (.tuple #[.bool false, .int .i64 0]) ∧ IsE 35 w' g 4 n o (h + m) p q r ∧ Only w w' g := by
  have hcz : r ≤ z := by omega
  have dz : decide (z < r) = false := decide_eq_false hz
  have d3 : (a == 3) = false := by simpa using hne
  have HY := Lib.hid hy
  have HF := Lib.hid hf
  clear hne hy hf
  have hm0 : 0 ≤ m := by omega
  have hm1 : m ≤ n - o - h := by omega
  have s1 : IntKind.i64.wrap (h + m) = h + m := wr_in (by omega) (by omega)
  have HM := Lib.hid hm
  have HA := Lib.hid ha
  clear hm ha
  have i0 := idx0 p q r
  have i1 := idx1 p q r
  have i2 := idx2 p q r
  obtain ⟨⟨p0, p1⟩, ⟨q0, q1⟩, ⟨r0, r1⟩⟩ := hi
  have ep0 : decide (p < 0) = false := decide_eq_false (by omega)
  have ep1 : decide (4611686018427387903 < p) = false := decide_eq_false (by omega)
  have eq0 : decide (q < 0) = false := decide_eq_false (by omega)
  have eq1 : decide (4611686018427387903 < q) = false := decide_eq_false (by omega)
  have er0 : decide (r < 0) = false := decide_eq_false (by omega)
  have er1 : decide (4611686018427387903 < r) = false := decide_eq_false (by omega)
  have H1 := Lib.hid (IsE.alloc H (.cells #[.int .i64 p, .int .i64 q, .int .i64 r] 25))
  have HX1 := Lib.hid (show IsC (w.alloc (.cells #[.int .i64 p, .int .i64 q, .int .i64 r] 25)) w.heap.size p q r from Bk.new w 25 _)
  have HO1 := Lib.hid (only_alloc (only_refl w g) (.cells #[.int .i64 p, .int .i64 q, .int .i64 r] 25))
  have hlt := H.lt
  have hlt1 : g < (w.alloc (.cells #[.int .i64 p, .int .i64 q, .int .i64 r] 25)).heap.size := (IsE.alloc H (.cells #[.int .i64 p, .int .i64 q, .int .i64 r] 25)).lt
  have hkg : w.heap.size ≠ g := by omega
  clear H
  go_enter Try.func9, Try.ntmps9
  go_wp2_with fail
  generalize w.alloc (.cells #[.int .i64 p, .int .i64 q, .int .i64 r] 25) = w1 at *
  obtain ⟨K, hkq⟩ : ∃ K, w.heap.size = K := ⟨_, rfl⟩
  rw [hkq] at HX1 hkg ⊢
  clear hkq hlt
  go_wp2_with fail
  refine (none_no g a n o h x y z _ H1.out HA.out).mono ?_
  rintro e w' ⟨rfl, rfl⟩
  obtain ⟨x0, x1, x2⟩ := HX1.out.all
  go_wp2_with fail
  go_loop [16] (fun i => ∃ k : Nat, k ≤ 3 ∧ i = .int .i64 k) (fun i => 3 - (intOf i).toNat)
  case atStart => exact ⟨0, by omega, rfl⟩
  case round =>
    obtain ⟨k, hk, rfl⟩ := hrel
    rcases (show k = 0 ∨ k = 1 ∨ k = 2 ∨ k = 3 by omega) with rfl | rfl | rfl | rfl
    · go_wp2
      go_round
      case rel => exact ⟨1, by omega, rfl⟩
      case measure => simp [intOf]
    · go_wp2
      go_round
      case rel => exact ⟨2, by omega, rfl⟩
      case measure => simp [intOf]
    · go_wp2
      go_round
      case rel => exact ⟨3, by omega, rfl⟩
      case measure => simp [intOf]
    · go_wp2_with fail
      refine (wrong_is g a n o h x y z _ m H1.out HA.out h1 h2 h3 h4).mono ?_
      rw [if_neg HM.out]
      rintro e w' ⟨rfl, kk, rfl⟩
      clear x0 x1 x2
      have H2 := Lib.hid (H1.out.drewN kk)
      have HX2 := Lib.hid (HX1.out.drewN kk)
      have HO2 := Lib.hid (only_drewN HO1.out kk)
      have hlt2 : g < (w1.drewN kk).heap.size := hlt1
      clear H1 HX1 HO1 hlt1
      generalize w1.drewN kk = w2 at *
      obtain ⟨⟨c0, c1, c2, c3, c4, c5, c6⟩, f0, f1, f2, f3, f4, f5, f6⟩ := H2.out.all
      obtain ⟨x0, x1, x2⟩ := HX2.out.all
      go_wp2_with fail
      clear c0 c1 c2 c3 c4 c5 c6 f0 f1 f2 f3 f4 f5 f6 x0 x1 x2
      have H3 := Lib.hid (H2.out.set3 (h + m))
      have HX3 := Lib.hid (HX2.out.far (a := ⟨g, 3, none⟩) hkg (.int .i64 (h + m)))
      have HO3 := Lib.hid (only_set HO2.out 3 (.int .i64 (h + m)))
      have hlt3 : g < (w2.setCell ⟨g, 3, none⟩ (.int .i64 (h + m))).heap.size := H3.out.lt
      clear H2 HX2 HO2 hlt2
      generalize w2.setCell ⟨g, 3, none⟩ (.int .i64 (h + m)) = w3 at *
      obtain ⟨⟨c0, c1, c2, c3, c4, c5, c6⟩, f0, f1, f2, f3, f4, f5, f6⟩ := H3.out.all
      obtain ⟨x0, x1, x2⟩ := HX3.out.all
      refine (right_raw g a n o (h + m) x y z m p q r _ H3.out HY.out (by omega) h4 hx0 hx1 hz0 hz1 p0 p1 q0 r0 r1).mono ?_
      rw [decide_eq_true (show fine ⟨a, n, o, h + m, x, y, z⟩ m p q r from HF.out)]
      rintro e w4 ⟨rfl, hb4⟩
      clear c0 c1 c2 c3 c4 c5 c6 f0 f1 f2 f3 f4 f5 f6 x0 x1 x2
      have H4 := Lib.hid (H3.out.below hb4 hlt3)
      have HX4 := Lib.hid (HX3.out.below hb4)
      have HO4 := Lib.hid (only_below2 HO3.out hb4)
      clear hb4
      obtain ⟨⟨c0, c1, c2, c3, c4, c5, c6⟩, f0, f1, f2, f3, f4, f5, f6⟩ := H4.out.all
      obtain ⟨x0, x1, x2⟩ := HX4.out.all
      go_wp2_with fail
      go_quiet (fail)
      go_wp2
      go_ret2
      exact ⟨rfl, ((((H4.out.drewN _).set4 p).set5 q).set6 r).set0 4, only_set (only_set (only_set (only_set (only_drewN HO4.out _) 4 _) 5 _) 6 _) 0 _⟩

set_option maxHeartbeats 4000000 in
theorem ack_nc (g : Nat) (a n o h x y z m p q r : Int) (w : World) (H : IsE 35 w g a n o h x y z) (ha : a = 1 ∨ a = 2 ∨ a = 3 ∨ a = 4) (h1 : 0 ≤ o) (h2 : 0 ≤ h) (h3 : o + h ≤ n) (h4 : n ≤ 1152921504606846976) (hi : inAll p q r) (hm : ¬ (m < 0 ∨ n - o - h < m)) (hne : a ≠ 3) (hx0 : 0 ≤ x) (hx1 : x ≤ 4611686018427387903) (hy : y = 0) (hz0 : 0 ≤ z) (hz1 : z ≤ 4611686018427387903) (hf : fine ⟨a, n, o, h, x, y, z⟩ m p q r) (hmm : m ≤ 0) (hz : z < r) :
    Calls Try.prog 9 #[.pointer (some ⟨g, 0, none⟩), .int .i64 m, .agg #[.int .i64 p, .int .i64 q, .int .i64 r], .bool true] w fun e w' => e = .returned (.tuple #[.bool true, .int .i64 0]) ∧ IsE 35 w' g a n o (h + m) p q r ∧ Only w w' g := by
  have hcz : z < r := hz
  have dz : decide (z < r) = true := decide_eq_true hz
  have d3 : (a == 3) = false := by simpa using hne
  have HY := Lib.hid hy
  have HF := Lib.hid hf
  clear hne hy hf
  have hm0 : 0 ≤ m := by omega
  have hm1 : m ≤ n - o - h := by omega
  have s1 : IntKind.i64.wrap (h + m) = h + m := wr_in (by omega) (by omega)
  have HM := Lib.hid hm
  have HA := Lib.hid ha
  clear hm ha
  have i0 := idx0 p q r
  have i1 := idx1 p q r
  have i2 := idx2 p q r
  obtain ⟨⟨p0, p1⟩, ⟨q0, q1⟩, ⟨r0, r1⟩⟩ := hi
  have ep0 : decide (p < 0) = false := decide_eq_false (by omega)
  have ep1 : decide (4611686018427387903 < p) = false := decide_eq_false (by omega)
  have eq0 : decide (q < 0) = false := decide_eq_false (by omega)
  have eq1 : decide (4611686018427387903 < q) = false := decide_eq_false (by omega)
  have er0 : decide (r < 0) = false := decide_eq_false (by omega)
  have er1 : decide (4611686018427387903 < r) = false := decide_eq_false (by omega)
  have H1 := Lib.hid (IsE.alloc H (.cells #[.int .i64 p, .int .i64 q, .int .i64 r] 25))
  have HX1 := Lib.hid (show IsC (w.alloc (.cells #[.int .i64 p, .int .i64 q, .int .i64 r] 25)) w.heap.size p q r from Bk.new w 25 _)
  have HO1 := Lib.hid (only_alloc (only_refl w g) (.cells #[.int .i64 p, .int .i64 q, .int .i64 r] 25))
  have hlt := H.lt
  have hlt1 : g < (w.alloc (.cells #[.int .i64 p, .int .i64 q, .int .i64 r] 25)).heap.size := (IsE.alloc H (.cells #[.int .i64 p, .int .i64 q, .int .i64 r] 25)).lt
  have hkg : w.heap.size ≠ g := by omega
  clear H
  go_enter Try.func9, Try.ntmps9
  go_wp2_with fail
  generalize w.alloc (.cells #[.int .i64 p, .int .i64 q, .int .i64 r] 25) = w1 at *
  obtain ⟨K, hkq⟩ : ∃ K, w.heap.size = K := ⟨_, rfl⟩
  rw [hkq] at HX1 hkg ⊢
  clear hkq hlt
  go_wp2_with fail
  refine (none_no g a n o h x y z _ H1.out HA.out).mono ?_
  rintro e w' ⟨rfl, rfl⟩
  obtain ⟨x0, x1, x2⟩ := HX1.out.all
  go_wp2_with fail
  go_loop [16] (fun i => ∃ k : Nat, k ≤ 3 ∧ i = .int .i64 k) (fun i => 3 - (intOf i).toNat)
  case atStart => exact ⟨0, by omega, rfl⟩
  case round =>
    obtain ⟨k, hk, rfl⟩ := hrel
    rcases (show k = 0 ∨ k = 1 ∨ k = 2 ∨ k = 3 by omega) with rfl | rfl | rfl | rfl
    · go_wp2
      go_round
      case rel => exact ⟨1, by omega, rfl⟩
      case measure => simp [intOf]
    · go_wp2
      go_round
      case rel => exact ⟨2, by omega, rfl⟩
      case measure => simp [intOf]
    · go_wp2
      go_round
      case rel => exact ⟨3, by omega, rfl⟩
      case measure => simp [intOf]
    · go_wp2_with fail
      refine (wrong_is g a n o h x y z _ m H1.out HA.out h1 h2 h3 h4).mono ?_
      rw [if_neg HM.out]
      rintro e w' ⟨rfl, kk, rfl⟩
      clear x0 x1 x2
      have H2 := Lib.hid (H1.out.drewN kk)
      have HX2 := Lib.hid (HX1.out.drewN kk)
      have HO2 := Lib.hid (only_drewN HO1.out kk)
      have hlt2 : g < (w1.drewN kk).heap.size := hlt1
      clear H1 HX1 HO1 hlt1
      generalize w1.drewN kk = w2 at *
      obtain ⟨⟨c0, c1, c2, c3, c4, c5, c6⟩, f0, f1, f2, f3, f4, f5, f6⟩ := H2.out.all
      obtain ⟨x0, x1, x2⟩ := HX2.out.all
      go_wp2_with fail
      clear c0 c1 c2 c3 c4 c5 c6 f0 f1 f2 f3 f4 f5 f6 x0 x1 x2
      have H3 := Lib.hid (H2.out.set3 (h + m))
      have HX3 := Lib.hid (HX2.out.far (a := ⟨g, 3, none⟩) hkg (.int .i64 (h + m)))
      have HO3 := Lib.hid (only_set HO2.out 3 (.int .i64 (h + m)))
      have hlt3 : g < (w2.setCell ⟨g, 3, none⟩ (.int .i64 (h + m))).heap.size := H3.out.lt
      clear H2 HX2 HO2 hlt2
      generalize w2.setCell ⟨g, 3, none⟩ (.int .i64 (h + m)) = w3 at *
      obtain ⟨⟨c0, c1, c2, c3, c4, c5, c6⟩, f0, f1, f2, f3, f4, f5, f6⟩ := H3.out.all
      obtain ⟨x0, x1, x2⟩ := HX3.out.all
      refine (right_raw g a n o (h + m) x y z m p q r _ H3.out HY.out (by omega) h4 hx0 hx1 hz0 hz1 p0 p1 q0 r0 r1).mono ?_
      rw [decide_eq_true (show fine ⟨a, n, o, h + m, x, y, z⟩ m p q r from HF.out)]
      rintro e w4 ⟨rfl, hb4⟩
      clear c0 c1 c2 c3 c4 c5 c6 f0 f1 f2 f3 f4 f5 f6 x0 x1 x2
      have H4 := Lib.hid (H3.out.below hb4 hlt3)
      have HX4 := Lib.hid (HX3.out.below hb4)
      have HO4 := Lib.hid (only_below2 HO3.out hb4)
      clear hb4
      obtain ⟨⟨c0, c1, c2, c3, c4, c5, c6⟩, f0, f1, f2, f3, f4, f5, f6⟩ := H4.out.all
      obtain ⟨x0, x1, x2⟩ := HX4.out.all
      go_wp2_with fail
      go_quiet (fail)
      go_wp2
      go_ret2
      exact ⟨rfl, (((H4.out.drewN _).set4 p).set5 q).set6 r, only_set (only_set (only_set (only_drewN HO4.out _) 4 _) 5 _) 6 _⟩

set_option maxHeartbeats 4000000 in
theorem ack_nd (g : Nat) (a n o h x y z m p q r : Int) (w : World) (H : IsE 35 w g a n o h x y z) (ha : a = 1 ∨ a = 2 ∨ a = 3 ∨ a = 4) (h1 : 0 ≤ o) (h2 : 0 ≤ h) (h3 : o + h ≤ n) (h4 : n ≤ 1152921504606846976) (hi : inAll p q r) (hm : ¬ (m < 0 ∨ n - o - h < m)) (hne : a ≠ 3) (hx0 : 0 ≤ x) (hx1 : x ≤ 4611686018427387903) (hy : y = 0) (hz0 : 0 ≤ z) (hz1 : z ≤ 4611686018427387903) (hf : fine ⟨a, n, o, h, x, y, z⟩ m p q r) (hmm : m ≤ 0) (hz : ¬ z < r) :
    Calls Try.prog 9 #[.pointer (some ⟨g, 0, none⟩), .int .i64 m, .agg #[.int .i64 p, .int .i64 q, .int .i64 r], .bool true] w fun e w' => e = .returned (.tuple #[.bool false, .int .i64 0]) ∧ IsE 35 w' g a n o (h + m) p q r ∧ Only w w' g := by
  have hcz : r ≤ z := by omega
  have dz : decide (z < r) = false := decide_eq_false hz
  have d3 : (a == 3) = false := by simpa using hne
  have HY := Lib.hid hy
  have HF := Lib.hid hf
  clear hne hy hf
  have hm0 : 0 ≤ m := by omega
  have hm1 : m ≤ n - o - h := by omega
  have s1 : IntKind.i64.wrap (h + m) = h + m := wr_in (by omega) (by omega)
  have HM := Lib.hid hm
  have HA := Lib.hid ha
  clear hm ha
  have i0 := idx0 p q r
  have i1 := idx1 p q r
  have i2 := idx2 p q r
  obtain ⟨⟨p0, p1⟩, ⟨q0, q1⟩, ⟨r0, r1⟩⟩ := hi
  have ep0 : decide (p < 0) = false := decide_eq_false (by omega)
  have ep1 : decide (4611686018427387903 < p) = false := decide_eq_false (by omega)
  have eq0 : decide (q < 0) = false := decide_eq_false (by omega)
  have eq1 : decide (4611686018427387903 < q) = false := decide_eq_false (by omega)
  have er0 : decide (r < 0) = false := decide_eq_false (by omega)
  have er1 : decide (4611686018427387903 < r) = false := decide_eq_false (by omega)
  have H1 := Lib.hid (IsE.alloc H (.cells #[.int .i64 p, .int .i64 q, .int .i64 r] 25))
  have HX1 := Lib.hid (show IsC (w.alloc (.cells #[.int .i64 p, .int .i64 q, .int .i64 r] 25)) w.heap.size p q r from Bk.new w 25 _)
  have HO1 := Lib.hid (only_alloc (only_refl w g) (.cells #[.int .i64 p, .int .i64 q, .int .i64 r] 25))
  have hlt := H.lt
  have hlt1 : g < (w.alloc (.cells #[.int .i64 p, .int .i64 q, .int .i64 r] 25)).heap.size := (IsE.alloc H (.cells #[.int .i64 p, .int .i64 q, .int .i64 r] 25)).lt
  have hkg : w.heap.size ≠ g := by omega
  clear H
  go_enter Try.func9, Try.ntmps9
  go_wp2_with fail
  generalize w.alloc (.cells #[.int .i64 p, .int .i64 q, .int .i64 r] 25) = w1 at *
  obtain ⟨K, hkq⟩ : ∃ K, w.heap.size = K := ⟨_, rfl⟩
  rw [hkq] at HX1 hkg ⊢
  clear hkq hlt
  go_wp2_with fail
  refine (none_no g a n o h x y z _ H1.out HA.out).mono ?_
  rintro e w' ⟨rfl, rfl⟩
  obtain ⟨x0, x1, x2⟩ := HX1.out.all
  go_wp2_with fail
  go_loop [16] (fun i => ∃ k : Nat, k ≤ 3 ∧ i = .int .i64 k) (fun i => 3 - (intOf i).toNat)
  case atStart => exact ⟨0, by omega, rfl⟩
  case round =>
    obtain ⟨k, hk, rfl⟩ := hrel
    rcases (show k = 0 ∨ k = 1 ∨ k = 2 ∨ k = 3 by omega) with rfl | rfl | rfl | rfl
    · go_wp2
      go_round
      case rel => exact ⟨1, by omega, rfl⟩
      case measure => simp [intOf]
    · go_wp2
      go_round
      case rel => exact ⟨2, by omega, rfl⟩
      case measure => simp [intOf]
    · go_wp2
      go_round
      case rel => exact ⟨3, by omega, rfl⟩
      case measure => simp [intOf]
    · go_wp2_with fail
      refine (wrong_is g a n o h x y z _ m H1.out HA.out h1 h2 h3 h4).mono ?_
      rw [if_neg HM.out]
      rintro e w' ⟨rfl, kk, rfl⟩
      clear x0 x1 x2
      have H2 := Lib.hid (H1.out.drewN kk)
      have HX2 := Lib.hid (HX1.out.drewN kk)
      have HO2 := Lib.hid (only_drewN HO1.out kk)
      have hlt2 : g < (w1.drewN kk).heap.size := hlt1
      clear H1 HX1 HO1 hlt1
      generalize w1.drewN kk = w2 at *
      obtain ⟨⟨c0, c1, c2, c3, c4, c5, c6⟩, f0, f1, f2, f3, f4, f5, f6⟩ := H2.out.all
      obtain ⟨x0, x1, x2⟩ := HX2.out.all
      go_wp2_with fail
      clear c0 c1 c2 c3 c4 c5 c6 f0 f1 f2 f3 f4 f5 f6 x0 x1 x2
      have H3 := Lib.hid (H2.out.set3 (h + m))
      have HX3 := Lib.hid (HX2.out.far (a := ⟨g, 3, none⟩) hkg (.int .i64 (h + m)))
      have HO3 := Lib.hid (only_set HO2.out 3 (.int .i64 (h + m)))
      have hlt3 : g < (w2.setCell ⟨g, 3, none⟩ (.int .i64 (h + m))).heap.size := H3.out.lt
      clear H2 HX2 HO2 hlt2
      generalize w2.setCell ⟨g, 3, none⟩ (.int .i64 (h + m)) = w3 at *
      obtain ⟨⟨c0, c1, c2, c3, c4, c5, c6⟩, f0, f1, f2, f3, f4, f5, f6⟩ := H3.out.all
      obtain ⟨x0, x1, x2⟩ := HX3.out.all
      refine (right_raw g a n o (h + m) x y z m p q r _ H3.out HY.out (by omega) h4 hx0 hx1 hz0 hz1 p0 p1 q0 r0 r1).mono ?_
      rw [decide_eq_true (show fine ⟨a, n, o, h + m, x, y, z⟩ m p q r from HF.out)]
      rintro e w4 ⟨rfl, hb4⟩
      clear c0 c1 c2 c3 c4 c5 c6 f0 f1 f2 f3 f4 f5 f6 x0 x1 x2
      have H4 := Lib.hid (H3.out.below hb4 hlt3)
      have HX4 := Lib.hid (HX3.out.below hb4)
      have HO4 := Lib.hid (only_below2 HO3.out hb4)
      clear hb4
      obtain ⟨⟨c0, c1, c2, c3, c4, c5, c6⟩, f0, f1, f2, f3, f4, f5, f6⟩ := H4.out.all
      obtain ⟨x0, x1, x2⟩ := HX4.out.all
      go_wp2_with fail
      go_quiet (fail)
      go_wp2
      go_ret2
      exact ⟨rfl, (((H4.out.drewN _).set4 p).set5 q).set6 r, only_set (only_set (only_set (only_drewN HO4.out _) 4 _) 5 _) 6 _⟩
end Go.Proofs.Ytpammbkhomcjmaa

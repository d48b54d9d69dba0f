/- Acked, the reference's. -/
import Derived.Test.YtpammbkhomcjmaaAcked
namespace Go.Proofs.Ytpammbkhomcjmaa
open Go.RowKit

set_option maxHeartbeats 4000000 in
theorem rack_out (g : Nat) (a n o h x y z m p q r : Int) (says : Bool) (w : World) (H : IsE 43 w g a n o h x y z) (ha : a = 1 ∨ a = 2 ∨ a = 3 ∨ a = 4) (hb : ¬ inAll p q r) :
    Calls Try.prog 16 #[.pointer (some ⟨g, 0, none⟩), .int .i64 m, .agg #[.int .i64 p, .int .i64 q, .int .i64 r], .bool says] w fun e w' => e = .returned (.tuple #[.bool false, .int .i64 2]) ∧ IsE 43 w' g a n o h x y z ∧ Only w w' g := by
  have HN := Lib.hid hb
  have HA := Lib.hid ha
  clear hb ha
  have H1 := Lib.hid (IsE.alloc H (.cells #[.int .i64 p, .int .i64 q, .int .i64 r] 25))
  have HX1 := Lib.hid (show IsC (w.alloc (.cells #[.int .i64 p, .int .i64 q, .int .i64 r] 25)) w.heap.size p q r from Bk.new w 25 _)
  have HO1 := Lib.hid (only_alloc (only_refl w g) (.cells #[.int .i64 p, .int .i64 q, .int .i64 r] 25))
  have hlt := H.lt
  have hlt1 : g < (w.alloc (.cells #[.int .i64 p, .int .i64 q, .int .i64 r] 25)).heap.size := (IsE.alloc H (.cells #[.int .i64 p, .int .i64 q, .int .i64 r] 25)).lt
  have hkg : w.heap.size ≠ g := by omega
  clear H
  go_enter Try.func16, Try.ntmps16
  go_wp2_with fail
  generalize w.alloc (.cells #[.int .i64 p, .int .i64 q, .int .i64 r] 25) = w1 at *
  obtain ⟨K, hkq⟩ : ∃ K, w.heap.size = K := ⟨_, rfl⟩
  rw [hkq] at HX1 hkg ⊢
  clear hkq hlt
  obtain ⟨x0, x1, x2⟩ := HX1.out.all
  go_wp2_with fail
  go_loop [10] (fun i => ∃ k : Nat, k ≤ 2 ∧ i = .int .i64 k ∧ (1 ≤ k → inR p) ∧ (2 ≤ k → inR q)) (fun i => 3 - (intOf i).toNat)
  case atStart => exact ⟨0, by omega, rfl, fun h => by omega, fun h => by omega⟩
  case round =>
    obtain ⟨k, hk, rfl, k1, k2⟩ := hrel
    rcases (show k = 0 ∨ k = 1 ∨ k = 2 by omega) with rfl | rfl | rfl
    · clear k1 k2
      rcases (show p < 0 ∨ 0 ≤ p ∧ 4611686018427387903 < p ∨ 0 ≤ p ∧ p ≤ 4611686018427387903 by omega) with hd | ⟨hc, hd⟩ | ⟨hc, hd⟩
      · have d0 : decide (p < 0) = true := decide_eq_true hd
        go_wp2
        go_ret2
        exact ⟨rfl, H1.out, HO1.out⟩
      · have d0 : decide (p < 0) = false := decide_eq_false (by omega)
        have d1 : decide (4611686018427387903 < p) = true := decide_eq_true hd
        go_wp2
        go_ret2
        exact ⟨rfl, H1.out, HO1.out⟩
      · have d0 : decide (p < 0) = false := decide_eq_false (by omega)
        have d1 : decide (4611686018427387903 < p) = false := decide_eq_false (by omega)
        go_wp2
        go_round
        case rel => exact ⟨1, by omega, rfl, fun _ => ⟨hc, hd⟩, fun h => by omega⟩
        case measure => simp [intOf]
    · have j1 := k1 (by omega)
      clear k1 k2
      rcases (show q < 0 ∨ 0 ≤ q ∧ 4611686018427387903 < q ∨ 0 ≤ q ∧ q ≤ 4611686018427387903 by omega) with hd | ⟨hc, hd⟩ | ⟨hc, hd⟩
      · have d0 : decide (q < 0) = true := decide_eq_true hd
        go_wp2
        go_ret2
        exact ⟨rfl, H1.out, HO1.out⟩
      · have d0 : decide (q < 0) = false := decide_eq_false (by omega)
        have d1 : decide (4611686018427387903 < q) = true := decide_eq_true hd
        go_wp2
        go_ret2
        exact ⟨rfl, H1.out, HO1.out⟩
      · have d0 : decide (q < 0) = false := decide_eq_false (by omega)
        have d1 : decide (4611686018427387903 < q) = false := decide_eq_false (by omega)
        go_wp2
        go_round
        case rel => exact ⟨2, by omega, rfl, fun _ => j1, fun _ => ⟨hc, hd⟩⟩
        case measure => simp [intOf]
    · have j1 := k1 (by omega)
      have j2 := k2 (by omega)
      clear k1 k2
      rcases (show r < 0 ∨ 0 ≤ r ∧ 4611686018427387903 < r ∨ 0 ≤ r ∧ r ≤ 4611686018427387903 by omega) with hd | ⟨hc, hd⟩ | ⟨hc, hd⟩
      · have d0 : decide (r < 0) = true := decide_eq_true hd
        go_wp2
        go_ret2
        exact ⟨rfl, H1.out, HO1.out⟩
      · have d0 : decide (r < 0) = false := decide_eq_false (by omega)
        have d1 : decide (4611686018427387903 < r) = true := decide_eq_true hd
        go_wp2
        go_ret2
        exact ⟨rfl, H1.out, HO1.out⟩
      · exact absurd ⟨j1, j2, hc, hd⟩ HN.out

set_option maxHeartbeats 4000000 in
theorem rack_bad (g : Nat) (a n o h x y z m p q r : Int) (says : Bool) (w : World) (H : IsE 43 w g a n o h x y z) (ha : a = 1 ∨ a = 2 ∨ a = 3 ∨ a = 4) (h1 : 0 ≤ o) (h2 : 0 ≤ h) (h3 : o + h ≤ n) (h4 : n ≤ 1152921504606846976) (hi : inAll p q r) (hm : m < 0 ∨ n - o - h < m) :
    Calls Try.prog 16 #[.pointer (some ⟨g, 0, none⟩), .int .i64 m, .agg #[.int .i64 p, .int .i64 q, .int .i64 r], .bool says] w fun e w' => e = .returned (.tuple #[.bool false, .int .i64 2]) ∧ IsE 43 w' g a n o h x y z ∧ Only w w' g := by
  have HM := Lib.hid hm
  have HA := Lib.hid ha
  clear hm ha
  obtain ⟨⟨p0, p1⟩, ⟨q0, q1⟩, ⟨r0, r1⟩⟩ := hi
  have ep0 : decide (p < 0) = false := decide_eq_false (by omega)
  have ep1 : decide (4611686018427387903 < p) = false := decide_eq_false (by omega)
  have eq0 : decide (q < 0) = false := decide_eq_false (by omega)
  have eq1 : decide (4611686018427387903 < q) = false := decide_eq_false (by omega)
  have er0 : decide (r < 0) = false := decide_eq_false (by omega)
  have er1 : decide (4611686018427387903 < r) = false := decide_eq_false (by omega)
  have H1 := Lib.hid (IsE.alloc H (.cells #[.int .i64 p, .int .i64 q, .int .i64 r] 25))
  have HX1 := Lib.hid (show IsC (w.alloc (.cells #[.int .i64 p, .int .i64 q, .int .i64 r] 25)) w.heap.size p q r from Bk.new w 25 _)
  have HO1 := Lib.hid (only_alloc (only_refl w g) (.cells #[.int .i64 p, .int .i64 q, .int .i64 r] 25))
  have hlt := H.lt
  have hlt1 : g < (w.alloc (.cells #[.int .i64 p, .int .i64 q, .int .i64 r] 25)).heap.size := (IsE.alloc H (.cells #[.int .i64 p, .int .i64 q, .int .i64 r] 25)).lt
  have hkg : w.heap.size ≠ g := by omega
  clear H
  go_enter Try.func16, Try.ntmps16
  go_wp2_with fail
  generalize w.alloc (.cells #[.int .i64 p, .int .i64 q, .int .i64 r] 25) = w1 at *
  obtain ⟨K, hkq⟩ : ∃ K, w.heap.size = K := ⟨_, rfl⟩
  rw [hkq] at HX1 hkg ⊢
  clear hkq hlt
  obtain ⟨x0, x1, x2⟩ := HX1.out.all
  go_wp2_with fail
  go_loop [10] (fun i => ∃ k : Nat, k ≤ 3 ∧ i = .int .i64 k) (fun i => 3 - (intOf i).toNat)
  case atStart => exact ⟨0, by omega, rfl⟩
  case round =>
    obtain ⟨k, hk, rfl⟩ := hrel
    rcases (show k = 0 ∨ k = 1 ∨ k = 2 ∨ k = 3 by omega) with rfl | rfl | rfl | rfl
    · go_wp2
      go_round
      case rel => exact ⟨1, by omega, rfl⟩
      case measure => simp [intOf]
    · go_wp2
      go_round
      case rel => exact ⟨2, by omega, rfl⟩
      case measure => simp [intOf]
    · go_wp2
      go_round
      case rel => exact ⟨3, by omega, rfl⟩
      case measure => simp [intOf]
    · go_wp2_with fail
      refine (rwrong_is g a n o h x y z _ m H1.out h1 h2 h3 h4).mono ?_
      rw [decide_eq_true HM.out]
      rintro e w' ⟨rfl, kk, rfl⟩
      clear x0 x1 x2
      have H2 := Lib.hid (H1.out.drewN kk)
      have HX2 := Lib.hid (HX1.out.drewN kk)
      have HO2 := Lib.hid (only_drewN HO1.out kk)
      have hlt2 : g < (w1.drewN kk).heap.size := hlt1
      clear H1 HX1 HO1 hlt1
      generalize w1.drewN kk = w2 at *
      go_wp2
      go_ret2
      exact ⟨rfl, H2.out, HO2.out⟩

set_option maxHeartbeats 4000000 in
theorem rack_failed (g : Nat) (a n o h x y z m p q r : Int) (says : Bool) (w : World) (H : IsE 43 w g a n o h x y z) (ha : a = 1 ∨ a = 2 ∨ a = 3 ∨ a = 4) (h1 : 0 ≤ o) (h2 : 0 ≤ h) (h3 : o + h ≤ n) (h4 : n ≤ 1152921504606846976) (hi : inAll p q r) (hm : ¬ (m < 0 ∨ n - o - h < m)) (h3' : a = 3) :
    Calls Try.prog 16 #[.pointer (some ⟨g, 0, none⟩), .int .i64 m, .agg #[.int .i64 p, .int .i64 q, .int .i64 r], .bool says] w fun e w' => e = .returned (.tuple #[.bool false, .int .i64 0]) ∧ IsE 43 w' g 3 n o (h + m) x y z ∧ Only w w' g := by
  subst h3'
  have hm0 : 0 ≤ m := by omega
  have hm1 : m ≤ n - o - h := by omega
  have s1 : IntKind.i64.wrap (h + m) = h + m := wr_in (by omega) (by omega)
  have HM := Lib.hid hm
  have HA := Lib.hid ha
  clear hm ha
  obtain ⟨⟨p0, p1⟩, ⟨q0, q1⟩, ⟨r0, r1⟩⟩ := hi
  have ep0 : decide (p < 0) = false := decide_eq_false (by omega)
  have ep1 : decide (4611686018427387903 < p) = false := decide_eq_false (by omega)
  have eq0 : decide (q < 0) = false := decide_eq_false (by omega)
  have eq1 : decide (4611686018427387903 < q) = false := decide_eq_false (by omega)
  have er0 : decide (r < 0) = false := decide_eq_false (by omega)
  have er1 : decide (4611686018427387903 < r) = false := decide_eq_false (by omega)
  have H1 := Lib.hid (IsE.alloc H (.cells #[.int .i64 p, .int .i64 q, .int .i64 r] 25))
  have HX1 := Lib.hid (show IsC (w.alloc (.cells #[.int .i64 p, .int .i64 q, .int .i64 r] 25)) w.heap.size p q r from Bk.new w 25 _)
  have HO1 := Lib.hid (only_alloc (only_refl w g) (.cells #[.int .i64 p, .int .i64 q, .int .i64 r] 25))
  have hlt := H.lt
  have hlt1 : g < (w.alloc (.cells #[.int .i64 p, .int .i64 q, .int .i64 r] 25)).heap.size := (IsE.alloc H (.cells #[.int .i64 p, .int .i64 q, .int .i64 r] 25)).lt
  have hkg : w.heap.size ≠ g := by omega
  clear H
  go_enter Try.func16, Try.ntmps16
  go_wp2_with fail
  generalize w.alloc (.cells #[.int .i64 p, .int .i64 q, .int .i64 r] 25) = w1 at *
  obtain ⟨K, hkq⟩ : ∃ K, w.heap.size = K := ⟨_, rfl⟩
  rw [hkq] at HX1 hkg ⊢
  clear hkq hlt
  obtain ⟨x0, x1, x2⟩ := HX1.out.all
  go_wp2_with fail
  go_loop [10] (fun i => ∃ k : Nat, k ≤ 3 ∧ i = .int .i64 k) (fun i => 3 - (intOf i).toNat)
  case atStart => exact ⟨0, by omega, rfl⟩
  case round =>
    obtain ⟨k, hk, rfl⟩ := hrel
    rcases (show k = 0 ∨ k = 1 ∨ k = 2 ∨ k = 3 by omega) with rfl | rfl | rfl | rfl
    · go_wp2
      go_round
      case rel => exact ⟨1, by omega, rfl⟩
      case measure => simp [intOf]
    · go_wp2
      go_round
      case rel => exact ⟨2, by omega, rfl⟩
      case measure => simp [intOf]
    · go_wp2
      go_round
      case rel => exact ⟨3, by omega, rfl⟩
      case measure => simp [intOf]
    · go_wp2_with fail
      refine (rwrong_is g 3 n o h x y z _ m H1.out h1 h2 h3 h4).mono ?_
      rw [decide_eq_false HM.out]
      rintro e w' ⟨rfl, kk, rfl⟩
      clear x0 x1 x2
      have H2 := Lib.hid (H1.out.drewN kk)
      have HX2 := Lib.hid (HX1.out.drewN kk)
      have HO2 := Lib.hid (only_drewN HO1.out kk)
      have hlt2 : g < (w1.drewN kk).heap.size := hlt1
      clear H1 HX1 HO1 hlt1
      generalize w1.drewN kk = w2 at *
      obtain ⟨⟨c0, c1, c2, c3, c4, c5, c6⟩, f0, f1, f2, f3, f4, f5, f6⟩ := H2.out.all
      obtain ⟨x0, x1, x2⟩ := HX2.out.all
      go_wp2_with fail
      clear c0 c1 c2 c3 c4 c5 c6 f0 f1 f2 f3 f4 f5 f6 x0 x1 x2
      have H3 := Lib.hid (H2.out.set3 (h + m))
      have HX3 := Lib.hid (HX2.out.far (a := ⟨g, 3, none⟩) hkg (.int .i64 (h + m)))
      have HO3 := Lib.hid (only_set HO2.out 3 (.int .i64 (h + m)))
      have hlt3 : g < (w2.setCell ⟨g, 3, none⟩ (.int .i64 (h + m))).heap.size := H3.out.lt
      clear H2 HX2 HO2 hlt2
      generalize w2.setCell ⟨g, 3, none⟩ (.int .i64 (h + m)) = w3 at *
      obtain ⟨⟨c0, c1, c2, c3, c4, c5, c6⟩, f0, f1, f2, f3, f4, f5, f6⟩ := H3.out.all
      obtain ⟨x0, x1, x2⟩ := HX3.out.all
      go_wp2
      go_ret2
      exact ⟨rfl, H3.out, HO3.out⟩

set_option maxHeartbeats 4000000 in
theorem rack_mute0 (g : Nat) (a n o h x y z m p q r : Int) (w : World) (H : IsE 43 w g a n o h x y z) (ha : a = 1 ∨ a = 2 ∨ a = 3 ∨ a = 4) (h1 : 0 ≤ o) (h2 : 0 ≤ h) (h3 : o + h ≤ n) (h4 : n ≤ 1152921504606846976) (hi : inAll p q r) (hm : ¬ (m < 0 ∨ n - o - h < m)) (hne : a ≠ 3) (hm2 : m = 0) :
    Calls Try.prog 16 #[.pointer (some ⟨g, 0, none⟩), .int .i64 m, .agg #[.int .i64 p, .int .i64 q, .int .i64 r], .bool false] w fun e w' => e = .returned (.tuple #[.bool false, .int .i64 0]) ∧ IsE 43 w' g a n o (h + m) x y z ∧ Only w w' g := by
  have d3 : (a == 3) = false := by simpa using hne
  have d4 : (m == 0) = true := by simpa using hm2
  have d5 : m ≤ 0 := by omega
  clear hne
  have hm0 : 0 ≤ m := by omega
  have hm1 : m ≤ n - o - h := by omega
  have s1 : IntKind.i64.wrap (h + m) = h + m := wr_in (by omega) (by omega)
  have HM := Lib.hid hm
  have HA := Lib.hid ha
  clear hm ha hm2
  obtain ⟨⟨p0, p1⟩, ⟨q0, q1⟩, ⟨r0, r1⟩⟩ := hi
  have ep0 : decide (p < 0) = false := decide_eq_false (by omega)
  have ep1 : decide (4611686018427387903 < p) = false := decide_eq_false (by omega)
  have eq0 : decide (q < 0) = false := decide_eq_false (by omega)
  have eq1 : decide (4611686018427387903 < q) = false := decide_eq_false (by omega)
  have er0 : decide (r < 0) = false := decide_eq_false (by omega)
  have er1 : decide (4611686018427387903 < r) = false := decide_eq_false (by omega)
  have H1 := Lib.hid (IsE.alloc H (.cells #[.int .i64 p, .int .i64 q, .int .i64 r] 25))
  have HX1 := Lib.hid (show IsC (w.alloc (.cells #[.int .i64 p, .int .i64 q, .int .i64 r] 25)) w.heap.size p q r from Bk.new w 25 _)
  have HO1 := Lib.hid (only_alloc (only_refl w g) (.cells #[.int .i64 p, .int .i64 q, .int .i64 r] 25))
  have hlt := H.lt
  have hlt1 : g < (w.alloc (.cells #[.int .i64 p, .int .i64 q, .int .i64 r] 25)).heap.size := (IsE.alloc H (.cells #[.int .i64 p, .int .i64 q, .int .i64 r] 25)).lt
  have hkg : w.heap.size ≠ g := by omega
  clear H
  go_enter Try.func16, Try.ntmps16
  go_wp2_with fail
  generalize w.alloc (.cells #[.int .i64 p, .int .i64 q, .int .i64 r] 25) = w1 at *
  obtain ⟨K, hkq⟩ : ∃ K, w.heap.size = K := ⟨_, rfl⟩
  rw [hkq] at HX1 hkg ⊢
  clear hkq hlt
  obtain ⟨x0, x1, x2⟩ := HX1.out.all
  go_wp2_with fail
  go_loop [10] (fun i => ∃ k : Nat, k ≤ 3 ∧ i = .int .i64 k) (fun i => 3 - (intOf i).toNat)
  case atStart => exact ⟨0, by omega, rfl⟩
  case round =>
    obtain ⟨k, hk, rfl⟩ := hrel
    rcases (show k = 0 ∨ k = 1 ∨ k = 2 ∨ k = 3 by omega) with rfl | rfl | rfl | rfl
    · go_wp2
      go_round
      case rel => exact ⟨1, by omega, rfl⟩
      case measure => simp [intOf]
    · go_wp2
      go_round
      case rel => exact ⟨2, by omega, rfl⟩
      case measure => simp [intOf]
    · go_wp2
      go_round
      case rel => exact ⟨3, by omega, rfl⟩
      case measure => simp [intOf]
    · go_wp2_with fail
      refine (rwrong_is g a n o h x y z _ m H1.out h1 h2 h3 h4).mono ?_
      rw [decide_eq_false HM.out]
      rintro e w' ⟨rfl, kk, rfl⟩
      clear x0 x1 x2
      have H2 := Lib.hid (H1.out.drewN kk)
      have HX2 := Lib.hid (HX1.out.drewN kk)
      have HO2 := Lib.hid (only_drewN HO1.out kk)
      have hlt2 : g < (w1.drewN kk).heap.size := hlt1
      clear H1 HX1 HO1 hlt1
      generalize w1.drewN kk = w2 at *
      obtain ⟨⟨c0, c1, c2, c3, c4, c5, c6⟩, f0, f1, f2, f3, f4, f5, f6⟩ := H2.out.all
      obtain ⟨x0, x1, x2⟩ := HX2.out.all
      go_wp2_with fail
      clear c0 c1 c2 c3 c4 c5 c6 f0 f1 f2 f3 f4 f5 f6 x0 x1 x2
      have H3 := Lib.hid (H2.out.set3 (h + m))
      have HX3 := Lib.hid (HX2.out.far (a := ⟨g, 3, none⟩) hkg (.int .i64 (h + m)))
      have HO3 := Lib.hid (only_set HO2.out 3 (.int .i64 (h + m)))
      have hlt3 : g < (w2.setCell ⟨g, 3, none⟩ (.int .i64 (h + m))).heap.size := H3.out.lt
      clear H2 HX2 HO2 hlt2
      generalize w2.setCell ⟨g, 3, none⟩ (.int .i64 (h + m)) = w3 at *
      obtain ⟨⟨c0, c1, c2, c3, c4, c5, c6⟩, f0, f1, f2, f3, f4, f5, f6⟩ := H3.out.all
      obtain ⟨x0, x1, x2⟩ := HX3.out.all
      go_wp2
      go_ret2
      exact ⟨rfl, H3.out, HO3.out⟩

set_option maxHeartbeats 4000000 in
theorem rack_mute (g : Nat) (a n o h x y z m p q r : Int) (w : World) (H : IsE 43 w g a n o h x y z) (ha : a = 1 ∨ a = 2 ∨ a = 3 ∨ a = 4) (h1 : 0 ≤ o) (h2 : 0 ≤ h) (h3 : o + h ≤ n) (h4 : n ≤ 1152921504606846976) (hi : inAll p q r) (hm : ¬ (m < 0 ∨ n - o - h < m)) (hne : a ≠ 3) (hm2 : m ≠ 0) :
    Calls Try.prog 16 #[.pointer (some ⟨g, 0, none⟩), .int .i64 m, .agg #[.int .i64 p, .int .i64 q, .int .i64 r], .bool false] w fun e w' => e = .returned (.tuple #[.bool false, .int .i64 0]) ∧ IsE 43 w' g 3 n o (h + m) x y z ∧ Only w w' g := by
  have d3 : (a == 3) = false := by simpa using hne
  have d4 : (m == 0) = false := by simpa using hm2
  clear hne
  have hm0 : 0 ≤ m := by omega
  have hm1 : m ≤ n - o - h := by omega
  have s1 : IntKind.i64.wrap (h + m) = h + m := wr_in (by omega) (by omega)
  have HM := Lib.hid hm
  have HA := Lib.hid ha
  clear hm ha
  obtain ⟨⟨p0, p1⟩, ⟨q0, q1⟩, ⟨r0, r1⟩⟩ := hi
  have ep0 : decide (p < 0) = false := decide_eq_false (by omega)
  have ep1 : decide (4611686018427387903 < p) = false := decide_eq_false (by omega)
  have eq0 : decide (q < 0) = false := decide_eq_false (by omega)
  have eq1 : decide (4611686018427387903 < q) = false := decide_eq_false (by omega)
  have er0 : decide (r < 0) = false := decide_eq_false (by omega)
  have er1 : decide (4611686018427387903 < r) = false := decide_eq_false (by omega)
  have H1 := Lib.hid (IsE.alloc H (.cells #[.int .i64 p, .int .i64 q, .int .i64 r] 25))
  have HX1 := Lib.hid (show IsC (w.alloc (.cells #[.int .i64 p, .int .i64 q, .int .i64 r] 25)) w.heap.size p q r from Bk.new w 25 _)
  have HO1 := Lib.hid (only_alloc (only_refl w g) (.cells #[.int .i64 p, .int .i64 q, .int .i64 r] 25))
  have hlt := H.lt
  have hlt1 : g < (w.alloc (.cells #[.int .i64 p, .int .i64 q, .int .i64 r] 25)).heap.size := (IsE.alloc H (.cells #[.int .i64 p, .int .i64 q, .int .i64 r] 25)).lt
  have hkg : w.heap.size ≠ g := by omega
  clear H
  go_enter Try.func16, Try.ntmps16
  go_wp2_with fail
  generalize w.alloc (.cells #[.int .i64 p, .int .i64 q, .int .i64 r] 25) = w1 at *
  obtain ⟨K, hkq⟩ : ∃ K, w.heap.size = K := ⟨_, rfl⟩
  rw [hkq] at HX1 hkg ⊢
  clear hkq hlt
  obtain ⟨x0, x1, x2⟩ := HX1.out.all
  go_wp2_with fail
  go_loop [10] (fun i => ∃ k : Nat, k ≤ 3 ∧ i = .int .i64 k) (fun i => 3 - (intOf i).toNat)
  case atStart => exact ⟨0, by omega, rfl⟩
  case round =>
    obtain ⟨k, hk, rfl⟩ := hrel
    rcases (show k = 0 ∨ k = 1 ∨ k = 2 ∨ k = 3 by omega) with rfl | rfl | rfl | rfl
    · go_wp2
      go_round
      case rel => exact ⟨1, by omega, rfl⟩
      case measure => simp [intOf]
    · go_wp2
      go_round
      case rel => exact ⟨2, by omega, rfl⟩
      case measure => simp [intOf]
    · go_wp2
      go_round
      case rel => exact ⟨3, by omega, rfl⟩
      case measure => simp [intOf]
    · go_wp2_with fail
      refine (rwrong_is g a n o h x y z _ m H1.out h1 h2 h3 h4).mono ?_
      rw [decide_eq_false HM.out]
      rintro e w' ⟨rfl, kk, rfl⟩
      clear x0 x1 x2
      have H2 := Lib.hid (H1.out.drewN kk)
      have HX2 := Lib.hid (HX1.out.drewN kk)
      have HO2 := Lib.hid (only_drewN HO1.out kk)
      have hlt2 : g < (w1.drewN kk).heap.size := hlt1
      clear H1 HX1 HO1 hlt1
      generalize w1.drewN kk = w2 at *
      obtain ⟨⟨c0, c1, c2, c3, c4, c5, c6⟩, f0, f1, f2, f3, f4, f5, f6⟩ := H2.out.all
      obtain ⟨x0, x1, x2⟩ := HX2.out.all
      go_wp2_with fail
      clear c0 c1 c2 c3 c4 c5 c6 f0 f1 f2 f3 f4 f5 f6 x0 x1 x2
      have H3 := Lib.hid (H2.out.set3 (h + m))
      have HX3 := Lib.hid (HX2.out.far (a := ⟨g, 3, none⟩) hkg (.int .i64 (h + m)))
      have HO3 := Lib.hid (only_set HO2.out 3 (.int .i64 (h + m)))
      have hlt3 : g < (w2.setCell ⟨g, 3, none⟩ (.int .i64 (h + m))).heap.size := H3.out.lt
      clear H2 HX2 HO2 hlt2
      generalize w2.setCell ⟨g, 3, none⟩ (.int .i64 (h + m)) = w3 at *
      obtain ⟨⟨c0, c1, c2, c3, c4, c5, c6⟩, f0, f1, f2, f3, f4, f5, f6⟩ := H3.out.all
      obtain ⟨x0, x1, x2⟩ := HX3.out.all
      go_wp2
      go_ret2
      exact ⟨rfl, H3.out.set0 3, only_set HO3.out 0 _⟩

set_option maxHeartbeats 4000000 in
theorem rack_lie (g : Nat) (a n o h x y z m p q r : Int) (w : World) (H : IsE 43 w g a n o h x y z) (ha : a = 1 ∨ a = 2 ∨ a = 3 ∨ a = 4) (h1 : 0 ≤ o) (h2 : 0 ≤ h) (h3 : o + h ≤ n) (h4 : n ≤ 1152921504606846976) (hi : inAll p q r) (hm : ¬ (m < 0 ∨ n - o - h < m)) (hne : a ≠ 3) (hx0 : 0 ≤ x) (hx1 : x ≤ 4611686018427387903) (hz0 : 0 ≤ z) (hz1 : z ≤ 4611686018427387903) (hf : ¬ fine ⟨a, n, o, h, x, y, z⟩ m p q r) :
    Calls Try.prog 16 #[.pointer (some ⟨g, 0, none⟩), .int .i64 m, .agg #[.int .i64 p, .int .i64 q, .int .i64 r], .bool true] w fun e w' => e = .returned (.tuple #[.bool false, .int .i64 0]) ∧ IsE 43 w' g 3 n o (h + m) x y z ∧ Only w w' g := by
  have d3 : (a == 3) = false := by simpa using hne
  have HF := Lib.hid hf
  clear hne hf
  have hm0 : 0 ≤ m := by omega
  have hm1 : m ≤ n - o - h := by omega
  have s1 : IntKind.i64.wrap (h + m) = h + m := wr_in (by omega) (by omega)
  have HM := Lib.hid hm
  have HA := Lib.hid ha
  clear hm ha
  obtain ⟨⟨p0, p1⟩, ⟨q0, q1⟩, ⟨r0, r1⟩⟩ := hi
  have ep0 : decide (p < 0) = false := decide_eq_false (by omega)
  have ep1 : decide (4611686018427387903 < p) = false := decide_eq_false (by omega)
  have eq0 : decide (q < 0) = false := decide_eq_false (by omega)
  have eq1 : decide (4611686018427387903 < q) = false := decide_eq_false (by omega)
  have er0 : decide (r < 0) = false := decide_eq_false (by omega)
  have er1 : decide (4611686018427387903 < r) = false := decide_eq_false (by omega)
  have H1 := Lib.hid (IsE.alloc H (.cells #[.int .i64 p, .int .i64 q, .int .i64 r] 25))
  have HX1 := Lib.hid (show IsC (w.alloc (.cells #[.int .i64 p, .int .i64 q, .int .i64 r] 25)) w.heap.size p q r from Bk.new w 25 _)
  have HO1 := Lib.hid (only_alloc (only_refl w g) (.cells #[.int .i64 p, .int .i64 q, .int .i64 r] 25))
  have hlt := H.lt
  have hlt1 : g < (w.alloc (.cells #[.int .i64 p, .int .i64 q, .int .i64 r] 25)).heap.size := (IsE.alloc H (.cells #[.int .i64 p, .int .i64 q, .int .i64 r] 25)).lt
  have hkg : w.heap.size ≠ g := by omega
  clear H
  go_enter Try.func16, Try.ntmps16
  go_wp2_with fail
  generalize w.alloc (.cells #[.int .i64 p, .int .i64 q, .int .i64 r] 25) = w1 at *
  obtain ⟨K, hkq⟩ : ∃ K, w.heap.size = K := ⟨_, rfl⟩
  rw [hkq] at HX1 hkg ⊢
  clear hkq hlt
  obtain ⟨x0, x1, x2⟩ := HX1.out.all
  go_wp2_with fail
  go_loop [10] (fun i => ∃ k : Nat, k ≤ 3 ∧ i = .int .i64 k) (fun i => 3 - (intOf i).toNat)
  case atStart => exact ⟨0, by omega, rfl⟩
  case round =>
    obtain ⟨k, hk, rfl⟩ := hrel
    rcases (show k = 0 ∨ k = 1 ∨ k = 2 ∨ k = 3 by omega) with rfl | rfl | rfl | rfl
    · go_wp2
      go_round
      case rel => exact ⟨1, by omega, rfl⟩
      case measure => simp [intOf]
    · go_wp2
      go_round
      case rel => exact ⟨2, by omega, rfl⟩
      case measure => simp [intOf]
    · go_wp2
      go_round
      case rel => exact ⟨3, by omega, rfl⟩
      case measure => simp [intOf]
    · go_wp2_with fail
      refine (rwrong_is g a n o h x y z _ m H1.out h1 h2 h3 h4).mono ?_
      rw [decide_eq_false HM.out]
      rintro e w' ⟨rfl, kk, rfl⟩
      clear x0 x1 x2
      have H2 := Lib.hid (H1.out.drewN kk)
      have HX2 := Lib.hid (HX1.out.drewN kk)
      have HO2 := Lib.hid (only_drewN HO1.out kk)
      have hlt2 : g < (w1.drewN kk).heap.size := hlt1
      clear H1 HX1 HO1 hlt1
      generalize w1.drewN kk = w2 at *
      obtain ⟨⟨c0, c1, c2, c3, c4, c5, c6⟩, f0, f1, f2, f3, f4, f5, f6⟩ := H2.out.all
      obtain ⟨x0, x1, x2⟩ := HX2.out.all
      go_wp2_with fail
      clear c0 c1 c2 c3 c4 c5 c6 f0 f1 f2 f3 f4 f5 f6 x0 x1 x2
      have H3 := Lib.hid (H2.out.set3 (h + m))
      have HX3 := Lib.hid (HX2.out.far (a := ⟨g, 3, none⟩) hkg (.int .i64 (h + m)))
      have HO3 := Lib.hid (only_set HO2.out 3 (.int .i64 (h + m)))
      have hlt3 : g < (w2.setCell ⟨g, 3, none⟩ (.int .i64 (h + m))).heap.size := H3.out.lt
      clear H2 HX2 HO2 hlt2
      generalize w2.setCell ⟨g, 3, none⟩ (.int .i64 (h + m)) = w3 at *
      obtain ⟨⟨c0, c1, c2, c3, c4, c5, c6⟩, f0, f1, f2, f3, f4, f5, f6⟩ := H3.out.all
      obtain ⟨x0, x1, x2⟩ := HX3.out.all
      have s4 : IntKind.i64.wrap (p - x) = p - x := wr_in (by omega) (by omega)
      have s5 : IntKind.i64.wrap (p - x + r) = p - x + r := wr_in (by omega) (by omega)
      have s6 : IntKind.i64.wrap (p - x + r - z) = p - x + r - z := wr_in (by omega) (by omega)
      have s7 : IntKind.i64.wrap (n - p) = n - p := wr_in (by omega) (by omega)
      rcases (show 0 < q ∨ ¬ (0 < q) by omega) with hd4 | hd4
      · have d4 : decide (0 < q) = true := decide_eq_true hd4
        clear hd4
        go_quiet (fail)
        go_wp2
        go_ret2
        exact ⟨rfl, IsE.set0 (IsE.drewN (H3.out) _) 3, only_set (only_drewN (HO3.out) _) 0 _⟩
      · have d4 : decide (0 < q) = false := decide_eq_false (by omega)
        rcases (show p < x ∨ ¬ (p < x) by omega) with hd5 | hd5
        · have d5 : decide (p < x) = true := decide_eq_true hd5
          clear hd5
          go_quiet (fail)
          go_wp2
          go_ret2
          exact ⟨rfl, IsE.set0 (IsE.drewN (H3.out) _) 3, only_set (only_drewN (HO3.out) _) 0 _⟩
        · have d5 : decide (p < x) = false := decide_eq_false (by omega)
          rcases (show r < z ∨ ¬ (r < z) by omega) with hd6 | hd6
          · have d6 : decide (r < z) = true := decide_eq_true hd6
            clear hd6
            go_quiet (fail)
            go_wp2
            go_ret2
            exact ⟨rfl, IsE.set0 (IsE.drewN (H3.out) _) 3, only_set (only_drewN (HO3.out) _) 0 _⟩
          · have d6 : decide (r < z) = false := decide_eq_false (by omega)
            rcases (show p - x + r - z < m ∨ ¬ (p - x + r - z < m) by omega) with hd7 | hd7
            · have d7 : decide (p - x + r - z < m) = true := decide_eq_true hd7
              clear hd7
              go_quiet (fail)
              go_wp2_with fail
              go_quiet (fail)
              go_wp2_with fail
              go_quiet (fail)
              go_wp2
              go_ret2
              exact ⟨rfl, IsE.set0 (IsE.drewN (H3.out) _) 3, only_set (only_drewN (HO3.out) _) 0 _⟩
            · have d7 : decide (p - x + r - z < m) = false := decide_eq_false (by omega)
              rcases (show n < p ∨ ¬ (n < p) by omega) with hd8 | hd8
              · have d8 : decide (n < p) = true := decide_eq_true hd8
                clear hd8
                go_quiet (fail)
                go_wp2_with fail
                go_quiet (fail)
                go_wp2_with fail
                go_quiet (fail)
                go_wp2
                go_ret2
                exact ⟨rfl, IsE.set0 (IsE.drewN (H3.out) _) 3, only_set (only_drewN (HO3.out) _) 0 _⟩
              · have d8 : decide (n < p) = false := decide_eq_false (by omega)
                rcases (show n - p < r ∨ ¬ (n - p < r) by omega) with hd9 | hd9
                · have d9 : decide (n - p < r) = true := decide_eq_true hd9
                  clear hd9
                  go_quiet (fail)
                  go_wp2_with fail
                  go_quiet (fail)
                  go_wp2_with fail
                  go_quiet (fail)
                  go_wp2
                  go_ret2
                  exact ⟨rfl, IsE.set0 (IsE.drewN (H3.out) _) 3, only_set (only_drewN (HO3.out) _) 0 _⟩
                · have d9 : decide (n - p < r) = false := decide_eq_false (by omega)
                  exact absurd (show fine ⟨a, n, o, h, x, y, z⟩ m p q r by simp only [fine]; omega) HF.out
end Go.Proofs.Ytpammbkhomcjmaa

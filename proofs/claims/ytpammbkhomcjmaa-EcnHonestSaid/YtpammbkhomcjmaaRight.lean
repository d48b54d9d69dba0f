/- Ecn's right: whether the peer's counts can be. -/
import Derived.Test.YtpammbkhomcjmaaLost
import Derived.LoopTactic
namespace Go.Proofs.Ytpammbkhomcjmaa
open Go.RowKit

/-- The peer's counts can be, if m marked ones arrived. -/
def fine (s : St) (m p q r : Int) : Prop := s.l0 ≤ p ∧ s.l2 ≤ r ∧ q = 0 ∧ m ≤ p - s.l0 + r - s.l2 ∧ p ≤ s.sent ∧ r ≤ s.sent - p
instance (s : St) (m p q r : Int) : Decidable (fine s m p q r) := by unfold fine; infer_instance
/-- Block g holds the three numbers. -/
def IsC (w : World) (g : Nat) (p q r : Int) : Prop := Bk w g 25 #[.int .i64 p, .int .i64 q, .int .i64 r]
theorem IsC.all {w : World} {g : Nat} {p q r : Int} (h : IsC w g p q r) : w.cell? ⟨g, 0, none⟩ = some (.int .i64 p) ∧ w.cell? ⟨g, 1, none⟩ = some (.int .i64 q) ∧ w.cell? ⟨g, 2, none⟩ = some (.int .i64 r) := ⟨Bk.cell h 0, Bk.cell h 1, Bk.cell h 2⟩
section
variable (p q r : Int)
theorem idx0 (w : World) : (Instr.index 25 (.agg #[.int .i64 p, .int .i64 q, .int .i64 r]) (.int .i64 0)).run Try.prog w = .ok (.int .i64 p) w := by kernel_rfl
theorem idx1 (w : World) : (Instr.index 25 (.agg #[.int .i64 p, .int .i64 q, .int .i64 r]) (.int .i64 1)).run Try.prog w = .ok (.int .i64 q) w := by kernel_rfl
theorem idx2 (w : World) : (Instr.index 25 (.agg #[.int .i64 p, .int .i64 q, .int .i64 r]) (.int .i64 2)).run Try.prog w = .ok (.int .i64 r) w := by kernel_rfl
end

set_option maxHeartbeats 4000000 in
theorem right_raw (g : Nat) (a n o h x y z m p q r : Int) (w : World) (H : IsE 35 w g a n o h x y z) (hy : y = 0)
    (hn0 : 0 ≤ n) (hn1 : n ≤ 1152921504606846976) (hx0 : 0 ≤ x) (hx1 : x ≤ 4611686018427387903) (hz0 : 0 ≤ z) (hz1 : z ≤ 4611686018427387903)
    (hp0 : 0 ≤ p) (hp1 : p ≤ 4611686018427387903) (_hq0 : 0 ≤ q) (hr0 : 0 ≤ r) (hr1 : r ≤ 4611686018427387903) :
    Calls Try.prog 19 #[.pointer (some ⟨g, 0, none⟩), .int .i64 m, .agg #[.int .i64 p, .int .i64 q, .int .i64 r]] w fun e w' => e = .returned (.bool (decide (fine ⟨a, n, o, h, x, y, z⟩ m p q r))) ∧ Below w.heap.size w w' := by
  have i0 := idx0 p q r
  have i1 := idx1 p q r
  have i2 := idx2 p q r
  have H1 := Lib.hid (IsE.alloc H (.cells #[.int .i64 p, .int .i64 q, .int .i64 r] 25))
  have HX := Lib.hid (show IsC (w.alloc (.cells #[.int .i64 p, .int .i64 q, .int .i64 r] 25)) w.heap.size p q r from Bk.new w 25 _)
  have HB := Lib.hid (below_new (Below.refl w.heap.size w) (Nat.le_refl _) (.cells #[.int .i64 p, .int .i64 q, .int .i64 r] 25))
  clear H
  have HY := Lib.hid hy
  clear hy
  have hy0 : 0 ≤ y := by have := HY.out; omega
  obtain ⟨D, hD⟩ : ∃ D, decide (fine ⟨a, n, o, h, x, y, z⟩ m p q r) = D := ⟨_, rfl⟩
  rw [hD]
  have HD := Lib.hid hD
  clear hD
  go_enter Try.func19, Try.ntmps19
  go_wp2_with fail
  generalize w.alloc (.cells #[.int .i64 p, .int .i64 q, .int .i64 r] 25) = w1 at *
  obtain ⟨k, hkq⟩ : ∃ k, w.heap.size = k := ⟨_, rfl⟩
  rw [hkq] at HX ⊢
  clear hkq
  obtain ⟨x0, x1, x2⟩ := HX.out.all
  obtain ⟨⟨c0, c1, c2, c3, c4, c5, c6⟩, _⟩ := H1.out.all
  go_wp2_with fail
  go_loop [11] (fun i => ∃ k : Nat, k ≤ 3 ∧ i = .int .i64 k ∧ (1 ≤ k → x ≤ p) ∧ (2 ≤ k → y ≤ q) ∧ (3 ≤ k → z ≤ r)) (fun i => 3 - (intOf i).toNat)
  case atStart => exact ⟨0, by omega, rfl, fun h => by omega, fun h => by omega, fun h => by omega⟩
  case round =>
    obtain ⟨k, hk, rfl, k1, k2, k3⟩ := hrel
    rcases (show k = 0 ∨ k = 1 ∨ k = 2 ∨ k = 3 by omega) with rfl | rfl | rfl | rfl
    · clear k1 k2 k3
      rcases (show p < x ∨ x ≤ p by omega) with hd | hd
      · go_wp2
        go_ret
        exact ⟨ret_bool ((decide_eq_false (show ¬ fine ⟨a, n, o, h, x, y, z⟩ m p q r by have := HY.out; simp only [fine]; omega)).symm.trans HD.out), HB.out⟩
      · go_wp2
        go_round
        case rel => exact ⟨1, by omega, rfl, by omega, by omega, by omega⟩
        case measure => simp [intOf]
    · have j1 := k1 (by omega)
      clear k1 k2 k3
      rcases (show q < y ∨ y ≤ q by omega) with hd | hd
      · go_wp2
        go_ret
        exact ⟨ret_bool ((decide_eq_false (show ¬ fine ⟨a, n, o, h, x, y, z⟩ m p q r by have := HY.out; simp only [fine]; omega)).symm.trans HD.out), HB.out⟩
      · go_wp2
        go_round
        case rel => exact ⟨2, by omega, rfl, by omega, by omega, by omega⟩
        case measure => simp [intOf]
    · have j1 := k1 (by omega)
      have j2 := k2 (by omega)
      clear k1 k2 k3
      rcases (show r < z ∨ z ≤ r by omega) with hd | hd
      · go_wp2
        go_ret
        exact ⟨ret_bool ((decide_eq_false (show ¬ fine ⟨a, n, o, h, x, y, z⟩ m p q r by have := HY.out; simp only [fine]; omega)).symm.trans HD.out), HB.out⟩
      · go_wp2
        go_round
        case rel => exact ⟨3, by omega, rfl, by omega, by omega, by omega⟩
        case measure => simp [intOf]
    · have j1 := k1 (by omega)
      have j2 := k2 (by omega)
      have j3 := k3 (by omega)
      clear k1 k2 k3
      have s1 : IntKind.i64.wrap (p - x) = p - x := wr_in (by omega) (by omega)
      have s2 : IntKind.i64.wrap (p - x + r) = p - x + r := wr_in (by omega) (by omega)
      have s3 : IntKind.i64.wrap (p - x + r - z) = p - x + r - z := wr_in (by omega) (by omega)
      have s4 : IntKind.i64.wrap (n - p) = n - p := wr_in (by omega) (by omega)
      by_cases hd0 : q = 0
      · have d0 : (q == 0) = true := by simpa using hd0
        by_cases hd1 : m ≤ p - x + r - z
        · have d1 : decide (m ≤ p - x + r - z) = true := by simpa using hd1
          by_cases hd2 : p ≤ n
          · have d2 : decide (p ≤ n) = true := by simpa using hd2
            by_cases hd3 : r ≤ n - p
            · have d3 : decide (r ≤ n - p) = true := by simpa using hd3
              have HF := Lib.hid ((decide_eq_true (show fine ⟨a, n, o, h, x, y, z⟩ m p q r from ⟨j1, j3, hd0, hd1, hd2, hd3⟩)).symm.trans HD.out)
              clear hd0 hd1 hd2 hd3
              go_wp2_with fail
              go_quiet (fail)
              go_wp2_with fail
              go_quiet (fail)
              go_wp2
              go_ret
              exact ⟨ret_bool HF.out, below_drewN (below_drewN HB.out _) _⟩
            · have d3 : decide (r ≤ n - p) = false := by simpa using hd3
              have HF := Lib.hid ((decide_eq_false (show ¬ fine ⟨a, n, o, h, x, y, z⟩ m p q r from fun hf => hd3 hf.2.2.2.2.2)).symm.trans HD.out)
              clear hd0 hd1 hd2 hd3
              go_wp2_with fail
              go_quiet (fail)
              go_wp2_with fail
              go_quiet (fail)
              go_wp2
              go_ret
              exact ⟨ret_bool HF.out, below_drewN (below_drewN HB.out _) _⟩
          · have d2 : decide (p ≤ n) = false := by simpa using hd2
            have HF := Lib.hid ((decide_eq_false (show ¬ fine ⟨a, n, o, h, x, y, z⟩ m p q r from fun hf => hd2 hf.2.2.2.2.1)).symm.trans HD.out)
            clear hd0 hd1 hd2
            go_wp2_with fail
            go_quiet (fail)
            go_wp2_with fail
            go_quiet (fail)
            go_wp2
            go_ret
            exact ⟨ret_bool HF.out, below_drewN (below_drewN HB.out _) _⟩
        · have d1 : decide (m ≤ p - x + r - z) = false := by simpa using hd1
          have HF := Lib.hid ((decide_eq_false (show ¬ fine ⟨a, n, o, h, x, y, z⟩ m p q r from fun hf => hd1 hf.2.2.2.1)).symm.trans HD.out)
          clear hd0 hd1
          go_wp2_with fail
          go_quiet (fail)
          go_wp2_with fail
          go_quiet (fail)
          go_wp2
          go_ret
          exact ⟨ret_bool HF.out, below_drewN (below_drewN HB.out _) _⟩
      · have d0 : (q == 0) = false := by simpa using hd0
        have HF := Lib.hid ((decide_eq_false (show ¬ fine ⟨a, n, o, h, x, y, z⟩ m p q r from fun hf => hd0 hf.2.2.1)).symm.trans HD.out)
        clear hd0
        go_wp2_with fail
        go_quiet (fail)
        go_wp2_with fail
        go_quiet (fail)
        go_wp2
        go_ret
        exact ⟨ret_bool HF.out, below_drewN (below_drewN HB.out _) _⟩
end Go.Proofs.Ytpammbkhomcjmaa

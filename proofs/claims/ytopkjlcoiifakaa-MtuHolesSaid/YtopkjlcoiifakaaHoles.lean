/- The walk of the law MtuHoles. -/
import Derived.Test.YtopkjlcoiifakaaMeth
namespace Go.Proofs.Ytopkjlcoiifakaa
open Go.RowKit
theorem gap_half {x : Int} {k : Nat} (_h0 : 0 ≤ x) (h : x * 2 ^ k ≤ 65536) : (x - (x + 1) / 2) * 2 ^ (k + 1) ≤ 65536 := by
  have hp : (0 : Int) ≤ 2 ^ k := by exact_mod_cast Nat.zero_le (2 ^ k)
  have e : (x - (x + 1) / 2) * 2 ^ (k + 1) = ((x - (x + 1) / 2) * 2) * 2 ^ k := by rw [Int.pow_succ, Int.mul_comm ((2 : Int) ^ k) 2, Int.mul_assoc]
  rw [e]
  exact Int.le_trans (Int.mul_le_mul_of_nonneg_right (by omega) hp) h
theorem gap_end {x : Int} (h : x * 2 ^ 30 ≤ 65536) : x < 20 := by omega

attribute [local go_sem] and_7

set_option maxHeartbeats 1000000 in
theorem holes_at (w : World) (b m a : Int) (_ha0 : -9223372036854775808 ≤ a) (_ha1 : a ≤ 9223372036854775807) :
    Calls Try.prog 3 #[.int .i64 b, .int .i64 m, .int .i64 a] w fun e w' => e = .returned (.bool true) ∧ Below w.heap.size w w' := by
  by_cases hn : 1200 ≤ b ∧ m ≤ 65527 ∧ b ≤ m
  · obtain ⟨h1, h2, h3⟩ := hn
    go_enter Try.func3, Try.ntmps3
    go_wp2_with fail
    refine (new_ok b m _ h1 h2 h3).mono ?_
    rintro e w1 ⟨rfl, hM, hB⟩
    have HM := Lib.hid hM
    have HB := Lib.hid hB
    have hsz : w.heap.size < w1.heap.size := hM.lt
    clear hM hB
    go_wp2_with fail
    refine (new_ok 1200 1500 _ (by omega) (by omega) (by omega)).mono ?_
    rintro e w2 ⟨rfl, hM2, hB2⟩
    have HM1 := Lib.hid (HM.out.below hB2 hsz)
    have HB1 := Lib.hid (HB.out.trans (hB2.mono HB.out.size))
    have HM2 := Lib.hid hM2
    clear hM2 hB2 HM HB
    go_wp2_with fail
    refine (size_any _ _ _ _ _ _ HM2.out (by omega)).mono ?_
    rintro e w3 ⟨rfl, rfl⟩
    go_wp2_with fail
    go_loopw [11] (fun i wr => ∃ (k : Nat) (s : Int), k ≤ 7 ∧ i = .int .i64 k ∧ IsM wr w.heap.size b s m 0 ∧ b ≤ s ∧ s ≤ m ∧ Below w.heap.size w wr) (fun i _ => 7 - (intOf i).toNat)
    case atStart => exact ⟨0, b, by omega, rfl, HM1.out, by omega, by omega, HB1.out⟩
    case round =>
      obtain ⟨k, s, hk, rfl, hI, hs1, hs2, hBr⟩ := hrel
      have HI := Lib.hid hI
      have HBr := Lib.hid hBr
      clear hI hBr
      by_cases hlt : (k : Int) < a % 8
      · by_cases hc : 20 ≤ m - s
        · go_wp2_with fail
          refine (probe_on _ _ _ _ _ _ HI.out ⟨h1, hs1, hs2, h2, by omega, by omega⟩ hc).mono ?_
          rintro e w3 ⟨rfl, hI3, hO3⟩
          have HI3 := Lib.hid hI3
          have HB3 := Lib.hid (below_only HBr.out hO3 (Nat.le_refl _) (Nat.le_refl _))
          clear hI3 hO3
          go_wp2_with fail
          refine (acked_ok _ _ _ _ _ _ HI3.out ⟨h1, hs1, hs2, h2, by omega, by omega⟩ hc).mono ?_
          rintro e w4 ⟨rfl, hI4, hO4⟩
          have HI4 := Lib.hid hI4
          have HB4 := Lib.hid (below_only HB3.out hO4 (Nat.le_refl _) (Nat.le_refl _))
          clear hI4 hO4
          go_wp2
          go_roundw
          case rel => exact ⟨k + 1, _, by omega, by go_num, HI4.out, by omega, by omega, HB4.out⟩
          case measure => simp [intOf]; omega
        · go_wp2_with fail
          refine (probe_off _ _ _ _ _ _ HI.out ⟨h1, hs1, hs2, h2, by omega, by omega⟩ (by omega)).mono ?_
          rintro e w3 ⟨rfl, hI3, hO3⟩
          have HI3 := Lib.hid hI3
          have HB3 := Lib.hid (below_only HBr.out hO3 (Nat.le_refl _) (Nat.le_refl _))
          clear hI3 hO3
          go_wp2
          go_roundw
          case rel => exact ⟨k + 1, _, by omega, by go_num, HI3.out, by omega, by omega, HB3.out⟩
          case measure => simp [intOf]; omega
      · go_wp2_with fail
        refine (size_any _ _ _ _ _ _ HI.out h1).mono ?_
        rintro e w3 ⟨rfl, rfl⟩
        go_wp2_with fail
        refine (hole_any _ _ _ _ _ _ HI.out ⟨h1, hs1, hs2, h2, by omega, by omega⟩).mono ?_
        rintro e w4 ⟨rfl, hI4, hO4⟩
        have HI4 := Lib.hid hI4
        have HB4 := Lib.hid (below_only HBr.out hO4 (Nat.le_refl _) (Nat.le_refl _))
        clear hI4 hO4 hlt
        go_wp2_with fail
        refine (size_any _ _ _ _ _ _ HI4.out h1).mono ?_
        rintro e w5 ⟨rfl, rfl⟩
        obtain ⟨M, hM⟩ : ∃ M, max (s - 1) b = M := ⟨_, rfl⟩
        rw [hM] at HI4
        have hM1 : b ≤ M := by omega
        have hM2 : s - 1 ≤ M := by omega
        have hM3 : M ≤ b ∧ s - 1 ≤ b ∨ M ≤ s - 1 ∧ b < s - 1 := by omega
        have HM3 := Lib.hid hM3
        have hM4 : M ≤ 65527 := by omega
        clear hM hM3
        go_wp2_with fail
        go_loopw [15] (fun i wr => ∃ (k : Nat) (t : Int), k ≤ 30 ∧ i = .int .i64 k ∧ IsM wr w.heap.size b t M 0 ∧ b ≤ t ∧ t ≤ M ∧ Hid ((M - t) * 2 ^ k ≤ 65536) ∧ Below w.heap.size w wr) (fun i _ => 30 - (intOf i).toNat)
        case atStart => exact ⟨0, b, by omega, rfl, HI4.out, by omega, by omega, Lib.hid (by omega), HB4.out⟩
        case round =>
          obtain ⟨k, t, hk, rfl, hI, ht1, ht2, HG, hBr⟩ := hrel
          have HI := Lib.hid hI
          have HBr := Lib.hid hBr
          clear hI hBr
          by_cases hlt : k < 30
          · by_cases hc : 20 ≤ M - t
            · go_wp2_with fail
              refine (probe_on _ _ _ _ _ _ HI.out ⟨h1, ht1, ht2, hM4, by omega, by omega⟩ hc).mono ?_
              rintro e w6 ⟨rfl, hI6, hO6⟩
              have HI6 := Lib.hid hI6
              have HB6 := Lib.hid (below_only HBr.out hO6 (Nat.le_refl _) (Nat.le_refl _))
              clear hI6 hO6
              have hns : decide (s ≤ t + (M - t + 1) / 2) = false := by
                have := HM3.out
                simp only [decide_eq_false_iff_not]; omega
              go_wp2_with fail
              refine (acked_ok _ _ _ _ _ _ HI6.out ⟨h1, ht1, ht2, hM4, by omega, by omega⟩ hc).mono ?_
              rintro e w7 ⟨rfl, hI7, hO7⟩
              have HI7 := Lib.hid hI7
              have HB7 := Lib.hid (below_only HB6.out hO7 (Nat.le_refl _) (Nat.le_refl _))
              clear hI7 hO7
              go_wp2
              go_roundw
              case rel => exact ⟨k + 1, _, by omega, by go_num, HI7.out, by omega, by omega, Lib.hid (by have := gap_half (by omega) HG.out; rwa [show M - (t + (M - t + 1) / 2) = (M - t) - ((M - t) + 1) / 2 by omega]), HB7.out⟩
              case measure => simp [intOf]; omega
            · have hc2 : M - t < 20 := by omega
              go_wp2_with fail
              refine (probe_off _ _ _ _ _ _ HI.out ⟨h1, ht1, ht2, hM4, by omega, by omega⟩ hc2).mono ?_
              rintro e w6 ⟨rfl, hI6, hO6⟩
              have HT := Lib.hid hI6
              have HBT := Lib.hid (below_only HBr.out hO6 (Nat.le_refl _) (Nat.le_refl _))
              clear hI6 hO6 hc
              go_wp2_with fail
              refine (size_any _ _ _ _ _ _ HT.out h1).mono ?_
              rintro e w6 ⟨rfl, rfl⟩
              rcases HM3.out with ⟨hM3, hM5⟩ | ⟨hM3, hM5⟩
              · go_wp2_with fail
                refine (size_any _ _ _ _ _ _ HT.out h1).mono ?_
                rintro e w8 ⟨rfl, rfl⟩
                go_wp2
                go_ret
                exact ⟨ret_bool (by simp only [decide_eq_true_eq]; omega), HBT.out⟩
              · go_wp2_with fail
                refine (size_any _ _ _ _ _ _ HT.out h1).mono ?_
                rintro e w8 ⟨rfl, rfl⟩
                go_wp2
                go_ret
                exact ⟨ret_bool (by simp only [decide_eq_true_eq]; omega), HBT.out⟩
          · have hc2 : M - t < 20 := by
              obtain rfl : k = 30 := by omega
              exact gap_end HG.out
            have HT := HI
            have HBT := HBr
            go_wp2_with fail
            refine (size_any _ _ _ _ _ _ HT.out h1).mono ?_
            rintro e w6 ⟨rfl, rfl⟩
            rcases HM3.out with ⟨hM3, hM5⟩ | ⟨hM3, hM5⟩
            · go_wp2_with fail
              refine (size_any _ _ _ _ _ _ HT.out h1).mono ?_
              rintro e w8 ⟨rfl, rfl⟩
              go_wp2
              go_ret
              exact ⟨ret_bool (by simp only [decide_eq_true_eq]; omega), HBT.out⟩
            · go_wp2_with fail
              refine (size_any _ _ _ _ _ _ HT.out h1).mono ?_
              rintro e w8 ⟨rfl, rfl⟩
              go_wp2
              go_ret
              exact ⟨ret_bool (by simp only [decide_eq_true_eq]; omega), HBT.out⟩
  · go_enter Try.func3, Try.ntmps3
    go_wp2_with fail
    refine (new_no b m _ hn).mono ?_
    rintro e w1 ⟨rfl, rfl⟩
    go_wp2_with fail
    refine (new_ok 1200 1500 _ (by omega) (by omega) (by omega)).mono ?_
    rintro e w2 ⟨rfl, hM2, hB2⟩
    have HM2 := Lib.hid hM2
    have HB2 := Lib.hid hB2
    clear hM2 hB2
    go_wp2_with fail
    refine (size_any _ _ _ _ _ _ HM2.out (by omega)).mono ?_
    rintro e w3 ⟨rfl, rfl⟩
    go_wp2
    go_ret
    exact ⟨rfl, HB2.out⟩
end Go.Proofs.Ytopkjlcoiifakaa

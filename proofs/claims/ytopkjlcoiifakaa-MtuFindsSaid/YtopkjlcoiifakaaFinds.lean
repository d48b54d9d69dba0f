/- The walk of the law MtuFinds. -/
import Derived.Test.YtopkjlcoiifakaaMeth
namespace Go.Proofs.Ytopkjlcoiifakaa
open Go.RowKit

/-- What holds at each round: the path's size P, the most m; i rounds were gone, the gap was halved q times. -/
def Gap (c s l : Int) (i : Nat) : Prop := ∃ q : Nat, q ≤ 12 ∧ (c - s) * 2 ^ q ≤ 65536 ∧ (i : Int) ≤ 3 * q + l
theorem gap_lt {c s l : Int} {i : Nat} (h : Gap c s l i) (h1 : l ≤ 2) : i < 200 := by
  obtain ⟨q, h2, _, h3⟩ := h; omega
theorem gap_q {c s l : Int} {i : Nat} (h : Gap c s l i) (hc : 20 ≤ c - s) : ∃ q : Nat, q + 1 ≤ 12 ∧ (c - s) * 2 ^ q ≤ 65536 ∧ (i : Int) ≤ 3 * q + l := by
  obtain ⟨q, h2, h3, h4⟩ := h
  rcases Nat.lt_or_ge q 12 with hq | hq
  · exact ⟨q, by omega, h3, h4⟩
  · obtain rfl : q = 12 := by omega
    omega
theorem half_le {x y : Int} {q : Nat} (hx : x * 2 ^ q ≤ 65536) (hy : 2 * y ≤ x) : y * 2 ^ (q + 1) ≤ 65536 := by
  have hp : (0 : Int) ≤ 2 ^ q := by exact_mod_cast Nat.zero_le (2 ^ q)
  have e : y * 2 ^ (q + 1) = (2 * y) * 2 ^ q := by rw [Int.pow_succ, Int.mul_comm 2 y, Int.mul_assoc, Int.mul_comm ((2 : Int) ^ q) 2]
  rw [e]
  exact Int.le_trans (Int.mul_le_mul_of_nonneg_right hy hp) hx
theorem gap_down {c s c' s' l : Int} {i : Nat} (h : Gap c s l i) (hc : 20 ≤ c - s) (hl : l ≤ 2) (hd : 2 * (c' - s') ≤ c - s) : Gap c' s' 0 (i + 1) := by
  obtain ⟨q, h2, h3, h4⟩ := gap_q h hc
  exact ⟨q + 1, h2, half_le h3 hd, by omega⟩
theorem gap_more {c s l : Int} {i : Nat} (h : Gap c s l i) : Gap c s (l + 1) (i + 1) := by
  obtain ⟨q, h2, h3, h4⟩ := h
  exact ⟨q, h2, h3, by omega⟩

theorem lost_ok (g : Nat) (b s c l : Int) (w : World) (h : IsM w g b s c l) (ho : Ok b s c l) (hc : 20 ≤ c - s) :
    Calls Try.prog 12 #[.pointer (some ⟨g, 0, none⟩), .int .i64 (s + (c - s + 1) / 2)] w fun e w' => e = .returned (.int .i64 0) ∧ (l = 2 → IsM w' g b s (s + (c - s + 1) / 2 - 1) 0) ∧ (l ≠ 2 → IsM w' g b s c (l + 1)) ∧ Only w w' g := by
  have e0 : wrongE s c (s + (c - s + 1) / 2) = 0 := by unfold wrongE; rw [if_pos ⟨hc, rfl⟩]
  refine (lost_any g b s c l (s + (c - s + 1) / 2) w h ho).mono ?_
  rintro e w' ⟨rfl, hI, hO⟩
  refine ⟨by rw [e0], fun hl => ?_, fun hl => ?_, hO⟩
  · simpa [lostC, lostL, e0, hl] using hI
  · simpa [lostC, lostL, e0, hl] using hI
theorem acked_bad (g : Nat) (b s c l n : Int) (w : World) (h : IsM w g b s c l) (ho : Ok b s c l) (hn : n ≠ s + (c - s + 1) / 2) :
    Calls Try.prog 10 #[.pointer (some ⟨g, 0, none⟩), .int .i64 n] w fun e w' => e = .returned (.int .i64 2) ∧ IsM w' g b s c l ∧ Only w w' g := by
  have e0 : wrongE s c n = 2 := by unfold wrongE; rw [if_neg (fun x => hn x.2)]
  have := acked_any g b s c l n w h ho
  simpa [ackS, ackL, e0] using this

/-- The state of the search in the law's loop. -/
def Find (b m P s c l : Int) (i : Nat) : Prop := Ok b s c l ∧ s ≤ P ∧ c ≤ m ∧ (c = m ∨ P ≤ c) ∧ (l = 0 ∨ P < s + (c - s + 1) / 2) ∧ Gap c s l i

set_option maxHeartbeats 2000000 in
set_option maxRecDepth 100000 in
theorem finds_at (w : World) (b m p : Int) (hp0 : -9223372036854775808 ≤ p) (hp1 : p ≤ 9223372036854775807) :
    Calls Try.prog 5 #[.int .i64 b, .int .i64 m, .int .i64 p] w fun e w' => e = .returned (.bool true) ∧ Below w.heap.size w w' := by
  by_cases hn : 1200 ≤ b ∧ m ≤ 65527 ∧ b ≤ m
  · obtain ⟨h1, h2, h3⟩ := hn
    go_enter Try.func5, Try.ntmps5
    go_wp2_with fail
    refine (new_ok b m _ h1 h2 h3).mono ?_
    rintro e w1 ⟨rfl, hM, hB⟩
    have HM := Lib.hid hM
    have HB := Lib.hid hB
    have hsz : w.heap.size < w1.heap.size := hM.lt
    clear hM hB
    go_wp2_with fail
    refine (new_ok 1200 1500 _ (by omega) (by omega) (by omega)).mono ?_
    rintro e w2 ⟨rfl, hM2, hB2⟩
    have HM1 := Lib.hid (HM.out.below hB2 hsz)
    have HB1 := Lib.hid (HB.out.trans (hB2.mono HB.out.size))
    have HM2 := Lib.hid hM2
    clear hM2 hB2 HM HB
    go_wp2_with fail
    refine (size_any _ _ _ _ _ _ HM2.out (by omega)).mono ?_
    rintro e w3 ⟨rfl, rfl⟩
    clear HM2 hsz
    rcases (show p < b ∨ b ≤ p by omega) with hpb | hpb
    · go_wp2_with fail
      have hP1 : b ≤ b := by omega
      clear hpb hp0 hp1
      go_loopw [11] (fun x wr => ∃ (i : Nat) (s c l : Int), i ≤ 200 ∧ x = .int .i64 i ∧ Hid (IsM wr w.heap.size b s c l) ∧ Hid (Find b m b s c l i) ∧ Hid (Below w.heap.size w wr)) (fun x _ => 200 - (intOf x).toNat)
      case atStart => exact ⟨0, b, m, 0, by omega, rfl, HM1, Lib.hid ⟨⟨h1, by omega, by omega, by omega, by omega, by omega⟩, hP1, by omega, .inl rfl, .inl rfl, ⟨0, by omega, by omega, by omega⟩⟩, HB1⟩
      case round =>
        obtain ⟨i, s, c, l, hi, rfl, HI0, HF, HB0⟩ := hrel
        obtain ⟨⟨_, hs1, hs2, hc2, hl1, hl2⟩, hs3, hc3, hc4, hl3, hgap⟩ := HF.out
        have HG := Lib.hid hgap
        have hi2 := gap_lt hgap hl2
        clear HF hgap hi
        by_cases hc : 20 ≤ c - s
        · have hl4 : l = 0 ∨ l ≠ 0 ∧ b < s + (c - s + 1) / 2 := by omega
          by_cases hnp : s + (c - s + 1) / 2 ≤ b
          · exfalso; omega
          · have hnp2 : b < s + (c - s + 1) / 2 := by omega
            clear hl3 hl4
            go_wp2_with fail
            refine (probe_on _ _ _ _ _ _ HI0.out ⟨h1, hs1, hs2, hc2, hl1, hl2⟩ hc).mono ?_
            rintro e w1 ⟨rfl, hI1, hO1⟩
            have HI1 := Lib.hid hI1
            have HB1 := Lib.hid (below_only HB0.out hO1 (Nat.le_refl _) (Nat.le_refl _))
            clear hI1 hO1
            go_wp2_with fail
            refine (size_any _ _ _ _ _ _ HI1.out h1).mono ?_
            rintro e w9 ⟨rfl, rfl⟩
            go_wp2_with fail
            refine (lost_ok _ _ _ _ _ _ HI1.out ⟨h1, hs1, hs2, hc2, hl1, hl2⟩ hc).mono ?_
            rintro e w2 ⟨rfl, hIa, hIb, hO2⟩
            have HB2 := Lib.hid (below_only HB1.out hO2 (Nat.le_refl _) (Nat.le_refl _))
            clear hO2
            by_cases hl5 : l = 2
            · have HI2 := Lib.hid (hIa hl5)
              clear hIa hIb
              go_wp2_with fail
              refine (acked_bad _ _ _ _ _ _ _ HI2.out ⟨h1, by omega, by omega, by omega, by omega, by omega⟩ (by omega)).mono ?_
              rintro e w3 ⟨rfl, hI3, hO3⟩
              have HI3 := Lib.hid hI3
              have HB3 := Lib.hid (below_only HB2.out hO3 (Nat.le_refl _) (Nat.le_refl _))
              clear hI3 hO3
              go_wp2
              go_roundw
              case rel => exact ⟨i + 1, _, _, _, by omega, by go_num, HI3, Lib.hid ⟨⟨h1, by omega, by omega, by omega, by omega, by omega⟩, hs3, by omega, by omega, .inl rfl, gap_down HG.out hc (by omega) (by omega)⟩, HB3⟩
              case measure => simp [intOf]; omega
            · have HI2 := Lib.hid (hIb hl5)
              clear hIa hIb
              go_wp2_with fail
              refine (acked_bad _ _ _ _ _ _ _ HI2.out ⟨h1, by omega, by omega, by omega, by omega, by omega⟩ (by omega)).mono ?_
              rintro e w3 ⟨rfl, hI3, hO3⟩
              have HI3 := Lib.hid hI3
              have HB3 := Lib.hid (below_only HB2.out hO3 (Nat.le_refl _) (Nat.le_refl _))
              clear hI3 hO3
              go_wp2
              go_roundw
              case rel => exact ⟨i + 1, _, _, _, by omega, by go_num, HI3, Lib.hid ⟨⟨h1, by omega, by omega, by omega, by omega, by omega⟩, hs3, by omega, by omega, by omega, gap_more HG.out⟩, HB3⟩
              case measure => simp [intOf]; omega
        · have hc5 : c - s < 20 := by omega
          go_wp2_with fail
          refine (probe_off _ _ _ _ _ _ HI0.out ⟨h1, hs1, hs2, hc2, hl1, hl2⟩ hc5).mono ?_
          rintro e w1 ⟨rfl, hI1, hO1⟩
          have HI1 := Lib.hid hI1
          have HB1 := Lib.hid (below_only HB0.out hO1 (Nat.le_refl _) (Nat.le_refl _))
          clear hI1 hO1
          rcases (show b ≤ m ∨ m < b by omega) with hpm | hpm
          · go_wp2_with fail
            refine (size_any _ _ _ _ _ _ HI1.out h1).mono ?_
            rintro e w9 ⟨rfl, rfl⟩
            go_wp2_with fail
            refine (size_any _ _ _ _ _ _ HI1.out h1).mono ?_
            rintro e w9 ⟨rfl, rfl⟩
            go_wp2
            go_ret
            exact ⟨ret_bool (by simp only [decide_eq_true_eq]; omega), HB1.out⟩
          · exfalso; omega
    · go_wp2_with fail
      have hP1 : b ≤ p := by omega
      have hP2 : p ≤ 9223372036854775807 := by omega
      clear hpb
      go_loopw [11] (fun x wr => ∃ (i : Nat) (s c l : Int), i ≤ 200 ∧ x = .int .i64 i ∧ Hid (IsM wr w.heap.size b s c l) ∧ Hid (Find b m p s c l i) ∧ Hid (Below w.heap.size w wr)) (fun x _ => 200 - (intOf x).toNat)
      case atStart => exact ⟨0, b, m, 0, by omega, rfl, HM1, Lib.hid ⟨⟨h1, by omega, by omega, by omega, by omega, by omega⟩, hP1, by omega, .inl rfl, .inl rfl, ⟨0, by omega, by omega, by omega⟩⟩, HB1⟩
      case round =>
        obtain ⟨i, s, c, l, hi, rfl, HI0, HF, HB0⟩ := hrel
        obtain ⟨⟨_, hs1, hs2, hc2, hl1, hl2⟩, hs3, hc3, hc4, hl3, hgap⟩ := HF.out
        have HG := Lib.hid hgap
        have hi2 := gap_lt hgap hl2
        clear HF hgap hi
        by_cases hc : 20 ≤ c - s
        · have hl4 : l = 0 ∨ l ≠ 0 ∧ p < s + (c - s + 1) / 2 := by omega
          by_cases hnp : s + (c - s + 1) / 2 ≤ p
          · obtain rfl : l = 0 := by omega
            clear hl3 hl4
            by_cases h30 : i % 3 = 0
            · have h3b : (((i : Int) % 3) == 0) = true := by simp; omega
              go_wp2_with fail
              refine (probe_on _ _ _ _ _ _ HI0.out ⟨h1, hs1, hs2, hc2, hl1, hl2⟩ hc).mono ?_
              rintro e w1 ⟨rfl, hI1, hO1⟩
              have HI1 := Lib.hid hI1
              have HB1 := Lib.hid (below_only HB0.out hO1 (Nat.le_refl _) (Nat.le_refl _))
              clear hI1 hO1
              go_wp2_with fail
              refine (size_any _ _ _ _ _ _ HI1.out h1).mono ?_
              rintro e w9 ⟨rfl, rfl⟩
              go_wp2_with fail
              refine (lost_ok _ _ _ _ _ _ HI1.out ⟨h1, hs1, hs2, hc2, hl1, hl2⟩ hc).mono ?_
              rintro e w2 ⟨rfl, _, hI2, hO2⟩
              have HI2 := Lib.hid (hI2 (by omega))
              have HB2 := Lib.hid (below_only HB1.out hO2 (Nat.le_refl _) (Nat.le_refl _))
              clear hI2 hO2
              go_wp2_with fail
              refine (acked_ok _ _ _ _ _ _ HI2.out ⟨h1, hs1, hs2, hc2, by omega, by omega⟩ hc).mono ?_
              rintro e w3 ⟨rfl, hI3, hO3⟩
              have HI3 := Lib.hid hI3
              have HB3 := Lib.hid (below_only HB2.out hO3 (Nat.le_refl _) (Nat.le_refl _))
              clear hI3 hO3
              go_wp2_with fail
              refine (size_any _ _ _ _ _ _ HI3.out h1).mono ?_
              rintro e w9 ⟨rfl, rfl⟩
              go_wp2
              go_roundw
              case rel => exact ⟨i + 1, _, _, _, by omega, by go_num, HI3, Lib.hid ⟨⟨h1, by omega, by omega, hc2, by omega, by omega⟩, hnp, hc3, hc4, .inl rfl, gap_down HG.out hc (by omega) (by omega)⟩, HB3⟩
              case measure => simp [intOf]; omega
            · have h3b : (((i : Int) % 3) == 0) = false := by simp; omega
              go_wp2_with fail
              refine (probe_on _ _ _ _ _ _ HI0.out ⟨h1, hs1, hs2, hc2, hl1, hl2⟩ hc).mono ?_
              rintro e w1 ⟨rfl, hI1, hO1⟩
              have HI1 := Lib.hid hI1
              have HB1 := Lib.hid (below_only HB0.out hO1 (Nat.le_refl _) (Nat.le_refl _))
              clear hI1 hO1
              go_wp2_with fail
              refine (size_any _ _ _ _ _ _ HI1.out h1).mono ?_
              rintro e w9 ⟨rfl, rfl⟩
              go_wp2_with fail
              refine (acked_ok _ _ _ _ _ _ HI1.out ⟨h1, hs1, hs2, hc2, by omega, by omega⟩ hc).mono ?_
              rintro e w3 ⟨rfl, hI3, hO3⟩
              have HI3 := Lib.hid hI3
              have HB3 := Lib.hid (below_only HB1.out hO3 (Nat.le_refl _) (Nat.le_refl _))
              clear hI3 hO3
              go_wp2_with fail
              refine (size_any _ _ _ _ _ _ HI3.out h1).mono ?_
              rintro e w9 ⟨rfl, rfl⟩
              go_wp2
              go_roundw
              case rel => exact ⟨i + 1, _, _, _, by omega, by go_num, HI3, Lib.hid ⟨⟨h1, by omega, by omega, hc2, by omega, by omega⟩, hnp, hc3, hc4, .inl rfl, gap_down HG.out hc (by omega) (by omega)⟩, HB3⟩
              case measure => simp [intOf]; omega
          · have hnp2 : p < s + (c - s + 1) / 2 := by omega
            clear hl3 hl4
            go_wp2_with fail
            refine (probe_on _ _ _ _ _ _ HI0.out ⟨h1, hs1, hs2, hc2, hl1, hl2⟩ hc).mono ?_
            rintro e w1 ⟨rfl, hI1, hO1⟩
            have HI1 := Lib.hid hI1
            have HB1 := Lib.hid (below_only HB0.out hO1 (Nat.le_refl _) (Nat.le_refl _))
            clear hI1 hO1
            go_wp2_with fail
            refine (size_any _ _ _ _ _ _ HI1.out h1).mono ?_
            rintro e w9 ⟨rfl, rfl⟩
            go_wp2_with fail
            refine (lost_ok _ _ _ _ _ _ HI1.out ⟨h1, hs1, hs2, hc2, hl1, hl2⟩ hc).mono ?_
            rintro e w2 ⟨rfl, hIa, hIb, hO2⟩
            have HB2 := Lib.hid (below_only HB1.out hO2 (Nat.le_refl _) (Nat.le_refl _))
            clear hO2
            by_cases hl5 : l = 2
            · have HI2 := Lib.hid (hIa hl5)
              clear hIa hIb
              go_wp2_with fail
              refine (acked_bad _ _ _ _ _ _ _ HI2.out ⟨h1, by omega, by omega, by omega, by omega, by omega⟩ (by omega)).mono ?_
              rintro e w3 ⟨rfl, hI3, hO3⟩
              have HI3 := Lib.hid hI3
              have HB3 := Lib.hid (below_only HB2.out hO3 (Nat.le_refl _) (Nat.le_refl _))
              clear hI3 hO3
              go_wp2
              go_roundw
              case rel => exact ⟨i + 1, _, _, _, by omega, by go_num, HI3, Lib.hid ⟨⟨h1, by omega, by omega, by omega, by omega, by omega⟩, hs3, by omega, by omega, .inl rfl, gap_down HG.out hc (by omega) (by omega)⟩, HB3⟩
              case measure => simp [intOf]; omega
            · have HI2 := Lib.hid (hIb hl5)
              clear hIa hIb
              go_wp2_with fail
              refine (acked_bad _ _ _ _ _ _ _ HI2.out ⟨h1, by omega, by omega, by omega, by omega, by omega⟩ (by omega)).mono ?_
              rintro e w3 ⟨rfl, hI3, hO3⟩
              have HI3 := Lib.hid hI3
              have HB3 := Lib.hid (below_only HB2.out hO3 (Nat.le_refl _) (Nat.le_refl _))
              clear hI3 hO3
              go_wp2
              go_roundw
              case rel => exact ⟨i + 1, _, _, _, by omega, by go_num, HI3, Lib.hid ⟨⟨h1, by omega, by omega, by omega, by omega, by omega⟩, hs3, by omega, by omega, by omega, gap_more HG.out⟩, HB3⟩
              case measure => simp [intOf]; omega
        · have hc5 : c - s < 20 := by omega
          go_wp2_with fail
          refine (probe_off _ _ _ _ _ _ HI0.out ⟨h1, hs1, hs2, hc2, hl1, hl2⟩ hc5).mono ?_
          rintro e w1 ⟨rfl, hI1, hO1⟩
          have HI1 := Lib.hid hI1
          have HB1 := Lib.hid (below_only HB0.out hO1 (Nat.le_refl _) (Nat.le_refl _))
          clear hI1 hO1
          rcases (show p ≤ m ∨ m < p by omega) with hpm | hpm
          · go_wp2_with fail
            refine (size_any _ _ _ _ _ _ HI1.out h1).mono ?_
            rintro e w9 ⟨rfl, rfl⟩
            go_wp2_with fail
            refine (size_any _ _ _ _ _ _ HI1.out h1).mono ?_
            rintro e w9 ⟨rfl, rfl⟩
            go_wp2
            go_ret
            exact ⟨ret_bool (by simp only [decide_eq_true_eq]; omega), HB1.out⟩
          · go_wp2_with fail
            refine (size_any _ _ _ _ _ _ HI1.out h1).mono ?_
            rintro e w9 ⟨rfl, rfl⟩
            go_wp2_with fail
            refine (size_any _ _ _ _ _ _ HI1.out h1).mono ?_
            rintro e w9 ⟨rfl, rfl⟩
            go_wp2
            go_ret
            exact ⟨ret_bool (by simp only [decide_eq_true_eq]; omega), HB1.out⟩
  · go_enter Try.func5, Try.ntmps5
    go_wp2_with fail
    refine (new_no b m _ hn).mono ?_
    rintro e w1 ⟨rfl, rfl⟩
    go_wp2_with fail
    refine (new_ok 1200 1500 _ (by omega) (by omega) (by omega)).mono ?_
    rintro e w2 ⟨rfl, hM2, hB2⟩
    have HM2 := Lib.hid hM2
    have HB2 := Lib.hid hB2
    clear hM2 hB2
    go_wp2_with fail
    refine (size_any _ _ _ _ _ _ HM2.out (by omega)).mono ?_
    rintro e w3 ⟨rfl, rfl⟩
    go_wp2
    go_ret
    exact ⟨rfl, HB2.out⟩
end Go.Proofs.Ytopkjlcoiifakaa

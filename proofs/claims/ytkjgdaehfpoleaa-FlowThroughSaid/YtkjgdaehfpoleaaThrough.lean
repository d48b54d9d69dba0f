/- The walk of the law FlowThrough. -/
import Derived.Test.YtkjgdaehfpoleaaSmall
namespace Go.Proofs.Ytkjgdaehfpoleaa
open Go.RowKit
attribute [local go_sem] and_255 and_4095 and_63 max2_is min2_is max_of_two min_of_two
theorem int_eq {k : IntKind} {a b : Int} (h : a = b) : Value.int k a = Value.int k b := by rw [h]

set_option maxHeartbeats 4000000 in
set_option maxRecDepth 100000 in
theorem through_at (w : World) (win0 bytes : Int) (A : Option Addr) (n cap : Nat) (f : Nat → Int) (hA : IsInts w A n f) :
    Calls Try.prog 7 #[.int .i64 win0, .int .i64 bytes, .slice A n cap] w fun e w' => e = .returned (.bool true) ∧ Below w.heap.size w w' := by
  obtain ⟨hreach, hcells⟩ := hA
  have HC := Lib.hid hcells
  clear hcells
  have hW0 : 0 ≤ win0 % 256 := by omega
  have hW1 : win0 % 256 ≤ 255 := by omega
  have hb0 : 0 ≤ bytes % 4096 := by omega
  have hb1 : bytes % 4096 ≤ 4095 := by omega
  go_enter Try.func7, Try.ntmps7
  go_wp2_with fail
  obtain ⟨W, hWe⟩ : ∃ W, 1 + win0 % 256 = W := ⟨_, rfl⟩
  obtain ⟨b, hbe⟩ : ∃ b, bytes % 4096 = b := ⟨_, rfl⟩
  rw [hWe]
  rw [hbe] at hb0 hb1 ⊢
  have hW2 : 1 ≤ W := by omega
  have hW3 : W ≤ 256 := by omega
  clear hWe hbe hW0 hW1
  refine (newget_ok W _ ⟨by omega, by omega⟩).mono ?_
  rintro e w1 ⟨rfl, hM, hB⟩
  have HM := Lib.hid hM
  have HB := Lib.hid hB
  have hsz : w.heap.size < w1.heap.size := hM.lt
  clear hM hB
  go_wp2_with fail
  refine (newgive_ok W _ ⟨by omega, by omega⟩).mono ?_
  rintro e w2 ⟨rfl, hR, hB2⟩
  have HM2 := Lib.hid (HM.out.below hB2 hsz)
  have HB2 := Lib.hid (HB.out.trans (hB2.mono HB.out.size))
  have HR2 := Lib.hid hR
  clear hR hB2 HM HB
  go_wp2_with fail
  obtain ⟨r, hrd⟩ : ∃ r, r = w1.heap.size := ⟨_, rfl⟩
  simp only [← hrd] at HR2 hsz ⊢
  have hr : w.heap.size ≤ w.heap.size := Nat.le_refl _
  have hg : w.heap.size ≤ r := by omega
  have hgr : r ≠ w.heap.size := by omega
  clear hrd
  go_loopw [11, 12, 13, 14] (fun a t s y wr => ∃ (i : Nat) (L S U : Int), i ≤ n + 5000 ∧ y = .int .i64 i ∧ a = .int .i64 (b - S) ∧ t = .int .i64 L ∧ s = .int .i64 (S - U) ∧ Hid (IsG wr r true L S 0) ∧ Hid (IsT wr w.heap.size true W L S U) ∧
    0 ≤ U ∧ U ≤ S ∧ S ≤ L ∧ S ≤ b ∧ L ≤ U + W ∧ 2 * (U + W - L) < W ∧ (i ≤ n ∨ (S ≤ U ∧ (i : Int) ≤ n + 1 + S)) ∧ Hid (Below w.heap.size w wr)) (fun _ _ _ y _ => n + 5000 - (intOf y).toNat)
  case atStart => exact ⟨0, W, 0, 0, by omega, rfl, int_eq (by omega), rfl, rfl, HR2, HM2, by omega, by omega, by omega, by omega, by omega, by omega, .inl (by omega), HB2⟩
  case round =>
    obtain ⟨i, L, S, U, hi, rfl, rfl, rfl, rfl, G0, K0, hU0, hU1, hS1, hS2, hL1, hL2, hi2, B0⟩ := hrel
    by_cases hgo : 0 < b - S ∨ 0 < S - U
    · have hi3 : i ≤ 4999 + n := by omega
      have hi4 : (i : Int) ≤ 3 * b + 10 + n := by omega
      by_cases hin : i < n
      · obtain ⟨ab, ao, rfl, hab, hcl⟩ := HC.out.resolve_left (by omega)
        obtain ⟨a0, x0, x1⟩ := hcl i hin
        clear hcl
        generalize f i = x at a0 x0 x1
        have HA0 := Lib.hid a0
        clear a0
        rcases (show 0 < b - S ∨ (b - S ≤ 0 ∧ 0 < S - U) by omega) with ht | ⟨ht, ht2⟩
        · have ht3 : decide (0 < b - S) = true := decide_eq_true ht
          go_wp2_with fail
          refine (left_any _ _ _ _ _ G0.out ⟨by omega, by omega, by omega, by omega, by omega⟩).mono ?_
          rintro e v1 ⟨rfl, hI, hO⟩
          have G1 := Lib.hid hI
          have K1 := Lib.hid (K0.out.only hO (Ne.symm hgr))
          have B1 := Lib.hid (below_only B0.out hO (Nat.le_refl _) hg)
          clear hI hO
          have d0 := (B1.out.cell (p := ⟨ab, ao + i, none⟩) hab).trans HA0.out
          go_wp2_with fail
          clear d0
          obtain ⟨q, hq⟩ : ∃ q, min (L - S) (min (b - S) (x % 64)) = q := ⟨_, rfl⟩
          rw [hq]
          have hq0 : 0 ≤ q := by omega
          have hq1 : q ≤ L - S := by omega
          have hq2 : q ≤ b - S := by omega
          clear hq
          go_wp2_with fail
          refine (spend_ok _ _ _ _ _ _ G1.out ⟨by omega, by omega, by omega, by omega, by omega⟩ (by omega) (by omega)).mono ?_
          rintro e v2 ⟨rfl, hI, hO⟩
          have G2 := Lib.hid hI
          have K2 := Lib.hid (K1.out.only hO (Ne.symm hgr))
          have B2 := Lib.hid (below_only B1.out hO (Nat.le_refl _) hg)
          clear hI hO
          go_wp2_with fail
          refine (tk_ok _ _ _ _ _ _ _ K2.out ⟨by omega, by omega, by omega, by omega, by omega, by omega⟩ (by omega) (by omega)).mono ?_
          rintro e v3 ⟨rfl, hI, hO⟩
          have K3 := Lib.hid hI
          have G3 := Lib.hid (G2.out.only hO hgr)
          have B3 := Lib.hid (below_only B2.out hO (Nat.le_refl _) hr)
          clear hI hO
          go_wp2_with fail
          refine (tk_flow _ _ _ _ _ _ _ K3.out ⟨by omega, by omega, by omega, by omega, by omega, by omega⟩ (by omega) (by omega)).mono ?_
          rintro e v4 ⟨rfl, hI, hO⟩
          have K4 := Lib.hid hI
          have G4 := Lib.hid (G3.out.only hO hgr)
          have B4 := Lib.hid (below_only B3.out hO (Nat.le_refl _) hr)
          clear hI hO
          have d0 := (B4.out.cell (p := ⟨ab, ao + i, none⟩) hab).trans HA0.out
          go_wp2_with fail
          clear d0
          obtain ⟨u, hu⟩ : ∃ u, min (S - U + q) (x / 64 % 64) = u := ⟨_, rfl⟩
          rw [hu]
          have hu0 : 0 ≤ u := by omega
          have hu1 : u ≤ S + q - U := by omega
          clear hu
          go_wp2_with fail
          refine (us_ok _ _ _ _ _ _ _ K4.out ⟨by omega, by omega, by omega, by omega, by omega, by omega⟩ (by omega) (by omega)).mono ?_
          rintro e v5 ⟨rfl, hI, hO⟩
          have K5 := Lib.hid hI
          have G5 := Lib.hid (G4.out.only hO hgr)
          have B5 := Lib.hid (below_only B4.out hO (Nat.le_refl _) hr)
          clear hI hO
          rcases (show W ≤ 2 * (U + u + W - L) ∨ 2 * (U + u + W - L) < W by omega) with hw | hw
          · go_wp2_with fail
            refine (up_yes _ _ _ _ _ _ K5.out ⟨by omega, by omega, by omega, by omega, by omega, by omega⟩ (by omega) hw).mono ?_
            rintro e v6 ⟨rfl, hI, hO⟩
            have K6 := Lib.hid hI
            have G6 := Lib.hid (G5.out.only hO hgr)
            have B6 := Lib.hid (below_only B5.out hO (Nat.le_refl _) hr)
            clear hI hO
            go_wp2_with fail
            refine (raise_up _ L _ _ (U + u + W) _ G6.out ⟨by omega, by omega⟩ (by omega)).mono ?_
            rintro e v7 ⟨rfl, hI, hO⟩
            have G7 := Lib.hid hI
            have K7 := Lib.hid (K6.out.only hO (Ne.symm hgr))
            have B7 := Lib.hid (below_only B6.out hO (Nat.le_refl _) hg)
            clear hI hO
            go_wp2_with fail
            refine (told_any _ _ _ _ _ _ K7.out ).mono ?_
            rintro e v8 ⟨rfl, hI, hO⟩
            have K8 := Lib.hid hI
            have G8 := Lib.hid (G7.out.only hO hgr)
            have B8 := Lib.hid (below_only B7.out hO (Nat.le_refl _) hr)
            clear hI hO
            go_wp2_with fail
            refine (spend_flow _ _ _ _ _ _ G8.out ⟨by omega, by omega, by omega, by omega, by omega⟩ (by omega) (by omega)).mono ?_
            rintro e v9 ⟨rfl, hI, hO⟩
            have G9 := Lib.hid hI
            have K9 := Lib.hid (K8.out.only hO (Ne.symm hgr))
            have B9 := Lib.hid (below_only B8.out hO (Nat.le_refl _) hg)
            clear hI hO
            go_wp2
            go_roundw
            case rel => exact ⟨i + 1, (U + u + W), S + q, U + u, by omega, by go_num, int_eq (by omega), rfl, int_eq (by omega), G9, K9, by omega, by omega, by omega, by omega, by omega, by omega, by omega, B9⟩
            case measure => simp [intOf]; omega
          · go_wp2_with fail
            refine (up_no _ _ _ _ _ _ K5.out ⟨by omega, by omega, by omega, by omega, by omega, by omega⟩ (by omega) hw).mono ?_
            rintro e v6 ⟨rfl, hI, hO⟩
            have K6 := Lib.hid hI
            have G6 := Lib.hid (G5.out.only hO hgr)
            have B6 := Lib.hid (below_only B5.out hO (Nat.le_refl _) hr)
            clear hI hO
            go_wp2_with fail
            refine (told_any _ _ _ _ _ _ K6.out ).mono ?_
            rintro e v7 ⟨rfl, hI, hO⟩
            have K7 := Lib.hid hI
            have G7 := Lib.hid (G6.out.only hO hgr)
            have B7 := Lib.hid (below_only B6.out hO (Nat.le_refl _) hr)
            clear hI hO
            go_wp2_with fail
            refine (spend_flow _ _ _ _ _ _ G7.out ⟨by omega, by omega, by omega, by omega, by omega⟩ (by omega) (by omega)).mono ?_
            rintro e v8 ⟨rfl, hI, hO⟩
            have G8 := Lib.hid hI
            have K8 := Lib.hid (K7.out.only hO (Ne.symm hgr))
            have B8 := Lib.hid (below_only B7.out hO (Nat.le_refl _) hg)
            clear hI hO
            go_wp2
            go_roundw
            case rel => exact ⟨i + 1, L, S + q, U + u, by omega, by go_num, int_eq (by omega), rfl, int_eq (by omega), G8, K8, by omega, by omega, by omega, by omega, by omega, by omega, by omega, B8⟩
            case measure => simp [intOf]; omega
        · have ht3 : decide (0 < b - S) = false := decide_eq_false (by omega)
          go_wp2_with fail
          refine (left_any _ _ _ _ _ G0.out ⟨by omega, by omega, by omega, by omega, by omega⟩).mono ?_
          rintro e v1 ⟨rfl, hI, hO⟩
          have G1 := Lib.hid hI
          have K1 := Lib.hid (K0.out.only hO (Ne.symm hgr))
          have B1 := Lib.hid (below_only B0.out hO (Nat.le_refl _) hg)
          clear hI hO
          have d0 := (B1.out.cell (p := ⟨ab, ao + i, none⟩) hab).trans HA0.out
          go_wp2_with fail
          clear d0
          obtain ⟨q, hq⟩ : ∃ q, min (L - S) (min (b - S) (x % 64)) = q := ⟨_, rfl⟩
          rw [hq]
          have hq0 : 0 ≤ q := by omega
          have hq1 : q ≤ L - S := by omega
          have hq2 : q ≤ b - S := by omega
          clear hq
          go_wp2_with fail
          refine (spend_ok _ _ _ _ _ _ G1.out ⟨by omega, by omega, by omega, by omega, by omega⟩ (by omega) (by omega)).mono ?_
          rintro e v2 ⟨rfl, hI, hO⟩
          have G2 := Lib.hid hI
          have K2 := Lib.hid (K1.out.only hO (Ne.symm hgr))
          have B2 := Lib.hid (below_only B1.out hO (Nat.le_refl _) hg)
          clear hI hO
          go_wp2_with fail
          refine (tk_ok _ _ _ _ _ _ _ K2.out ⟨by omega, by omega, by omega, by omega, by omega, by omega⟩ (by omega) (by omega)).mono ?_
          rintro e v3 ⟨rfl, hI, hO⟩
          have K3 := Lib.hid hI
          have G3 := Lib.hid (G2.out.only hO hgr)
          have B3 := Lib.hid (below_only B2.out hO (Nat.le_refl _) hr)
          clear hI hO
          go_wp2_with fail
          refine (tk_flow _ _ _ _ _ _ _ K3.out ⟨by omega, by omega, by omega, by omega, by omega, by omega⟩ (by omega) (by omega)).mono ?_
          rintro e v4 ⟨rfl, hI, hO⟩
          have K4 := Lib.hid hI
          have G4 := Lib.hid (G3.out.only hO hgr)
          have B4 := Lib.hid (below_only B3.out hO (Nat.le_refl _) hr)
          clear hI hO
          have d0 := (B4.out.cell (p := ⟨ab, ao + i, none⟩) hab).trans HA0.out
          go_wp2_with fail
          clear d0
          obtain ⟨u, hu⟩ : ∃ u, min (S - U + q) (x / 64 % 64) = u := ⟨_, rfl⟩
          rw [hu]
          have hu0 : 0 ≤ u := by omega
          have hu1 : u ≤ S + q - U := by omega
          clear hu
          go_wp2_with fail
          refine (us_ok _ _ _ _ _ _ _ K4.out ⟨by omega, by omega, by omega, by omega, by omega, by omega⟩ (by omega) (by omega)).mono ?_
          rintro e v5 ⟨rfl, hI, hO⟩
          have K5 := Lib.hid hI
          have G5 := Lib.hid (G4.out.only hO hgr)
          have B5 := Lib.hid (below_only B4.out hO (Nat.le_refl _) hr)
          clear hI hO
          rcases (show W ≤ 2 * (U + u + W - L) ∨ 2 * (U + u + W - L) < W by omega) with hw | hw
          · go_wp2_with fail
            refine (up_yes _ _ _ _ _ _ K5.out ⟨by omega, by omega, by omega, by omega, by omega, by omega⟩ (by omega) hw).mono ?_
            rintro e v6 ⟨rfl, hI, hO⟩
            have K6 := Lib.hid hI
            have G6 := Lib.hid (G5.out.only hO hgr)
            have B6 := Lib.hid (below_only B5.out hO (Nat.le_refl _) hr)
            clear hI hO
            go_wp2_with fail
            refine (raise_up _ L _ _ (U + u + W) _ G6.out ⟨by omega, by omega⟩ (by omega)).mono ?_
            rintro e v7 ⟨rfl, hI, hO⟩
            have G7 := Lib.hid hI
            have K7 := Lib.hid (K6.out.only hO (Ne.symm hgr))
            have B7 := Lib.hid (below_only B6.out hO (Nat.le_refl _) hg)
            clear hI hO
            go_wp2_with fail
            refine (told_any _ _ _ _ _ _ K7.out ).mono ?_
            rintro e v8 ⟨rfl, hI, hO⟩
            have K8 := Lib.hid hI
            have G8 := Lib.hid (G7.out.only hO hgr)
            have B8 := Lib.hid (below_only B7.out hO (Nat.le_refl _) hr)
            clear hI hO
            go_wp2_with fail
            refine (spend_flow _ _ _ _ _ _ G8.out ⟨by omega, by omega, by omega, by omega, by omega⟩ (by omega) (by omega)).mono ?_
            rintro e v9 ⟨rfl, hI, hO⟩
            have G9 := Lib.hid hI
            have K9 := Lib.hid (K8.out.only hO (Ne.symm hgr))
            have B9 := Lib.hid (below_only B8.out hO (Nat.le_refl _) hg)
            clear hI hO
            go_wp2
            go_roundw
            case rel => exact ⟨i + 1, (U + u + W), S + q, U + u, by omega, by go_num, int_eq (by omega), rfl, int_eq (by omega), G9, K9, by omega, by omega, by omega, by omega, by omega, by omega, by omega, B9⟩
            case measure => simp [intOf]; omega
          · go_wp2_with fail
            refine (up_no _ _ _ _ _ _ K5.out ⟨by omega, by omega, by omega, by omega, by omega, by omega⟩ (by omega) hw).mono ?_
            rintro e v6 ⟨rfl, hI, hO⟩
            have K6 := Lib.hid hI
            have G6 := Lib.hid (G5.out.only hO hgr)
            have B6 := Lib.hid (below_only B5.out hO (Nat.le_refl _) hr)
            clear hI hO
            go_wp2_with fail
            refine (told_any _ _ _ _ _ _ K6.out ).mono ?_
            rintro e v7 ⟨rfl, hI, hO⟩
            have K7 := Lib.hid hI
            have G7 := Lib.hid (G6.out.only hO hgr)
            have B7 := Lib.hid (below_only B6.out hO (Nat.le_refl _) hr)
            clear hI hO
            go_wp2_with fail
            refine (spend_flow _ _ _ _ _ _ G7.out ⟨by omega, by omega, by omega, by omega, by omega⟩ (by omega) (by omega)).mono ?_
            rintro e v8 ⟨rfl, hI, hO⟩
            have G8 := Lib.hid hI
            have K8 := Lib.hid (K7.out.only hO (Ne.symm hgr))
            have B8 := Lib.hid (below_only B7.out hO (Nat.le_refl _) hg)
            clear hI hO
            go_wp2
            go_roundw
            case rel => exact ⟨i + 1, L, S + q, U + u, by omega, by go_num, int_eq (by omega), rfl, int_eq (by omega), G8, K8, by omega, by omega, by omega, by omega, by omega, by omega, by omega, B8⟩
            case measure => simp [intOf]; omega
      · rcases (show 0 < b - S ∨ (b - S ≤ 0 ∧ 0 < S - U) by omega) with ht | ⟨ht, ht2⟩
        · have ht3 : decide (0 < b - S) = true := decide_eq_true ht
          go_wp2_with fail
          refine (left_any _ _ _ _ _ G0.out ⟨by omega, by omega, by omega, by omega, by omega⟩).mono ?_
          rintro e v1 ⟨rfl, hI, hO⟩
          have G1 := Lib.hid hI
          have K1 := Lib.hid (K0.out.only hO (Ne.symm hgr))
          have B1 := Lib.hid (below_only B0.out hO (Nat.le_refl _) hg)
          clear hI hO
          go_wp2_with fail
          obtain ⟨q, hq⟩ : ∃ q, min (L - S) (b - S) = q := ⟨_, rfl⟩
          rw [hq]
          have hq0 : 0 ≤ q := by omega
          have hq1 : q ≤ L - S := by omega
          have hq2 : q ≤ b - S := by omega
          have hq3 : S < U ∨ U < S ∨ b ≤ S ∨ 1 ≤ q := by omega
          have HQ3 := Lib.hid hq3
          clear hq hq3
          go_wp2_with fail
          refine (spend_ok _ _ _ _ _ _ G1.out ⟨by omega, by omega, by omega, by omega, by omega⟩ (by omega) (by omega)).mono ?_
          rintro e v2 ⟨rfl, hI, hO⟩
          have G2 := Lib.hid hI
          have K2 := Lib.hid (K1.out.only hO (Ne.symm hgr))
          have B2 := Lib.hid (below_only B1.out hO (Nat.le_refl _) hg)
          clear hI hO
          go_wp2_with fail
          refine (tk_ok _ _ _ _ _ _ _ K2.out ⟨by omega, by omega, by omega, by omega, by omega, by omega⟩ (by omega) (by omega)).mono ?_
          rintro e v3 ⟨rfl, hI, hO⟩
          have K3 := Lib.hid hI
          have G3 := Lib.hid (G2.out.only hO hgr)
          have B3 := Lib.hid (below_only B2.out hO (Nat.le_refl _) hr)
          clear hI hO
          go_wp2_with fail
          refine (tk_flow _ _ _ _ _ _ _ K3.out ⟨by omega, by omega, by omega, by omega, by omega, by omega⟩ (by omega) (by omega)).mono ?_
          rintro e v4 ⟨rfl, hI, hO⟩
          have K4 := Lib.hid hI
          have G4 := Lib.hid (G3.out.only hO hgr)
          have B4 := Lib.hid (below_only B3.out hO (Nat.le_refl _) hr)
          clear hI hO
          go_wp2_with fail
          obtain ⟨u, hu⟩ : ∃ u, S - U + q = u := ⟨_, rfl⟩
          rw [hu]
          have hu0 : 0 ≤ u := by omega
          have hu1 : u ≤ S + q - U := by omega
          have hu2 : S + q - U ≤ u := by omega
          clear hu
          go_wp2_with fail
          refine (us_ok _ _ _ _ _ _ _ K4.out ⟨by omega, by omega, by omega, by omega, by omega, by omega⟩ (by omega) (by omega)).mono ?_
          rintro e v5 ⟨rfl, hI, hO⟩
          have K5 := Lib.hid hI
          have G5 := Lib.hid (G4.out.only hO hgr)
          have B5 := Lib.hid (below_only B4.out hO (Nat.le_refl _) hr)
          clear hI hO
          rcases (show W ≤ 2 * (U + u + W - L) ∨ 2 * (U + u + W - L) < W by omega) with hw | hw
          · go_wp2_with fail
            refine (up_yes _ _ _ _ _ _ K5.out ⟨by omega, by omega, by omega, by omega, by omega, by omega⟩ (by omega) hw).mono ?_
            rintro e v6 ⟨rfl, hI, hO⟩
            have K6 := Lib.hid hI
            have G6 := Lib.hid (G5.out.only hO hgr)
            have B6 := Lib.hid (below_only B5.out hO (Nat.le_refl _) hr)
            clear hI hO
            go_wp2_with fail
            refine (raise_up _ L _ _ (U + u + W) _ G6.out ⟨by omega, by omega⟩ (by omega)).mono ?_
            rintro e v7 ⟨rfl, hI, hO⟩
            have G7 := Lib.hid hI
            have K7 := Lib.hid (K6.out.only hO (Ne.symm hgr))
            have B7 := Lib.hid (below_only B6.out hO (Nat.le_refl _) hg)
            clear hI hO
            go_wp2_with fail
            refine (told_any _ _ _ _ _ _ K7.out ).mono ?_
            rintro e v8 ⟨rfl, hI, hO⟩
            have K8 := Lib.hid hI
            have G8 := Lib.hid (G7.out.only hO hgr)
            have B8 := Lib.hid (below_only B7.out hO (Nat.le_refl _) hr)
            clear hI hO
            go_wp2_with fail
            refine (spend_flow _ _ _ _ _ _ G8.out ⟨by omega, by omega, by omega, by omega, by omega⟩ (by omega) (by omega)).mono ?_
            rintro e v9 ⟨rfl, hI, hO⟩
            have G9 := Lib.hid hI
            have K9 := Lib.hid (K8.out.only hO (Ne.symm hgr))
            have B9 := Lib.hid (below_only B8.out hO (Nat.le_refl _) hg)
            clear hI hO
            go_wp2
            go_roundw
            case rel => exact ⟨i + 1, (U + u + W), S + q, U + u, by omega, by go_num, int_eq (by omega), rfl, int_eq (by omega), G9, K9, by omega, by omega, by omega, by omega, by omega, by omega, by have := HQ3.out; omega, B9⟩
            case measure => simp [intOf]; omega
          · go_wp2_with fail
            refine (up_no _ _ _ _ _ _ K5.out ⟨by omega, by omega, by omega, by omega, by omega, by omega⟩ (by omega) hw).mono ?_
            rintro e v6 ⟨rfl, hI, hO⟩
            have K6 := Lib.hid hI
            have G6 := Lib.hid (G5.out.only hO hgr)
            have B6 := Lib.hid (below_only B5.out hO (Nat.le_refl _) hr)
            clear hI hO
            go_wp2_with fail
            refine (told_any _ _ _ _ _ _ K6.out ).mono ?_
            rintro e v7 ⟨rfl, hI, hO⟩
            have K7 := Lib.hid hI
            have G7 := Lib.hid (G6.out.only hO hgr)
            have B7 := Lib.hid (below_only B6.out hO (Nat.le_refl _) hr)
            clear hI hO
            go_wp2_with fail
            refine (spend_flow _ _ _ _ _ _ G7.out ⟨by omega, by omega, by omega, by omega, by omega⟩ (by omega) (by omega)).mono ?_
            rintro e v8 ⟨rfl, hI, hO⟩
            have G8 := Lib.hid hI
            have K8 := Lib.hid (K7.out.only hO (Ne.symm hgr))
            have B8 := Lib.hid (below_only B7.out hO (Nat.le_refl _) hg)
            clear hI hO
            go_wp2
            go_roundw
            case rel => exact ⟨i + 1, L, S + q, U + u, by omega, by go_num, int_eq (by omega), rfl, int_eq (by omega), G8, K8, by omega, by omega, by omega, by omega, by omega, by omega, by have := HQ3.out; omega, B8⟩
            case measure => simp [intOf]; omega
        · have ht3 : decide (0 < b - S) = false := decide_eq_false (by omega)
          go_wp2_with fail
          refine (left_any _ _ _ _ _ G0.out ⟨by omega, by omega, by omega, by omega, by omega⟩).mono ?_
          rintro e v1 ⟨rfl, hI, hO⟩
          have G1 := Lib.hid hI
          have K1 := Lib.hid (K0.out.only hO (Ne.symm hgr))
          have B1 := Lib.hid (below_only B0.out hO (Nat.le_refl _) hg)
          clear hI hO
          go_wp2_with fail
          obtain ⟨q, hq⟩ : ∃ q, min (L - S) (b - S) = q := ⟨_, rfl⟩
          rw [hq]
          have hq0 : 0 ≤ q := by omega
          have hq1 : q ≤ L - S := by omega
          have hq2 : q ≤ b - S := by omega
          have hq3 : S < U ∨ U < S ∨ b ≤ S ∨ 1 ≤ q := by omega
          have HQ3 := Lib.hid hq3
          clear hq hq3
          go_wp2_with fail
          refine (spend_ok _ _ _ _ _ _ G1.out ⟨by omega, by omega, by omega, by omega, by omega⟩ (by omega) (by omega)).mono ?_
          rintro e v2 ⟨rfl, hI, hO⟩
          have G2 := Lib.hid hI
          have K2 := Lib.hid (K1.out.only hO (Ne.symm hgr))
          have B2 := Lib.hid (below_only B1.out hO (Nat.le_refl _) hg)
          clear hI hO
          go_wp2_with fail
          refine (tk_ok _ _ _ _ _ _ _ K2.out ⟨by omega, by omega, by omega, by omega, by omega, by omega⟩ (by omega) (by omega)).mono ?_
          rintro e v3 ⟨rfl, hI, hO⟩
          have K3 := Lib.hid hI
          have G3 := Lib.hid (G2.out.only hO hgr)
          have B3 := Lib.hid (below_only B2.out hO (Nat.le_refl _) hr)
          clear hI hO
          go_wp2_with fail
          refine (tk_flow _ _ _ _ _ _ _ K3.out ⟨by omega, by omega, by omega, by omega, by omega, by omega⟩ (by omega) (by omega)).mono ?_
          rintro e v4 ⟨rfl, hI, hO⟩
          have K4 := Lib.hid hI
          have G4 := Lib.hid (G3.out.only hO hgr)
          have B4 := Lib.hid (below_only B3.out hO (Nat.le_refl _) hr)
          clear hI hO
          go_wp2_with fail
          obtain ⟨u, hu⟩ : ∃ u, S - U + q = u := ⟨_, rfl⟩
          rw [hu]
          have hu0 : 0 ≤ u := by omega
          have hu1 : u ≤ S + q - U := by omega
          have hu2 : S + q - U ≤ u := by omega
          clear hu
          go_wp2_with fail
          refine (us_ok _ _ _ _ _ _ _ K4.out ⟨by omega, by omega, by omega, by omega, by omega, by omega⟩ (by omega) (by omega)).mono ?_
          rintro e v5 ⟨rfl, hI, hO⟩
          have K5 := Lib.hid hI
          have G5 := Lib.hid (G4.out.only hO hgr)
          have B5 := Lib.hid (below_only B4.out hO (Nat.le_refl _) hr)
          clear hI hO
          rcases (show W ≤ 2 * (U + u + W - L) ∨ 2 * (U + u + W - L) < W by omega) with hw | hw
          · go_wp2_with fail
            refine (up_yes _ _ _ _ _ _ K5.out ⟨by omega, by omega, by omega, by omega, by omega, by omega⟩ (by omega) hw).mono ?_
            rintro e v6 ⟨rfl, hI, hO⟩
            have K6 := Lib.hid hI
            have G6 := Lib.hid (G5.out.only hO hgr)
            have B6 := Lib.hid (below_only B5.out hO (Nat.le_refl _) hr)
            clear hI hO
            go_wp2_with fail
            refine (raise_up _ L _ _ (U + u + W) _ G6.out ⟨by omega, by omega⟩ (by omega)).mono ?_
            rintro e v7 ⟨rfl, hI, hO⟩
            have G7 := Lib.hid hI
            have K7 := Lib.hid (K6.out.only hO (Ne.symm hgr))
            have B7 := Lib.hid (below_only B6.out hO (Nat.le_refl _) hg)
            clear hI hO
            go_wp2_with fail
            refine (told_any _ _ _ _ _ _ K7.out ).mono ?_
            rintro e v8 ⟨rfl, hI, hO⟩
            have K8 := Lib.hid hI
            have G8 := Lib.hid (G7.out.only hO hgr)
            have B8 := Lib.hid (below_only B7.out hO (Nat.le_refl _) hr)
            clear hI hO
            go_wp2_with fail
            refine (spend_flow _ _ _ _ _ _ G8.out ⟨by omega, by omega, by omega, by omega, by omega⟩ (by omega) (by omega)).mono ?_
            rintro e v9 ⟨rfl, hI, hO⟩
            have G9 := Lib.hid hI
            have K9 := Lib.hid (K8.out.only hO (Ne.symm hgr))
            have B9 := Lib.hid (below_only B8.out hO (Nat.le_refl _) hg)
            clear hI hO
            go_wp2
            go_roundw
            case rel => exact ⟨i + 1, (U + u + W), S + q, U + u, by omega, by go_num, int_eq (by omega), rfl, int_eq (by omega), G9, K9, by omega, by omega, by omega, by omega, by omega, by omega, by have := HQ3.out; omega, B9⟩
            case measure => simp [intOf]; omega
          · go_wp2_with fail
            refine (up_no _ _ _ _ _ _ K5.out ⟨by omega, by omega, by omega, by omega, by omega, by omega⟩ (by omega) hw).mono ?_
            rintro e v6 ⟨rfl, hI, hO⟩
            have K6 := Lib.hid hI
            have G6 := Lib.hid (G5.out.only hO hgr)
            have B6 := Lib.hid (below_only B5.out hO (Nat.le_refl _) hr)
            clear hI hO
            go_wp2_with fail
            refine (told_any _ _ _ _ _ _ K6.out ).mono ?_
            rintro e v7 ⟨rfl, hI, hO⟩
            have K7 := Lib.hid hI
            have G7 := Lib.hid (G6.out.only hO hgr)
            have B7 := Lib.hid (below_only B6.out hO (Nat.le_refl _) hr)
            clear hI hO
            go_wp2_with fail
            refine (spend_flow _ _ _ _ _ _ G7.out ⟨by omega, by omega, by omega, by omega, by omega⟩ (by omega) (by omega)).mono ?_
            rintro e v8 ⟨rfl, hI, hO⟩
            have G8 := Lib.hid hI
            have K8 := Lib.hid (K7.out.only hO (Ne.symm hgr))
            have B8 := Lib.hid (below_only B7.out hO (Nat.le_refl _) hg)
            clear hI hO
            go_wp2
            go_roundw
            case rel => exact ⟨i + 1, L, S + q, U + u, by omega, by go_num, int_eq (by omega), rfl, int_eq (by omega), G8, K8, by omega, by omega, by omega, by omega, by omega, by omega, by have := HQ3.out; omega, B8⟩
            case measure => simp [intOf]; omega
    · have ht1 : b - S ≤ 0 := by omega
      have ht2 : S - U ≤ 0 := by omega
      have ht3 : decide (0 < b - S) = false := decide_eq_false (by omega)
      go_wp2
      go_ret
      exact ⟨rfl, B0.out⟩
end Go.Proofs.Ytkjgdaehfpoleaa

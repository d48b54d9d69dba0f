/- The walk of the law FlowBlocks. -/
import Derived.Test.YtkjgdaehfpoleaaCases
namespace Go.Proofs.Ytkjgdaehfpoleaa
open Go.RowKit
attribute [local go_sem] and_255
theorem int_eq {k : IntKind} {a b : Int} (h : a = b) : Value.int k a = Value.int k b := by rw [h]

set_option maxHeartbeats 4000000 in
set_option maxRecDepth 100000 in
theorem blocks_at (w : World) (A : Option Addr) (n cap : Nat) (f : Nat → Int) (hA : IsInts w A n f) :
    Calls Try.prog 4 #[.slice A n cap] w fun e w' => e = .returned (.bool true) ∧ Below w.heap.size w w' := by
  obtain ⟨hreach, hcells⟩ := hA
  have HC := Lib.hid hcells
  clear hcells
  go_enter Try.func4, Try.ntmps4
  go_wp2_with fail
  refine (newgive_ok 0 _ ⟨by omega, by omega⟩).mono ?_
  rintro e w1 ⟨rfl, hM, hB⟩
  have HM := Lib.hid hM
  have HB := Lib.hid hB
  clear hM hB
  go_wp2_with fail
  go_loopw [5, 6, 7] (fun a b i wr => ∃ (k : Nat) (L T : Int), k ≤ n ∧ i = .int .i64 k ∧ a = .int .i64 L ∧ b = .int .i64 (T - 1) ∧ Hid (IsG wr w.heap.size true L L T) ∧ 0 ≤ L ∧ L ≤ 255 ∧ (T = L + 1 ∨ (T = 0 ∧ L = 0)) ∧ Hid (Below w.heap.size w wr)) (fun _ _ i _ => n - (intOf i).toNat)
  case atStart => exact ⟨0, 0, 0, by omega, rfl, rfl, rfl, HM, by omega, by omega, .inr ⟨rfl, rfl⟩, HB⟩
  case round =>
    obtain ⟨k, L, T, hk, rfl, rfl, rfl, HI0, hL0, hL1, hT, HB0⟩ := hrel
    by_cases hkn : k < n
    · obtain ⟨ab, ao, rfl, hab, hcl⟩ := HC.out.resolve_left (by omega)
      obtain ⟨a0, b0, b1⟩ := hcl k hkn
      clear hcl
      generalize f k = x at a0 b0 b1
      have d0 := (HB0.out.cell (p := ⟨ab, ao + k, none⟩) hab).trans a0
      clear a0
      have hx0 : 0 ≤ x % 256 := by omega
      have hx1 : x % 256 ≤ 255 := by omega
      by_cases hup : L < x % 256
      · have hne : (x % 256 != T - 1) = true := by rw [bne_iff_ne]; omega
        go_wp2_with fail
        refine (raise_up _ L _ _ (x % 256) _ HI0.out ⟨by omega, by omega⟩ (by omega)).mono ?_
        rintro e v1 ⟨rfl, hI, hO⟩
        have HI1 := Lib.hid hI
        have HB1 := Lib.hid (below_only HB0.out hO (Nat.le_refl _) (Nat.le_refl _))
        clear hI hO
        go_wp2_with fail
        refine (left_any _ _ _ _ _ HI1.out ⟨by omega, by omega, by omega, by omega, by omega⟩).mono ?_
        rintro e v2 ⟨rfl, hI, hO⟩
        have HI2 := Lib.hid hI
        have HB2 := Lib.hid (below_only HB1.out hO (Nat.le_refl _) (Nat.le_refl _))
        clear hI hO
        go_wp2_with fail
        refine (blocked_less _ _ _ _ _ HI2.out ⟨by omega, by omega, by omega, by omega, by omega⟩ (by omega)).mono ?_
        rintro e v3 ⟨rfl, hI, hO⟩
        have HI3 := Lib.hid hI
        have HB3 := Lib.hid (below_only HB2.out hO (Nat.le_refl _) (Nat.le_refl _))
        clear hI hO
        go_wp2_with fail
        refine (spend_flow _ _ _ _ _ _ HI3.out ⟨by omega, by omega, by omega, by omega, by omega⟩ (by omega) (by omega)).mono ?_
        rintro e v4 ⟨rfl, hI, hO⟩
        have HI4 := Lib.hid hI
        have HB4 := Lib.hid (below_only HB3.out hO (Nat.le_refl _) (Nat.le_refl _))
        clear hI hO
        go_wp2_with fail
        refine (spend_ok _ _ _ _ _ _ HI4.out ⟨by omega, by omega, by omega, by omega, by omega⟩ (by omega) (by omega)).mono ?_
        rintro e v5 ⟨rfl, hI, hO⟩
        have HI5 := Lib.hid hI
        have HB5 := Lib.hid (below_only HB4.out hO (Nat.le_refl _) (Nat.le_refl _))
        clear hI hO
        have HX := Lib.hid (show L + (x % 256 - L) = x % 256 by omega)
        rw [HX.out] at HI5
        go_wp2_with fail
        refine (blocked_new _ _ _ _ _ HI5.out ⟨by omega, by omega, by omega, by omega, by omega⟩ (by omega) (by omega)).mono ?_
        rintro e v6 ⟨rfl, hI, hO⟩
        have HI6 := Lib.hid hI
        have HB6 := Lib.hid (below_only HB5.out hO (Nat.le_refl _) (Nat.le_refl _))
        clear hI hO
        go_wp2_with fail
        refine (blocked_told _ _ _ _ _ HI6.out ⟨by omega, by omega, by omega, by omega, by omega⟩ (by omega) rfl).mono ?_
        rintro e v7 ⟨rfl, hI, hO⟩
        have HI7 := Lib.hid hI
        have HB7 := Lib.hid (below_only HB6.out hO (Nat.le_refl _) (Nat.le_refl _))
        clear hI hO
        go_wp2
        go_roundw
        case rel => exact ⟨k + 1, (x % 256), _, by omega, by go_num, rfl, int_eq (by omega), HI7, by omega, by omega, by omega, HB7⟩
        case measure => simp [intOf]; omega
      · have hup2 : x % 256 ≤ L := by omega
        clear hup
        by_cases ht : T = L + 1
        · have hne : (L != T - 1) = false := by rw [bne_eq_false_iff_eq]; omega
          go_wp2_with fail
          refine (raise_stay _ L _ _ (x % 256) _ HI0.out ⟨by omega, by omega⟩ (by omega)).mono ?_
          rintro e v1 ⟨rfl, hI, hO⟩
          have HI1 := Lib.hid hI
          have HB1 := Lib.hid (below_only HB0.out hO (Nat.le_refl _) (Nat.le_refl _))
          clear hI hO
          go_wp2_with fail
          refine (left_any _ _ _ _ _ HI1.out ⟨by omega, by omega, by omega, by omega, by omega⟩).mono ?_
          rintro e v2 ⟨rfl, hI, hO⟩
          have HI2 := Lib.hid hI
          have HB2 := Lib.hid (below_only HB1.out hO (Nat.le_refl _) (Nat.le_refl _))
          clear hI hO
          go_wp2_with fail
          refine (blocked_told _ _ _ _ _ HI2.out ⟨by omega, by omega, by omega, by omega, by omega⟩ (by omega) (by omega)).mono ?_
          rintro e v3 ⟨rfl, hI, hO⟩
          have HI3 := Lib.hid hI
          have HB3 := Lib.hid (below_only HB2.out hO (Nat.le_refl _) (Nat.le_refl _))
          clear hI hO
          go_wp2_with fail
          refine (blocked_told _ _ _ _ _ HI3.out ⟨by omega, by omega, by omega, by omega, by omega⟩ (by omega) (by omega)).mono ?_
          rintro e v4 ⟨rfl, hI, hO⟩
          have HI4 := Lib.hid hI
          have HB4 := Lib.hid (below_only HB3.out hO (Nat.le_refl _) (Nat.le_refl _))
          clear hI hO
          go_wp2
          go_roundw
          case rel => exact ⟨k + 1, L, _, by omega, by go_num, rfl, int_eq (by omega), HI4, by omega, by omega, by omega, HB4⟩
          case measure => simp [intOf]; omega
        · have hz : T < L + 1 := by omega
          have hne : (L != T - 1) = true := by rw [bne_iff_ne]; omega
          go_wp2_with fail
          refine (raise_stay _ L _ _ (x % 256) _ HI0.out ⟨by omega, by omega⟩ (by omega)).mono ?_
          rintro e v1 ⟨rfl, hI, hO⟩
          have HI1 := Lib.hid hI
          have HB1 := Lib.hid (below_only HB0.out hO (Nat.le_refl _) (Nat.le_refl _))
          clear hI hO
          go_wp2_with fail
          refine (left_any _ _ _ _ _ HI1.out ⟨by omega, by omega, by omega, by omega, by omega⟩).mono ?_
          rintro e v2 ⟨rfl, hI, hO⟩
          have HI2 := Lib.hid hI
          have HB2 := Lib.hid (below_only HB1.out hO (Nat.le_refl _) (Nat.le_refl _))
          clear hI hO
          go_wp2_with fail
          refine (blocked_new _ _ _ _ _ HI2.out ⟨by omega, by omega, by omega, by omega, by omega⟩ (by omega) (by omega)).mono ?_
          rintro e v3 ⟨rfl, hI, hO⟩
          have HI3 := Lib.hid hI
          have HB3 := Lib.hid (below_only HB2.out hO (Nat.le_refl _) (Nat.le_refl _))
          clear hI hO
          go_wp2_with fail
          refine (blocked_told _ _ _ _ _ HI3.out ⟨by omega, by omega, by omega, by omega, by omega⟩ (by omega) rfl).mono ?_
          rintro e v4 ⟨rfl, hI, hO⟩
          have HI4 := Lib.hid hI
          have HB4 := Lib.hid (below_only HB3.out hO (Nat.le_refl _) (Nat.le_refl _))
          clear hI hO
          go_wp2
          go_roundw
          case rel => exact ⟨k + 1, L, _, by omega, by go_num, rfl, int_eq (by omega), HI4, by omega, by omega, by omega, HB4⟩
          case measure => simp [intOf]; omega
    · obtain rfl : k = n := by omega
      go_wp2_with fail
      refine (spend_flow _ _ _ _ _ _ HI0.out ⟨by omega, by omega, by omega, by omega, by omega⟩ (by omega) (by omega)).mono ?_
      rintro e v1 ⟨rfl, hI, hO⟩
      have HB1 := Lib.hid (below_only HB0.out hO (Nat.le_refl _) (Nat.le_refl _))
      clear hI hO
      go_wp2
      go_ret
      exact ⟨rfl, HB1.out⟩
end Go.Proofs.Ytkjgdaehfpoleaa

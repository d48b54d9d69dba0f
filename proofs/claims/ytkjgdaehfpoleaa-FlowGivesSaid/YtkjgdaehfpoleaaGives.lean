/- The walk of the law FlowGives. -/
import Derived.Test.YtkjgdaehfpoleaaGive
import Derived.Test.YtkjgdaehfpoleaaActs
import Derived.Deep.RegionHeld3
import Derived.Deep.DrawnRows
namespace Go.Proofs.Ytkjgdaehfpoleaa
open Go.RowKit
attribute [local go_sem ↓] Go.wp_at_zero Go.wp_at_succ

set_option maxHeartbeats 4000000 in
set_option maxRecDepth 100000 in
theorem gives_at (w : World) (x : Int) (A : Option Addr) (n cap : Nat) (f : Nat → Act) (_hx0 : -9223372036854775808 ≤ x) (_hx1 : x ≤ 9223372036854775807) (hA : IsActs w A n f) :
    Calls Try.prog 3 #[.int .i64 x, .slice A n cap] w fun e w' => e = .returned (.bool true) ∧ Below w.heap.size w w' := by
  obtain ⟨hreach, hcells⟩ := hA
  have HC := Lib.hid hcells
  clear hcells
  by_cases hn : lie x
  · have HX := Lib.hid hn
    go_enter Try.func3, Try.ntmps3
    go_wp2_with fail
    refine (newgive_ok x _ HX.out).mono ?_
    rintro e w1 ⟨rfl, hM, hB⟩
    have HM := Lib.hid hM
    have HB := Lib.hid hB
    have hsz : w.heap.size < w1.heap.size := hM.lt
    clear hM hB
    go_wp2_with fail
    refine (rnewgive_ok x _ HX.out).mono ?_
    rintro e w2 ⟨rfl, hR, hB2⟩
    have HM2 := Lib.hid (HM.out.below hB2 hsz)
    have HB2 := Lib.hid (HB.out.trans (hB2.mono HB.out.size))
    have HR2 := Lib.hid hR
    clear hR hB2 HM HB hn
    go_wp2_with fail
    refine (names_any _).mono ?_
    rintro e w3 ⟨rfl, rfl⟩
    go_wp2_with fail
    obtain ⟨r, hrd⟩ : ∃ r, r = w1.heap.size := ⟨_, rfl⟩
    simp only [← hrd] at HR2 hsz ⊢
    have hg : w.heap.size ≤ w.heap.size := Nat.le_refl _
    have hr : w.heap.size ≤ r := by omega
    have hgr : w.heap.size ≠ r := by omega
    clear hrd
    go_loopw [9] (fun i wr => ∃ (k : Nat) (L S T : Int), k ≤ n ∧ i = .int .i64 k ∧ Hid (IsG wr w.heap.size true L S T) ∧ Hid (IsRG wr r L S (T - 1)) ∧ Hid (Gok L S T) ∧ Hid (Below w.heap.size w wr)) (fun i _ => n - (intOf i).toNat)
    case atStart => exact ⟨0, x, 0, 0, by omega, rfl, HM2, HR2, Lib.hid (⟨by omega, HX.out.1, HX.out.2, by omega, by omega⟩), HB2⟩
    case round =>
      obtain ⟨k, L, S, T, hk, rfl, HI, HR, HO, HBr⟩ := hrel
      by_cases hkn : k < n
      · obtain ⟨ab, ao, rfl, hab, hcl⟩ := HC.out.resolve_left (by omega)
        obtain ⟨⟨a0, a1⟩, ⟨b0, b1⟩, b2, b3⟩ := hcl k hkn
        clear hcl
        generalize f k = x at a0 a1 b0 b1 b2 b3
        obtain ⟨kd, m⟩ := x
        simp only at a0 a1 b0 b1 b2 b3
        have d0 := (HBr.out.cell (p := ⟨ab, ao + k * 2, none⟩) hab).trans a0
        have d1 := (HBr.out.cell (p := ⟨ab, ao + k * 2 + 1, none⟩) hab).trans a1
        clear a0 a1
        by_cases k0 : kd = 0
        · subst k0
          go_wp2_with fail
          have HI1 := Lib.hid (HI.out.alloc (.cells #[.int .i64 0, .int .i64 m] 32))
          have HR1 := Lib.hid (HR.out.alloc (.cells #[.int .i64 0, .int .i64 m] 32))
          have HB1 := Lib.hid (below_new HBr.out (Nat.le_refl _) (.cells #[.int .i64 0, .int .i64 m] 32))
          have hq1 : (wr.alloc (.cells #[.int .i64 0, .int .i64 m] 32)).cell? ⟨wr.heap.size, 1, none⟩ = some (.int .i64 m) := (Bk.new wr 32 #[.int .i64 0, .int .i64 m]).cell 1
          have hqs : wr.heap.size < (wr.alloc (.cells #[.int .i64 0, .int .i64 m] 32)).heap.size := (Bk.new wr 32 #[.int .i64 0, .int .i64 m]).lt
          have hqg : wr.heap.size ≠ w.heap.size := by have := HI.out.lt; omega
          have hqr : wr.heap.size ≠ r := by have := HR.out.lt; omega
          generalize wr.alloc (.cells #[.int .i64 0, .int .i64 m] 32) = w1 at *
          generalize wr.heap.size = q at *
          go_region_held3 (fun w' => w'.cell? ⟨q, 1, none⟩ = some (.int .i64 m)) (first | exact hq1 | exact hq2 | exact hq3)
            (first | ((go_at_call 11; refine (raise_any _ L S T m _ (by first | exact HI1.out | exact HI1.out.drew)).mono ?_; rintro e w2 ⟨rfl, hI2, hP2⟩; have hO2 : Only w1 w2 w.heap.size := (by first | exact hP2 | exact only_trans (only_drew (only_refl w1 _)) hP2); have hs2 : q < w2.heap.size := Nat.lt_of_lt_of_le hqs hO2.size; have hq2 : w2.cell? ⟨q, 1, none⟩ = some (.int .i64 m) := (only_cell hO2 hqs hqg).trans hq1)) | ((go_at_call 12; refine (rraise_any _ L S (T - 1) m _ (HR1.out.only hO2 (Ne.symm hgr))).mono ?_; rintro e w3 ⟨rfl, hI3, hO3⟩; have hq3 : w3.cell? ⟨q, 1, none⟩ = some (.int .i64 m) := (only_cell hO3 hs2 hqr).trans hq2)))
          have HI4 := Lib.hid (hI2.only hO3 hgr)
          have HR4 := Lib.hid hI3
          have HB4 := Lib.hid (below_only (below_only HB1.out hO2 (Nat.le_refl _) hg) hO3 (Nat.le_refl _) hr)
          clear hI2 hI3 hO2 hO3 hP2 hq1 hq2 hq3 hqs hs2 hqg hqr
          have HO4 := Lib.hid (gok_raise (n := m) HO.out)
          go_wp2_with fail
          refine (left_any _ _ _ _ _ HI4.out HO4.out).mono ?_
          rintro e w5 ⟨rfl, hI5, hO5⟩
          have HI5 := Lib.hid hI5
          have HR5 := Lib.hid (HR4.out.only hO5 (Ne.symm hgr))
          have HB5 := Lib.hid (below_only HB4.out hO5 (Nat.le_refl _) hg)
          obtain ⟨⟨c0, c1, c2⟩, _⟩ := HR5.out.all
          obtain ⟨g1, g2, g3, g4, g5⟩ := HO4.out
          clear hI5 hO5
          go_wp2_with fail
          go_quiet (fail)
          go_wp2
          go_roundw
          case rel => exact ⟨k + 1, _, _, _, by omega, by go_num, Lib.hid (HI5.out.drewN _), Lib.hid (HR5.out.drewN _), HO4, Lib.hid (below_drewN HB5.out _)⟩
          case measure => simp [intOf]; omega
        · have e0 : (kd == 0) = false := by simpa using k0
          by_cases k1 : kd = 1
          · subst k1
            go_wp2_with fail
            have HI1 := Lib.hid (HI.out.alloc (.cells #[.int .i64 1, .int .i64 m] 32))
            have HR1 := Lib.hid (HR.out.alloc (.cells #[.int .i64 1, .int .i64 m] 32))
            have HB1 := Lib.hid (below_new HBr.out (Nat.le_refl _) (.cells #[.int .i64 1, .int .i64 m] 32))
            have hq1 : (wr.alloc (.cells #[.int .i64 1, .int .i64 m] 32)).cell? ⟨wr.heap.size, 1, none⟩ = some (.int .i64 m) := (Bk.new wr 32 #[.int .i64 1, .int .i64 m]).cell 1
            have hqs : wr.heap.size < (wr.alloc (.cells #[.int .i64 1, .int .i64 m] 32)).heap.size := (Bk.new wr 32 #[.int .i64 1, .int .i64 m]).lt
            have hqg : wr.heap.size ≠ w.heap.size := by have := HI.out.lt; omega
            have hqr : wr.heap.size ≠ r := by have := HR.out.lt; omega
            generalize wr.alloc (.cells #[.int .i64 1, .int .i64 m] 32) = w1 at *
            generalize wr.heap.size = q at *
            go_region_held3 (fun w' => w'.cell? ⟨q, 1, none⟩ = some (.int .i64 m)) (first | exact hq1 | exact hq2 | exact hq3)
              (first | ((go_at_call 13; refine (spend_any _ L S T m _ (by first | exact HI1.out | exact HI1.out.drew) HO.out).mono ?_; rintro e w2 ⟨rfl, hI2, hP2⟩; have hO2 : Only w1 w2 w.heap.size := (by first | exact hP2 | exact only_trans (only_drew (only_refl w1 _)) hP2); have hs2 : q < w2.heap.size := Nat.lt_of_lt_of_le hqs hO2.size; have hq2 : w2.cell? ⟨q, 1, none⟩ = some (.int .i64 m) := (only_cell hO2 hqs hqg).trans hq1)) | ((go_at_call 14; refine (rspend_any _ L S T (T - 1) m _ (HR1.out.only hO2 (Ne.symm hgr)) HO.out).mono ?_; rintro e w3 ⟨rfl, hI3, hO3⟩; have hq3 : w3.cell? ⟨q, 1, none⟩ = some (.int .i64 m) := (only_cell hO3 hs2 hqr).trans hq2)))
            have HI4 := Lib.hid (hI2.only hO3 hgr)
            have HR4 := Lib.hid hI3
            have HB4 := Lib.hid (below_only (below_only HB1.out hO2 (Nat.le_refl _) hg) hO3 (Nat.le_refl _) hr)
            clear hI2 hI3 hO2 hO3 hP2 hq1 hq2 hq3 hqs hs2 hqg hqr
            have HO4 := Lib.hid (gok_spend (n := m) HO.out)
            go_wp2_with fail
            refine (left_any _ _ _ _ _ HI4.out HO4.out).mono ?_
            rintro e w5 ⟨rfl, hI5, hO5⟩
            have HI5 := Lib.hid hI5
            have HR5 := Lib.hid (HR4.out.only hO5 (Ne.symm hgr))
            have HB5 := Lib.hid (below_only HB4.out hO5 (Nat.le_refl _) hg)
            obtain ⟨⟨c0, c1, c2⟩, _⟩ := HR5.out.all
            obtain ⟨g1, g2, g3, g4, g5⟩ := HO4.out
            clear hI5 hO5
            go_wp2_with fail
            go_quiet (fail)
            go_wp2
            go_roundw
            case rel => exact ⟨k + 1, _, _, _, by omega, by go_num, Lib.hid (HI5.out.drewN _), Lib.hid (HR5.out.drewN _), HO4, Lib.hid (below_drewN HB5.out _)⟩
            case measure => simp [intOf]; omega
          · have e1 : (kd == 1) = false := by simpa using k1
            by_cases k2 : kd = 2
            · subst k2
              go_wp2_with fail
              have HI1 := Lib.hid (HI.out.alloc (.cells #[.int .i64 2, .int .i64 m] 32))
              have HR1 := Lib.hid (HR.out.alloc (.cells #[.int .i64 2, .int .i64 m] 32))
              have HB1 := Lib.hid (below_new HBr.out (Nat.le_refl _) (.cells #[.int .i64 2, .int .i64 m] 32))
              have hq1 : (wr.alloc (.cells #[.int .i64 2, .int .i64 m] 32)).cell? ⟨wr.heap.size, 1, none⟩ = some (.int .i64 m) := (Bk.new wr 32 #[.int .i64 2, .int .i64 m]).cell 1
              have hqs : wr.heap.size < (wr.alloc (.cells #[.int .i64 2, .int .i64 m] 32)).heap.size := (Bk.new wr 32 #[.int .i64 2, .int .i64 m]).lt
              have hqg : wr.heap.size ≠ w.heap.size := by have := HI.out.lt; omega
              have hqr : wr.heap.size ≠ r := by have := HR.out.lt; omega
              generalize wr.alloc (.cells #[.int .i64 2, .int .i64 m] 32) = w1 at *
              generalize wr.heap.size = q at *
              clear hq1 hqg hqr
              refine (blocked_any _ L S T _ HI1.out HO.out).mono ?_
              rintro e w2 ⟨rfl, hI2, hO2⟩
              have HI2 := Lib.hid hI2
              have HR2 := Lib.hid (HR1.out.only hO2 (Ne.symm hgr))
              have HB2 := Lib.hid (below_only HB1.out hO2 (Nat.le_refl _) hg)
              clear hI2 hO2
              go_wp2_with fail
              refine (rblocked_any _ L S T _ HR2.out HO.out).mono ?_
              rintro e w3 ⟨rfl, hI3, hO3⟩
              have HI4 := Lib.hid (HI2.out.only hO3 hgr)
              have HR4 := Lib.hid hI3
              have HB4 := Lib.hid (below_only HB2.out hO3 (Nat.le_refl _) hr)
              clear hI3 hO3 hqs
              have HO4 := Lib.hid (gok_blocked HO.out)
              go_wp2_with fail
              refine (left_any _ _ _ _ _ HI4.out HO4.out).mono ?_
              rintro e w5 ⟨rfl, hI5, hO5⟩
              have HI5 := Lib.hid hI5
              have HR5 := Lib.hid (HR4.out.only hO5 (Ne.symm hgr))
              have HB5 := Lib.hid (below_only HB4.out hO5 (Nat.le_refl _) hg)
              obtain ⟨⟨c0, c1, c2⟩, _⟩ := HR5.out.all
              obtain ⟨g1, g2, g3, g4, g5⟩ := HO4.out
              clear hI5 hO5
              go_wp2_with fail
              go_quiet (fail)
              go_wp2
              go_roundw
              case rel => exact ⟨k + 1, _, _, _, by omega, by go_num, Lib.hid (HI5.out.drewN _), Lib.hid (HR5.out.drewN _), HO4, Lib.hid (below_drewN HB5.out _)⟩
              case measure => simp [intOf]; omega
            · have e2 : (kd == 2) = false := by simpa using k2
              go_wp2_with fail
              have HI1 := Lib.hid (HI.out.alloc (.cells #[.int .i64 kd, .int .i64 m] 32))
              have HR1 := Lib.hid (HR.out.alloc (.cells #[.int .i64 kd, .int .i64 m] 32))
              have HB1 := Lib.hid (below_new HBr.out (Nat.le_refl _) (.cells #[.int .i64 kd, .int .i64 m] 32))
              have hq1 : (wr.alloc (.cells #[.int .i64 kd, .int .i64 m] 32)).cell? ⟨wr.heap.size, 1, none⟩ = some (.int .i64 m) := (Bk.new wr 32 #[.int .i64 kd, .int .i64 m]).cell 1
              have hqs : wr.heap.size < (wr.alloc (.cells #[.int .i64 kd, .int .i64 m] 32)).heap.size := (Bk.new wr 32 #[.int .i64 kd, .int .i64 m]).lt
              have hqg : wr.heap.size ≠ w.heap.size := by have := HI.out.lt; omega
              have hqr : wr.heap.size ≠ r := by have := HR.out.lt; omega
              generalize wr.alloc (.cells #[.int .i64 kd, .int .i64 m] 32) = w1 at *
              generalize wr.heap.size = q at *
              have HI4 := HI1
              have HR4 := HR1
              have HB4 := HB1
              clear hq1 hqs hqg hqr k0 k1 k2
              have HO4 := Lib.hid (HO.out)
              refine (left_any _ _ _ _ _ HI4.out HO4.out).mono ?_
              rintro e w5 ⟨rfl, hI5, hO5⟩
              have HI5 := Lib.hid hI5
              have HR5 := Lib.hid (HR4.out.only hO5 (Ne.symm hgr))
              have HB5 := Lib.hid (below_only HB4.out hO5 (Nat.le_refl _) hg)
              obtain ⟨⟨c0, c1, c2⟩, _⟩ := HR5.out.all
              obtain ⟨g1, g2, g3, g4, g5⟩ := HO4.out
              clear hI5 hO5
              go_wp2_with fail
              go_quiet (fail)
              go_wp2
              go_roundw
              case rel => exact ⟨k + 1, _, _, _, by omega, by go_num, Lib.hid (HI5.out.drewN _), Lib.hid (HR5.out.drewN _), HO4, Lib.hid (below_drewN HB5.out _)⟩
              case measure => simp [intOf]; omega
      · obtain rfl : k = n := by omega
        go_wp2
        go_ret
        exact ⟨rfl, HBr.out⟩
  · have HX := Lib.hid hn
    clear hn
    go_enter Try.func3, Try.ntmps3
    go_wp2_with fail
    refine (newgive_no x _ HX.out).mono ?_
    rintro e w1 ⟨rfl, rfl⟩
    go_wp2_with fail
    refine (rnewgive_no x _ HX.out).mono ?_
    rintro e w2 ⟨rfl, rfl⟩
    go_wp2_with fail
    refine (names_any _).mono ?_
    rintro e w3 ⟨rfl, rfl⟩
    go_wp2_with fail
    go_loop [9] (fun i => i = .int .i64 0) (fun _ => 0)
    case atStart => rfl
    case round =>
      obtain rfl := hrel
      rcases (show n = 0 ∨ 0 < n by omega) with h0 | h0
      · go_wp2
        go_ret
        exact ⟨rfl, Below.refl _ _⟩
      · go_wp2
        go_ret
        exact ⟨rfl, Below.refl _ _⟩
end Go.Proofs.Ytkjgdaehfpoleaa

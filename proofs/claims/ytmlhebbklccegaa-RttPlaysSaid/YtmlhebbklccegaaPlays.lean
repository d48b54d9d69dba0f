/- The walk of the law RttPlays. -/
import Derived.Test.YtmlhebbklccegaaAll
import Derived.Test.YtmlhebbklccegaaActs
namespace Go.Proofs.Ytmlhebbklccegaa
open Go.RowKit
attribute [local go_sem ↓] Go.wp_at_zero Go.wp_at_succ

theorem IsS.only {w w' : World} {g k : Nat} {M : Int} {s : St} (h : IsS w g M s) (ho : Only w w' k) (hn : g ≠ k) : IsS w' g M s := IsQ.only h ho hn
theorem IsP.only {w w' : World} {g k : Nat} {M : Int} {s : St} (h : IsP w g M s) (ho : Only w w' k) (hn : g ≠ k) : IsP w' g M s := IsR.only h ho hn
theorem IsS.drew {w : World} {g : Nat} {M : Int} {s : St} (h : IsS w g M s) : IsS w.drew g M s := h
theorem IsS.drewN {w : World} {g : Nat} {M : Int} {s : St} (h : IsS w g M s) (n : Nat) : IsS (w.drewN n) g M s := h
theorem IsP.drewN {w : World} {g : Nat} {M : Int} {s : St} (h : IsP w g M s) (n : Nat) : IsP (w.drewN n) g M s := h

set_option maxHeartbeats 4000000 in
set_option maxRecDepth 100000 in
theorem plays_at (w : World) (x : Int) (A : Option Addr) (n cap : Nat) (f : Nat → Act) (times : Int) (ht0 : -9223372036854775808 ≤ times) (ht1 : times ≤ 9223372036854775807) (hA : IsActs w A n f) :
    Calls Try.prog 5 #[.int .i64 x, .slice A n cap, .int .i64 times] w fun e w' => e = .returned (.bool true) ∧ Below w.heap.size w w' := by
  obtain ⟨hreach, hcells⟩ := hA
  have HC := Lib.hid hcells
  clear hcells
  by_cases hn : tm x
  · have HX := Lib.hid hn
    go_enter Try.func5, Try.ntmps5
    go_wp2_with fail
    refine (new_ok x _ HX.out).mono ?_
    rintro e w1 ⟨rfl, hM, hB⟩
    have HM := Lib.hid hM
    have HB := Lib.hid hB
    have hsz : w.heap.size < w1.heap.size := hM.lt
    clear hM hB
    go_wp2_with fail
    refine (rnew_ok x _ HX.out).mono ?_
    rintro e w2 ⟨rfl, hR, hB2⟩
    have HM2 := Lib.hid (show IsS w2 w.heap.size x ⟨false, 0, 0, 333000, 166500⟩ from HM.out.below hB2 hsz)
    have HB2 := Lib.hid (HB.out.trans (hB2.mono HB.out.size))
    have HR2 := Lib.hid (show IsP w2 w1.heap.size x ⟨false, 0, 0, 333000, 166500⟩ from hR)
    have HOK := Lib.hid (show Rok x ⟨false, 0, 0, 333000, 166500⟩ from ⟨hn, ⟨by decide, by decide⟩, ⟨by decide, by decide⟩, ⟨by decide, by decide⟩, ⟨by decide, by decide⟩⟩)
    clear hR hB2 HM HB hn
    go_wp2_with fail
    refine (names_any _).mono ?_
    rintro e w3 ⟨rfl, rfl⟩
    go_wp2_with fail
    obtain ⟨r, hrd⟩ : ∃ r, r = w1.heap.size := ⟨_, rfl⟩
    simp only [← hrd] at HR2 hsz ⊢
    have hg : w.heap.size ≤ w.heap.size := Nat.le_refl _
    have hr : w.heap.size ≤ r := by omega
    have hgr : w.heap.size ≠ r := by omega
    clear hrd
    go_loopw [11] (fun i wr => ∃ (k : Nat) (s : St), k ≤ n + 1 ∧ i = .int .i64 k ∧ Hid (IsS wr w.heap.size x s) ∧ Hid (IsP wr r x s) ∧ Hid (Rok x s) ∧ Hid (Below w.heap.size w wr)) (fun i _ => n + 1 - (intOf i).toNat)
    case atStart => exact ⟨0, _, by omega, rfl, HM2, HR2, HOK, HB2⟩
    case round =>
      obtain ⟨k, s, hk, rfl, HI0, HR0, HO, HB0⟩ := hrel
      rcases (show k < n ∨ k = n ∨ n < k by omega) with hkn | hkn | hkn
      · obtain ⟨ab, ao, rfl, hab, hcl⟩ := HC.out.resolve_left (by omega)
        obtain ⟨⟨a0, a1, a2⟩, ⟨b0, b1⟩, b2, b3⟩ := hcl k hkn
        clear hcl
        generalize f k = x at a0 a1 a2 b0 b1 b2 b3
        obtain ⟨tk, wt, kn⟩ := x
        simp only at a0 a1 a2 b0 b1 b2 b3
        have HA0 := Lib.hid a0
        have HA1 := Lib.hid a1
        have HA2 := Lib.hid a2
        clear a0 a1 a2
        have hd : decide ((k : Int) < (n : Int)) = true := decide_eq_true (by omega)
        have hk0 : (0 : Int) ≤ (k : Int) := by omega
        have hk1 : (k : Int) < (n : Int) := by omega
        have hkk : ((k : Int) == (n : Int)) = false := by simp; omega
        go_wp2_with fail
        refine (told_any _ _ _ _ _ _ _ _ HI0.out).mono ?_
        rintro e v1 ⟨rfl, hI, hO⟩
        have HI1 := Lib.hid hI
        have HR1 := Lib.hid (IsP.only HR0.out hO (Ne.symm hgr))
        have HB1 := Lib.hid (below_only HB0.out hO (Nat.le_refl _) hg)
        clear hI hO
        obtain ⟨⟨c0, c1, c2, c3, c4, c5⟩, _⟩ := IsR.all HR1.out
        go_wp2_with fail
        refine (wait_any _ _ _ _ _ _ _ times true _ HI1.out HO.out.1 HO.out.2.2.2.1 HO.out.2.2.2.2 ht0 ht1).mono ?_
        rintro e v2 ⟨rfl, hI, hO⟩
        have HI2 := Lib.hid hI
        have HR2 := Lib.hid (IsP.only HR1.out hO (Ne.symm hgr))
        have HB2 := Lib.hid (below_only HB1.out hO (Nat.le_refl _) hg)
        clear hI hO c0 c1 c2 c3 c4 c5
        go_wp2_with fail
        refine (rwait_any _ _ _ _ _ _ _ times true _ HR2.out HO.out.1 HO.out.2.2.2.1 HO.out.2.2.2.2 ht0 ht1).mono ?_
        rintro e v ⟨rfl, rfl⟩
        go_wp2_with fail
        refine (wait_any _ _ _ _ _ _ _ times false _ HI2.out HO.out.1 HO.out.2.2.2.1 HO.out.2.2.2.2 ht0 ht1).mono ?_
        rintro e v3 ⟨rfl, hI, hO⟩
        have HI3 := Lib.hid hI
        have HR3 := Lib.hid (IsP.only HR2.out hO (Ne.symm hgr))
        have HB3 := Lib.hid (below_only HB2.out hO (Nat.le_refl _) hg)
        clear hI hO
        go_wp2_with fail
        refine (rwait_any _ _ _ _ _ _ _ times false _ HR3.out HO.out.1 HO.out.2.2.2.1 HO.out.2.2.2.2 ht0 ht1).mono ?_
        rintro e v ⟨rfl, rfl⟩
        go_wp2_with fail
        refine (late_any _ _ _ _ _ _ _ _ HI3.out HO.out.2.1 HO.out.2.2.2.1).mono ?_
        rintro e v4 ⟨rfl, hI, hO⟩
        have HI4 := Lib.hid hI
        have HR4 := Lib.hid (IsP.only HR3.out hO (Ne.symm hgr))
        have HB4 := Lib.hid (below_only HB3.out hO (Nat.le_refl _) hg)
        clear hI hO
        go_wp2_with fail
        refine (rlate_any _ _ _ _ _ _ _ _ HR4.out HO.out.2.1 HO.out.2.2.2.1).mono ?_
        rintro e v ⟨rfl, rfl⟩
        go_wp2_with fail
        have d0 := (HB4.out.cell (p := ⟨ab, ao + k * 3, none⟩) hab).trans HA0.out
        have d1 := (HB4.out.cell (p := ⟨ab, ao + k * 3 + 1, none⟩) hab).trans HA1.out
        have d2 := (HB4.out.cell (p := ⟨ab, ao + k * 3 + 2, none⟩) hab).trans HA2.out
        have hab4 : ab < v4.heap.size := Nat.lt_of_lt_of_le hab HB4.out.size
        have hng : ab ≠ w.heap.size := by omega
        have hnr : ab ≠ r := by omega
        go_region_held3 (fun w' => w'.cell? ⟨ab, ao + k * 3, none⟩ = some (.int .i64 tk) ∧ w'.cell? ⟨ab, ao + k * 3 + 1, none⟩ = some (.int .i64 wt) ∧ w'.cell? ⟨ab, ao + k * 3 + 2, none⟩ = some (.bool kn))
          (first | exact ⟨d0, d1, d2⟩ | exact q5 | exact q6)
          (first | ((go_at_call 8; refine (sample_any _ _ _ tk wt kn _ (by first | exact HI4.out | exact IsS.drew HI4.out) HO.out b3).mono ?_; rintro e v5 ⟨rfl, hI5, hP5⟩; have hO5 : Only v4 v5 w.heap.size := (by first | exact hP5 | exact only_trans (only_drew (only_refl v4 _)) hP5); have q5 : v5.cell? ⟨ab, ao + k * 3, none⟩ = some (.int .i64 tk) ∧ v5.cell? ⟨ab, ao + k * 3 + 1, none⟩ = some (.int .i64 wt) ∧ v5.cell? ⟨ab, ao + k * 3 + 2, none⟩ = some (.bool kn) := ⟨(only_cell hO5 hab4 hng).trans d0, (only_cell hO5 hab4 hng).trans d1, (only_cell hO5 hab4 hng).trans d2⟩; have hab5 : ab < v5.heap.size := Nat.lt_of_lt_of_le hab4 hO5.size)) | ((go_at_call 16; refine (rsample_any _ _ _ tk wt kn _ (IsP.only HR4.out hO5 (Ne.symm hgr)) HO.out b3).mono ?_; rintro e v6 ⟨rfl, hI6, hO6⟩; have q6 : v6.cell? ⟨ab, ao + k * 3, none⟩ = some (.int .i64 tk) ∧ v6.cell? ⟨ab, ao + k * 3 + 1, none⟩ = some (.int .i64 wt) ∧ v6.cell? ⟨ab, ao + k * 3 + 2, none⟩ = some (.bool kn) := ⟨(only_cell hO6 hab5 hnr).trans q5.1, (only_cell hO6 hab5 hnr).trans q5.2.1, (only_cell hO6 hab5 hnr).trans q5.2.2⟩)))
        have HI6 := Lib.hid (IsS.only hI5 hO6 hgr)
        have HR6 := Lib.hid hI6
        have HB6 := Lib.hid (below_only (below_only HB4.out hO5 (Nat.le_refl _) hg) hO6 (Nat.le_refl _) hr)
        clear hI5 hI6 hO5 hO6 hP5 q5 q6 d0 d1 d2 hab4 hab5 hng hnr
        go_wp2
        go_roundw
        case rel => exact ⟨k + 1, _, by omega, by go_num, HI6, HR6, Lib.hid (rok_next HO.out), HB6⟩
        case measure => simp [intOf]; omega
      · have hkk : ((k : Int) == (n : Int)) = true := by simp; omega
        have hd : decide ((k : Int) < (n : Int)) = false := decide_eq_false (by omega)
        have hk1 : (k : Int) ≤ (n : Int) := by omega
        have hk2 : (n : Int) ≤ (k : Int) := by omega
        go_wp2_with fail
        refine (told_any _ _ _ _ _ _ _ _ HI0.out).mono ?_
        rintro e v1 ⟨rfl, hI, hO⟩
        have HI1 := Lib.hid hI
        have HR1 := Lib.hid (IsP.only HR0.out hO (Ne.symm hgr))
        have HB1 := Lib.hid (below_only HB0.out hO (Nat.le_refl _) hg)
        clear hI hO
        obtain ⟨⟨c0, c1, c2, c3, c4, c5⟩, _⟩ := IsR.all HR1.out
        go_wp2_with fail
        refine (wait_any _ _ _ _ _ _ _ times true _ HI1.out HO.out.1 HO.out.2.2.2.1 HO.out.2.2.2.2 ht0 ht1).mono ?_
        rintro e v2 ⟨rfl, hI, hO⟩
        have HI2 := Lib.hid hI
        have HR2 := Lib.hid (IsP.only HR1.out hO (Ne.symm hgr))
        have HB2 := Lib.hid (below_only HB1.out hO (Nat.le_refl _) hg)
        clear hI hO c0 c1 c2 c3 c4 c5
        go_wp2_with fail
        refine (rwait_any _ _ _ _ _ _ _ times true _ HR2.out HO.out.1 HO.out.2.2.2.1 HO.out.2.2.2.2 ht0 ht1).mono ?_
        rintro e v ⟨rfl, rfl⟩
        go_wp2_with fail
        refine (wait_any _ _ _ _ _ _ _ times false _ HI2.out HO.out.1 HO.out.2.2.2.1 HO.out.2.2.2.2 ht0 ht1).mono ?_
        rintro e v3 ⟨rfl, hI, hO⟩
        have HI3 := Lib.hid hI
        have HR3 := Lib.hid (IsP.only HR2.out hO (Ne.symm hgr))
        have HB3 := Lib.hid (below_only HB2.out hO (Nat.le_refl _) hg)
        clear hI hO
        go_wp2_with fail
        refine (rwait_any _ _ _ _ _ _ _ times false _ HR3.out HO.out.1 HO.out.2.2.2.1 HO.out.2.2.2.2 ht0 ht1).mono ?_
        rintro e v ⟨rfl, rfl⟩
        go_wp2_with fail
        refine (late_any _ _ _ _ _ _ _ _ HI3.out HO.out.2.1 HO.out.2.2.2.1).mono ?_
        rintro e v4 ⟨rfl, hI, hO⟩
        have HI4 := Lib.hid hI
        have HR4 := Lib.hid (IsP.only HR3.out hO (Ne.symm hgr))
        have HB4 := Lib.hid (below_only HB3.out hO (Nat.le_refl _) hg)
        clear hI hO
        go_wp2_with fail
        refine (rlate_any _ _ _ _ _ _ _ _ HR4.out HO.out.2.1 HO.out.2.2.2.1).mono ?_
        rintro e v ⟨rfl, rfl⟩
        go_wp2_with fail
        go_quiet (fail)
        go_wp2
        go_roundw
        case rel => exact ⟨k + 1, _, by omega, by go_num, Lib.hid (IsS.drewN HI4.out _), Lib.hid (IsP.drewN HR4.out _), HO, Lib.hid (below_drewN HB4.out _)⟩
        case measure => simp [intOf]; omega
      · have hk1 : (n : Int) < (k : Int) := by omega
        go_wp2
        go_ret
        exact ⟨rfl, HB0.out⟩
  · have HX := Lib.hid hn
    clear hn
    go_enter Try.func5, Try.ntmps5
    go_wp2_with fail
    refine (new_no x _ HX.out).mono ?_
    rintro e w1 ⟨rfl, rfl⟩
    go_wp2_with fail
    refine (rnew_no x _ HX.out).mono ?_
    rintro e w2 ⟨rfl, rfl⟩
    go_wp2_with fail
    refine (names_any _).mono ?_
    rintro e w3 ⟨rfl, rfl⟩
    go_wp2_with fail
    go_loop [11] (fun i => i = .int .i64 0) (fun _ => 0)
    case atStart => rfl
    case round =>
      obtain rfl := hrel
      go_wp2
      go_ret
      exact ⟨rfl, Below.refl _ _⟩
end Go.Proofs.Ytmlhebbklccegaa

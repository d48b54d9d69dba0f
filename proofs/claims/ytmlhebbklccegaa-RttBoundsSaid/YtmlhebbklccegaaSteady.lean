/- The walk of the law RttSteady. -/
import Derived.Test.YtmlhebbklccegaaAll
namespace Go.Proofs.Ytmlhebbklccegaa
open Go.RowKit
attribute [local go_sem] and_16777215 and_63 max2_is min2_is max_of_two min_of_two

theorem next_first {M t : Int} {la le sm va : Int} (ht : tm t) : nextSt M ⟨false, la, le, sm, va⟩ t 0 true = ⟨true, t, t, t, t / 2⟩ := by
  unfold nextSt; rw [if_pos ⟨ht, by omega⟩]; rfl
theorem adj_zero {M le t : Int} (hM : tm M) : adj M le t 0 true = t := by
  obtain ⟨h1, h2⟩ := hM
  unfold adj
  rw [if_pos rfl, show min 0 M = 0 by omega]
  split <;> omega
theorem next_more {M t : Int} {la le sm va : Int} (hM : tm M) (ht : tm t) : nextSt M ⟨true, la, le, sm, va⟩ t 0 true = ⟨true, t, min le t, smoothN sm t, varyN sm va t⟩ := by
  unfold nextSt; rw [if_pos ⟨ht, by omega⟩]; simp only [if_true, adj_zero hM]
theorem sampE_ok {t : Int} (ht : tm t) : sampE t 0 = 0 := by unfold sampE; rw [if_pos ⟨ht, by omega⟩]

set_option maxHeartbeats 4000000 in
set_option maxRecDepth 100000 in
theorem steady_at (w : World) (took n : Int) :
    Calls Try.prog 6 #[.int .i64 took, .int .i64 n] w fun e w' => e = .returned (.bool true) ∧ Below w.heap.size w w' := by
  have ht0 : 0 ≤ took % 16777216 := by omega
  have ht1 : took % 16777216 ≤ 16777215 := by omega
  have hn0 : 0 ≤ n % 64 := by omega
  have hn1 : n % 64 ≤ 63 := by omega
  go_enter Try.func6, Try.ntmps6
  go_wp2_with fail
  obtain ⟨t, hte⟩ : ∃ t, took % 16777216 = t := ⟨_, rfl⟩
  rw [hte] at ht0 ht1 ⊢
  clear hte
  have HTm := Lib.hid (show tm t from ⟨ht0, by omega⟩)
  have HM0 := Lib.hid (show tm 0 from ⟨by decide, by decide⟩)
  refine (new_ok 0 _ HM0.out).mono ?_
  rintro e w1 ⟨rfl, hM, hB⟩
  have HM := Lib.hid (show IsS w1 w.heap.size 0 ⟨false, 0, 0, 333000, 166500⟩ from hM)
  have HB := Lib.hid hB
  clear hM hB
  go_wp2_with fail
  go_loopw [7, 8] (fun b i wr => ∃ (k : Nat) (s : St) (v : Int), k ≤ 64 ∧ i = .int .i64 k ∧ b = .int .i64 v ∧ Hid (IsS wr w.heap.size 0 s) ∧ Hid (Rok 0 s) ∧ Hid ((k = 0 ∧ s.has = false ∧ v = 1125899906842624) ∨ (s = ⟨true, t, t, t, v⟩ ∧ 0 ≤ v)) ∧ Hid (1 ≤ k → s = ⟨true, t, t, t, v⟩) ∧ Hid (Below w.heap.size w wr)) (fun _ i _ => 64 - (intOf i).toNat)
  case atStart => exact ⟨0, _, _, by omega, rfl, rfl, HM, Lib.hid ⟨HM0.out, ⟨by decide, by decide⟩, ⟨by decide, by decide⟩, ⟨by decide, by decide⟩, ⟨by decide, by decide⟩⟩, Lib.hid (.inl ⟨rfl, rfl, rfl⟩), Lib.hid (fun h => by omega), HB⟩
  case round =>
    obtain ⟨k, s, v, hk, rfl, rfl, HI0, HOk, HV, HV2, HB0⟩ := hrel
    rcases (show (k : Int) ≤ n % 64 ∨ n % 64 < (k : Int) by omega) with hkn | hkn
    · obtain ⟨v', hs', hv0, hv1⟩ : ∃ v', nextSt 0 s t 0 true = ⟨true, t, t, t, v'⟩ ∧ 0 ≤ v' ∧ v' ≤ v := by
        rcases HV.out with ⟨_, h1, h2⟩ | ⟨h1, h2⟩
        · obtain ⟨hs, la, le, sm, va⟩ := s
          obtain rfl : hs = false := h1
          exact ⟨t / 2, next_first HTm.out, by omega, by omega⟩
        · subst h1
          exact ⟨varyN t v t, by rw [next_more HM0.out HTm.out]; unfold smoothN; rw [show min t t = t by omega, show (7 * t + t) / 8 = t by omega], by unfold varyN; omega, by unfold varyN; omega⟩
      have HS' := Lib.hid hs'
      clear hs'
      go_wp2_with fail
      refine (sample_any _ _ _ t 0 true _ HI0.out HOk.out (by omega)).mono ?_
      rw [sampE_ok HTm.out, HS'.out]
      rintro e v1 ⟨rfl, hI, hO⟩
      have HI1 := Lib.hid hI
      have HB1 := Lib.hid (below_only HB0.out hO (Nat.le_refl _) (Nat.le_refl _))
      have HOk1 := Lib.hid (show Rok 0 ⟨true, t, t, t, v'⟩ by rw [← HS'.out]; exact rok_next HOk.out)
      clear hI hO
      go_wp2_with fail
      refine (told_any _ _ _ _ _ _ _ _ HI1.out).mono ?_
      rintro e v2 ⟨rfl, hI, hO⟩
      have HI2 := Lib.hid hI
      have HB2 := Lib.hid (below_only HB1.out hO (Nat.le_refl _) (Nat.le_refl _))
      clear hI hO
      go_wp2
      go_roundw
      case rel => exact ⟨k + 1, ⟨true, t, t, t, v'⟩, v', by omega, by go_num, rfl, HI2, HOk1, Lib.hid (.inr ⟨rfl, hv0⟩), Lib.hid (fun _ => rfl), HB2⟩
      case measure => simp [intOf]; omega
    · have hs := HV2.out (by omega)
      subst hs
      have hr := HOk.out
      obtain ⟨_, _, _, r3, r4⟩ := hr
      have HR3 := Lib.hid r3
      have HR4 := Lib.hid r4
      clear r3 r4
      have HW := Lib.hid (show waitN 0 t v true 0 = waitN 0 t v false 0 by unfold waitN base0; simp)
      have hl1 : max 1000 t ≤ lateN t t := by unfold lateN; omega
      have hl2 : lateN t t ≤ max 1000 (t + t / 8) := by unfold lateN; omega
      go_wp2_with fail
      refine (wait_any _ _ _ _ _ _ _ 0 true _ HI0.out HM0.out HR3.out HR4.out (by omega) (by omega)).mono ?_
      rintro e v1 ⟨rfl, hI, hO⟩
      have HI1 := Lib.hid hI
      have HB1 := Lib.hid (below_only HB0.out hO (Nat.le_refl _) (Nat.le_refl _))
      clear hI hO
      go_wp2_with fail
      refine (wait_any _ _ _ _ _ _ _ 0 false _ HI1.out HM0.out HR3.out HR4.out (by omega) (by omega)).mono ?_
      rintro e v2 ⟨rfl, hI, hO⟩
      have HI2 := Lib.hid hI
      have HB2 := Lib.hid (below_only HB1.out hO (Nat.le_refl _) (Nat.le_refl _))
      clear hI hO
      rw [HW.out]
      go_wp2_with fail
      refine (late_any _ _ _ _ _ _ _ _ HI2.out HR3.out HR3.out).mono ?_
      rintro e v3 ⟨rfl, hI, hO⟩
      have HI3 := Lib.hid hI
      have HB3 := Lib.hid (below_only HB2.out hO (Nat.le_refl _) (Nat.le_refl _))
      clear hI hO
      go_wp2_with fail
      refine (late_any _ _ _ _ _ _ _ _ HI3.out HR3.out HR3.out).mono ?_
      rintro e v4 ⟨rfl, hI, hO⟩
      have HB4 := Lib.hid (below_only HB3.out hO (Nat.le_refl _) (Nat.le_refl _))
      clear hI hO
      go_wp2
      go_ret
      exact ⟨by first | rfl | exact ret_bool (by simp only [decide_eq_true_eq]; omega), HB4.out⟩
end Go.Proofs.Ytmlhebbklccegaa

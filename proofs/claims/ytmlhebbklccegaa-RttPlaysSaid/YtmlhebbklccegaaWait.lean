/- Wait, Late and New: the program's and the reference's. -/
import Derived.Test.YtmlhebbklccegaaSample
namespace Go.Proofs.Ytmlhebbklccegaa
open Go.RowKit
attribute [local go_sem] max2_is min2_is max_of_two min_of_two

def base0 (M sm va : Int) (d : Bool) : Int := if d then sm + max (4 * va) 1000 + M else sm + max (4 * va) 1000
def steps (t : Int) : Nat := (min (max t 0) 10).toNat
def waitN (M sm va : Int) (d : Bool) (t : Int) : Int := base0 M sm va d * 2 ^ steps t

theorem steps_le (t : Int) : steps t ≤ 10 := by unfold steps; omega
theorem base0_in {M sm va : Int} {d : Bool} (h1 : tm M) (h2 : tm sm) (h3 : tm va) : 0 ≤ base0 M sm va d ∧ base0 M sm va d ≤ 6755399441056744 := by
  obtain ⟨h4, h5⟩ := h1
  obtain ⟨h6, h7⟩ := h2
  obtain ⟨h8, h9⟩ := h3
  unfold base0
  cases d <;> simp <;> omega
theorem pow_in (k : Nat) (h : k ≤ 10) : (1 : Int) ≤ 2 ^ k ∧ (2 : Int) ^ k ≤ 1024 := by
  have e : (2 : Int) ^ k = ((2 ^ k : Nat) : Int) := by simp
  have h1 : (2 : Nat) ^ k ≤ 2 ^ 10 := Nat.pow_le_pow_right (by omega) h
  have h2 : 0 < (2 : Nat) ^ k := Nat.pow_pos (by omega)
  rw [e]; omega
theorem prod_in {b : Int} (k : Nat) (h : k ≤ 10) (h0 : 0 ≤ b) (h1 : b ≤ 6755399441056744) : 0 ≤ b * 2 ^ k ∧ b * 2 ^ k ≤ 6917529027642105856 := by
  obtain ⟨p0, p1⟩ := pow_in k h
  refine ⟨Int.mul_nonneg h0 (by omega), ?_⟩
  have := Int.mul_le_mul h1 p1 (by omega) (by omega)
  omega
theorem waitN_in {M sm va : Int} {d : Bool} {t : Int} (h1 : tm M) (h2 : tm sm) (h3 : tm va) : 0 ≤ waitN M sm va d t ∧ waitN M sm va d t ≤ 6917529027642105856 := by
  obtain ⟨a, b⟩ := base0_in (d := d) h1 h2 h3
  exact prod_in _ (steps_le t) a b

set_option maxHeartbeats 400000 in
theorem wait_any (g : Nat) (M : Int) (h0 : Bool) (la le sm va t : Int) (d : Bool) (w : World) (h : IsQ w g true M h0 la le sm va) (h1 : tm M) (h2 : tm sm) (h3 : tm va) (ht0 : -9223372036854775808 ≤ t) (ht1 : t ≤ 9223372036854775807) :
    Calls Try.prog 9 #[.pointer (some ⟨g, 0, none⟩), .int .i64 t, .bool d] w fun e w' => e = .returned (.int .i64 (waitN M sm va d t)) ∧ IsQ w' g true M h0 la le sm va ∧ Only w w' g := by
  have H := Lib.hid h
  have HW := Lib.hid (waitN_in (d := d) (t := t) h1 h2 h3)
  obtain ⟨⟨c0, c1, c2, c3, c4, c5, c6⟩, _⟩ := h.all
  obtain ⟨h4, h5⟩ := h1
  obtain ⟨h6, h7⟩ := h2
  obtain ⟨h8, h9⟩ := h3
  clear h
  cases d
  all_goals
    go_enter Try.func9, Try.ntmps9
    go_wp2_with fail
    refine (none_no g M h0 la le sm va _ H.out).mono ?_
    rintro e w' ⟨rfl, rfl⟩
    go_wp2_with fail
    go_quiet (fail)
    go_wp2
    go_ret
    exact ⟨ret_int (wrap64_id (by have := HW.out.1; exact Int.le_trans (by omega) this) (by have := HW.out.2; exact Int.le_trans this (by omega))), H.out.drewN _, only_drewN (only_refl w g) _⟩

set_option maxHeartbeats 400000 in
theorem rwait_any (g : Nat) (M : Int) (h0 : Bool) (la le sm va t : Int) (d : Bool) (w : World) (h : IsR w g M h0 la le sm va) (h1 : tm M) (h2 : tm sm) (h3 : tm va) (ht0 : -9223372036854775808 ≤ t) (ht1 : t ≤ 9223372036854775807) :
    Calls Try.prog 14 #[.pointer (some ⟨g, 0, none⟩), .int .i64 t, .bool d] w fun e w' => e = .returned (.int .i64 (waitN M sm va d t)) ∧ w = w' := by
  obtain ⟨⟨c0, c1, c2, c3, c4, c5⟩, _⟩ := h.all
  obtain ⟨hb1, hb2⟩ := base0_in (d := d) h1 h2 h3
  have hw : waitN M sm va d t = base0 M sm va d * 2 ^ steps t := rfl
  have hs0 := steps_le t
  have hs1 : (steps t : Int) = min (max t 0) 10 := by unfold steps; omega
  have HBs : Hid (base0 M sm va d = if d then sm + max (4 * va) 1000 + M else sm + max (4 * va) 1000) := Lib.hid rfl
  rw [hw]
  clear hw
  generalize base0 M sm va d = B at *
  generalize steps t = n at *
  obtain ⟨h4, h5⟩ := h1
  obtain ⟨h6, h7⟩ := h2
  obtain ⟨h8, h9⟩ := h3
  clear h
  have HS := Lib.hid hs1
  clear hs1
  rcases (show 4 * va < 1000 ∨ 1000 ≤ 4 * va by omega) with hv | hv
  all_goals
    cases d
  all_goals
    go_enter Try.func14, Try.ntmps14
    go_wp2_with fail
    go_loop [7, 8] (fun x y => ∃ k : Nat, k ≤ n ∧ y = .int .i64 k ∧ x = .int .i64 (B * 2 ^ k)) (fun _ y => 10 - (intOf y).toNat)
    case atStart => exact ⟨0, by omega, rfl, int_eq (by have h1 := HBs.out; simp at h1; simp; omega)⟩
    case round =>
      obtain ⟨k, hk, rfl, rfl⟩ := hrel
      have hp := prod_in k (by omega) hb1 hb2
      have HD := Lib.hid (show 2 * (B * 2 ^ k) = B * 2 ^ (k + 1) by rw [Int.pow_succ, Int.mul_comm 2, Int.mul_assoc])
      by_cases hlt : k < n
      · have hp2 := prod_in (k + 1) (by omega) hb1 hb2
        have hk1 : (k : Int) < t := by have := HS.out; omega
        have hk2 : k < 10 := by omega
        rw [← HD.out] at hp2
        go_wp2
        go_round
        case rel => exact ⟨k + 1, by omega, by go_num, int_eq HD.out⟩
        case measure => simp [intOf]; omega
      · obtain rfl : k = n := by omega
        rcases (show t ≤ (k : Int) ∨ ((k : Int) < t ∧ (10 : Int) ≤ (k : Int)) by have := HS.out; omega) with hk1 | ⟨hk1, hk2⟩
        · go_wp2
          go_ret
          exact ⟨rfl, rfl⟩
        · go_wp2
          go_ret
          exact ⟨rfl, rfl⟩
end Go.Proofs.Ytmlhebbklccegaa

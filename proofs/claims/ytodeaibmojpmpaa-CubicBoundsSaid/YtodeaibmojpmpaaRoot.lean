/- The program's and the reference's cubic root: both answer the one root. -/
import Derived.Test.YtodeaibmojpmpaaRows
import Derived.Test.YtodeaibmojpmpaaRootLaw
import Derived.WalkKit
import Derived.WalkSpells
import Derived.WalkLawsBesides
import Derived.BigQuiet
import Derived.Lib.Hide
namespace Go.Proofs.Ytodeaibmojpmpaa
open Go.RowKit

set_option maxHeartbeats 400000 in
theorem fits_any (n r : Int) (b : Nat) (w : World) (hb : w.cell? ⟨b, 0, none⟩ = some (.int .i64 n)) (h0 : 1 ≤ r) (h1 : r ≤ 2097152) :
    Calls Try.prog 20 #[.int .i64 r, .pointer (some ⟨b, 0, none⟩)] w fun e w' => e = .returned (.bool (fitsB n r)) ∧ w = w' := by
  have e0 : (r == 0) = false := by simp; omega
  go_enter Try.func20, Try.ntmps20
  go_wp2
  go_ret
  exact ⟨rfl, rfl⟩

set_option maxHeartbeats 400000 in
theorem root_any (n : Int) (w : World) (hn0 : -9223372036854775808 ≤ n) (hn1 : n ≤ 9223372036854775807) :
    Calls Try.prog 8 #[.int .i64 n] w fun e w' => e = .returned (.int .i64 (rootOf n)) ∧ LowHigh n (rootOf n) (rootOf n + 1) ∧ Below w.heap.size w w' := by
  go_enter Try.func8, Try.ntmps8
  go_wp2
  have hcb : (w.alloc (Obj.cells #[Value.int IntKind.i64 n] 3)).cell? ⟨w.heap.size, 0, none⟩ = some (.int .i64 n) := by simp
  go_loop [3, 4] (fun lo hi => ∃ l h : Int, lo = .int .i64 l ∧ hi = .int .i64 h ∧ LowHigh n l h) (fun lo hi => (intOf hi - intOf lo).toNat)
  case atStart => exact ⟨0, 2097152, rfl, rfl, by unfold LowHigh; omega⟩
  case round =>
    obtain ⟨l, h, rfl, rfl, hlh⟩ := hrel
    have HL := Lib.hid hlh
    obtain ⟨hl0, hl1, hl2, _, _⟩ := hlh
    by_cases hlt : 1 < h - l
    · by_cases hc : ((l + h) / 2) * ((l + h) / 2) * ((l + h) / 2) ≤ n
      · have hf := fitsB_of_le (by omega) hn0 hn1 hc
        have HF := lowHigh_yes HL.out (by omega) (by omega) hc
        go_wp2_with (go_at_call 20; refine (fits_any n _ _ _ hcb (by omega) (by omega)).mono ?_; rintro e w' ⟨rfl, rfl⟩)
        go_round
        case rel => exact ⟨_, _, rfl, rfl, HF⟩
        case measure => simp [intOf]; omega
      · have hc' : n < ((l + h) / 2) * ((l + h) / 2) * ((l + h) / 2) := by omega
        clear hc
        have hf := fitsB_of_lt (by omega) hn0 hn1 hc'
        have HF := lowHigh_no HL.out (by omega) (by omega) hc'
        go_wp2_with (go_at_call 20; refine (fits_any n _ _ _ hcb (by omega) (by omega)).mono ?_; rintro e w' ⟨rfl, rfl⟩)
        go_round
        case rel => exact ⟨_, _, rfl, rfl, HF⟩
        case measure => simp [intOf]; omega
    · obtain rfl : h = l + 1 := by omega
      go_wp2
      go_ret
      exact ⟨ret_int (rootOf_eq HL.out), rootOf_lowHigh HL.out, (Below.refl _ _).alloc (Nat.le_refl _) _⟩

theorem half_pow (k : Nat) : ((2 : Int) ^ (k + 1)) / 2 = 2 ^ k := by rw [Int.pow_succ]; omega
theorem pow_le21 (k : Nat) (h : k ≤ 21) : (2 : Int) ^ k ≤ 2097152 ∧ 1 ≤ (2 : Int) ^ k := by
  have h1 : (2 : Int) ^ k = ((2 ^ k : Nat) : Int) := by simp
  have h2 : (2 : Nat) ^ k ≤ 2 ^ 21 := Nat.pow_le_pow_right (by omega) h
  have h3 : 0 < (2 : Nat) ^ k := Nat.pow_pos (by omega)
  rw [h1]; omega

/-- The bit that is tried where the root lies below r and 2 to the k together. -/
def bitAt : Nat → Int
  | 0 => 0
  | k + 1 => 2 ^ k
theorem bitAt_half (k : Nat) : (bitAt (k + 1)) / 2 = bitAt k := by
  cases k with
  | zero => rfl
  | succ k => exact half_pow k

set_option maxHeartbeats 400000 in
theorem rref_any (n : Int) (w : World) (hn0 : -9223372036854775808 ≤ n) (hn1 : n ≤ 9223372036854775807) :
    Calls Try.prog 9 #[.int .i64 n] w fun e w' => e = .returned (.int .i64 (rootOf n)) ∧ w = w' := by
  go_enter Try.func9, Try.ntmps9
  go_wp2
  go_loop [3, 4] (fun r b => ∃ (x : Int) (k : Nat), k ≤ 21 ∧ r = .int .i64 x ∧ b = .int .i64 (bitAt k) ∧ LowHigh n x (x + 2 ^ k)) (fun r b => (intOf b).toNat)
  case atStart => exact ⟨0, 21, by omega, rfl, rfl, by unfold LowHigh; omega⟩
  case round =>
    obtain ⟨x, k, hk, rfl, rfl, hlh⟩ := hrel
    have HL := Lib.hid hlh
    obtain ⟨hl0, hl1, hl2, _, _⟩ := hlh
    cases k with
    | zero =>
      unfold bitAt
      go_wp2
      go_ret
      exact ⟨ret_int (rootOf_eq HL.out), rfl⟩
    | succ k =>
      have hp := pow_le21 k (by omega)
      have HH := Lib.hid (bitAt_half k)
      have HP := Lib.hid (Int.pow_succ (2 : Int) k)
      have HB := Lib.hid (show bitAt (k + 1) = 2 ^ k from rfl)
      have hb1 : 0 < bitAt (k + 1) := hp.2
      have hb2 : bitAt (k + 1) ≤ 2097152 := hp.1
      have hx2 : x + bitAt (k + 1) ≤ 2097152 := by have := HP.out; have := HB.out; omega
      by_cases hc : (x + bitAt (k + 1)) * (x + bitAt (k + 1)) * (x + bitAt (k + 1)) ≤ n
      · have hf := fitsB_of_le (by omega) hn0 hn1 hc
        rw [fitsB_in (by omega) hn0 hn1] at hf
        have HF : LowHigh n (x + bitAt (k + 1)) (x + bitAt (k + 1) + 2 ^ k) := by
          have := lowHigh_yes HL.out (m := x + bitAt (k + 1)) (by omega) (by have := HP.out; have := HB.out; omega) hc
          rw [show x + bitAt (k + 1) + 2 ^ k = x + 2 ^ (k + 1) by have := HP.out; have := HB.out; omega]
          exact this
        go_wp2
        go_round
        case rel => exact ⟨_, k, by omega, rfl, by rw [HH.out], HF⟩
        case measure => simp [intOf]; omega
      · have hc' : n < (x + bitAt (k + 1)) * (x + bitAt (k + 1)) * (x + bitAt (k + 1)) := by omega
        clear hc
        have hf := fitsB_of_lt (by omega) hn0 hn1 hc'
        rw [fitsB_in (by omega) hn0 hn1] at hf
        have HF : LowHigh n x (x + 2 ^ k) := lowHigh_no HL.out (m := x + bitAt (k + 1)) (by omega) (by have := HP.out; have := HB.out; omega) hc'
        go_wp2
        go_round
        case rel => exact ⟨_, k, by omega, rfl, by rw [HH.out], HF⟩
        case measure => simp [intOf]; omega

end Go.Proofs.Ytodeaibmojpmpaa

/- Plain laws on the cubic root of a whole number: what the test of the program and of the reference decide. -/
import Derived.Test.YtodeaibmojpmpaaBase
namespace Go.Proofs.Ytodeaibmojpmpaa
open Go.RowKit

def LowHigh (n l h : Int) : Prop := 0 ≤ l ∧ l < h ∧ h ≤ 2097152 ∧ (l = 0 ∨ l * l * l ≤ n) ∧ n < h * h * h

def fitsB (n r : Int) : Bool := decide (r ≤ wrap64 ((wrap64 (n.tdiv r)).tdiv r))

theorem tdiv_small {n r : Int} (hr : 1 ≤ r) (hn0 : -9223372036854775808 ≤ n) (hn1 : n ≤ 9223372036854775807) :
    -9223372036854775808 ≤ n.tdiv r ∧ n.tdiv r ≤ 9223372036854775807 := by
  rcases Int.le_total 0 n with h | h
  · rw [Int.tdiv_eq_ediv_of_nonneg h]
    have h1 := Int.ediv_nonneg h (show 0 ≤ r by omega)
    have h2 := Int.ediv_le_self r h
    omega
  · obtain ⟨m, rfl⟩ : ∃ m : Int, n = -m := ⟨-n, by omega⟩
    rw [Int.neg_tdiv, Int.tdiv_eq_ediv_of_nonneg (by omega)]
    have h1 := Int.ediv_nonneg (show 0 ≤ m by omega) (show 0 ≤ r by omega)
    have h2 := Int.ediv_le_self r (show 0 ≤ m by omega)
    omega

theorem fitsB_iff {n r : Int} (hr : 1 ≤ r) (hn0 : -9223372036854775808 ≤ n) (hn1 : n ≤ 9223372036854775807) :
    fitsB n r = true ↔ r * r * r ≤ n := by
  unfold fitsB
  have b1 := tdiv_small hr hn0 hn1
  have b2 := tdiv_small hr b1.1 b1.2
  rw [wrap64_id b1.1 b1.2, wrap64_id b2.1 b2.2, decide_eq_true_iff]
  rcases Int.le_total 0 n with h | h
  · rw [Int.tdiv_eq_ediv_of_nonneg h, Int.tdiv_eq_ediv_of_nonneg (Int.ediv_nonneg h (by omega)),
      Int.le_ediv_iff_mul_le (by omega), Int.le_ediv_iff_mul_le (by omega)]
  · constructor
    · intro h2
      exfalso
      obtain ⟨m, rfl⟩ : ∃ m : Int, n = -m := ⟨-n, by omega⟩
      have hm : 0 ≤ m := by omega
      rw [Int.neg_tdiv, Int.neg_tdiv, Int.tdiv_eq_ediv_of_nonneg (a := m) (b := r) hm,
        Int.tdiv_eq_ediv_of_nonneg (a := m / r) (b := r) (Int.ediv_nonneg hm (by omega))] at h2
      have h3 := Int.ediv_nonneg (Int.ediv_nonneg (show 0 ≤ m by omega) (show 0 ≤ r by omega)) (show 0 ≤ r by omega)
      omega
    · intro h2
      have h3 : 1 ≤ r * r := Int.mul_pos (show 0 < r by omega) (show 0 < r by omega)
      have h4 : 1 ≤ r * r * r := Int.mul_pos (show 0 < r * r by omega) (show 0 < r by omega)
      omega

theorem fitsB_in {n r : Int} (hr : 1 ≤ r) (hn0 : -9223372036854775808 ≤ n) (hn1 : n ≤ 9223372036854775807) :
    fitsB n r = decide (r ≤ wrap64 ((n.tdiv r).tdiv r)) := by
  have b1 := tdiv_small hr hn0 hn1
  unfold fitsB
  rw [wrap64_id b1.1 b1.2]

theorem fitsB_of_le {n r : Int} (hr : 1 ≤ r) (hn0 : -9223372036854775808 ≤ n) (hn1 : n ≤ 9223372036854775807) (h : r * r * r ≤ n) : fitsB n r = true :=
  (fitsB_iff hr hn0 hn1).2 h
theorem fitsB_of_lt {n r : Int} (hr : 1 ≤ r) (hn0 : -9223372036854775808 ≤ n) (hn1 : n ≤ 9223372036854775807) (h : n < r * r * r) : fitsB n r = false := by
  rw [Bool.eq_false_iff]; intro hc; have := (fitsB_iff hr hn0 hn1).1 hc; omega

theorem cube_mono {a b : Int} (h0 : 0 ≤ a) (h : a ≤ b) : a * a * a ≤ b * b * b :=
  Int.mul_le_mul (Int.mul_le_mul h h h0 (by omega)) h h0 (Int.mul_nonneg (by omega) (by omega))

/-- Two answers of the kind are one. -/
theorem lowHigh_one {n a b : Int} (ha : LowHigh n a (a + 1)) (hb : LowHigh n b (b + 1)) : a = b := by
  obtain ⟨a0, _, _, a1, a2⟩ := ha
  obtain ⟨b0, _, _, b1, b2⟩ := hb
  rcases Int.lt_trichotomy a b with h | h | h
  · exfalso
    have h1 := cube_mono (show 0 ≤ a + 1 by omega) (show a + 1 ≤ b by omega)
    rcases b1 with b1 | b1 <;> omega
  · exact h
  · exfalso
    have h1 := cube_mono (show 0 ≤ b + 1 by omega) (show b + 1 ≤ a by omega)
    rcases a1 with a1 | a1 <;> omega

theorem lowHigh_pos {n a : Int} (ha : LowHigh n a (a + 1)) : (n < 1 → a = 0) ∧ (1 ≤ n → 1 ≤ a) := by
  obtain ⟨a0, _, _, a1, a2⟩ := ha
  constructor
  · intro h
    rcases a1 with a1 | a1
    · exact a1
    · by_cases hz : 1 ≤ a
      · have := cube_mono (show (0 : Int) ≤ 1 by omega) hz
        omega
      · omega
  · intro h
    by_cases hz : a = 0
    · subst hz; omega
    · omega

theorem lowHigh_yes {n l h m : Int} (hl : LowHigh n l h) (_h0 : l < m) (h1 : m < h) (hc : m * m * m ≤ n) : LowHigh n m h := by
  obtain ⟨a, b, c, d, e⟩ := hl; exact ⟨by omega, h1, c, .inr hc, e⟩
theorem lowHigh_no {n l h m : Int} (hl : LowHigh n l h) (h0 : l < m) (h1 : m < h) (hc : n < m * m * m) : LowHigh n l m := by
  obtain ⟨a, b, c, d, e⟩ := hl; exact ⟨a, h0, by omega, d, hc⟩

/-- The document's root, as one number. -/
noncomputable def rootOf (n : Int) : Int := by
  classical
  exact if h : ∃ r, LowHigh n r (r + 1) then h.choose else 0
theorem rootOf_eq {n r : Int} (h : LowHigh n r (r + 1)) : r = rootOf n := by
  have he : ∃ r, LowHigh n r (r + 1) := ⟨r, h⟩
  unfold rootOf
  rw [dif_pos he]
  exact lowHigh_one h he.choose_spec
theorem rootOf_lowHigh {n r : Int} (h : LowHigh n r (r + 1)) : LowHigh n (rootOf n) (rootOf n + 1) := by
  rw [← rootOf_eq h]; exact h
end Go.Proofs.Ytodeaibmojpmpaa

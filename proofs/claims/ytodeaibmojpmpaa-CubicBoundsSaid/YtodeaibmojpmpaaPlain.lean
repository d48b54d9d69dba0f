/- The growth of a cubic in plain: numbers that do not wrap. -/
import Derived.Test.YtodeaibmojpmpaaNew
namespace Go.Proofs.Ytodeaibmojpmpaa
open Go.RowKit

def kN (pk st sz : Int) : Int := (pk - st) * 2500000000 / sz
def tN (no ep rt : Int) : Int := min ((no - ep + rt).tdiv 1000) 1000000
def dN (t k : Int) : Int := min (max (t - k) (-1000000)) 1000000
def scaleN (cu sz : Int) : Int := (cu.tdiv 1000000000 * sz * 2).tdiv 5 + (cu.tmod 1000000000 * sz).tdiv 2500000000
noncomputable def cuN (pk st sz ep no rt : Int) : Int := dN (tN no ep rt) (rootOf (kN pk st sz)) * dN (tN no ep rt) (rootOf (kN pk st sz)) * dN (tN no ep rt) (rootOf (kN pk st sz))
noncomputable def curveN (pk st sz ep no rt : Int) : Int := scaleN (cuN pk st sz ep no rt) sz
def tgN (pk b c : Int) : Int := min (max (pk + c) b) (3 * b / 2)
def esN (es sz ak b : Int) : Int := es + 9 * sz * ak / (17 * b)
def byN (b tg ak : Int) : Int := b + (tg - b) * ak / b

theorem tdiv_in {x k M : Int} (hk : 1 ≤ k) (h0 : -M ≤ x) (h1 : x ≤ M) : -M ≤ x.tdiv k ∧ x.tdiv k ≤ M := by
  rcases (show 0 ≤ x ∨ x < 0 by omega) with h | h
  · rw [Int.tdiv_eq_ediv_of_nonneg h]
    have a := Int.ediv_nonneg h (show 0 ≤ k by omega)
    have b := Int.ediv_le_self k h
    omega
  · have e : x.tdiv k = -((-x) / k) := by rw [← Int.tdiv_eq_ediv_of_nonneg (show 0 ≤ -x by omega), Int.neg_tdiv, Int.neg_neg]
    have a := Int.ediv_nonneg (show 0 ≤ -x by omega) (show 0 ≤ k by omega)
    have b := Int.ediv_le_self k (show 0 ≤ -x by omega)
    omega
theorem tmod_in {x k : Int} (hk : 1 ≤ k) : -k ≤ x.tmod k ∧ x.tmod k ≤ k := by
  have h1 := Int.tmod_lt_of_pos x (show 0 < k by omega)
  have h2 := Int.lt_tmod_of_pos x (show 0 < k by omega)
  omega
theorem mul_pos_in {a b A B : Int} (h0 : 0 ≤ a) (h1 : a ≤ A) (h2 : 0 ≤ b) (h3 : b ≤ B) : 0 ≤ a * b ∧ a * b ≤ A * B :=
  ⟨Int.mul_nonneg h0 h2, Int.mul_le_mul h1 h3 h2 (by omega)⟩
theorem mul_in {a b A B : Int} (h0 : -A ≤ a) (h1 : a ≤ A) (h2 : 0 ≤ b) (h3 : b ≤ B) : -(A * B) ≤ a * b ∧ a * b ≤ A * B := by
  rcases (show 0 ≤ a ∨ a < 0 by omega) with h | h
  · have := mul_pos_in h h1 h2 h3; omega
  · have := mul_pos_in (show 0 ≤ -a by omega) (show -a ≤ A by omega) h2 h3
    rw [Int.neg_mul] at this
    omega
theorem sq_in {d M : Int} (h0 : -M ≤ d) (h1 : d ≤ M) : 0 ≤ d * d ∧ d * d ≤ M * M := by
  rcases (show 0 ≤ d ∨ d < 0 by omega) with h | h
  · exact mul_pos_in h h1 h h1
  · have := mul_pos_in (show 0 ≤ -d by omega) (show -d ≤ M by omega) (show 0 ≤ -d by omega) (show -d ≤ M by omega)
    rw [Int.neg_mul_neg] at this
    exact this
theorem cube_in {d : Int} (h0 : -1000000 ≤ d) (h1 : d ≤ 1000000) : 0 ≤ d * d ∧ d * d ≤ 1000000000000 ∧ -1000000000000000000 ≤ d * d * d ∧ d * d * d ≤ 1000000000000000000 := by
  have a := sq_in h0 h1
  have b := mul_in (a := d) (b := d * d) h0 h1 a.1 (show d * d ≤ 1000000000000 by omega)
  rw [Int.mul_comm d (d * d)] at b
  omega
theorem kN_in {pk st sz : Int} (hz0 : 1200 ≤ sz) (hs0 : 0 ≤ st) (hs1 : st ≤ pk) (hp : pk ≤ 1073741824) :
    IntKind.i64.wrap (pk - st) = pk - st ∧ IntKind.i64.wrap ((pk - st) * 2500000000) = (pk - st) * 2500000000 ∧ IntKind.i64.wrap (((pk - st) * 2500000000).tdiv sz) = kN pk st sz ∧ 0 ≤ kN pk st sz ∧ kN pk st sz ≤ 9223372036854775807 := by
  have h0 : 0 ≤ (pk - st) * 2500000000 := by omega
  have h1 : (pk - st) * 2500000000 ≤ 9223372036854775807 := by omega
  have a := Int.ediv_nonneg h0 (show 0 ≤ sz by omega)
  have b := Int.ediv_le_self sz h0
  exact ⟨wr_in (by omega) (by omega), wr_in (by omega) h1, wr_div h0 h1 (by omega), a, by unfold kN; omega⟩
/-- The curve's last line, in equations for a walk. -/
theorem scale_in {cu sz : Int} (hc0 : -1000000000000000000 ≤ cu) (hc1 : cu ≤ 1000000000000000000) (hz0 : 0 ≤ sz) (hz1 : sz ≤ 65535) :
    IntKind.i64.wrap (cu.tdiv 1000000000) = cu.tdiv 1000000000 ∧ IntKind.i64.wrap (cu.tdiv 1000000000 * sz) = cu.tdiv 1000000000 * sz ∧
    IntKind.i64.wrap (cu.tdiv 1000000000 * sz * 2) = cu.tdiv 1000000000 * sz * 2 ∧ IntKind.i64.wrap ((cu.tdiv 1000000000 * sz * 2).tdiv 5) = (cu.tdiv 1000000000 * sz * 2).tdiv 5 ∧
    IntKind.i64.wrap (cu.tmod 1000000000 * sz) = cu.tmod 1000000000 * sz ∧ IntKind.i64.wrap ((cu.tmod 1000000000 * sz).tdiv 2500000000) = (cu.tmod 1000000000 * sz).tdiv 2500000000 ∧
    IntKind.i64.wrap ((cu.tdiv 1000000000 * sz * 2).tdiv 5 + (cu.tmod 1000000000 * sz).tdiv 2500000000) = scaleN cu sz ∧ -400000000000000 ≤ scaleN cu sz ∧ scaleN cu sz ≤ 400000000000000 := by
  have q := tdiv_in (x := cu) (k := 1000000000) (by decide) hc0 hc1
  have q2 : -1000000000 ≤ cu.tdiv 1000000000 ∧ cu.tdiv 1000000000 ≤ 1000000000 := by
    rcases (show 0 ≤ cu ∨ cu < 0 by omega) with h | h
    · rw [Int.tdiv_eq_ediv_of_nonneg h]; omega
    · have e : cu.tdiv 1000000000 = -((-cu) / 1000000000) := by rw [← Int.tdiv_eq_ediv_of_nonneg (show 0 ≤ -cu by omega), Int.neg_tdiv, Int.neg_neg]
      omega
  have r := tmod_in (x := cu) (k := 1000000000) (by decide)
  have a := mul_in q2.1 q2.2 hz0 hz1
  have b := mul_in r.1 r.2 hz0 hz1
  have c := tdiv_in (x := cu.tdiv 1000000000 * sz * 2) (k := 5) (M := 131070000000000) (by decide) (by omega) (by omega)
  have d := tdiv_in (x := cu.tmod 1000000000 * sz) (k := 2500000000) (M := 65535000000000) (by decide) (by omega) (by omega)
  refine ⟨wr_in (by omega) (by omega), wr_in (by omega) (by omega), wr_in (by omega) (by omega), wr_in (by omega) (by omega), wr_in (by omega) (by omega), wr_in (by omega) (by omega), wr_in (by omega) (by omega), ?_, ?_⟩ <;> unfold scaleN <;> omega
/-- The least growth, in equations for a walk. -/
theorem est_in {es sz ak b : Int} (hz0 : 1200 ≤ sz) (hz1 : sz ≤ 65535) (ha0 : 0 ≤ ak) (ha1 : ak ≤ 1048576) (hb0 : 2400 ≤ b) (hb1 : b ≤ 1073741824) (he0 : 0 ≤ es) (he1 : es ≤ 1152921504606846976) :
    IntKind.i64.wrap (9 * sz) = 9 * sz ∧ IntKind.i64.wrap (9 * sz * ak) = 9 * sz * ak ∧ IntKind.i64.wrap (17 * b) = 17 * b ∧ ¬ 17 * b = 0 ∧ IntKind.i64.wrap ((9 * sz * ak).tdiv (17 * b)) = 9 * sz * ak / (17 * b) ∧
    IntKind.i64.wrap (es + 9 * sz * ak / (17 * b)) = esN es sz ak b ∧ es ≤ esN es sz ak b := by
  have a := mul_pos_in (a := 9 * sz) (b := ak) (A := 589815) (by omega) (by omega) ha0 ha1
  have p := Int.ediv_nonneg a.1 (show 0 ≤ 17 * b by omega)
  have q := Int.ediv_le_self (17 * b) a.1
  refine ⟨wr_in (by omega) (by omega), wr_in (by omega) (by omega), wr_in (by omega) (by omega), by omega, wr_div a.1 (by omega) (by omega), wr_in (by omega) (by omega), ?_⟩
  unfold esN
  omega
theorem est_le {es sz ak b : Int} (hz0 : 1200 ≤ sz) (ha0 : 0 ≤ ak) (ha1 : ak ≤ 1048576) (hb0 : 2 * sz ≤ b) : esN es sz ak b ≤ es + 300000 := by
  have a := mul_pos_in (a := 9 * sz) (b := ak) (A := 9 * sz) (by omega) (Int.le_refl _) ha0 ha1
  have h : 9 * sz * ak / (17 * b) ≤ 300000 := by
    refine Int.ediv_le_of_le_mul (by omega) ?_
    omega
  unfold esN
  omega
/-- The step to the target, in equations for a walk. -/
theorem step_in {b tg ak : Int} (hb0 : 2400 ≤ b) (hb1 : b ≤ 1073741824) (ht0 : b ≤ tg) (ht1 : tg ≤ 3 * b / 2) (ha0 : 0 ≤ ak) (ha1 : ak ≤ 1048576) :
    IntKind.i64.wrap (tg - b) = tg - b ∧ IntKind.i64.wrap ((tg - b) * ak) = (tg - b) * ak ∧ IntKind.i64.wrap (((tg - b) * ak).tdiv b) = (tg - b) * ak / b ∧ IntKind.i64.wrap (b + (tg - b) * ak / b) = byN b tg ak ∧ b ≤ byN b tg ak ∧ byN b tg ak ≤ 1152921504606846976 := by
  have a := mul_pos_in (a := tg - b) (b := ak) (A := 536870912) (by omega) (by omega) ha0 ha1
  have p := Int.ediv_nonneg a.1 (show 0 ≤ b by omega)
  have q := Int.ediv_le_self b a.1
  refine ⟨wr_in (by omega) (by omega), wr_in (by omega) (by omega), wr_div a.1 (by omega) (by omega), wr_in (by omega) (by omega), ?_, ?_⟩ <;> unfold byN <;> omega
theorem tg_in {pk b c : Int} (hb0 : 2400 ≤ b) : b ≤ tgN pk b c ∧ tgN pk b c ≤ 3 * b / 2 := by unfold tgN; omega
theorem dN_in (t k : Int) : -1000000 ≤ dN t k ∧ dN t k ≤ 1000000 := by unfold dN; omega
theorem root_in {n r : Int} (h : LowHigh n r (r + 1)) : 0 ≤ r ∧ r ≤ 2097151 := by
  obtain ⟨h1, h2, h3, _⟩ := h
  omega
theorem tN_in {no ep rt : Int} (hn : tm no) (hr : tm rt) (h0 : -1 ≤ ep) (h1 : ep ≤ 1125899906842624) :
    -4503599627370496 ≤ (no - ep + rt).tdiv 1000 ∧ (no - ep + rt).tdiv 1000 ≤ 4503599627370496 := by
  obtain ⟨a, b⟩ := hn
  obtain ⟨c, d⟩ := hr
  exact tdiv_in (by decide) (by omega) (by omega)
end Go.Proofs.Ytodeaibmojpmpaa

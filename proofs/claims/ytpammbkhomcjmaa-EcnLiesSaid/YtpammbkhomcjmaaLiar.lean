/- EcnLies in plain: what a liar's counts bring. -/
import Derived.Test.YtpammbkhomcjmaaTell
namespace Go.Proofs.Ytpammbkhomcjmaa
open Go.RowKit

/-- A validation that has sent i, fewer than ten. -/
def sentS (i : Int) : St := ⟨1, i, 0, 0, 0, 0, 0⟩
theorem ok_sent {i : Int} (h : 0 ≤ i) : Ok (sentS i) i := ⟨.inl rfl, by simp [sentS], by simp [sentS], by simpa [sentS] using h, Int.le_refl _, by simp [sentS], by simp [sentS], rfl, by simp [sentS], by simp [sentS]⟩
theorem send_sent {i : Int} (h : i < 9) : sendS (sentS i) = sentS (i + 1) := by simp [sendS, sentS, show ¬ 10 ≤ i + 1 by omega]
theorem lie_not {n p q r : Int} (hf : ¬ (n ≤ p + r ∧ q = 0 ∧ p ≤ n ∧ r ≤ n - p)) : ¬ fine (sentS n) n p q r := by simp only [fine, sentS]; omega
section
variable {n p q r : Int} (h1 : 1 ≤ n) (hp0 : 0 ≤ p) (hp1 : p ≤ 1000) (hq0 : 0 ≤ q) (hq1 : q ≤ 1000) (hr0 : 0 ≤ r) (hr1 : r ≤ 1000)
include h1 hp0 hp1 hq0 hq1 hr0 hr1
theorem lie_ok : inAll p q r ∧ ¬ badM (sentS n) n := ⟨⟨⟨hp0, by omega⟩, ⟨hq0, by omega⟩, ⟨hr0, by omega⟩⟩, by simp only [badM, sentS]; omega⟩
theorem lie_e : ackE (sentS n) n p q r = 0 := if_pos (lie_ok h1 hp0 hp1 hq0 hq1 hr0 hr1)
variable (hf : ¬ (n ≤ p + r ∧ q = 0 ∧ p ≤ n ∧ r ≤ n - p))
include hf
omit h1 hp0 hp1 hq0 hq1 hr0 hr1 in
theorem lie_b : ackB (sentS n) n p q r true = false := decide_eq_false (fun hx => lie_not hf hx.2.2.2.1)
theorem lie_s : ackS (sentS n) n p q r true = ⟨3, n, 0, 0 + n, 0, 0, 0⟩ := by
  have hg : ¬ (true = true ∧ fine (sentS n) n p q r) := fun hx => lie_not hf hx.2
  have hn : ¬ ((sentS n).st = 3 ∨ true = false ∧ n = 0) := by simp [sentS]
  unfold ackS
  rw [if_pos (lie_ok h1 hp0 hp1 hq0 hq1 hr0 hr1), if_neg hn, if_neg hg]
  rfl
end
/-- What a liar leaves: it has failed. -/
theorem lie_call (g : Nat) (n p q r : Int) (w : World) (H : IsS 35 w g (sentS n)) (h1 : 1 ≤ n) (h9 : n ≤ 9) (hp0 : 0 ≤ p) (hp1 : p ≤ 1000) (hq0 : 0 ≤ q) (hq1 : q ≤ 1000) (hr0 : 0 ≤ r) (hr1 : r ≤ 1000) (hf : ¬ (n ≤ p + r ∧ q = 0 ∧ p ≤ n ∧ r ≤ n - p)) :
    Calls Try.prog 9 #[.pointer (some ⟨g, 0, none⟩), .int .i64 n, .agg #[.int .i64 p, .int .i64 q, .int .i64 r], .bool true] w fun e w' => e = .returned (.tuple #[.bool false, .int .i64 0]) ∧ IsE 35 w' g 3 n 0 (0 + n) 0 0 0 ∧ Only w w' g := by
  have := ack_any g (sentS n) n n p q r true w H (ok_sent (by omega)) (by omega)
  rw [lie_e h1 hp0 hp1 hq0 hq1 hr0 hr1, lie_b hf, lie_s h1 hp0 hp1 hq0 hq1 hr0 hr1 hf] at this
  exact this
theorem true_call (g : Nat) (n : Int) (w : World) (H : IsS 35 w g (sentS n)) (h1 : 1 ≤ n) (h9 : n ≤ 9) :
    Calls Try.prog 9 #[.pointer (some ⟨g, 0, none⟩), .int .i64 n, .agg #[.int .i64 n, .int .i64 0, .int .i64 0], .bool true] w fun e w' => e = .returned (.tuple #[.bool false, .int .i64 0]) ∧ IsE 35 w' g 4 n 0 (0 + n) n 0 0 ∧ Only w w' g := by
  have := ack_any g (sentS n) n n n 0 0 true w H (ok_sent (by omega)) (by omega)
  have hg : true = true ∧ fine (sentS n) n n 0 0 := ⟨rfl, show 0 ≤ n from by omega, Int.le_refl 0, rfl, show n ≤ n - 0 + 0 - 0 from by omega, Int.le_refl n, show 0 ≤ n - n from by omega⟩
  have hn : ¬ ((sentS n).st = 3 ∨ true = false ∧ n = 0) := by simp [sentS]
  have e2 : ackB (sentS n) n n 0 0 true = false := decide_eq_false (fun hx => absurd hx.2.2.2.2 (by simp [sentS]))
  have e3 : ackS (sentS n) n n 0 0 true = ⟨4, n, 0, 0 + n, n, 0, 0⟩ := by
    unfold ackS
    rw [if_pos (lie_ok h1 (by omega) (by omega) (by omega) (by omega) (by omega) (by omega)), if_neg hn, if_pos hg, if_pos (by omega)]
    rfl
  rw [lie_e h1 (by omega) (by omega) (by omega) (by omega) (by omega) (by omega), e2, e3] at this
  exact this
theorem sent_call (g : Nat) (i : Int) (w : World) (H : IsS 35 w g (sentS i)) (h0 : 0 ≤ i) (h9 : i < 9) :
    Calls Try.prog 8 #[.pointer (some ⟨g, 0, none⟩)] w fun e w' => e = .returned (.bool true) ∧ IsS 35 w' g (sentS (i + 1)) ∧ Only w w' g := by
  have := sent_any g (sentS i) i w H (ok_sent h0) (by omega)
  rw [send_sent h9] at this
  exact this
theorem stop_call (g : Nat) (n : Int) (w : World) (H : IsE 35 w g 3 n 0 (0 + n) 0 0 0) (h0 : 0 ≤ n) (h9 : n ≤ 9) :
    Calls Try.prog 8 #[.pointer (some ⟨g, 0, none⟩)] w fun e w' => e = .returned (.bool false) ∧ Only w w' g :=
  (sent_raw g 3 n 0 (0 + n) 0 0 0 w H h0 (by omega) (.inr (.inr (.inl rfl)))).mono fun _ _ ⟨he, _, ho⟩ => ⟨he, ho⟩
end Go.Proofs.Ytpammbkhomcjmaa

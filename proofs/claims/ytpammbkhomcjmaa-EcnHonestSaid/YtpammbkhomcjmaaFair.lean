/- EcnHonest in plain: what an honest peer's counts bring. -/
import Derived.Test.YtpammbkhomcjmaaTell
namespace Go.Proofs.Ytpammbkhomcjmaa
open Go.RowKit

/-- A validation that sent n, lost o; p and r are what the peer counts. -/
def hon (t n o p r : Int) : St := ⟨t, n, o, p + r, p, 0, r⟩
/-- At the loop's head. -/
def Head (t n o p r : Int) (B : Int) : Prop :=
  0 ≤ o ∧ 0 ≤ p ∧ 0 ≤ r ∧ n = o + (p + r) ∧ n ≤ B ∧ (t = 1 ∧ p = 0 ∧ r = 0 ∧ n < 10 ∨ t = 3 ∧ p = 0 ∧ r = 0 ∧ 10 ≤ n ∨ t = 4)
/-- Behind a packet that was sent and of which nothing is known yet. -/
def Mid (t n o p r : Int) (B : Int) : Prop :=
  0 ≤ o ∧ 0 ≤ p ∧ 0 ≤ r ∧ n = o + (p + r) + 1 ∧ n ≤ B ∧ (t = 1 ∧ p = 0 ∧ r = 0 ∧ n < 10 ∨ t = 2 ∧ p = 0 ∧ r = 0 ∧ 10 ≤ n ∨ t = 4)
section
variable {t n o p r B : Int}
theorem head_ok (h : Head t n o p r B) (hB : B ≤ 1152921504606846976) : Ok (hon t n o p r) B := by
  obtain ⟨h1, h2, h3, h4, h5, h6⟩ := h
  exact ⟨by simp only [hon]; omega, h1, by simp only [hon]; omega, by simp only [hon]; omega, h5, h2, by simp only [hon]; omega, rfl, h3, by simp only [hon]; omega⟩
theorem mid_ok (h : Mid t n o p r B) (hB : B ≤ 1152921504606846976) : Ok (hon t n o p r) B := by
  obtain ⟨h1, h2, h3, h4, h5, h6⟩ := h
  exact ⟨by simp only [hon]; omega, h1, by simp only [hon]; omega, by simp only [hon]; omega, h5, h2, by simp only [hon]; omega, rfl, h3, by simp only [hon]; omega⟩
theorem head_send (h : Head t n o p r B) (ht : t ≠ 3) : sendB (hon t n o p r) = true ∧ ∃ t', sendS (hon t n o p r) = hon t' (n + 1) o p r ∧ Mid t' (n + 1) o p r (B + 1) := by
  obtain ⟨h1, h2, h3, h4, h5, h6⟩ := h
  rcases h6 with ⟨rfl, hp, hr, hn⟩ | ⟨h6, _⟩ | rfl
  · refine ⟨rfl, if 10 ≤ n + 1 then 2 else 1, if_pos rfl, h1, h2, h3, by omega, by omega, ?_⟩
    split <;> omega
  · exact absurd h6 ht
  · exact ⟨rfl, 4, by simp [sendS, hon], h1, h2, h3, by omega, by omega, .inr (.inr rfl)⟩
theorem mid_lost (h : Mid t n o p r B) : loseE (hon t n o p r) 1 = 0 ∧ ∃ t', loseS (hon t n o p r) 1 = hon t' n (o + 1) p r ∧ Head t' n (o + 1) p r B := by
  obtain ⟨h1, h2, h3, h4, h5, h6⟩ := h
  have hb : ¬ badM (hon t n o p r) 1 := by simp only [badM, hon]; omega
  refine ⟨if_neg hb, if allLost (hon t n o p r) 1 then 3 else t, if_neg hb, by omega, h2, h3, by omega, h5, ?_⟩
  have ha : allLost (hon t n o p r) 1 ↔ (t = 1 ∨ t = 2) ∧ 10 ≤ n ∧ o + 1 = n := Iff.rfl
  by_cases hc : allLost (hon t n o p r) 1
  · rw [if_pos hc]
    rw [ha] at hc
    omega
  · rw [if_neg hc]
    rw [ha] at hc
    omega
theorem mid_fine (h : Mid t n o p r B) (p' r' : Int) (hp : p ≤ p') (hr : r ≤ r') (hs : p' + r' = p + r + 1) (hB : B ≤ 1152921504606846976) :
    (inAll p' 0 r' ∧ ¬ badM (hon t n o p r) 1) ∧ fine (hon t n o p r) 1 p' 0 r' := by
  obtain ⟨h1, h2, h3, h4, h5, h6⟩ := h
  refine ⟨⟨⟨⟨by omega, by omega⟩, ⟨by omega, by omega⟩, ⟨by omega, by omega⟩⟩, by simp only [badM, hon]; omega⟩, hp, hr, rfl, ?_, ?_, ?_⟩ <;> simp only [hon] <;> omega
theorem mid_ack (h : Mid t n o p r B) (p' r' : Int) (hp : p ≤ p') (hr : r ≤ r') (hs : p' + r' = p + r + 1) (hB : B ≤ 1152921504606846976) :
    ackE (hon t n o p r) 1 p' 0 r' = 0 ∧ ackB (hon t n o p r) 1 p' 0 r' true = decide (r < r') ∧ ackS (hon t n o p r) 1 p' 0 r' true = hon 4 n o p' r' ∧ Head 4 n o p' r' B := by
  obtain ⟨hc, hf⟩ := mid_fine h p' r' hp hr hs hB
  obtain ⟨h1, h2, h3, h4, h5, h6⟩ := h
  have ht : (hon t n o p r).st ≠ 3 := by simp only [hon]; omega
  have hn : ¬ ((hon t n o p r).st = 3 ∨ true = false ∧ (1 : Int) = 0) := by
    rintro (hx | hx)
    · exact ht hx
    · exact absurd hx.1 (by decide)
  have hg : true = true ∧ fine (hon t n o p r) 1 p' 0 r' := ⟨rfl, hf⟩
  refine ⟨if_pos hc, ?_, ?_, h1, by omega, by omega, by omega, h5, .inr (.inr rfl)⟩
  · unfold ackB
    by_cases hz : r < r'
    · rw [decide_eq_true hz]
      exact decide_eq_true ⟨hc, ht, rfl, hf, hz⟩
    · rw [decide_eq_false hz]
      exact decide_eq_false (fun hx => hz hx.2.2.2.2)
  · unfold ackS
    rw [if_pos hc, if_neg hn, if_pos hg, if_pos (by decide)]
    simp only [hon, St.mk.injEq, true_and, and_true]
    omega
end
-- the end: a lie that is found out, and what is told behind it
theorem end_bad {n o p r B : Int} (h : Head 4 n o p r B) (hB : B ≤ 1152921504606846976) :
    ackS (hon 4 n o p r) 0 p 1 r true = ⟨3, n, o, p + r + 0, p, 0, r⟩ := by
  obtain ⟨h1, h2, h3, h4, h5, h6⟩ := h
  have hc : inAll p 1 r ∧ ¬ badM (hon 4 n o p r) 0 := ⟨⟨⟨h2, by omega⟩, ⟨by decide, by decide⟩, ⟨h3, by omega⟩⟩, by simp only [badM, hon]; omega⟩
  have hn : ¬ ((hon 4 n o p r).st = 3 ∨ true = false ∧ (0 : Int) = 0) := by simp [hon]
  have hg : ¬ (true = true ∧ fine (hon 4 n o p r) 0 p 1 r) := fun hx => absurd hx.2.2.2.1 (by decide)
  unfold ackS
  rw [if_pos hc, if_neg hn, if_neg hg]
  rfl
theorem end_none {n o p r B : Int} (h : Head 4 n o p r B) (hB : B ≤ 1152921504606846976) :
    ackE ⟨3, n, o, p + r + 0, p, 0, r⟩ 0 p 0 (r + 1) = 0 ∧ ackB ⟨3, n, o, p + r + 0, p, 0, r⟩ 0 p 0 (r + 1) true = false ∧ ackS ⟨3, n, o, p + r + 0, p, 0, r⟩ 0 p 0 (r + 1) true = ⟨3, n, o, p + r + 0 + 0, p, 0, r⟩ := by
  obtain ⟨h1, h2, h3, h4, h5, h6⟩ := h
  have hc : inAll p 0 (r + 1) ∧ ¬ badM ⟨3, n, o, p + r + 0, p, 0, r⟩ 0 := ⟨⟨⟨h2, by omega⟩, ⟨by decide, by decide⟩, ⟨by omega, by omega⟩⟩, by simp only [badM]; omega⟩
  refine ⟨if_pos hc, decide_eq_false (fun hx => hx.2.1 rfl), ?_⟩
  unfold ackS
  rw [if_pos hc, if_pos (.inl rfl)]
theorem hstop (g : Nat) (n o h x y z : Int) (w : World) (H : IsE 35 w g 3 n o h x y z) (h1 : 0 ≤ n) (h4 : n ≤ 1152921504606846976) :
    Calls Try.prog 8 #[.pointer (some ⟨g, 0, none⟩)] w fun e w' => e = .returned (.bool false) ∧ IsE 35 w' g 3 n o h x y z ∧ Only w w' g := by
  have := sent_raw g 3 n o h x y z w H h1 h4 (.inr (.inr (.inl rfl)))
  rw [show sendS ⟨3, n, o, h, x, y, z⟩ = ⟨3, n, o, h, x, y, z⟩ by simp [sendS], show sendB ⟨3, n, o, h, x, y, z⟩ = false from rfl] at this
  exact this
theorem head_in {t n o p r B : Int} (h : Head t n o p r B) : 0 ≤ n ∧ n ≤ B ∧ 0 ≤ o ∧ o ≤ B ∧ 0 ≤ p ∧ p ≤ B ∧ 0 ≤ r ∧ r ≤ B := by
  obtain ⟨h1, h2, h3, h4, h5, h6⟩ := h
  refine ⟨?_, ?_, ?_, ?_, ?_, ?_, ?_, ?_⟩ <;> omega
-- the calls
section
variable (g : Nat) (t n o p r B : Int) (w : World) (H : IsS 35 w g (hon t n o p r)) (hB : B ≤ 1152921504606846976)
include H hB
theorem hsent (h : Head t n o p r B) (ht : t ≠ 3) : Calls Try.prog 8 #[.pointer (some ⟨g, 0, none⟩)] w fun e w' => e = .returned (.bool true) ∧ (∃ t', IsS 35 w' g (hon t' (n + 1) o p r) ∧ Mid t' (n + 1) o p r (B + 1)) ∧ Only w w' g := by
  obtain ⟨hb, t', hs, hm⟩ := head_send h ht
  have := sent_any g _ B w H (head_ok h hB) hB
  rw [hb, hs] at this
  exact this.mono fun _ _ ⟨he, hI, hO⟩ => ⟨he, ⟨t', hI, hm⟩, hO⟩
theorem hlost (h : Mid t n o p r B) : Calls Try.prog 11 #[.pointer (some ⟨g, 0, none⟩), .int .i64 1] w fun e w' => e = .returned (.int .i64 0) ∧ (∃ t', IsS 35 w' g (hon t' n (o + 1) p r) ∧ Head t' n (o + 1) p r B) ∧ Only w w' g := by
  obtain ⟨hb, t', hs, hm⟩ := mid_lost h
  have := lost_any g _ B 1 w H (mid_ok h hB) hB
  rw [hb, hs] at this
  exact this.mono fun _ _ ⟨he, hI, hO⟩ => ⟨he, ⟨t', hI, hm⟩, hO⟩
theorem hack (h : Mid t n o p r B) (p' r' : Int) (b : Bool) (hp : p ≤ p') (hr : r ≤ r') (hs : p' + r' = p + r + 1) (hbb : decide (r < r') = b) :
    Calls Try.prog 9 #[.pointer (some ⟨g, 0, none⟩), .int .i64 1, .agg #[.int .i64 p', .int .i64 0, .int .i64 r'], .bool true] w fun e w' => e = .returned (.tuple #[.bool b, .int .i64 0]) ∧ IsS 35 w' g (hon 4 n o p' r') ∧ Only w w' g := by
  obtain ⟨e1, e2, e3, _⟩ := mid_ack h p' r' hp hr hs hB
  have := ack_any g _ B 1 p' 0 r' true w H (mid_ok h hB) hB
  rw [e1, e2, e3, hbb] at this
  exact this
end
theorem hbad (g : Nat) (n o p r B : Int) (w : World) (H : IsS 35 w g (hon 4 n o p r)) (hB : B ≤ 1152921504606846976) (h : Head 4 n o p r B) :
    Calls Try.prog 9 #[.pointer (some ⟨g, 0, none⟩), .int .i64 0, .agg #[.int .i64 p, .int .i64 1, .int .i64 r], .bool true] w fun e w' => (∃ (b : Bool) (v : Int), e = .returned (.tuple #[.bool b, .int .i64 v])) ∧ IsS 35 w' g ⟨3, n, o, p + r + 0, p, 0, r⟩ ∧ Only w w' g := by
  have := ack_any g _ B 0 p 1 r true w H (head_ok h hB) hB
  rw [end_bad h hB] at this
  exact this.mono fun _ _ ⟨he, hx⟩ => ⟨⟨_, _, he⟩, hx⟩
theorem hnone (g : Nat) (n o p r B : Int) (w : World) (H : IsS 35 w g ⟨3, n, o, p + r + 0, p, 0, r⟩) (hB : B ≤ 1152921504606846976) (h : Head 4 n o p r B) :
    Calls Try.prog 9 #[.pointer (some ⟨g, 0, none⟩), .int .i64 0, .agg #[.int .i64 p, .int .i64 0, .int .i64 (r + 1)], .bool true] w fun e w' => e = .returned (.tuple #[.bool false, .int .i64 0]) ∧ IsE 35 w' g 3 n o (p + r + 0 + 0) p 0 r ∧ Only w w' g := by
  obtain ⟨e1, e2, e3⟩ := end_none h hB
  obtain ⟨h1, h2, h3, h4, h5, h6⟩ := h
  have := ack_any g _ B 0 p 0 (r + 1) true w H ⟨.inr (.inr (.inl rfl)), h1, by dsimp only; omega, by dsimp only; omega, h5, h2, by dsimp only; omega, rfl, h3, by dsimp only; omega⟩ hB
  rw [e1, e2, e3] at this
  exact this
end Go.Proofs.Ytpammbkhomcjmaa

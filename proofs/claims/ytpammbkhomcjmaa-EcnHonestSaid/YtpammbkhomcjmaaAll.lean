/- Acked, in one contract. -/
import Derived.Test.YtpammbkhomcjmaaRacked
import Derived.Test.YtpammbkhomcjmaaRgood
namespace Go.Proofs.Ytpammbkhomcjmaa
open Go.RowKit

theorem ack_any (g : Nat) (s : St) (B m p q r : Int) (says : Bool) (w : World) (H : IsS 35 w g s) (ho : Ok s B) (hB : B ≤ 1152921504606846976) :
    Calls Try.prog 9 #[.pointer (some ⟨g, 0, none⟩), .int .i64 m, .agg #[.int .i64 p, .int .i64 q, .int .i64 r], .bool says] w fun e w' => e = .returned (.tuple #[.bool (ackB s m p q r says), .int .i64 (ackE s m p q r)]) ∧ IsS 35 w' g (ackS s m p q r says) ∧ Only w w' g := by
  obtain ⟨h0, h1, h2, h3, h4, h5, h6, h7, h8, h9⟩ := ho
  have h4' : s.sent ≤ 1152921504606846976 := by omega
  by_cases hi : inAll p q r
  · by_cases hm : badM s m
    · have hc : ¬ (inAll p q r ∧ ¬ badM s m) := fun hc => hc.2 hm
      rw [show ackE s m p q r = 2 from if_neg hc, show ackS s m p q r says = s from if_neg hc, show ackB s m p q r says = false from decide_eq_false (fun hx => hc hx.1)]
      exact ack_bad g s.st s.sent s.lost s.here s.l0 s.l1 s.l2 m p q r says w H h0 h1 h2 h3 h4' hi hm
    · have hc : inAll p q r ∧ ¬ badM s m := ⟨hi, hm⟩
      have hE : ackE s m p q r = 0 := if_pos hc
      rw [hE]
      by_cases ha : s.st = 3
      · rw [show ackS s m p q r says = ⟨s.st, s.sent, s.lost, s.here + m, s.l0, s.l1, s.l2⟩ from (if_pos hc).trans (if_pos (show s.st = 3 ∨ says = false ∧ m = 0 from .inl ha)), show ackB s m p q r says = false from decide_eq_false (fun hx => hx.2.1 ha)]
        have := ack_failed g s.st s.sent s.lost s.here s.l0 s.l1 s.l2 m p q r says w H h0 h1 h2 h3 h4' hi hm ha
        simpa only [IsS, ha] using this
      · cases says
        · rw [show ackB s m p q r false = false from decide_eq_false (fun hx => by cases hx.2.2.1)]
          by_cases hm0 : m = 0
          · rw [show ackS s m p q r false = ⟨s.st, s.sent, s.lost, s.here + m, s.l0, s.l1, s.l2⟩ from (if_pos hc).trans (if_pos (show s.st = 3 ∨ (false : Bool) = false ∧ m = 0 from .inr ⟨rfl, hm0⟩))]
            exact ack_mute0 g s.st s.sent s.lost s.here s.l0 s.l1 s.l2 m p q r w H h0 h1 h2 h3 h4' hi hm ha hm0
          · rw [show ackS s m p q r false = ⟨3, s.sent, s.lost, s.here + m, s.l0, s.l1, s.l2⟩ from (if_pos hc).trans ((if_neg (by rintro (hx | hx); exact ha hx; exact hm0 hx.2)).trans (if_neg (fun hx => by cases hx.1)))]
            exact ack_mute g s.st s.sent s.lost s.here s.l0 s.l1 s.l2 m p q r w H h0 h1 h2 h3 h4' hi hm ha hm0
        · have hn : ¬ (s.st = 3 ∨ true = false ∧ m = 0) := by rintro (hx | hx); exact ha hx; exact absurd hx.1 (by decide)
          by_cases hf : fine s m p q r
          · have hg : true = true ∧ fine s m p q r := ⟨rfl, hf⟩
            rw [show ackS s m p q r true = ⟨if 0 < m then 4 else s.st, s.sent, s.lost, s.here + m, p, q, r⟩ from by unfold ackS; rw [if_pos hc, if_neg hn, if_pos hg]]
            by_cases hz : s.l2 < r
            · rw [show ackB s m p q r true = true from decide_eq_true ⟨hc, ha, rfl, hf, hz⟩]
              by_cases hmm : 0 < m
              · rw [if_pos hmm]
                exact ack_mc g s.st s.sent s.lost s.here s.l0 s.l1 s.l2 m p q r w H h0 h1 h2 h3 h4' hi hm ha h5 h6 h7 h8 h9 hf hmm hz
              · rw [if_neg hmm]
                exact ack_nc g s.st s.sent s.lost s.here s.l0 s.l1 s.l2 m p q r w H h0 h1 h2 h3 h4' hi hm ha h5 h6 h7 h8 h9 hf (by omega) hz
            · rw [show ackB s m p q r true = false from decide_eq_false (fun hx => hz hx.2.2.2.2)]
              by_cases hmm : 0 < m
              · rw [if_pos hmm]
                exact ack_md g s.st s.sent s.lost s.here s.l0 s.l1 s.l2 m p q r w H h0 h1 h2 h3 h4' hi hm ha h5 h6 h7 h8 h9 hf hmm hz
              · rw [if_neg hmm]
                exact ack_nd g s.st s.sent s.lost s.here s.l0 s.l1 s.l2 m p q r w H h0 h1 h2 h3 h4' hi hm ha h5 h6 h7 h8 h9 hf (by omega) hz
          · rw [show ackB s m p q r true = false from decide_eq_false (fun hx => hf hx.2.2.2.1)]
            rw [show ackS s m p q r true = ⟨3, s.sent, s.lost, s.here + m, s.l0, s.l1, s.l2⟩ from (if_pos hc).trans ((if_neg hn).trans (if_neg (fun hx => hf hx.2)))]
            exact ack_lie g s.st s.sent s.lost s.here s.l0 s.l1 s.l2 m p q r w H h0 h1 h2 h3 h4' hi hm ha h5 h6 h7 h8 h9 hf
  · have hc : ¬ (inAll p q r ∧ ¬ badM s m) := fun hc => hi hc.1
    rw [show ackE s m p q r = 2 from if_neg hc, show ackS s m p q r says = s from if_neg hc, show ackB s m p q r says = false from decide_eq_false (fun hx => hc hx.1)]
    exact ack_out g s.st s.sent s.lost s.here s.l0 s.l1 s.l2 m p q r says w H h0 hi

theorem rack_any (g : Nat) (s : St) (B m p q r : Int) (says : Bool) (w : World) (H : IsS 43 w g s) (ho : Ok s B) (hB : B ≤ 1152921504606846976) :
    Calls Try.prog 16 #[.pointer (some ⟨g, 0, none⟩), .int .i64 m, .agg #[.int .i64 p, .int .i64 q, .int .i64 r], .bool says] w fun e w' => e = .returned (.tuple #[.bool (ackB s m p q r says), .int .i64 (ackE s m p q r)]) ∧ IsS 43 w' g (ackS s m p q r says) ∧ Only w w' g := by
  obtain ⟨h0, h1, h2, h3, h4, h5, h6, h7, h8, h9⟩ := ho
  have h4' : s.sent ≤ 1152921504606846976 := by omega
  by_cases hi : inAll p q r
  · by_cases hm : badM s m
    · have hc : ¬ (inAll p q r ∧ ¬ badM s m) := fun hc => hc.2 hm
      rw [show ackE s m p q r = 2 from if_neg hc, show ackS s m p q r says = s from if_neg hc, show ackB s m p q r says = false from decide_eq_false (fun hx => hc hx.1)]
      exact rack_bad g s.st s.sent s.lost s.here s.l0 s.l1 s.l2 m p q r says w H h0 h1 h2 h3 h4' hi hm
    · have hc : inAll p q r ∧ ¬ badM s m := ⟨hi, hm⟩
      have hE : ackE s m p q r = 0 := if_pos hc
      rw [hE]
      by_cases ha : s.st = 3
      · rw [show ackS s m p q r says = ⟨s.st, s.sent, s.lost, s.here + m, s.l0, s.l1, s.l2⟩ from (if_pos hc).trans (if_pos (show s.st = 3 ∨ says = false ∧ m = 0 from .inl ha)), show ackB s m p q r says = false from decide_eq_false (fun hx => hx.2.1 ha)]
        have := rack_failed g s.st s.sent s.lost s.here s.l0 s.l1 s.l2 m p q r says w H h0 h1 h2 h3 h4' hi hm ha
        simpa only [IsS, ha] using this
      · cases says
        · rw [show ackB s m p q r false = false from decide_eq_false (fun hx => by cases hx.2.2.1)]
          by_cases hm0 : m = 0
          · rw [show ackS s m p q r false = ⟨s.st, s.sent, s.lost, s.here + m, s.l0, s.l1, s.l2⟩ from (if_pos hc).trans (if_pos (show s.st = 3 ∨ (false : Bool) = false ∧ m = 0 from .inr ⟨rfl, hm0⟩))]
            exact rack_mute0 g s.st s.sent s.lost s.here s.l0 s.l1 s.l2 m p q r w H h0 h1 h2 h3 h4' hi hm ha hm0
          · rw [show ackS s m p q r false = ⟨3, s.sent, s.lost, s.here + m, s.l0, s.l1, s.l2⟩ from (if_pos hc).trans ((if_neg (by rintro (hx | hx); exact ha hx; exact hm0 hx.2)).trans (if_neg (fun hx => by cases hx.1)))]
            exact rack_mute g s.st s.sent s.lost s.here s.l0 s.l1 s.l2 m p q r w H h0 h1 h2 h3 h4' hi hm ha hm0
        · have hn : ¬ (s.st = 3 ∨ true = false ∧ m = 0) := by rintro (hx | hx); exact ha hx; exact absurd hx.1 (by decide)
          by_cases hf : fine s m p q r
          · have hg : true = true ∧ fine s m p q r := ⟨rfl, hf⟩
            rw [show ackS s m p q r true = ⟨if 0 < m then 4 else s.st, s.sent, s.lost, s.here + m, p, q, r⟩ from by unfold ackS; rw [if_pos hc, if_neg hn, if_pos hg]]
            by_cases hz : s.l2 < r
            · rw [show ackB s m p q r true = true from decide_eq_true ⟨hc, ha, rfl, hf, hz⟩]
              by_cases hmm : 0 < m
              · rw [if_pos hmm]
                exact rack_mc g s.st s.sent s.lost s.here s.l0 s.l1 s.l2 m p q r w H h0 h1 h2 h3 h4' hi hm ha h5 h6 h8 h9 hf hmm hz
              · rw [if_neg hmm]
                exact rack_nc g s.st s.sent s.lost s.here s.l0 s.l1 s.l2 m p q r w H h0 h1 h2 h3 h4' hi hm ha h5 h6 h8 h9 hf (by omega) hz
            · rw [show ackB s m p q r true = false from decide_eq_false (fun hx => hz hx.2.2.2.2)]
              by_cases hmm : 0 < m
              · rw [if_pos hmm]
                exact rack_md g s.st s.sent s.lost s.here s.l0 s.l1 s.l2 m p q r w H h0 h1 h2 h3 h4' hi hm ha h5 h6 h8 h9 hf hmm hz
              · rw [if_neg hmm]
                exact rack_nd g s.st s.sent s.lost s.here s.l0 s.l1 s.l2 m p q r w H h0 h1 h2 h3 h4' hi hm ha h5 h6 h8 h9 hf (by omega) hz
          · rw [show ackB s m p q r true = false from decide_eq_false (fun hx => hf hx.2.2.2.1)]
            rw [show ackS s m p q r true = ⟨3, s.sent, s.lost, s.here + m, s.l0, s.l1, s.l2⟩ from (if_pos hc).trans ((if_neg hn).trans (if_neg (fun hx => hf hx.2)))]
            exact rack_lie g s.st s.sent s.lost s.here s.l0 s.l1 s.l2 m p q r w H h0 h1 h2 h3 h4' hi hm ha h5 h6 h8 h9 hf
  · have hc : ¬ (inAll p q r ∧ ¬ badM s m) := fun hc => hi hc.1
    rw [show ackE s m p q r = 2 from if_neg hc, show ackS s m p q r says = s from if_neg hc, show ackB s m p q r says = false from decide_eq_false (fun hx => hc hx.1)]
    exact rack_out g s.st s.sent s.lost s.here s.l0 s.l1 s.l2 m p q r says w H h0 hi
end Go.Proofs.Ytpammbkhomcjmaa

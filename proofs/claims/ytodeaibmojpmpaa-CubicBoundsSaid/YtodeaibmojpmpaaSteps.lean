/- The acts, the program's, in one contract each. -/
import Derived.Test.YtodeaibmojpmpaaLaw
import Derived.Test.YtodeaibmojpmpaaLost
import Derived.Test.YtodeaibmojpmpaaAcked
import Derived.Test.YtodeaibmojpmpaaArm
namespace Go.Proofs.Ytodeaibmojpmpaa
open Go.RowKit

theorem coll_any (g : Nat) (s : St) (M : Int) (w : World) (H : IsS 28 w g s) (h : Ok s M) : Calls Try.prog 10 #[.pointer (some ⟨g, 0, none⟩)] w fun e w' => e = .returned (.tuple #[]) ∧ IsS 28 w' g (collS s) ∧ Only w w' g :=
  coll_is g s.kind s.size s.bytes s.slow s.rcv s.peak s.epoch s.start s.est w H h.z0 h.z1

theorem lost_any (g : Nat) (s : St) (M se no : Int) (w : World) (H : IsS 28 w g s) (h : Ok s M) : Calls Try.prog 13 #[.pointer (some ⟨g, 0, none⟩), .int .i64 se, .int .i64 no] w fun e w' => e = .returned (.int .i64 (lostErr se no)) ∧ IsS 28 w' g (lostS s se no) ∧ Only w w' g := by
  have b0 := h.b0; have z0 := h.z0
  unfold lostErr lostS
  by_cases ht : tm se ∧ tm no
  · rw [if_pos ht]
    by_cases hr : se ≤ s.rcv
    · rw [if_pos (.inr hr)]
      exact lost_old g s.kind s.size s.bytes s.slow s.rcv s.peak s.epoch s.start s.est se no w H h.z0 h.z1 (by omega) h.b1 ht hr
    · rw [if_neg (show ¬ (¬ (tm se ∧ tm no) ∨ se ≤ s.rcv) from fun k => k.elim (fun k => k ht) hr)]
      by_cases hk : s.kind = 0
      · rw [if_pos hk]
        exact lost_reno g s.kind s.size s.bytes s.slow s.rcv s.peak s.epoch s.start s.est se no w H h.z0 h.z1 (by omega) h.b1 ht (by omega) hk
      · rw [if_neg hk]
        by_cases hp : s.bytes < s.peak
        · rw [if_pos hp]
          exact lost_low g s.kind s.size s.bytes s.slow s.rcv s.peak s.epoch s.start s.est se no w H h.z0 h.z1 (by omega) h.b1 ht (by omega) hk hp
        · rw [if_neg hp]
          exact lost_high g s.kind s.size s.bytes s.slow s.rcv s.peak s.epoch s.start s.est se no w H h.z0 h.z1 (by omega) h.b1 ht (by omega) hk (by omega)
  · rw [if_neg ht, if_pos (.inl ht)]
    exact lost_bad g s.kind s.size s.bytes s.slow s.rcv s.peak s.epoch s.start s.est se no w H h.z0 h.z1 (by omega) h.b1 ht

theorem ack_any (g : Nat) (s : St) (M ak se no rt : Int) (fl : Bool) (w : World) (H : IsS 28 w g s) (h : Ok s M) (hM : M ≤ 1152921504606846976) : Calls Try.prog 12 #[.pointer (some ⟨g, 0, none⟩), .int .i64 ak, .int .i64 se, .int .i64 no, .int .i64 rt, .bool fl] w fun e w' => e = .returned (.int .i64 (ackErr ak se no rt)) ∧ IsS 28 w' g (ackS s ak se no rt fl) ∧ Only w w' g := by
  have b0 := h.b0; have z0 := h.z0; have a1 := h.a1; have e0 := h.e0
  unfold ackErr ackS
  by_cases hb : ackBad ak se no rt
  · rw [if_pos hb, if_pos (.inl hb)]
    by_cases h1 : ak < 0
    · exact ack_a g s.kind s.size s.bytes s.slow s.rcv s.peak s.epoch s.start s.est ak se no rt fl w H h.z0 h.z1 (by omega) h.b1 h1
    · by_cases h2 : 1048576 < ak
      · exact ack_b g s.kind s.size s.bytes s.slow s.rcv s.peak s.epoch s.start s.est ak se no rt fl w H h.z0 h.z1 (by omega) h.b1 (by omega) h2
      · by_cases h3 : tm se ∧ tm no ∧ tm rt
        · have h4 : no < se := by
            rcases hb with h | h | h | h
            · exact absurd h h1
            · exact absurd h h2
            · exact absurd h3 h
            · exact h
          exact ack_s g s.kind s.size s.bytes s.slow s.rcv s.peak s.epoch s.start s.est ak se no rt fl w H h.z0 h.z1 (by omega) h.b1 (by omega) (by omega) h3 h4
        · exact ack_t g s.kind s.size s.bytes s.slow s.rcv s.peak s.epoch s.start s.est ak se no rt fl w H h.z0 h.z1 (by omega) h.b1 (by omega) (by omega) h3
  · obtain ⟨ha0, ha1, ht, hs⟩ := good hb
    rw [if_neg hb]
    cases fl with
    | false =>
      rw [if_pos (.inr (.inl rfl))]
      exact ack_off g s.kind s.size s.bytes s.slow s.rcv s.peak s.epoch s.start s.est ak se no rt w H h.z0 h.z1 (by omega) h.b1 ha0 ha1 ht hs
    | true =>
      by_cases hr : se ≤ s.rcv
      · rw [if_pos (.inr (.inr hr))]
        exact ack_old g s.kind s.size s.bytes s.slow s.rcv s.peak s.epoch s.start s.est ak se no rt w H h.z0 h.z1 (by omega) h.b1 ha0 ha1 ht hs hr
      · rw [if_neg (show ¬ (ackBad ak se no rt ∨ true = false ∨ se ≤ s.rcv) from fun k => k.elim hb fun k => k.elim (fun k => by cases k) hr)]
        by_cases hl : s.slow < 0 ∨ s.bytes < s.slow
        · rw [if_pos hl]
          exact ack_slow g s.kind s.size s.bytes s.slow s.rcv s.peak s.epoch s.start s.est ak se no rt w H h.z0 h.z1 (by omega) h.b1 ha0 ha1 ht hs (by omega) hl
        · rw [if_neg hl]
          by_cases hk : s.kind = 0
          · rw [if_pos hk]
            exact ack_reno g s.kind s.size s.bytes s.slow s.rcv s.peak s.epoch s.start s.est ak se no rt w H h.z0 h.z1 (by omega) h.b1 ha0 ha1 ht hs (by omega) (by omega) (by omega) hk
          · rw [if_neg hk]
            by_cases he : s.epoch < 0
            · rw [if_pos he]
              exact ack_first g s.kind s.size s.bytes s.slow s.rcv s.peak s.epoch s.start s.est ak se no rt w H h.z0 h.z1 (by omega) h.b1 ha0 ha1 ht hs (by omega) (by omega) (by omega) hk h.p0 h.p1 he
            · rw [if_neg he]
              exact ack_on g s.kind s.size s.bytes s.slow s.rcv s.peak s.epoch s.start s.est ak se no rt w H h.z0 h.z1 (by omega) h.b1 ha0 ha1 ht hs (by omega) (by omega) (by omega) hk h.p0 h.p1 (by omega) h.e1 h.s0 (h.sp (by omega)) h.a0 (by omega)
end Go.Proofs.Ytodeaibmojpmpaa

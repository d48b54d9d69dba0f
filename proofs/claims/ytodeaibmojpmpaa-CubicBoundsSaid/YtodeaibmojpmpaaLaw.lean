/- What an act makes of a window, in plain. -/
import Derived.Test.YtodeaibmojpmpaaPlain
namespace Go.Proofs.Ytodeaibmojpmpaa
open Go.RowKit

def collS (s : St) : St := ⟨s.kind, s.size, 2 * s.size, s.slow, -1, s.peak, -1, s.start, s.est⟩
def lostErr (se no : Int) : Int := if tm se ∧ tm no then 0 else 2
def lostS (s : St) (se no : Int) : St :=
  if ¬ (tm se ∧ tm no) ∨ se ≤ s.rcv then s
  else if s.kind = 0 then ⟨s.kind, s.size, max (s.bytes / 2) (2 * s.size), max (s.bytes / 2) (2 * s.size), no, s.peak, s.epoch, s.start, s.est⟩
  else ⟨s.kind, s.size, max (7 * s.bytes / 10) (2 * s.size), max (7 * s.bytes / 10) (2 * s.size), no, if s.bytes < s.peak then 17 * s.bytes / 20 else s.bytes, -1, s.start, s.est⟩
def ackBad (ak se no rt : Int) : Prop := ak < 0 ∨ 1048576 < ak ∨ ¬ (tm se ∧ tm no ∧ tm rt) ∨ no < se
instance (ak se no rt : Int) : Decidable (ackBad ak se no rt) := by unfold ackBad; infer_instance
def ackErr (ak se no rt : Int) : Int := if ackBad ak se no rt then 2 else 0
def withB (s : St) (b : Int) : St := ⟨s.kind, s.size, b, s.slow, s.rcv, s.peak, s.epoch, s.start, s.est⟩
noncomputable def onS (s : St) (ak no rt : Int) : St :=
  ⟨s.kind, s.size, min (max (byN s.bytes (tgN s.peak s.bytes (curveN s.peak s.start s.size s.epoch no rt)) ak) (esN s.est s.size ak s.bytes)) 1073741824, s.slow, s.rcv, s.peak, s.epoch, s.start, esN s.est s.size ak s.bytes⟩
noncomputable def firstS (s : St) (ak no rt : Int) : St :=
  ⟨s.kind, s.size, min (max (byN s.bytes (tgN (max s.peak s.bytes) s.bytes (curveN (max s.peak s.bytes) s.bytes s.size no no rt)) ak) (esN s.bytes s.size ak s.bytes)) 1073741824, s.slow, s.rcv, max s.peak s.bytes, no, s.bytes, esN s.bytes s.size ak s.bytes⟩
noncomputable def ackS (s : St) (ak se no rt : Int) (fl : Bool) : St :=
  if ackBad ak se no rt ∨ fl = false ∨ se ≤ s.rcv then s
  else if s.slow < 0 ∨ s.bytes < s.slow then withB s (min (s.bytes + ak) 1073741824)
  else if s.kind = 0 then withB s (min (s.bytes + s.size * ak / s.bytes) 1073741824)
  else if s.epoch < 0 then firstS s ak no rt
  else onS s ak no rt
/-- What holds of every window. -/
structure Ok (s : St) (M : Int) : Prop where
  kind : s.kind = 0 ∨ s.kind = 1
  z0 : 1200 ≤ s.size
  z1 : s.size ≤ 65535
  b0 : 2 * s.size ≤ s.bytes
  b1 : s.bytes ≤ 1073741824
  e0 : -1 ≤ s.epoch
  e1 : s.epoch ≤ 1125899906842624
  p0 : 0 ≤ s.peak
  p1 : s.peak ≤ 1073741824
  s0 : 0 ≤ s.start
  sp : 0 ≤ s.epoch → s.start ≤ s.peak
  a0 : 0 ≤ s.est
  a1 : s.est ≤ M
  l0 : s.slow = -1 ∨ 2 * s.size ≤ s.slow

theorem ok_new {kd sz : Int} (h : newOk kd sz) : Ok (newS kd sz) 1073741824 := by
  obtain ⟨h0, h1, h2⟩ := h
  have hf : 2 * sz ≤ firstB sz ∧ firstB sz ≤ 1073741824 := by unfold firstB; omega
  exact ⟨h0, h1, h2, hf.1, hf.2, Int.le_refl _, show (-1 : Int) ≤ _ by decide, Int.le_refl _, show (0 : Int) ≤ _ by decide, Int.le_refl _, fun h => absurd h (show ¬ (0 : Int) ≤ -1 by decide), Int.le_refl _, show (0 : Int) ≤ _ by decide, .inl rfl⟩
theorem Ok.more {s : St} {M M' : Int} (h : Ok s M) (hm : M ≤ M') : Ok s M' := ⟨h.kind, h.z0, h.z1, h.b0, h.b1, h.e0, h.e1, h.p0, h.p1, h.s0, h.sp, h.a0, Int.le_trans h.a1 hm, h.l0⟩
theorem ok_coll {s : St} {M : Int} (h : Ok s M) : Ok (collS s) M :=
  ⟨h.kind, h.z0, h.z1, Int.le_refl _, by have := h.z1; simp only [collS]; omega, Int.le_refl _, show (-1 : Int) ≤ _ by decide, h.p0, h.p1, h.s0, fun h => absurd h (show ¬ (0 : Int) ≤ -1 by decide), h.a0, h.a1, h.l0⟩
theorem ok_lost {s : St} {M : Int} (h : Ok s M) (se no : Int) : Ok (lostS s se no) M := by
  have b0 := h.b0; have b1 := h.b1; have z0 := h.z0; have z1 := h.z1
  unfold lostS
  split
  · exact h
  · split
    · exact ⟨h.kind, h.z0, h.z1, by dsimp only; omega, by dsimp only; omega, h.e0, h.e1, h.p0, h.p1, h.s0, h.sp, h.a0, h.a1, .inr (by dsimp only; omega)⟩
    · refine ⟨h.kind, h.z0, h.z1, by dsimp only; omega, by dsimp only; omega, Int.le_refl _, show (-1 : Int) ≤ _ by decide, ?_, ?_, h.s0, fun h => absurd h (show ¬ (0 : Int) ≤ -1 by decide), h.a0, h.a1, .inr (by dsimp only; omega)⟩
      · show 0 ≤ (if s.bytes < s.peak then 17 * s.bytes / 20 else s.bytes)
        split <;> omega
      · show (if s.bytes < s.peak then 17 * s.bytes / 20 else s.bytes) ≤ 1073741824
        split <;> omega
theorem quot_ge {s : St} {M : Int} (h : Ok s M) {ak : Int} (ha : 0 ≤ ak) : 0 ≤ s.size * ak / s.bytes := by
  have b0 := h.b0; have z0 := h.z0
  exact Int.ediv_nonneg (Int.mul_nonneg (by omega) ha) (by omega)
theorem byN_ge {s : St} {M : Int} (h : Ok s M) {ak : Int} (ha0 : 0 ≤ ak) (ha1 : ak ≤ 1048576) (pk c : Int) : s.bytes ≤ byN s.bytes (tgN pk s.bytes c) ak := by
  have b0 := h.b0; have z0 := h.z0
  have ht := tg_in (pk := pk) (b := s.bytes) (c := c) (by omega)
  exact (step_in (by omega) h.b1 ht.1 ht.2 ha0 ha1).2.2.2.2.1
theorem esN_in {s : St} {M : Int} (h : Ok s M) {ak : Int} (ha0 : 0 ≤ ak) (ha1 : ak ≤ 1048576) {e : Int} (he0 : 0 ≤ e) (he1 : e ≤ 1152921504606846976) : e ≤ esN e s.size ak s.bytes ∧ esN e s.size ak s.bytes ≤ e + 300000 := by
  have b0 := h.b0; have z0 := h.z0
  exact ⟨(est_in h.z0 h.z1 ha0 ha1 (by omega) h.b1 he0 he1).2.2.2.2.2.2, est_le h.z0 ha0 ha1 h.b0⟩
theorem good {ak se no rt : Int} (h : ¬ ackBad ak se no rt) : 0 ≤ ak ∧ ak ≤ 1048576 ∧ (tm se ∧ tm no ∧ tm rt) ∧ se ≤ no := by
  unfold ackBad at h
  refine ⟨?_, ?_, ?_, ?_⟩
  · exact Decidable.byContradiction fun k => h (.inl (by omega))
  · exact Decidable.byContradiction fun k => h (.inr (.inl (by omega)))
  · exact Decidable.byContradiction fun k => h (.inr (.inr (.inl k)))
  · exact Decidable.byContradiction fun k => h (.inr (.inr (.inr (by omega))))
theorem ok_ack {s : St} {M : Int} (h : Ok s M) (hM0 : 1073741824 ≤ M) (hM : M ≤ 1152921504606846976) (ak se no rt : Int) (fl : Bool) : Ok (ackS s ak se no rt fl) (M + 300000) ∧ s.bytes ≤ (ackS s ak se no rt fl).bytes := by
  have b0 := h.b0; have b1 := h.b1; have z0 := h.z0; have z1 := h.z1; have a1 := h.a1; have p0 := h.p0; have p1 := h.p1
  have hm := h.more (show M ≤ M + 300000 by omega)
  unfold ackS
  split
  · exact ⟨hm, Int.le_refl _⟩
  · next hb =>
    obtain ⟨ha0, ha1, ⟨t1, t2, t3⟩, hs⟩ := good (fun k => hb (.inl k))
    split
    · exact ⟨⟨h.kind, h.z0, h.z1, by simp only [withB]; omega, by simp only [withB]; omega, h.e0, h.e1, h.p0, h.p1, h.s0, h.sp, h.a0, hm.a1, h.l0⟩, by simp only [withB]; omega⟩
    · split
      · have hq := quot_ge h ha0
        exact ⟨⟨h.kind, h.z0, h.z1, by simp only [withB]; omega, by simp only [withB]; omega, h.e0, h.e1, h.p0, h.p1, h.s0, h.sp, h.a0, hm.a1, h.l0⟩, by simp only [withB]; omega⟩
      · split
        · have hy := byN_ge h ha0 ha1 (max s.peak s.bytes) (curveN (max s.peak s.bytes) s.bytes s.size no no rt)
          have he := esN_in h ha0 ha1 (e := s.bytes) (by omega) (by omega)
          obtain ⟨t20, t21⟩ := t2
          exact ⟨⟨h.kind, h.z0, h.z1, by simp only [firstS]; omega, by simp only [firstS]; omega, by simp only [firstS]; omega, by simp only [firstS]; omega, by simp only [firstS]; omega, by simp only [firstS]; omega, by simp only [firstS]; omega, fun _ => by simp only [firstS]; omega, by simp only [firstS]; omega, by simp only [firstS]; omega, h.l0⟩, by simp only [firstS]; omega⟩
        · have hy := byN_ge h ha0 ha1 s.peak (curveN s.peak s.start s.size s.epoch no rt)
          have he := esN_in h ha0 ha1 (e := s.est) h.a0 (by omega)
          have a0 := h.a0
          exact ⟨⟨h.kind, h.z0, h.z1, by simp only [onS]; omega, by simp only [onS]; omega, h.e0, h.e1, h.p0, h.p1, h.s0, h.sp, by simp only [onS]; omega, by simp only [onS]; omega, h.l0⟩, by simp only [onS]; omega⟩
theorem ack_same {s : St} {ak se no rt : Int} {fl : Bool} (h : se ≤ s.rcv) : ackS s ak se no rt fl = s := by unfold ackS; rw [if_pos (.inr (.inr h))]
theorem lost_less {s : St} {M : Int} (h : Ok s M) (se no : Int) : (lostS s se no).bytes ≤ s.bytes := by
  have b0 := h.b0; have z0 := h.z0
  unfold lostS
  split
  · exact Int.le_refl _
  · split
    · show max (s.bytes / 2) (2 * s.size) ≤ s.bytes
      omega
    · show max (7 * s.bytes / 10) (2 * s.size) ≤ s.bytes
      omega
theorem lost_now {s : St} {se no : Int} (h : lostErr se no = 0) (hr : s.rcv < se) : (lostS s se no).rcv = no := by
  unfold lostErr at h
  split at h
  · next ht =>
    unfold lostS
    rw [if_neg (show ¬ (¬ (tm se ∧ tm no) ∨ se ≤ s.rcv) from fun k => k.elim (fun k => k ht) (fun k => by omega))]
    split <;> rfl
  · omega
theorem same_size (s : St) (se no : Int) : (lostS s se no).size = s.size := by unfold lostS; split <;> (try split) <;> rfl
theorem same_size' (s : St) (ak se no rt : Int) (fl : Bool) : (ackS s ak se no rt fl).size = s.size := by
  unfold ackS
  split
  · rfl
  · split
    · rfl
    · split
      · rfl
      · split <;> rfl
end Go.Proofs.Ytodeaibmojpmpaa

/- The methods of the program's Mtu and of the reference's, each by one contract: what it answers and what becomes of the one block that holds the search. -/
import Derived.Test.YtopkjlcoiifakaaRows
import Derived.Test.YtopkjlcoiifakaaBase
import Derived.WalkKit
import Derived.WalkSpells
import Derived.WalkLawsBesides
import Derived.BigQuiet
import Derived.BigRegion
import Derived.Deep.QuietTactic
namespace Go.Proofs.Ytopkjlcoiifakaa
open Go.RowKit

-- A search at block g: base, size, ceiling, losses: the program's, the reference's.
/-- Block g holds a state of type 34. -/
def IsM (w : World) (g : Nat) (x0 : Int) (x1 : Int) (x2 : Int) (x3 : Int) : Prop := Bk w g 34 #[.int .i64 x0, .int .i64 x1, .int .i64 x2, .int .i64 x3]
section
variable {w w' : World} {g k : Nat} {x0 : Int} {x1 : Int} {x2 : Int} {x3 : Int}
theorem IsM.all (h : IsM w g x0 x1 x2 x3) : (w.cell? ⟨g, 0, none⟩ = some (.int .i64 x0) ∧ w.cell? ⟨g, 1, none⟩ = some (.int .i64 x1) ∧ w.cell? ⟨g, 2, none⟩ = some (.int .i64 x2) ∧ w.cell? ⟨g, 3, none⟩ = some (.int .i64 x3)) ∧ w.frozen? ⟨g, 0, none⟩ = false ∧ w.frozen? ⟨g, 1, none⟩ = false ∧ w.frozen? ⟨g, 2, none⟩ = false ∧ w.frozen? ⟨g, 3, none⟩ = false :=
  ⟨⟨Bk.cell h 0, Bk.cell h 1, Bk.cell h 2, Bk.cell h 3⟩, Bk.frozen h 0, Bk.frozen h 1, Bk.frozen h 2, Bk.frozen h 3⟩
theorem IsM.set0 (h : IsM w g x0 x1 x2 x3) (y : Int) : IsM (w.setCell ⟨g, 0, none⟩ (.int .i64 y)) g y x1 x2 x3 := Bk.at_ h 0 _
theorem IsM.set1 (h : IsM w g x0 x1 x2 x3) (y : Int) : IsM (w.setCell ⟨g, 1, none⟩ (.int .i64 y)) g x0 y x2 x3 := Bk.at_ h 1 _
theorem IsM.set2 (h : IsM w g x0 x1 x2 x3) (y : Int) : IsM (w.setCell ⟨g, 2, none⟩ (.int .i64 y)) g x0 x1 y x3 := Bk.at_ h 2 _
theorem IsM.set3 (h : IsM w g x0 x1 x2 x3) (y : Int) : IsM (w.setCell ⟨g, 3, none⟩ (.int .i64 y)) g x0 x1 x2 y := Bk.at_ h 3 _
theorem IsM.drew (h : IsM w g x0 x1 x2 x3) : IsM w.drew g x0 x1 x2 x3 := h
theorem IsM.drewN (h : IsM w g x0 x1 x2 x3) (n : Nat) : IsM (w.drewN n) g x0 x1 x2 x3 := h
theorem IsM.alloc (h : IsM w g x0 x1 x2 x3) (o : Obj) : IsM (w.alloc o) g x0 x1 x2 x3 := Bk.alloc h o
theorem IsM.lt (h : IsM w g x0 x1 x2 x3) : g < w.heap.size := Bk.lt h
theorem IsM.below {B : Nat} (h : IsM w g x0 x1 x2 x3) (hb : Below B w w') (hg : g < B) : IsM w' g x0 x1 x2 x3 := Bk.below h hb hg
theorem IsM.only (h : IsM w g x0 x1 x2 x3) (hb : Only w w' k) (hg : g ≠ k) : IsM w' g x0 x1 x2 x3 := Bk.only h hb hg
theorem IsM.far (h : IsM w g x0 x1 x2 x3) {p : Addr} (hp : g ≠ p.block) (u : Value) : IsM (w.setCell p u) g x0 x1 x2 x3 := Bk.far h hp u
theorem IsM.new (w : World) (x0 : Int) (x1 : Int) (x2 : Int) (x3 : Int) : IsM (w.alloc (.cells #[.int .i64 x0, .int .i64 x1, .int .i64 x2, .int .i64 x3] 34)) w.heap.size x0 x1 x2 x3 := Bk.new w _ _
end
/-- Block g holds a state of type 43. -/
def IsR (w : World) (g : Nat) (x0 : Int) (x1 : Int) (x2 : Int) (x3 : Int) : Prop := Bk w g 43 #[.int .i64 x0, .int .i64 x1, .int .i64 x2, .int .i64 x3]
section
variable {w w' : World} {g k : Nat} {x0 : Int} {x1 : Int} {x2 : Int} {x3 : Int}
theorem IsR.all (h : IsR w g x0 x1 x2 x3) : (w.cell? ⟨g, 0, none⟩ = some (.int .i64 x0) ∧ w.cell? ⟨g, 1, none⟩ = some (.int .i64 x1) ∧ w.cell? ⟨g, 2, none⟩ = some (.int .i64 x2) ∧ w.cell? ⟨g, 3, none⟩ = some (.int .i64 x3)) ∧ w.frozen? ⟨g, 0, none⟩ = false ∧ w.frozen? ⟨g, 1, none⟩ = false ∧ w.frozen? ⟨g, 2, none⟩ = false ∧ w.frozen? ⟨g, 3, none⟩ = false :=
  ⟨⟨Bk.cell h 0, Bk.cell h 1, Bk.cell h 2, Bk.cell h 3⟩, Bk.frozen h 0, Bk.frozen h 1, Bk.frozen h 2, Bk.frozen h 3⟩
theorem IsR.set0 (h : IsR w g x0 x1 x2 x3) (y : Int) : IsR (w.setCell ⟨g, 0, none⟩ (.int .i64 y)) g y x1 x2 x3 := Bk.at_ h 0 _
theorem IsR.set1 (h : IsR w g x0 x1 x2 x3) (y : Int) : IsR (w.setCell ⟨g, 1, none⟩ (.int .i64 y)) g x0 y x2 x3 := Bk.at_ h 1 _
theorem IsR.set2 (h : IsR w g x0 x1 x2 x3) (y : Int) : IsR (w.setCell ⟨g, 2, none⟩ (.int .i64 y)) g x0 x1 y x3 := Bk.at_ h 2 _
theorem IsR.set3 (h : IsR w g x0 x1 x2 x3) (y : Int) : IsR (w.setCell ⟨g, 3, none⟩ (.int .i64 y)) g x0 x1 x2 y := Bk.at_ h 3 _
theorem IsR.drew (h : IsR w g x0 x1 x2 x3) : IsR w.drew g x0 x1 x2 x3 := h
theorem IsR.drewN (h : IsR w g x0 x1 x2 x3) (n : Nat) : IsR (w.drewN n) g x0 x1 x2 x3 := h
theorem IsR.alloc (h : IsR w g x0 x1 x2 x3) (o : Obj) : IsR (w.alloc o) g x0 x1 x2 x3 := Bk.alloc h o
theorem IsR.lt (h : IsR w g x0 x1 x2 x3) : g < w.heap.size := Bk.lt h
theorem IsR.below {B : Nat} (h : IsR w g x0 x1 x2 x3) (hb : Below B w w') (hg : g < B) : IsR w' g x0 x1 x2 x3 := Bk.below h hb hg
theorem IsR.only (h : IsR w g x0 x1 x2 x3) (hb : Only w w' k) (hg : g ≠ k) : IsR w' g x0 x1 x2 x3 := Bk.only h hb hg
theorem IsR.far (h : IsR w g x0 x1 x2 x3) {p : Addr} (hp : g ≠ p.block) (u : Value) : IsR (w.setCell p u) g x0 x1 x2 x3 := Bk.far h hp u
theorem IsR.new (w : World) (x0 : Int) (x1 : Int) (x2 : Int) (x3 : Int) : IsR (w.alloc (.cells #[.int .i64 x0, .int .i64 x1, .int .i64 x2, .int .i64 x3] 43)) w.heap.size x0 x1 x2 x3 := Bk.new w _ _
end

def Ok (b s c l : Int) : Prop := 1200 ≤ b ∧ b ≤ s ∧ s ≤ c ∧ c ≤ 65527 ∧ 0 ≤ l ∧ l ≤ 2
def onB (s c : Int) : Bool := decide (20 ≤ c - s)
def probeN (s c : Int) : Int := if 20 ≤ c - s then s + (c - s + 1) / 2 else 0

set_option maxHeartbeats 400000 in
theorem none_no (g : Nat) (b s c l : Int) (w : World) (h : IsM w g b s c l) (hb : 1200 ≤ b) :
    Calls Try.prog 19 #[.pointer (some ⟨g, 0, none⟩)] w fun e w' => e = .returned (.bool false) ∧ w = w' := by
  obtain ⟨⟨c0, c1, c2, c3⟩, _⟩ := h.all
  have e0 : (b == 0) = false := by simp; omega
  clear h
  go_enter Try.func19, Try.ntmps19
  go_wp2
  go_ret
  exact ⟨rfl, rfl⟩

set_option maxHeartbeats 400000 in
theorem size_any (g : Nat) (b s c l : Int) (w : World) (h : IsM w g b s c l) (hb : 1200 ≤ b) :
    Calls Try.prog 8 #[.pointer (some ⟨g, 0, none⟩)] w fun e w' => e = .returned (.int .i64 s) ∧ w = w' := by
  have H := Lib.hid h
  obtain ⟨⟨c0, c1, c2, c3⟩, _⟩ := h.all
  clear h
  go_enter Try.func8, Try.ntmps8
  go_wp2_with (go_at_call 19; refine (none_no g b s c l _ H.out hb).mono ?_; rintro e w' ⟨rfl, rfl⟩)
  go_ret
  exact ⟨rfl, rfl⟩

set_option maxHeartbeats 400000 in
theorem on_any (g k : Nat) (b s c l : Int) (w : World) (h : IsM w g b s c l) (ho : Ok b s c l) (hk : w.cell? ⟨k, 0, none⟩ = some (.pointer (some ⟨g, 0, none⟩))) :
    Calls Try.prog 20 #[.pointer (some ⟨k, 0, none⟩)] w fun e w' => e = .returned (.bool (onB s c)) ∧ ∃ n, w' = w.drewN n := by
  have H := Lib.hid h
  obtain ⟨⟨c0, c1, c2, c3⟩, _⟩ := h.all
  obtain ⟨h1, h2, h3, h4, h5, h6⟩ := ho
  clear h
  go_enter Try.func20, Try.ntmps20
  go_wp2_with fail
  go_quiet ((go_at_call 19; exact quiet_eq (none_no g b s c l _ (H.out.drewN _) h1)))
  go_wp2
  go_ret
  exact ⟨rfl, _, rfl⟩

set_option maxHeartbeats 400000 in
theorem probe_any (g : Nat) (b s c l : Int) (w : World) (h : IsM w g b s c l) (ho : Ok b s c l) :
    Calls Try.prog 9 #[.pointer (some ⟨g, 0, none⟩)] w fun e w' => e = .returned (.tuple #[.int .i64 (probeN s c), .bool (onB s c)]) ∧ Below w.heap.size w w' := by
  have H := Lib.hid h
  have HO := Lib.hid ho
  obtain ⟨h1, h2, h3, h4, h5, h6⟩ := ho
  by_cases hc : 20 ≤ c - s
  · have e1 : onB s c = true := by simp [onB, hc]
    have e2 : probeN s c = s + (c - s + 1) / 2 := by simp [probeN, hc]
    rw [e1, e2]
    have E1 := Lib.hid e1
    clear e1 e2
    obtain ⟨⟨c0, c1, c2, c3⟩, _⟩ := (IsM.alloc h (.cells #[.pointer (some ⟨g, 0, none⟩)] 22)).all
    have ck : (w.alloc (.cells #[.pointer (some ⟨g, 0, none⟩)] 22)).cell? ⟨w.heap.size, 0, none⟩ = some (.pointer (some ⟨g, 0, none⟩)) := by simp
    clear h
    go_enter Try.func9, Try.ntmps9
    go_wp2_with fail
    refine (on_any g _ b s c l _ (H.out.alloc _) HO.out ck).mono ?_
    rw [E1.out]
    rintro e w' ⟨rfl, n, rfl⟩
    go_wp2
    go_quiet (fail)
    go_wp2
    go_ret2
    exact ⟨rfl, by repeat (first | exact Below.refl _ _ | apply below_drewN | refine below_new ?_ (Nat.le_refl _) _)⟩
  · have e1 : onB s c = false := by simp [onB, hc]
    have e2 : probeN s c = 0 := by simp [probeN, hc]
    rw [e1, e2]
    have E1 := Lib.hid e1
    clear e1 e2
    have ck : (w.alloc (.cells #[.pointer (some ⟨g, 0, none⟩)] 22)).cell? ⟨w.heap.size, 0, none⟩ = some (.pointer (some ⟨g, 0, none⟩)) := by simp
    clear h
    go_enter Try.func9, Try.ntmps9
    go_wp2_with fail
    refine (on_any g _ b s c l _ (H.out.alloc _) HO.out ck).mono ?_
    rw [E1.out]
    rintro e w' ⟨rfl, n, rfl⟩
    go_wp2
    go_ret2
    exact ⟨rfl, by repeat (first | exact Below.refl _ _ | apply below_drewN | refine below_new ?_ (Nat.le_refl _) _)⟩

/-- What 'wrong' answers: 2 unless the size is the probe's of now. -/
def wrongE (s c n : Int) : Int := if 20 ≤ c - s ∧ n = s + (c - s + 1) / 2 then 0 else 2

set_option maxHeartbeats 400000 in
theorem wrong_any (g : Nat) (b s c l n : Int) (w : World) (h : IsM w g b s c l) (ho : Ok b s c l) :
    Calls Try.prog 21 #[.pointer (some ⟨g, 0, none⟩), .int .i64 n] w fun e w' => e = .returned (.int .i64 (wrongE s c n)) ∧ Below w.heap.size w w' := by
  have H := Lib.hid h
  have HO := Lib.hid ho
  have hb := ho.1
  have hlt := Bk.lt h
  clear h ho
  by_cases hc : 20 ≤ c - s
  · have e1 : onB s c = true := by simp [onB, hc]
    have e2 : probeN s c = s + (c - s + 1) / 2 := by simp [probeN, hc]
    by_cases hn : n = s + (c - s + 1) / 2
    · have e3 : wrongE s c n = 0 := by simp [wrongE, hc, hn]
      rw [e3]
      have E1 := Lib.hid e1
      have E2 := Lib.hid e2
      subst hn
      clear e1 e2 e3
      go_enter Try.func21, Try.ntmps21
      go_wp2_with fail
      refine (probe_any g b s c l _ H.out HO.out).mono ?_
      rw [E1.out, E2.out]
      rintro e w1 ⟨rfl, hbel⟩
      go_wp2_with fail
      refine (none_no g b s c l _ (Bk.below H.out hbel hlt) hb).mono ?_
      rintro e w2 ⟨rfl, rfl⟩
      go_wp2
      go_ret
      exact ⟨rfl, hbel⟩
    · have e3 : wrongE s c n = 2 := by simp [wrongE, hc, hn]
      have e4 : (s + (c - s + 1) / 2 != n) = true := by rw [bne_iff_ne]; exact fun e => hn e.symm
      rw [e3]
      have E1 := Lib.hid e1
      have E2 := Lib.hid e2
      clear e1 e2 e3 hn
      go_enter Try.func21, Try.ntmps21
      go_wp2_with fail
      refine (probe_any g b s c l _ H.out HO.out).mono ?_
      rw [E1.out, E2.out]
      rintro e w1 ⟨rfl, hbel⟩
      go_wp2_with fail
      refine (none_no g b s c l _ (Bk.below H.out hbel hlt) hb).mono ?_
      rintro e w2 ⟨rfl, rfl⟩
      go_wp2
      go_ret
      exact ⟨rfl, hbel⟩
  · have e1 : onB s c = false := by simp [onB, hc]
    have e3 : wrongE s c n = 2 := by simp [wrongE, hc]
    rw [e3]
    have E1 := Lib.hid e1
    clear e1 e3
    go_enter Try.func21, Try.ntmps21
    go_wp2_with fail
    refine (probe_any g b s c l _ H.out HO.out).mono ?_
    rw [E1.out]
    rintro e w1 ⟨rfl, hbel⟩
    go_wp2_with fail
    refine (none_no g b s c l _ (Bk.below H.out hbel hlt) hb).mono ?_
    rintro e w2 ⟨rfl, rfl⟩
    go_wp2
    go_ret
    exact ⟨rfl, hbel⟩


def ackS (s c n : Int) : Int := if wrongE s c n = 0 then n else s
def ackL (s c n l : Int) : Int := if wrongE s c n = 0 then 0 else l
theorem wrongE_cases (s c n : Int) : wrongE s c n = 0 ∨ wrongE s c n = 2 := by unfold wrongE; split <;> simp
theorem wrongE_zero {s c n : Int} (h : wrongE s c n = 0) : 20 ≤ c - s ∧ n = s + (c - s + 1) / 2 := by
  unfold wrongE at h; split at h
  · assumption
  · omega

set_option maxHeartbeats 400000 in
theorem acked_any (g : Nat) (b s c l n : Int) (w : World) (h : IsM w g b s c l) (ho : Ok b s c l) :
    Calls Try.prog 10 #[.pointer (some ⟨g, 0, none⟩), .int .i64 n] w fun e w' => e = .returned (.int .i64 (wrongE s c n)) ∧ IsM w' g b (ackS s c n) c (ackL s c n l) ∧ Only w w' g := by
  have H := Lib.hid h
  have HO := Lib.hid ho
  have hb := ho.1
  have hlt := Bk.lt h
  clear h ho
  have HW := Lib.hid (wrong_any g b s c l n w H.out HO.out)
  rcases wrongE_cases s c n with e0 | e0
  · have e1 : ackS s c n = n := by simp [ackS, e0]
    have e2 : ackL s c n l = 0 := by simp [ackL, e0]
    rw [e1, e2, e0]
    rw [e0] at HW
    clear e0 e1 e2
    go_enter Try.func10, Try.ntmps10
    go_wp2_with fail
    refine HW.out.mono ?_
    rintro e w1 ⟨rfl, hbel⟩
    have H1 := Lib.hid (Bk.below H.out hbel hlt)
    obtain ⟨⟨c0, c1, c2, c3⟩, f0, f1, f2, f3⟩ := IsM.all H1.out
    go_wp2
    go_ret
    exact ⟨rfl, (IsM.set1 H1.out n).set3 0, only_set (only_set (only_below hbel g) _ _) _ _⟩
  · have e1 : ackS s c n = s := by simp [ackS, e0]
    have e2 : ackL s c n l = l := by simp [ackL, e0]
    rw [e1, e2, e0]
    rw [e0] at HW
    clear e0 e1 e2
    go_enter Try.func10, Try.ntmps10
    go_wp2_with fail
    refine HW.out.mono ?_
    rintro e w1 ⟨rfl, hbel⟩
    go_wp2
    go_ret
    exact ⟨rfl, Bk.below H.out hbel hlt, only_below hbel g⟩

def lostC (s c n l : Int) : Int := if wrongE s c n = 0 ∧ l = 2 then n - 1 else c
def lostL (s c n l : Int) : Int := if wrongE s c n = 0 then (if l = 2 then 0 else l + 1) else l

set_option maxHeartbeats 400000 in
theorem lost_any (g : Nat) (b s c l n : Int) (w : World) (h : IsM w g b s c l) (ho : Ok b s c l) :
    Calls Try.prog 12 #[.pointer (some ⟨g, 0, none⟩), .int .i64 n] w fun e w' => e = .returned (.int .i64 (wrongE s c n)) ∧ IsM w' g b s (lostC s c n l) (lostL s c n l) ∧ Only w w' g := by
  have H := Lib.hid h
  have HO := Lib.hid ho
  obtain ⟨h1, h2, h3, h4, h5, h6⟩ := ho
  have hlt := Bk.lt h
  clear h
  have HW := Lib.hid (wrong_any g b s c l n w H.out HO.out)
  rcases wrongE_cases s c n with e0 | e0
  · have hn := (wrongE_zero e0).2
    have hn2 := (wrongE_zero e0).1
    by_cases hl : l = 2
    · have e1 : lostC s c n l = n - 1 := by simp [lostC, e0, hl]
      have e2 : lostL s c n l = 0 := by simp [lostL, e0, hl]
      have hn3 : 1200 ≤ n ∧ n ≤ 65527 := by omega
      have hl3 : (l + 1 == 3) = true := by simp; omega
      rw [e1, e2, e0]
      rw [e0] at HW
      clear e0 e1 e2 hn hl
      go_enter Try.func12, Try.ntmps12
      go_wp2_with fail
      refine HW.out.mono ?_
      rintro e w1 ⟨rfl, hbel⟩
      have H1 := Lib.hid (Bk.below H.out hbel hlt)
      obtain ⟨⟨c0, c1, c2, c3⟩, f0, f1, f2, f3⟩ := IsM.all H1.out
      go_wp2
      go_ret
      exact ⟨rfl, ((IsM.set3 H1.out (l + 1)).set2 (n - 1)).set3 0, only_set (only_set (only_set (only_below hbel g) _ _) _ _) _ _⟩
    · have e1 : lostC s c n l = c := by simp [lostC, hl]
      have e2 : lostL s c n l = l + 1 := by simp [lostL, e0, hl]
      have hl3 : (l + 1 == 3) = false := by simp; omega
      rw [e1, e2, e0]
      rw [e0] at HW
      clear e0 e1 e2 hn
      go_enter Try.func12, Try.ntmps12
      go_wp2_with fail
      refine HW.out.mono ?_
      rintro e w1 ⟨rfl, hbel⟩
      have H1 := Lib.hid (Bk.below H.out hbel hlt)
      obtain ⟨⟨c0, c1, c2, c3⟩, f0, f1, f2, f3⟩ := IsM.all H1.out
      go_wp2
      go_ret
      exact ⟨rfl, (IsM.set3 H1.out (l + 1)), (only_set (only_below hbel g) _ _)⟩
  · have e1 : lostC s c n l = c := by simp [lostC, e0]
    have e2 : lostL s c n l = l := by simp [lostL, e0]
    rw [e1, e2, e0]
    rw [e0] at HW
    clear e0 e1 e2
    go_enter Try.func12, Try.ntmps12
    go_wp2_with fail
    refine HW.out.mono ?_
    rintro e w1 ⟨rfl, hbel⟩
    go_wp2
    go_ret
    exact ⟨rfl, Bk.below H.out hbel hlt, only_below hbel g⟩

set_option maxHeartbeats 400000 in
theorem hole_any (g : Nat) (b s c l : Int) (w : World) (h : IsM w g b s c l) (ho : Ok b s c l) :
    Calls Try.prog 11 #[.pointer (some ⟨g, 0, none⟩)] w fun e w' => e = .returned (.tuple #[]) ∧ IsM w' g b b (max (s - 1) b) 0 ∧ Only w w' g := by
  have H := Lib.hid h
  obtain ⟨h1, h2, h3, h4, h5, h6⟩ := ho
  have hlt := Bk.lt h
  obtain ⟨⟨c0, c1, c2, c3⟩, f0, f1, f2, f3⟩ := h.all
  clear h
  go_enter Try.func11, Try.ntmps11
  go_wp2_with (go_at_call 19; refine (none_no g b s c l _ H.out h1).mono ?_; rintro e w' ⟨rfl, rfl⟩)
  go_region
  go_wp2
  · go_end0
    exact ⟨rfl, by rw [show max (s - 1) b = b by omega]; exact (((H.out.set2 b).set1 b).set3 0).drew, only_drew (only_set (only_set (only_set (only_refl w g) _ _) _ _) _ _)⟩
  · go_end0
    exact ⟨rfl, by rw [show max (s - 1) b = s - 1 by omega]; exact (((H.out.set2 (s - 1)).set1 b).set3 0).drew, only_drew (only_set (only_set (only_set (only_refl w g) _ _) _ _) _ _)⟩

theorem new_ok (b m : Int) (w : World) (h1 : 1200 ≤ b) (h2 : m ≤ 65527) (h3 : b ≤ m) :
    Calls Try.prog 7 #[.int .i64 b, .int .i64 m] w fun e w' => e = .returned (.tuple #[.pointer (some ⟨w.heap.size, 0, none⟩), .int .i64 0]) ∧ IsM w' w.heap.size b b m 0 ∧ Below w.heap.size w w' := by
  have e1 : decide (b < 1200) = false := by simp; omega
  have e2 : decide (65527 < m) = false := by simp; omega
  have e3 : decide (m < b) = false := by simp; omega
  go_enter Try.func7, Try.ntmps7
  go_wp2
  go_ret2
  exact ⟨rfl, IsM.new w b b m 0, below_new (Below.refl _ _) (Nat.le_refl _) _⟩

theorem new_no (b m : Int) (w : World) (h : ¬ (1200 ≤ b ∧ m ≤ 65527 ∧ b ≤ m)) :
    Calls Try.prog 7 #[.int .i64 b, .int .i64 m] w fun e w' => e = .returned (.tuple #[.pointer none, .int .i64 2]) ∧ w = w' := by
  by_cases h1 : b < 1200
  · have e1 : decide (b < 1200) = true := by simp; omega
    go_enter Try.func7, Try.ntmps7
    go_wp2
    go_ret2
    exact ⟨rfl, rfl⟩
  · have e1 : decide (b < 1200) = false := by simp; omega
    by_cases h2 : 65527 < m
    · have e2 : decide (65527 < m) = true := by simp; omega
      go_enter Try.func7, Try.ntmps7
      go_wp2
      go_ret2
      exact ⟨rfl, rfl⟩
    · have e2 : decide (65527 < m) = false := by simp; omega
      have e3 : decide (m < b) = true := by simp; omega
      have h3 : m < b := by omega
      go_enter Try.func7, Try.ntmps7
      go_wp2
      go_ret2
      exact ⟨rfl, rfl⟩

theorem probe_on (g : Nat) (b s c l : Int) (w : World) (h : IsM w g b s c l) (ho : Ok b s c l) (hc : 20 ≤ c - s) :
    Calls Try.prog 9 #[.pointer (some ⟨g, 0, none⟩)] w fun e w' => e = .returned (.tuple #[.int .i64 (s + (c - s + 1) / 2), .bool true]) ∧ IsM w' g b s c l ∧ Only w w' g :=
  (probe_any g b s c l w h ho).mono fun _ _ ⟨he, hb⟩ => ⟨by rw [he]; simp [probeN, onB, hc], h.below hb h.lt, only_below hb g⟩
theorem probe_off (g : Nat) (b s c l : Int) (w : World) (h : IsM w g b s c l) (ho : Ok b s c l) (hc : c - s < 20) :
    Calls Try.prog 9 #[.pointer (some ⟨g, 0, none⟩)] w fun e w' => e = .returned (.tuple #[.int .i64 0, .bool false]) ∧ IsM w' g b s c l ∧ Only w w' g :=
  (probe_any g b s c l w h ho).mono fun _ _ ⟨he, hb⟩ => ⟨by rw [he]; simp [probeN, onB, show ¬ 20 ≤ c - s by omega], h.below hb h.lt, only_below hb g⟩
theorem acked_ok (g : Nat) (b s c l : Int) (w : World) (h : IsM w g b s c l) (ho : Ok b s c l) (hc : 20 ≤ c - s) :
    Calls Try.prog 10 #[.pointer (some ⟨g, 0, none⟩), .int .i64 (s + (c - s + 1) / 2)] w fun e w' => e = .returned (.int .i64 0) ∧ IsM w' g b (s + (c - s + 1) / 2) c 0 ∧ Only w w' g := by
  have e0 : wrongE s c (s + (c - s + 1) / 2) = 0 := by unfold wrongE; rw [if_pos ⟨hc, rfl⟩]
  have := acked_any g b s c l (s + (c - s + 1) / 2) w h ho
  simpa only [ackS, ackL, e0, if_true] using this
end Go.Proofs.Ytopkjlcoiifakaa

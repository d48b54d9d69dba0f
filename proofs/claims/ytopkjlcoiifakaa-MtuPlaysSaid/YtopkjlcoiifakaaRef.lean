/- The reference's methods, each by one contract in the words of the program's. -/
import Derived.Test.YtopkjlcoiifakaaMeth
namespace Go.Proofs.Ytopkjlcoiifakaa
open Go.RowKit

theorem rnew_ok (b m : Int) (w : World) (h1 : 1200 ≤ b) (h2 : m ≤ 65527) (h3 : b ≤ m) :
    Calls Try.prog 13 #[.int .i64 b, .int .i64 m] w fun e w' => e = .returned (.tuple #[.pointer (some ⟨w.heap.size, 0, none⟩), .int .i64 0]) ∧ IsR w' w.heap.size b b m 0 ∧ Below w.heap.size w w' := by
  have e1 : decide (b < 1200) = false := by simp; omega
  have e2 : decide (65527 < m) = false := by simp; omega
  have e3 : decide (m < b) = false := by simp; omega
  have e4 : decide (65527 < b) = false := by simp; omega
  go_enter Try.func13, Try.ntmps13
  go_wp2
  go_ret2
  exact ⟨rfl, IsR.new w b b m 0, below_new (Below.refl _ _) (Nat.le_refl _) _⟩

theorem rnew_no (b m : Int) (w : World) (h : ¬ (1200 ≤ b ∧ m ≤ 65527 ∧ b ≤ m)) :
    Calls Try.prog 13 #[.int .i64 b, .int .i64 m] w fun e w' => e = .returned (.tuple #[.pointer none, .int .i64 2]) ∧ w = w' := by
  by_cases h1 : b < 1200
  · go_enter Try.func13, Try.ntmps13
    go_wp2
    go_ret2
    exact ⟨rfl, rfl⟩
  · have h1' : 1200 ≤ b := by omega
    by_cases h2 : 65527 < b
    · go_enter Try.func13, Try.ntmps13
      go_wp2
      go_ret2
      exact ⟨rfl, rfl⟩
    · have h2' : b ≤ 65527 := by omega
      by_cases h3 : m < b
      · go_enter Try.func13, Try.ntmps13
        go_wp2
        go_ret2
        exact ⟨rfl, rfl⟩
      · have h3' : b ≤ m := by omega
        have h4 : 65527 < m := by omega
        go_enter Try.func13, Try.ntmps13
        go_wp2
        go_ret2
        exact ⟨rfl, rfl⟩

theorem names_any (w : World) : Calls Try.prog 14 #[] w fun e w' => e = .returned (.bool true) ∧ w = w' := by
  go_enter Try.func14, Try.ntmps14
  go_wp2
  go_ret
  exact ⟨rfl, rfl⟩

set_option maxHeartbeats 400000 in
theorem rprobe_any (g : Nat) (b s c l : Int) (w : World) (h : IsR w g b s c l) (ho : Ok b s c l) :
    Calls Try.prog 15 #[.pointer (some ⟨g, 0, none⟩)] w fun e w' => e = .returned (.tuple #[.int .i64 (probeN s c), .bool (onB s c)]) ∧ ∃ n, w' = w.drewN n := by
  obtain ⟨⟨c0, c1, c2, c3⟩, _⟩ := h.all
  obtain ⟨h1, h2, h3, h4, h5, h6⟩ := ho
  clear h
  by_cases hc : 20 ≤ c - s
  · have e1 : onB s c = true := by simp [onB, hc]
    have e2 : probeN s c = (s + c + 1) / 2 := by simp only [probeN, if_pos hc]; omega
    rw [e1, e2]
    clear e1 e2
    go_enter Try.func15, Try.ntmps15
    go_wp2_with fail
    go_quiet (fail)
    go_wp2
    go_quiet (fail)
    go_wp2
    go_ret2
    exact ⟨rfl, _, by first | rfl | (rw [World.drewN_drewN])⟩
  · have e1 : onB s c = false := by simp [onB, hc]
    have e2 : probeN s c = 0 := by simp [probeN, hc]
    rw [e1, e2]
    clear e1 e2
    go_enter Try.func15, Try.ntmps15
    go_wp2_with fail
    go_quiet (fail)
    go_wp2
    go_ret2
    exact ⟨rfl, _, by first | rfl | (rw [World.drewN_drewN])⟩

theorem rprobe_w (g : Nat) (b s c l : Int) (w : World) (h : IsR w g b s c l) (ho : Ok b s c l) :
    Calls Try.prog 15 #[.pointer (some ⟨g, 0, none⟩)] w fun e w' => e = .returned (.tuple #[.int .i64 (probeN s c), .bool (onB s c)]) ∧ IsR w' g b s c l ∧ Only w w' g :=
  (rprobe_any g b s c l w h ho).mono fun _ _ ⟨he, n, hw⟩ => ⟨he, by rw [hw]; exact h.drewN n, by rw [hw]; exact only_drewN (only_refl w g) n⟩

/-- What wrongE says, as the walk of the reference asks it. -/
theorem wrong_parts {s c n : Int} : (wrongE s c n = 0 ∧ onB s c = true ∧ (probeN s c != n) = false ∧ 20 ≤ c - s ∧ n = s + (c - s + 1) / 2) ∨ (wrongE s c n = 2 ∧ onB s c = true ∧ (probeN s c != n) = true) ∨ (wrongE s c n = 2 ∧ onB s c = false) := by
  by_cases hc : 20 ≤ c - s
  · by_cases hn : n = s + (c - s + 1) / 2
    · left
      refine ⟨by unfold wrongE; rw [if_pos ⟨hc, hn⟩], by simp [onB, hc], ?_, hc, hn⟩
      rw [bne_eq_false_iff_eq]; simp only [probeN, if_pos hc]; exact hn.symm
    · right; left
      refine ⟨by unfold wrongE; rw [if_neg (fun x => hn x.2)], by simp [onB, hc], ?_⟩
      rw [bne_iff_ne]; simp only [probeN, if_pos hc]; exact fun x => hn x.symm
  · right; right
    exact ⟨by unfold wrongE; rw [if_neg (fun x => hc x.1)], by simp [onB, hc]⟩

set_option maxHeartbeats 400000 in
theorem racked_any (g : Nat) (b s c l n : Int) (w : World) (h : IsR w g b s c l) (ho : Ok b s c l) :
    Calls Try.prog 16 #[.pointer (some ⟨g, 0, none⟩), .int .i64 n] w fun e w' => e = .returned (.int .i64 (wrongE s c n)) ∧ IsR w' g b (ackS s c n) c (ackL s c n l) ∧ Only w w' g := by
  have HP := Lib.hid (rprobe_w g b s c l w h ho)
  clear h
  rcases @wrong_parts s c n with ⟨e0, e1, e2, e3, e4⟩ | ⟨e0, e1, e2⟩ | ⟨e0, e1⟩
  · rw [show ackS s c n = n by simp [ackS, e0], show ackL s c n l = 0 by simp [ackL, e0], e0]
    rw [e1] at HP
    clear e0 e1 e3 e4
    go_enter Try.func16, Try.ntmps16
    go_wp2_with fail
    refine HP.out.mono ?_
    rintro e w1 ⟨rfl, hI, hO⟩
    have HI := Lib.hid hI
    obtain ⟨⟨c0, c1, c2, c3⟩, f0, f1, f2, f3⟩ := hI.all
    clear hI
    go_wp2
    go_ret
    exact ⟨rfl, (HI.out.set1 n).set3 0, only_set (only_set hO _ _) _ _⟩
  · rw [show ackS s c n = s by simp [ackS, e0], show ackL s c n l = l by simp [ackL, e0], e0]
    rw [e1] at HP
    clear e0 e1
    go_enter Try.func16, Try.ntmps16
    go_wp2_with fail
    refine HP.out.mono ?_
    rintro e w1 ⟨rfl, hI, hO⟩
    have HI := Lib.hid hI
    clear hI
    go_wp2
    go_ret
    exact ⟨rfl, HI.out, hO⟩
  · rw [show ackS s c n = s by simp [ackS, e0], show ackL s c n l = l by simp [ackL, e0], e0]
    rw [e1] at HP
    clear e0 e1
    go_enter Try.func16, Try.ntmps16
    go_wp2_with fail
    refine HP.out.mono ?_
    rintro e w1 ⟨rfl, hI, hO⟩
    have HI := Lib.hid hI
    clear hI
    go_wp2
    go_ret
    exact ⟨rfl, HI.out, hO⟩

set_option maxHeartbeats 400000 in
theorem rlost_any (g : Nat) (b s c l n : Int) (w : World) (h : IsR w g b s c l) (ho : Ok b s c l) :
    Calls Try.prog 17 #[.pointer (some ⟨g, 0, none⟩), .int .i64 n] w fun e w' => e = .returned (.int .i64 (wrongE s c n)) ∧ IsR w' g b s (lostC s c n l) (lostL s c n l) ∧ Only w w' g := by
  have HP := Lib.hid (rprobe_w g b s c l w h ho)
  obtain ⟨h1, h2, h3, h4, h5, h6⟩ := ho
  clear h
  rcases @wrong_parts s c n with ⟨e0, e1, e2, e3, e4⟩ | ⟨e0, e1, e2⟩ | ⟨e0, e1⟩
  · have hn3 : 1200 ≤ n ∧ n ≤ 65527 := by omega
    clear e3 e4
    rw [e1] at HP
    by_cases hl : l = 2
    · rw [show lostC s c n l = n - 1 by simp [lostC, e0, hl], show lostL s c n l = 0 by simp [lostL, e0, hl], e0]
      have hl3 : (l + 1 == 3) = true := by simp; omega
      clear e0 e1 hl
      go_enter Try.func17, Try.ntmps17
      go_wp2_with fail
      refine HP.out.mono ?_
      rintro e w1 ⟨rfl, hI, hO⟩
      have HI := Lib.hid hI
      obtain ⟨⟨c0, c1, c2, c3⟩, f0, f1, f2, f3⟩ := hI.all
      clear hI
      go_wp2
      go_ret
      exact ⟨rfl, ((HI.out.set3 (l + 1)).set2 (n - 1)).set3 0, only_set (only_set (only_set hO _ _) _ _) _ _⟩
    · rw [show lostC s c n l = c by simp [lostC, hl], show lostL s c n l = l + 1 by simp [lostL, e0, hl], e0]
      have hl3 : (l + 1 == 3) = false := by simp; omega
      clear e0 e1
      go_enter Try.func17, Try.ntmps17
      go_wp2_with fail
      refine HP.out.mono ?_
      rintro e w1 ⟨rfl, hI, hO⟩
      have HI := Lib.hid hI
      obtain ⟨⟨c0, c1, c2, c3⟩, f0, f1, f2, f3⟩ := hI.all
      clear hI
      go_wp2
      go_ret
      exact ⟨rfl, HI.out.set3 (l + 1), only_set hO _ _⟩
  · rw [show lostC s c n l = c by simp [lostC, e0], show lostL s c n l = l by simp [lostL, e0], e0]
    rw [e1] at HP
    clear e0 e1
    go_enter Try.func17, Try.ntmps17
    go_wp2_with fail
    refine HP.out.mono ?_
    rintro e w1 ⟨rfl, hI, hO⟩
    have HI := Lib.hid hI
    clear hI
    go_wp2
    go_ret
    exact ⟨rfl, HI.out, hO⟩
  · rw [show lostC s c n l = c by simp [lostC, e0], show lostL s c n l = l by simp [lostL, e0], e0]
    rw [e1] at HP
    clear e0 e1
    go_enter Try.func17, Try.ntmps17
    go_wp2_with fail
    refine HP.out.mono ?_
    rintro e w1 ⟨rfl, hI, hO⟩
    have HI := Lib.hid hI
    clear hI
    go_wp2
    go_ret
    exact ⟨rfl, HI.out, hO⟩

set_option maxHeartbeats 400000 in
theorem rhole_any (g : Nat) (b s c l : Int) (w : World) (h : IsR w g b s c l) (ho : Ok b s c l) :
    Calls Try.prog 18 #[.pointer (some ⟨g, 0, none⟩)] w fun e w' => e = .returned (.tuple #[]) ∧ IsR w' g b b (max (s - 1) b) 0 ∧ Only w w' g := by
  have H := Lib.hid h
  obtain ⟨h1, h2, h3, h4, h5, h6⟩ := ho
  obtain ⟨⟨c0, c1, c2, c3⟩, f0, f1, f2, f3⟩ := h.all
  clear h
  by_cases hc : s - 1 < b
  · have hc' : decide (s - 1 < b) = true := by simpa using hc
    go_enter Try.func18, Try.ntmps18
    go_wp2_with fail
    go_quiet (fail)
    go_wp2
    go_end0
    exact ⟨rfl, by rw [show max (s - 1) b = b by omega]; exact ((((H.out.set2 (s - 1)).set2 b).set1 b).set3 0).drewN _, only_drewN (only_set (only_set (only_set (only_set (only_refl w g) _ _) _ _) _ _) _ _) _⟩
  · have hc' : decide (s - 1 < b) = false := by simpa using hc
    go_enter Try.func18, Try.ntmps18
    go_wp2_with fail
    go_quiet (fail)
    go_wp2
    go_end0
    exact ⟨rfl, by rw [show max (s - 1) b = s - 1 by omega]; exact (((H.out.set2 (s - 1)).set1 b).set3 0).drewN _, only_drewN (only_set (only_set (only_set (only_refl w g) _ _) _ _) _ _) _⟩

theorem probe_w (g : Nat) (b s c l : Int) (w : World) (h : IsM w g b s c l) (ho : Ok b s c l) :
    Calls Try.prog 9 #[.pointer (some ⟨g, 0, none⟩)] w fun e w' => e = .returned (.tuple #[.int .i64 (probeN s c), .bool (onB s c)]) ∧ IsM w' g b s c l ∧ Only w w' g :=
  (probe_any g b s c l w h ho).mono fun _ _ ⟨he, hb⟩ => ⟨he, h.below hb h.lt, only_below hb g⟩

end Go.Proofs.Ytopkjlcoiifakaa

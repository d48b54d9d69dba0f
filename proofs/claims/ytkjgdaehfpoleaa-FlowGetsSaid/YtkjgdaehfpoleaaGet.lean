/- The methods of Get, the program's and the reference's, each by one contract in the same words; numbers that may wrap stand wrapped. -/
import Derived.Test.YtkjgdaehfpoleaaGive
namespace Go.Proofs.Ytkjgdaehfpoleaa
open Go.RowKit

def win (n : Int) : Prop := 0 ≤ n ∧ n ≤ 1073741824
instance (n : Int) : Decidable (win n) := by unfold win; exact inferInstance
def takeE (L C n : Int) : Int := if n < 0 then 2 else if wrap64 (L - C) < n then 30 else 0
def takeC (L C n : Int) : Int := if n < 0 then C else if wrap64 (L - C) < n then C else wrap64 (C + n)
def usedE (C U n : Int) : Int := if n < 0 then 2 else if wrap64 (C - U) < n then 2 else 0
def usedU (C U n : Int) : Int := if n < 0 then U else if wrap64 (C - U) < n then U else wrap64 (U + n)
def updB (W L U : Int) : Bool := if 0 < W then decide (W ≤ wrap64 (2 * wrap64 (wrap64 (U + W) - L))) else false
def updX (W L U : Int) : Int := if updB W L U = true then wrap64 (U + W) else 0
def updL (W L U : Int) : Int := if updB W L U = true then wrap64 (U + W) else L

/-- What holds of a Get: what may come, what came and is not used, what is used and not told: together the window. -/
def Tok (W L C U : Int) : Prop := win W ∧ 0 ≤ wrap64 (L - C) ∧ 0 ≤ wrap64 (C - U) ∧ 0 ≤ wrap64 (wrap64 (U + W) - L) ∧ wrap64 (L - C) + wrap64 (C - U) + wrap64 (wrap64 (U + W) - L) = W

theorem tok_take {W L C U n : Int} (h : Tok W L C U) : Tok W L (takeC L C n) U := by
  obtain ⟨⟨h1, h2⟩, h3, h4, h5, h6⟩ := h
  unfold takeC
  split
  · exact ⟨⟨h1, h2⟩, h3, h4, h5, h6⟩
  · split
    · exact ⟨⟨h1, h2⟩, h3, h4, h5, h6⟩
    · unfold wrap64 at *
      refine ⟨⟨h1, h2⟩, ?_, ?_, ?_, ?_⟩ <;> unfold wrap64 <;> omega
theorem tok_used {W L C U n : Int} (h : Tok W L C U) : Tok W L C (usedU C U n) := by
  obtain ⟨⟨h1, h2⟩, h3, h4, h5, h6⟩ := h
  unfold usedU
  split
  · exact ⟨⟨h1, h2⟩, h3, h4, h5, h6⟩
  · split
    · exact ⟨⟨h1, h2⟩, h3, h4, h5, h6⟩
    · unfold wrap64 at *
      refine ⟨⟨h1, h2⟩, ?_, ?_, ?_, ?_⟩ <;> unfold wrap64 <;> omega
theorem tok_upd {W L C U : Int} (h : Tok W L C U) : Tok W (updL W L U) C U := by
  obtain ⟨⟨h1, h2⟩, h3, h4, h5, h6⟩ := h
  unfold updL
  split
  · unfold wrap64 at *
    refine ⟨⟨h1, h2⟩, ?_, ?_, ?_, ?_⟩ <;> unfold wrap64 <;> omega
  · exact ⟨⟨h1, h2⟩, h3, h4, h5, h6⟩
theorem tok_new {n : Int} (h : win n) : Tok n n 0 0 := by
  obtain ⟨h1, h2⟩ := h
  refine ⟨⟨h1, h2⟩, ?_, ?_, ?_, ?_⟩ <;> unfold wrap64 <;> omega
/-- The reference's test says the same. -/
theorem upd_ref {W L C U : Int} (h : Tok W L C U) : 0 < W → (updB W L U = !decide (wrap64 (wrap64 (U + W) - L) < (W + 1) / 2)) := by
  obtain ⟨⟨h1, h2⟩, h3, h4, h5, h6⟩ := h
  intro h0
  unfold updB
  rw [if_pos h0]
  have hd : wrap64 (wrap64 (U + W) - L) ≤ W := by omega
  generalize wrap64 (wrap64 (U + W) - L) = d at *
  rw [wrap64_id (x := 2 * d) (by omega) (by omega)]
  rw [Bool.eq_iff_iff]
  simp only [Bool.not_eq_true', decide_eq_true_eq, decide_eq_false_iff_not]
  omega

theorem wrap_is (n : Int) : IntKind.i64.wrap n = wrap64 n := by rw [IntKind.wrap_i64, wrap64]

theorem newget_ok (n : Int) (w : World) (h : win n) :
    Calls Try.prog 18 #[.int .i64 n] w fun e w' => e = .returned (.tuple #[.pointer (some ⟨w.heap.size, 0, none⟩), .int .i64 0]) ∧ IsT w' w.heap.size true n n 0 0 ∧ Below w.heap.size w w' := by
  obtain ⟨h1, h2⟩ := h
  go_enter Try.func18, Try.ntmps18
  go_wp2
  go_ret2
  exact ⟨rfl, IsT.new w true n n 0 0, below_new (Below.refl _ _) (Nat.le_refl _) _⟩
theorem rnewget_ok (n : Int) (w : World) (h : win n) :
    Calls Try.prog 19 #[.int .i64 n] w fun e w' => e = .returned (.tuple #[.pointer (some ⟨w.heap.size, 0, none⟩), .int .i64 0]) ∧ IsRT w' w.heap.size n n 0 0 ∧ Below w.heap.size w w' := by
  obtain ⟨h1, h2⟩ := h
  go_enter Try.func19, Try.ntmps19
  go_wp2
  go_ret2
  exact ⟨rfl, IsRT.new w n n 0 0, below_new (Below.refl _ _) (Nat.le_refl _) _⟩
theorem newget_no (n : Int) (w : World) (h : ¬ win n) :
    Calls Try.prog 18 #[.int .i64 n] w fun e w' => e = .returned (.tuple #[.pointer none, .int .i64 2]) ∧ w = w' := by
  unfold win at h
  by_cases h1 : 0 ≤ n
  · have h2 : 1073741824 < n := by omega
    clear h
    go_enter Try.func18, Try.ntmps18
    go_wp2
    go_ret2
    exact ⟨rfl, rfl⟩
  · have h2 : n < 0 := by omega
    clear h h1
    go_enter Try.func18, Try.ntmps18
    go_wp2
    go_ret2
    exact ⟨rfl, rfl⟩
theorem rnewget_no (n : Int) (w : World) (h : ¬ win n) :
    Calls Try.prog 19 #[.int .i64 n] w fun e w' => e = .returned (.tuple #[.pointer none, .int .i64 2]) ∧ w = w' := by
  unfold win at h
  by_cases h1 : 0 ≤ n
  · have h2 : 1073741824 < n := by omega
    clear h
    go_enter Try.func19, Try.ntmps19
    go_wp2
    go_ret2
    exact ⟨rfl, rfl⟩
  · have h2 : n < 0 := by omega
    clear h h1
    go_enter Try.func19, Try.ntmps19
    go_wp2
    go_ret2
    exact ⟨rfl, rfl⟩

set_option maxHeartbeats 400000 in
theorem tnone_no (g : Nat) (W L C U : Int) (w : World) (h : IsT w g true W L C U) :
    Calls Try.prog 29 #[.pointer (some ⟨g, 0, none⟩)] w fun e w' => e = .returned (.bool false) ∧ w = w' := by
  obtain ⟨⟨c0, c1, c2, c3, c4⟩, _⟩ := h.all
  clear h
  go_enter Try.func29, Try.ntmps29
  go_wp2
  go_ret
  exact ⟨rfl, rfl⟩

set_option maxHeartbeats 400000 in
theorem take_any (g : Nat) (W L C U n : Int) (w : World) (h : IsT w g true W L C U) :
    Calls Try.prog 20 #[.pointer (some ⟨g, 0, none⟩), .int .i64 n] w fun e w' => e = .returned (.int .i64 (takeE L C n)) ∧ IsT w' g true W L (takeC L C n) U ∧ Only w w' g := by
  have H := Lib.hid h
  obtain ⟨⟨c0, c1, c2, c3, c4⟩, f0, f1, f2, f3, f4⟩ := h.all
  clear h
  by_cases hn : n < 0
  · rw [show takeE L C n = 2 from if_pos hn, show takeC L C n = C from if_pos hn]
    go_enter Try.func20, Try.ntmps20
    go_wp2_with fail
    refine (tnone_no g W L C U _ H.out).mono ?_
    rintro e w' ⟨rfl, rfl⟩
    go_wp2
    go_ret
    exact ⟨rfl, H.out, only_refl w g⟩
  · have hn0 : 0 ≤ n := by omega
    by_cases hc : wrap64 (L - C) < n
    · rw [show takeE L C n = 30 by simp only [takeE, if_neg hn, if_pos hc], show takeC L C n = C by simp only [takeC, if_neg hn, if_pos hc]]
      go_enter Try.func20, Try.ntmps20
      go_wp2_with fail
      refine (tnone_no g W L C U _ H.out).mono ?_
      rintro e w' ⟨rfl, rfl⟩
      go_wp2_with fail
      go_quiet (fail)
      go_wp2
      go_ret
      exact ⟨rfl, H.out.drewN _, only_drewN (only_refl w g) _⟩
    · rw [show takeE L C n = 0 by simp only [takeE, if_neg hn, if_neg hc], show takeC L C n = wrap64 (C + n) by simp only [takeC, if_neg hn, if_neg hc]]
      have hc2 : n ≤ wrap64 (L - C) := by omega
      clear hc hn
      go_enter Try.func20, Try.ntmps20
      go_wp2_with fail
      refine (tnone_no g W L C U _ H.out).mono ?_
      rintro e w' ⟨rfl, rfl⟩
      go_wp2_with fail
      go_quiet (fail)
      go_wp2
      go_ret
      exact ⟨rfl, (H.out.set3 (wrap64 (C + n))).drewN _, only_drewN (only_set (only_refl w g) _ _) _⟩

set_option maxHeartbeats 400000 in
theorem rtake_any (g : Nat) (W L C U n : Int) (w : World) (h : IsRT w g W L C U) :
    Calls Try.prog 21 #[.pointer (some ⟨g, 0, none⟩), .int .i64 n] w fun e w' => e = .returned (.int .i64 (takeE L C n)) ∧ IsRT w' g W L (takeC L C n) U ∧ Only w w' g := by
  have H := Lib.hid h
  obtain ⟨⟨c0, c1, c2, c3⟩, f0, f1, f2, f3⟩ := h.all
  clear h
  by_cases hn : n < 0
  · rw [show takeE L C n = 2 from if_pos hn, show takeC L C n = C from if_pos hn]
    go_enter Try.func21, Try.ntmps21
    go_wp2
    go_ret
    exact ⟨rfl, H.out, only_refl w g⟩
  · have hn0 : 0 ≤ n := by omega
    by_cases hc : wrap64 (L - C) < n
    · rw [show takeE L C n = 30 by simp only [takeE, if_neg hn, if_pos hc], show takeC L C n = C by simp only [takeC, if_neg hn, if_pos hc]]
      go_enter Try.func21, Try.ntmps21
      go_wp2_with fail
      go_quiet (fail)
      go_wp2
      go_ret
      exact ⟨rfl, H.out.drewN _, only_drewN (only_refl w g) _⟩
    · rw [show takeE L C n = 0 by simp only [takeE, if_neg hn, if_neg hc], show takeC L C n = wrap64 (C + n) by simp only [takeC, if_neg hn, if_neg hc]]
      have hc2 : n ≤ wrap64 (L - C) := by omega
      clear hc hn
      go_enter Try.func21, Try.ntmps21
      go_wp2_with fail
      go_quiet (fail)
      go_wp2
      go_ret
      exact ⟨rfl, (H.out.set2 (wrap64 (C + n))).drewN _, only_drewN (only_set (only_refl w g) _ _) _⟩

set_option maxHeartbeats 400000 in
theorem used_any (g : Nat) (W L C U n : Int) (w : World) (h : IsT w g true W L C U) :
    Calls Try.prog 22 #[.pointer (some ⟨g, 0, none⟩), .int .i64 n] w fun e w' => e = .returned (.int .i64 (usedE C U n)) ∧ IsT w' g true W L C (usedU C U n) ∧ Only w w' g := by
  have H := Lib.hid h
  obtain ⟨⟨c0, c1, c2, c3, c4⟩, f0, f1, f2, f3, f4⟩ := h.all
  clear h
  by_cases hn : n < 0
  · rw [show usedE C U n = 2 from if_pos hn, show usedU C U n = U from if_pos hn]
    have hd : decide (n < 0) = true := by simpa using hn
    go_enter Try.func22, Try.ntmps22
    go_wp2_with fail
    refine (tnone_no g W L C U _ H.out).mono ?_
    rintro e w' ⟨rfl, rfl⟩
    go_wp2_with fail
    go_quiet (fail)
    go_wp2
    go_ret
    exact ⟨rfl, H.out.drewN _, only_drewN (only_refl w g) _⟩
  · have hn0 : 0 ≤ n := by omega
    have hd : decide (n < 0) = false := by simpa using hn
    by_cases hc : wrap64 (C - U) < n
    · rw [show usedE C U n = 2 by simp only [usedE, if_neg hn, if_pos hc], show usedU C U n = U by simp only [usedU, if_neg hn, if_pos hc]]
      have he : decide (IntKind.i64.wrap (C - U) < n) = true := by rw [wrap_is]; simpa using hc
      go_enter Try.func22, Try.ntmps22
      go_wp2_with fail
      refine (tnone_no g W L C U _ H.out).mono ?_
      rintro e w' ⟨rfl, rfl⟩
      go_wp2_with fail
      go_quiet (fail)
      go_wp2
      go_ret
      exact ⟨rfl, H.out.drewN _, only_drewN (only_refl w g) _⟩
    · rw [show usedE C U n = 0 by simp only [usedE, if_neg hn, if_neg hc], show usedU C U n = wrap64 (U + n) by simp only [usedU, if_neg hn, if_neg hc]]
      have hc2 : n ≤ wrap64 (C - U) := by omega
      have he : decide (IntKind.i64.wrap (C - U) < n) = false := by rw [wrap_is]; simpa using hc
      clear hc hn
      go_enter Try.func22, Try.ntmps22
      go_wp2_with fail
      refine (tnone_no g W L C U _ H.out).mono ?_
      rintro e w' ⟨rfl, rfl⟩
      go_wp2_with fail
      go_quiet (fail)
      go_wp2
      go_ret
      exact ⟨rfl, (H.out.set4 (wrap64 (U + n))).drewN _, only_drewN (only_set (only_refl w g) _ _) _⟩

set_option maxHeartbeats 400000 in
theorem ruse_any (g : Nat) (W L C U n : Int) (w : World) (h : IsRT w g W L C U) :
    Calls Try.prog 23 #[.pointer (some ⟨g, 0, none⟩), .int .i64 n] w fun e w' => e = .returned (.int .i64 (usedE C U n)) ∧ IsRT w' g W L C (usedU C U n) ∧ Only w w' g := by
  have H := Lib.hid h
  obtain ⟨⟨c0, c1, c2, c3⟩, f0, f1, f2, f3⟩ := h.all
  clear h
  by_cases hn : n < 0
  · rw [show usedE C U n = 2 from if_pos hn, show usedU C U n = U from if_pos hn]
    have hd : decide (n < 0) = true := by simpa using hn
    go_enter Try.func23, Try.ntmps23
    go_wp2_with fail
    go_quiet (fail)
    go_wp2
    go_ret
    exact ⟨rfl, H.out.drewN _, only_drewN (only_refl w g) _⟩
  · have hn0 : 0 ≤ n := by omega
    have hd : decide (n < 0) = false := by simpa using hn
    by_cases hc : wrap64 (C - U) < n
    · rw [show usedE C U n = 2 by simp only [usedE, if_neg hn, if_pos hc], show usedU C U n = U by simp only [usedU, if_neg hn, if_pos hc]]
      have he : decide (IntKind.i64.wrap (C - U) < n) = true := by rw [wrap_is]; simpa using hc
      go_enter Try.func23, Try.ntmps23
      go_wp2_with fail
      go_quiet (fail)
      go_wp2
      go_ret
      exact ⟨rfl, H.out.drewN _, only_drewN (only_refl w g) _⟩
    · rw [show usedE C U n = 0 by simp only [usedE, if_neg hn, if_neg hc], show usedU C U n = wrap64 (U + n) by simp only [usedU, if_neg hn, if_neg hc]]
      have hc2 : n ≤ wrap64 (C - U) := by omega
      have he : decide (IntKind.i64.wrap (C - U) < n) = false := by rw [wrap_is]; simpa using hc
      clear hc hn
      go_enter Try.func23, Try.ntmps23
      go_wp2_with fail
      go_quiet (fail)
      go_wp2
      go_ret
      exact ⟨rfl, (H.out.set3 (wrap64 (U + n))).drewN _, only_drewN (only_set (only_refl w g) _ _) _⟩

set_option maxHeartbeats 400000 in
theorem told_any (g : Nat) (W L C U : Int) (w : World) (h : IsT w g true W L C U) :
    Calls Try.prog 26 #[.pointer (some ⟨g, 0, none⟩)] w fun e w' => e = .returned (.tuple #[.int .i64 C, .int .i64 U, .int .i64 L]) ∧ IsT w' g true W L C U ∧ Only w w' g := by
  have H := Lib.hid h
  obtain ⟨⟨c0, c1, c2, c3, c4⟩, f0, f1, f2, f3, f4⟩ := h.all
  clear h
  go_enter Try.func26, Try.ntmps26
  go_wp2_with fail
  refine (tnone_no g W L C U _ H.out).mono ?_
  rintro e w' ⟨rfl, rfl⟩
  go_wp2_with fail
  go_quiet (fail)
  go_wp2
  go_ret3
  exact ⟨rfl, H.out.drewN _, only_drewN (only_refl w g) _⟩

set_option maxHeartbeats 400000 in
theorem worth_any (g k x : Nat) (W L C U : Int) (w : World) (h : IsT w g true W L C U) (_h0 : 0 ≤ W) (hk : w.cell? ⟨k, 0, none⟩ = some (.pointer (some ⟨g, 0, none⟩))) (hx : w.cell? ⟨x, 0, none⟩ = some (.int .i64 (wrap64 (U + W)))) :
    Calls Try.prog 30 #[.pointer (some ⟨k, 0, none⟩), .pointer (some ⟨x, 0, none⟩)] w fun e w' => e = .returned (.bool (updB W L U)) ∧ ∃ n, w' = w.drewN n := by
  obtain ⟨⟨c0, c1, c2, c3, c4⟩, _⟩ := h.all
  clear h
  by_cases hw : 0 < W
  · have hd : decide (0 < W) = true := by simpa using hw
    rw [show updB W L U = decide (W ≤ wrap64 (2 * wrap64 (wrap64 (U + W) - L))) from if_pos hw]
    go_enter Try.func30, Try.ntmps30
    go_wp2_with fail
    go_quiet (fail)
    go_wp2
    go_ret
    exact ⟨rfl, _, rfl⟩
  · have hd : decide (0 < W) = false := by simpa using hw
    rw [show updB W L U = false from if_neg hw]
    go_enter Try.func30, Try.ntmps30
    go_wp2_with fail
    go_quiet (fail)
    go_wp2
    go_ret
    exact ⟨rfl, _, rfl⟩
end Go.Proofs.Ytkjgdaehfpoleaa

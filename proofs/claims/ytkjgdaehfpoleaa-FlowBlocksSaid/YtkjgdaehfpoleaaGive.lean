/- The methods of Give, the program's and the reference's, each by one contract in the same words. -/
import Derived.Test.YtkjgdaehfpoleaaRows
import Derived.Test.YtkjgdaehfpoleaaStates
import Derived.WalkKit
import Derived.WalkSpells
import Derived.WalkLawsBesides
import Derived.BigQuiet
import Derived.BigRegion
import Derived.Deep.QuietTactic
namespace Go.Proofs.Ytkjgdaehfpoleaa
open Go.RowKit

def Gok (L S T : Int) : Prop := 0 ≤ S ∧ S ≤ L ∧ L ≤ 4611686018427387903 ∧ 0 ≤ T ∧ T ≤ 4611686018427387904

def lie (n : Int) : Prop := 0 ≤ n ∧ n ≤ 4611686018427387903
instance (n : Int) : Decidable (lie n) := by unfold lie; exact inferInstance
def raiseE (n : Int) : Int := if lie n then 0 else 2
def raiseL (L n : Int) : Int := if lie n then max L n else L
def spendE (L S n : Int) : Int := if n < 0 then 2 else if L - S < n then 30 else 0
def spendS (L S n : Int) : Int := if n < 0 then S else if L - S < n then S else S + n
def blkB (L S T : Int) : Bool := if S < L then false else if T = L + 1 then false else true
def blkX (L S T : Int) : Int := if S < L then 0 else if T = L + 1 then 0 else L
def blkT (L S T : Int) : Int := if S < L then T else if T = L + 1 then T else L + 1

theorem lies_yes (n : Int) (w : World) (h : lie n) : Calls Try.prog 27 #[.int .i64 n] w fun e w' => e = .returned (.bool true) ∧ w = w' := by
  obtain ⟨h1, h2⟩ := h
  go_enter Try.func27, Try.ntmps27
  go_wp2
  go_ret
  exact ⟨by first | rfl | exact ret_bool (decide_eq_true h2), rfl⟩
theorem lies_no (n : Int) (w : World) (h : ¬ lie n) : Calls Try.prog 27 #[.int .i64 n] w fun e w' => e = .returned (.bool false) ∧ w = w' := by
  unfold lie at h
  by_cases h1 : 0 ≤ n
  · have h2 : 4611686018427387903 < n := by omega
    clear h
    go_enter Try.func27, Try.ntmps27
    go_wp2
    go_ret
    exact ⟨ret_bool (by simp only [decide_eq_false_iff_not]; omega), rfl⟩
  · have h2 : n < 0 := by omega
    clear h h1
    go_enter Try.func27, Try.ntmps27
    go_wp2
    go_ret
    exact ⟨rfl, rfl⟩

theorem newgive_ok (n : Int) (w : World) (h : lie n) :
    Calls Try.prog 8 #[.int .i64 n] w fun e w' => e = .returned (.tuple #[.pointer (some ⟨w.heap.size, 0, none⟩), .int .i64 0]) ∧ IsG w' w.heap.size true n 0 0 ∧ Below w.heap.size w w' := by
  have H := Lib.hid h
  clear h
  go_enter Try.func8, Try.ntmps8
  go_wp2_with fail
  refine (lies_yes n _ H.out).mono ?_
  rintro e w' ⟨rfl, rfl⟩
  go_wp2
  go_ret2
  exact ⟨rfl, IsG.new w true n 0 0, below_new (Below.refl _ _) (Nat.le_refl _) _⟩
theorem newgive_no (n : Int) (w : World) (h : ¬ lie n) :
    Calls Try.prog 8 #[.int .i64 n] w fun e w' => e = .returned (.tuple #[.pointer none, .int .i64 2]) ∧ w = w' := by
  have H := Lib.hid h
  clear h
  go_enter Try.func8, Try.ntmps8
  go_wp2_with fail
  refine (lies_no n _ H.out).mono ?_
  rintro e w' ⟨rfl, rfl⟩
  go_wp2
  go_ret2
  exact ⟨rfl, rfl⟩
theorem rnewgive_ok (n : Int) (w : World) (h : lie n) :
    Calls Try.prog 9 #[.int .i64 n] w fun e w' => e = .returned (.tuple #[.pointer (some ⟨w.heap.size, 0, none⟩), .int .i64 0]) ∧ IsRG w' w.heap.size n 0 (-1) ∧ Below w.heap.size w w' := by
  obtain ⟨h1, h2⟩ := h
  go_enter Try.func9, Try.ntmps9
  go_wp2
  go_ret2
  exact ⟨rfl, IsRG.new w n 0 (-1), below_new (Below.refl _ _) (Nat.le_refl _) _⟩
theorem rnewgive_no (n : Int) (w : World) (h : ¬ lie n) :
    Calls Try.prog 9 #[.int .i64 n] w fun e w' => e = .returned (.tuple #[.pointer none, .int .i64 2]) ∧ w = w' := by
  unfold lie at h
  by_cases h1 : 0 ≤ n
  · have h2 : 4611686018427387903 < n := by omega
    clear h
    go_enter Try.func9, Try.ntmps9
    go_wp2
    go_ret2
    exact ⟨rfl, rfl⟩
  · have h2 : n < 0 := by omega
    clear h h1
    go_enter Try.func9, Try.ntmps9
    go_wp2
    go_ret2
    exact ⟨rfl, rfl⟩

theorem names_any (w : World) : Calls Try.prog 10 #[] w fun e w' => e = .returned (.bool true) ∧ w = w' := by
  go_enter Try.func10, Try.ntmps10
  go_wp2
  go_ret
  exact ⟨rfl, rfl⟩

set_option maxHeartbeats 400000 in
theorem gnone_no (g : Nat) (L S T : Int) (w : World) (h : IsG w g true L S T) :
    Calls Try.prog 28 #[.pointer (some ⟨g, 0, none⟩)] w fun e w' => e = .returned (.bool false) ∧ w = w' := by
  obtain ⟨⟨c0, c1, c2, c3⟩, _⟩ := h.all
  clear h
  go_enter Try.func28, Try.ntmps28
  go_wp2
  go_ret
  exact ⟨rfl, rfl⟩

set_option maxHeartbeats 400000 in
theorem raise_any (g : Nat) (L S T n : Int) (w : World) (h : IsG w g true L S T) :
    Calls Try.prog 11 #[.pointer (some ⟨g, 0, none⟩), .int .i64 n] w fun e w' => e = .returned (.int .i64 (raiseE n)) ∧ IsG w' g true (raiseL L n) S T ∧ Only w w' g := by
  have H := Lib.hid h
  obtain ⟨⟨c0, c1, c2, c3⟩, f0, f1, f2, f3⟩ := h.all
  clear h
  by_cases hl : lie n
  · rw [show raiseE n = 0 from if_pos hl, show raiseL L n = max L n from if_pos hl]
    have HL := Lib.hid hl
    clear hl
    rcases (show L < n ∨ n ≤ L by omega) with hc | hc
    all_goals
      go_enter Try.func11, Try.ntmps11
      go_wp2_with fail
      refine (gnone_no g L S T _ H.out).mono ?_
      rintro e w' ⟨rfl, rfl⟩
      go_wp2_with fail
      refine (lies_yes n _ HL.out).mono ?_
      rintro e w' ⟨rfl, rfl⟩
      go_wp2
      go_ret
    · exact ⟨rfl, by rw [show max L n = n by omega]; exact H.out.set1 n, only_set (only_refl w g) _ _⟩
    · exact ⟨rfl, by rw [show max L n = L by omega]; exact H.out.set1 L, only_set (only_refl w g) _ _⟩
  · rw [show raiseE n = 2 from if_neg hl, show raiseL L n = L from if_neg hl]
    have HL := Lib.hid hl
    clear hl
    go_enter Try.func11, Try.ntmps11
    go_wp2_with fail
    refine (gnone_no g L S T _ H.out).mono ?_
    rintro e w' ⟨rfl, rfl⟩
    go_wp2_with fail
    refine (lies_no n _ HL.out).mono ?_
    rintro e w' ⟨rfl, rfl⟩
    go_wp2
    go_ret
    exact ⟨rfl, H.out, only_refl w g⟩

set_option maxHeartbeats 400000 in
theorem rraise_any (g : Nat) (L S T n : Int) (w : World) (h : IsRG w g L S T) :
    Calls Try.prog 12 #[.pointer (some ⟨g, 0, none⟩), .int .i64 n] w fun e w' => e = .returned (.int .i64 (raiseE n)) ∧ IsRG w' g (raiseL L n) S T ∧ Only w w' g := by
  have H := Lib.hid h
  obtain ⟨⟨c0, c1, c2⟩, f0, f1, f2⟩ := h.all
  clear h
  by_cases hl : lie n
  · rw [show raiseE n = 0 from if_pos hl, show raiseL L n = max L n from if_pos hl]
    obtain ⟨hl1, hl2⟩ := hl
    rcases (show L < n ∨ n ≤ L by omega) with hc | hc
    all_goals
      go_enter Try.func12, Try.ntmps12
      go_wp2
      go_ret
    · exact ⟨rfl, by rw [show max L n = n by omega]; exact H.out.set0 n, only_set (only_refl w g) _ _⟩
    · exact ⟨rfl, by rw [show max L n = L by omega]; exact H.out, only_refl w g⟩
  · rw [show raiseE n = 2 from if_neg hl, show raiseL L n = L from if_neg hl]
    unfold lie at hl
    by_cases h1 : 0 ≤ n
    · have h2 : 4611686018427387903 < n := by omega
      clear hl
      go_enter Try.func12, Try.ntmps12
      go_wp2
      go_ret
      exact ⟨rfl, H.out, only_refl w g⟩
    · have h2 : n < 0 := by omega
      clear hl h1
      go_enter Try.func12, Try.ntmps12
      go_wp2
      go_ret
      exact ⟨rfl, H.out, only_refl w g⟩

set_option maxHeartbeats 400000 in
theorem spend_any (g : Nat) (L S T n : Int) (w : World) (h : IsG w g true L S T) (ho : Gok L S T) :
    Calls Try.prog 13 #[.pointer (some ⟨g, 0, none⟩), .int .i64 n] w fun e w' => e = .returned (.int .i64 (spendE L S n)) ∧ IsG w' g true L (spendS L S n) T ∧ Only w w' g := by
  have H := Lib.hid h
  obtain ⟨⟨c0, c1, c2, c3⟩, f0, f1, f2, f3⟩ := h.all
  obtain ⟨h1, h2, h3, h4, h5⟩ := ho
  clear h
  by_cases hn : n < 0
  · rw [show spendE L S n = 2 from if_pos hn, show spendS L S n = S from if_pos hn]
    go_enter Try.func13, Try.ntmps13
    go_wp2_with fail
    refine (gnone_no g L S T _ H.out).mono ?_
    rintro e w' ⟨rfl, rfl⟩
    go_wp2
    go_ret
    exact ⟨rfl, H.out, only_refl w g⟩
  · have hn0 : 0 ≤ n := by omega
    by_cases hc : L - S < n
    · rw [show spendE L S n = 30 by simp only [spendE, if_neg hn, if_pos hc], show spendS L S n = S by simp only [spendS, if_neg hn, if_pos hc]]
      go_enter Try.func13, Try.ntmps13
      go_wp2_with fail
      refine (gnone_no g L S T _ H.out).mono ?_
      rintro e w' ⟨rfl, rfl⟩
      go_wp2_with fail
      go_quiet (fail)
      go_wp2
      go_ret
      exact ⟨rfl, H.out.drewN _, only_drewN (only_refl w g) _⟩
    · rw [show spendE L S n = 0 by simp only [spendE, if_neg hn, if_neg hc], show spendS L S n = S + n by simp only [spendS, if_neg hn, if_neg hc]]
      have hc2 : n ≤ L - S := by omega
      go_enter Try.func13, Try.ntmps13
      go_wp2_with fail
      refine (gnone_no g L S T _ H.out).mono ?_
      rintro e w' ⟨rfl, rfl⟩
      go_wp2_with fail
      go_quiet (fail)
      go_wp2
      go_ret
      exact ⟨rfl, (H.out.set2 (S + n)).drewN _, only_drewN (only_set (only_refl w g) _ _) _⟩

set_option maxHeartbeats 400000 in
theorem rspend_any (g : Nat) (L S T T' n : Int) (w : World) (h : IsRG w g L S T') (ho : Gok L S T) :
    Calls Try.prog 14 #[.pointer (some ⟨g, 0, none⟩), .int .i64 n] w fun e w' => e = .returned (.int .i64 (spendE L S n)) ∧ IsRG w' g L (spendS L S n) T' ∧ Only w w' g := by
  have H := Lib.hid h
  obtain ⟨⟨c0, c1, c2⟩, f0, f1, f2⟩ := h.all
  obtain ⟨h1, h2, h3, h4, h5⟩ := ho
  clear h
  by_cases hn : n < 0
  · rw [show spendE L S n = 2 from if_pos hn, show spendS L S n = S from if_pos hn]
    go_enter Try.func14, Try.ntmps14
    go_wp2
    go_ret
    exact ⟨rfl, H.out, only_refl w g⟩
  · have hn0 : 0 ≤ n := by omega
    by_cases hc : L - S < n
    · rw [show spendE L S n = 30 by simp only [spendE, if_neg hn, if_pos hc], show spendS L S n = S by simp only [spendS, if_neg hn, if_pos hc]]
      go_enter Try.func14, Try.ntmps14
      go_wp2_with fail
      go_quiet (fail)
      go_wp2
      go_ret
      exact ⟨rfl, H.out.drewN _, only_drewN (only_refl w g) _⟩
    · rw [show spendE L S n = 0 by simp only [spendE, if_neg hn, if_neg hc], show spendS L S n = S + n by simp only [spendS, if_neg hn, if_neg hc]]
      have hc2 : n ≤ L - S := by omega
      go_enter Try.func14, Try.ntmps14
      go_wp2_with fail
      go_quiet (fail)
      go_wp2
      go_ret
      exact ⟨rfl, (H.out.set1 (S + n)).drewN _, only_drewN (only_set (only_refl w g) _ _) _⟩

set_option maxHeartbeats 400000 in
theorem left_any (g : Nat) (L S T : Int) (w : World) (h : IsG w g true L S T) (ho : Gok L S T) :
    Calls Try.prog 17 #[.pointer (some ⟨g, 0, none⟩)] w fun e w' => e = .returned (.tuple #[.int .i64 (L - S), .int .i64 L]) ∧ IsG w' g true L S T ∧ Only w w' g := by
  have H := Lib.hid h
  obtain ⟨⟨c0, c1, c2, c3⟩, f0, f1, f2, f3⟩ := h.all
  obtain ⟨h1, h2, h3, h4, h5⟩ := ho
  clear h
  go_enter Try.func17, Try.ntmps17
  go_wp2_with fail
  refine (gnone_no g L S T _ H.out).mono ?_
  rintro e w' ⟨rfl, rfl⟩
  go_wp2_with fail
  go_quiet (fail)
  go_wp2
  go_ret2
  exact ⟨rfl, H.out.drewN _, only_drewN (only_refl w g) _⟩

set_option maxHeartbeats 400000 in
theorem blocked_any (g : Nat) (L S T : Int) (w : World) (h : IsG w g true L S T) (ho : Gok L S T) :
    Calls Try.prog 15 #[.pointer (some ⟨g, 0, none⟩)] w fun e w' => e = .returned (.tuple #[.int .i64 (blkX L S T), .bool (blkB L S T)]) ∧ IsG w' g true L S (blkT L S T) ∧ Only w w' g := by
  have H := Lib.hid h
  obtain ⟨⟨c0, c1, c2, c3⟩, f0, f1, f2, f3⟩ := h.all
  obtain ⟨h1, h2, h3, h4, h5⟩ := ho
  clear h
  by_cases hc : S < L
  · rw [show blkX L S T = 0 from if_pos hc, show blkB L S T = false from if_pos hc, show blkT L S T = T from if_pos hc]
    have hd : decide (S < L) = true := by simpa using hc
    go_enter Try.func15, Try.ntmps15
    go_wp2_with fail
    go_quiet ((go_at_call 28; exact quiet_eq (gnone_no g L S T _ (H.out.drewN _))))
    go_wp2
    go_ret2
    exact ⟨rfl, H.out.drewN _, only_drewN (only_refl w g) _⟩
  · have hd : decide (S < L) = false := by simpa using hc
    by_cases ht : T = L + 1
    · rw [show blkX L S T = 0 by simp only [blkX, if_neg hc, if_pos ht], show blkB L S T = false by simp only [blkB, if_neg hc, if_pos ht], show blkT L S T = T by simp only [blkT, if_neg hc, if_pos ht]]
      have he : (T == L + 1) = true := by simpa using ht
      clear ht
      go_enter Try.func15, Try.ntmps15
      go_wp2_with fail
      go_quiet ((go_at_call 28; exact quiet_eq (gnone_no g L S T _ (H.out.drewN _))))
      go_wp2
      go_ret2
      exact ⟨rfl, H.out.drewN _, only_drewN (only_refl w g) _⟩
    · rw [show blkX L S T = L by simp only [blkX, if_neg hc, if_neg ht], show blkB L S T = true by simp only [blkB, if_neg hc, if_neg ht], show blkT L S T = L + 1 by simp only [blkT, if_neg hc, if_neg ht]]
      have he : (T == L + 1) = false := by simpa using ht
      clear ht
      go_enter Try.func15, Try.ntmps15
      go_wp2_with fail
      go_quiet ((go_at_call 28; exact quiet_eq (gnone_no g L S T _ (H.out.drewN _))))
      go_wp2
      go_ret2
      exact ⟨rfl, (H.out.set3 (L + 1)).drewN _, only_drewN (only_set (only_refl w g) _ _) _⟩

set_option maxHeartbeats 400000 in
theorem rblocked_any (g : Nat) (L S T : Int) (w : World) (h : IsRG w g L S (T - 1)) (ho : Gok L S T) :
    Calls Try.prog 16 #[.pointer (some ⟨g, 0, none⟩)] w fun e w' => e = .returned (.tuple #[.int .i64 (blkX L S T), .bool (blkB L S T)]) ∧ IsRG w' g L S (blkT L S T - 1) ∧ Only w w' g := by
  have H := Lib.hid h
  obtain ⟨⟨c0, c1, c2⟩, f0, f1, f2⟩ := h.all
  obtain ⟨h1, h2, h3, h4, h5⟩ := ho
  clear h
  by_cases hc : S < L
  · rw [show blkX L S T = 0 from if_pos hc, show blkB L S T = false from if_pos hc, show blkT L S T = T from if_pos hc]
    have hd : decide (S < L) = true := by simpa using hc
    go_enter Try.func16, Try.ntmps16
    go_wp2_with fail
    go_quiet (fail)
    go_wp2
    go_ret2
    exact ⟨rfl, H.out.drewN _, only_drewN (only_refl w g) _⟩
  · have hd : decide (S < L) = false := by simpa using hc
    by_cases ht : T = L + 1
    · rw [show blkX L S T = 0 by simp only [blkX, if_neg hc, if_pos ht], show blkB L S T = false by simp only [blkB, if_neg hc, if_pos ht], show blkT L S T = T by simp only [blkT, if_neg hc, if_pos ht]]
      have he : (T - 1 == L) = true := by simp; omega
      clear ht
      go_enter Try.func16, Try.ntmps16
      go_wp2_with fail
      go_quiet (fail)
      go_wp2
      go_ret2
      exact ⟨rfl, H.out.drewN _, only_drewN (only_refl w g) _⟩
    · rw [show blkX L S T = L by simp only [blkX, if_neg hc, if_neg ht], show blkB L S T = true by simp only [blkB, if_neg hc, if_neg ht], show blkT L S T = L + 1 by simp only [blkT, if_neg hc, if_neg ht]]
      have he : (T - 1 == L) = false := by simp; omega
      clear ht
      go_enter Try.func16, Try.ntmps16
      go_wp2_with fail
      go_quiet (fail)
      go_wp2
      go_ret2
      exact ⟨rfl, by rw [show L + 1 - 1 = L by omega]; exact (H.out.set2 L).drewN _, only_drewN (only_set (only_refl w g) _ _) _⟩

theorem gok_raise {L S T n : Int} (h : Gok L S T) : Gok (raiseL L n) S T := by
  obtain ⟨h1, h2, h3, h4, h5⟩ := h
  unfold raiseL
  split
  · rename_i hl; obtain ⟨hl1, hl2⟩ := hl; exact ⟨by omega, by omega, by omega, by omega, by omega⟩
  · exact ⟨by omega, by omega, by omega, by omega, by omega⟩
theorem gok_spend {L S T n : Int} (h : Gok L S T) : Gok L (spendS L S n) T := by
  obtain ⟨h1, h2, h3, h4, h5⟩ := h
  unfold spendS
  split
  · exact ⟨by omega, by omega, by omega, by omega, by omega⟩
  · split
    · exact ⟨by omega, by omega, by omega, by omega, by omega⟩
    · exact ⟨by omega, by omega, by omega, by omega, by omega⟩
theorem gok_blocked {L S T : Int} (h : Gok L S T) : Gok L S (blkT L S T) := by
  obtain ⟨h1, h2, h3, h4, h5⟩ := h
  unfold blkT
  split
  · exact ⟨by omega, by omega, by omega, by omega, by omega⟩
  · split
    · exact ⟨by omega, by omega, by omega, by omega, by omega⟩
    · exact ⟨by omega, by omega, by omega, by omega, by omega⟩
end Go.Proofs.Ytkjgdaehfpoleaa

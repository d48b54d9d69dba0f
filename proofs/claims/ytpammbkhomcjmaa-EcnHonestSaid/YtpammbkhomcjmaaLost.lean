/- Lost, the program's and the reference's. -/
import Derived.Test.YtpammbkhomcjmaaSent
namespace Go.Proofs.Ytpammbkhomcjmaa
open Go.RowKit

set_option maxHeartbeats 1600000 in
theorem lost_raw (g : Nat) (a n o h x y z m : Int) (w : World) (H : IsE 35 w g a n o h x y z) (ha : a = 1 ∨ a = 2 ∨ a = 3 ∨ a = 4) (h1 : 0 ≤ o) (h2 : 0 ≤ h) (h3 : o + h ≤ n) (h4 : n ≤ 1152921504606846976) :
    Calls Try.prog 11 #[.pointer (some ⟨g, 0, none⟩), .int .i64 m] w fun e w' => e = .returned (.int .i64 (loseE ⟨a, n, o, h, x, y, z⟩ m)) ∧ IsS 35 w' g (loseS ⟨a, n, o, h, x, y, z⟩ m) ∧ Only w w' g := by
  have HI := Lib.hid H
  have HO := Lib.hid (only_refl w g)
  clear H
  by_cases hb : badM ⟨a, n, o, h, x, y, z⟩ m
  · rw [show loseE ⟨a, n, o, h, x, y, z⟩ m = 2 from if_pos hb, show loseS ⟨a, n, o, h, x, y, z⟩ m = ⟨a, n, o, h, x, y, z⟩ from if_pos hb]
    have HA := Lib.hid ha
    clear ha
    have hb2 : m < 0 ∨ n - o - h < m := hb
    have HB := Lib.hid hb2
    clear hb hb2
    go_enter Try.func11, Try.ntmps11
    go_wp2_with fail
    refine (wrong_is g a n o h x y z _ m HI.out HA.out h1 h2 h3 h4).mono ?_
    rw [if_pos HB.out]
    rintro e w' ⟨rfl, k, rfl⟩
    go_wp2
    go_ret
    exact ⟨rfl, HI.out.drewN k, only_drewN HO.out k⟩
  · rw [show loseE ⟨a, n, o, h, x, y, z⟩ m = 0 from if_neg hb, show loseS ⟨a, n, o, h, x, y, z⟩ m = ⟨if allLost ⟨a, n, o, h, x, y, z⟩ m then 3 else a, n, o + m, h, x, y, z⟩ from if_neg hb]
    have hm0 : 0 ≤ m := by simp only [badM] at hb; omega
    have hm1 : m ≤ n - o - h := by simp only [badM] at hb; omega
    clear hb
    have s1 : IntKind.i64.wrap (o + m) = o + m := wr_in (by omega) (by omega)
    rcases ha with rfl | rfl | rfl | rfl
    · rcases (show n < 10 ∨ 10 ≤ n ∧ o + m ≠ n ∨ 10 ≤ n ∧ o + m = n by omega) with hn | ⟨hn, hl⟩ | ⟨hn, hl⟩
      · rw [if_neg (show ¬ allLost ⟨1, n, o, h, x, y, z⟩ m by simp only [allLost]; omega)]
        have d0 : decide (10 ≤ n) = false := decide_eq_false (by omega)
        go_enter Try.func11, Try.ntmps11
        go_wp2_with fail
        refine (wrong_is g 1 n o h x y z _ m HI.out (by decide) h1 h2 h3 h4).mono ?_
        rw [if_neg (show ¬ (m < 0 ∨ n - o - h < m) by omega)]
        rintro e w' ⟨rfl, k, rfl⟩
        have HI2 := Lib.hid (HI.out.drewN k)
        have HO2 := Lib.hid (only_drewN HO.out k)
        clear HI HO
        generalize w.drewN k = w2 at *
        obtain ⟨⟨c0, c1, c2, c3, c4, c5, c6⟩, f0, f1, f2, f3, f4, f5, f6⟩ := HI2.out.all
        go_wp2_with fail
        clear c0 c1 c2 c3 c4 c5 c6 f0 f1 f2 f3 f4 f5 f6
        have HI3 := Lib.hid (HI2.out.set2 (o + m))
        have HO3 := Lib.hid (only_set HO2.out 2 (.int .i64 (o + m)))
        clear HI2 HO2
        generalize w2.setCell ⟨g, 2, none⟩ (.int .i64 (o + m)) = w3 at *
        obtain ⟨⟨c0, c1, c2, c3, c4, c5, c6⟩, f0, f1, f2, f3, f4, f5, f6⟩ := HI3.out.all
        go_quiet (fail)
        go_wp2
        go_ret
        exact ⟨rfl, HI3.out.drewN _, only_drewN HO3.out _⟩
      · rw [if_neg (show ¬ allLost ⟨1, n, o, h, x, y, z⟩ m by simp only [allLost]; omega)]
        have d0 : decide (10 ≤ n) = true := decide_eq_true (by omega)
        have d1 : (o + m == n) = false := by simp [hl]
        clear hl
        go_enter Try.func11, Try.ntmps11
        go_wp2_with fail
        refine (wrong_is g 1 n o h x y z _ m HI.out (by decide) h1 h2 h3 h4).mono ?_
        rw [if_neg (show ¬ (m < 0 ∨ n - o - h < m) by omega)]
        rintro e w' ⟨rfl, k, rfl⟩
        have HI2 := Lib.hid (HI.out.drewN k)
        have HO2 := Lib.hid (only_drewN HO.out k)
        clear HI HO
        generalize w.drewN k = w2 at *
        obtain ⟨⟨c0, c1, c2, c3, c4, c5, c6⟩, f0, f1, f2, f3, f4, f5, f6⟩ := HI2.out.all
        go_wp2_with fail
        clear c0 c1 c2 c3 c4 c5 c6 f0 f1 f2 f3 f4 f5 f6
        have HI3 := Lib.hid (HI2.out.set2 (o + m))
        have HO3 := Lib.hid (only_set HO2.out 2 (.int .i64 (o + m)))
        clear HI2 HO2
        generalize w2.setCell ⟨g, 2, none⟩ (.int .i64 (o + m)) = w3 at *
        obtain ⟨⟨c0, c1, c2, c3, c4, c5, c6⟩, f0, f1, f2, f3, f4, f5, f6⟩ := HI3.out.all
        go_quiet (fail)
        go_wp2
        go_ret
        exact ⟨rfl, HI3.out.drewN _, only_drewN HO3.out _⟩
      · rw [if_pos (show allLost ⟨1, n, o, h, x, y, z⟩ m from ⟨by simp, hn, hl⟩)]
        have d0 : decide (10 ≤ n) = true := decide_eq_true (by omega)
        have d1 : (o + m == n) = true := by simp [hl]
        clear hl
        go_enter Try.func11, Try.ntmps11
        go_wp2_with fail
        refine (wrong_is g 1 n o h x y z _ m HI.out (by decide) h1 h2 h3 h4).mono ?_
        rw [if_neg (show ¬ (m < 0 ∨ n - o - h < m) by omega)]
        rintro e w' ⟨rfl, k, rfl⟩
        have HI2 := Lib.hid (HI.out.drewN k)
        have HO2 := Lib.hid (only_drewN HO.out k)
        clear HI HO
        generalize w.drewN k = w2 at *
        obtain ⟨⟨c0, c1, c2, c3, c4, c5, c6⟩, f0, f1, f2, f3, f4, f5, f6⟩ := HI2.out.all
        go_wp2_with fail
        clear c0 c1 c2 c3 c4 c5 c6 f0 f1 f2 f3 f4 f5 f6
        have HI3 := Lib.hid (HI2.out.set2 (o + m))
        have HO3 := Lib.hid (only_set HO2.out 2 (.int .i64 (o + m)))
        clear HI2 HO2
        generalize w2.setCell ⟨g, 2, none⟩ (.int .i64 (o + m)) = w3 at *
        obtain ⟨⟨c0, c1, c2, c3, c4, c5, c6⟩, f0, f1, f2, f3, f4, f5, f6⟩ := HI3.out.all
        go_quiet (fail)
        go_wp2
        go_ret
        exact ⟨rfl, by first | exact IsE.set0 (HI3.out.drewN _) 3 | exact (HI3.out.set0 3).drewN _, by first | exact only_set (only_drewN HO3.out _) 0 _ | exact only_drewN (only_set HO3.out 0 _) _⟩
    · rcases (show n < 10 ∨ 10 ≤ n ∧ o + m ≠ n ∨ 10 ≤ n ∧ o + m = n by omega) with hn | ⟨hn, hl⟩ | ⟨hn, hl⟩
      · rw [if_neg (show ¬ allLost ⟨2, n, o, h, x, y, z⟩ m by simp only [allLost]; omega)]
        have d0 : decide (10 ≤ n) = false := decide_eq_false (by omega)
        go_enter Try.func11, Try.ntmps11
        go_wp2_with fail
        refine (wrong_is g 2 n o h x y z _ m HI.out (by decide) h1 h2 h3 h4).mono ?_
        rw [if_neg (show ¬ (m < 0 ∨ n - o - h < m) by omega)]
        rintro e w' ⟨rfl, k, rfl⟩
        have HI2 := Lib.hid (HI.out.drewN k)
        have HO2 := Lib.hid (only_drewN HO.out k)
        clear HI HO
        generalize w.drewN k = w2 at *
        obtain ⟨⟨c0, c1, c2, c3, c4, c5, c6⟩, f0, f1, f2, f3, f4, f5, f6⟩ := HI2.out.all
        go_wp2_with fail
        clear c0 c1 c2 c3 c4 c5 c6 f0 f1 f2 f3 f4 f5 f6
        have HI3 := Lib.hid (HI2.out.set2 (o + m))
        have HO3 := Lib.hid (only_set HO2.out 2 (.int .i64 (o + m)))
        clear HI2 HO2
        generalize w2.setCell ⟨g, 2, none⟩ (.int .i64 (o + m)) = w3 at *
        obtain ⟨⟨c0, c1, c2, c3, c4, c5, c6⟩, f0, f1, f2, f3, f4, f5, f6⟩ := HI3.out.all
        go_quiet (fail)
        go_wp2
        go_ret
        exact ⟨rfl, HI3.out.drewN _, only_drewN HO3.out _⟩
      · rw [if_neg (show ¬ allLost ⟨2, n, o, h, x, y, z⟩ m by simp only [allLost]; omega)]
        have d0 : decide (10 ≤ n) = true := decide_eq_true (by omega)
        have d1 : (o + m == n) = false := by simp [hl]
        clear hl
        go_enter Try.func11, Try.ntmps11
        go_wp2_with fail
        refine (wrong_is g 2 n o h x y z _ m HI.out (by decide) h1 h2 h3 h4).mono ?_
        rw [if_neg (show ¬ (m < 0 ∨ n - o - h < m) by omega)]
        rintro e w' ⟨rfl, k, rfl⟩
        have HI2 := Lib.hid (HI.out.drewN k)
        have HO2 := Lib.hid (only_drewN HO.out k)
        clear HI HO
        generalize w.drewN k = w2 at *
        obtain ⟨⟨c0, c1, c2, c3, c4, c5, c6⟩, f0, f1, f2, f3, f4, f5, f6⟩ := HI2.out.all
        go_wp2_with fail
        clear c0 c1 c2 c3 c4 c5 c6 f0 f1 f2 f3 f4 f5 f6
        have HI3 := Lib.hid (HI2.out.set2 (o + m))
        have HO3 := Lib.hid (only_set HO2.out 2 (.int .i64 (o + m)))
        clear HI2 HO2
        generalize w2.setCell ⟨g, 2, none⟩ (.int .i64 (o + m)) = w3 at *
        obtain ⟨⟨c0, c1, c2, c3, c4, c5, c6⟩, f0, f1, f2, f3, f4, f5, f6⟩ := HI3.out.all
        go_quiet (fail)
        go_wp2
        go_ret
        exact ⟨rfl, HI3.out.drewN _, only_drewN HO3.out _⟩
      · rw [if_pos (show allLost ⟨2, n, o, h, x, y, z⟩ m from ⟨by simp, hn, hl⟩)]
        have d0 : decide (10 ≤ n) = true := decide_eq_true (by omega)
        have d1 : (o + m == n) = true := by simp [hl]
        clear hl
        go_enter Try.func11, Try.ntmps11
        go_wp2_with fail
        refine (wrong_is g 2 n o h x y z _ m HI.out (by decide) h1 h2 h3 h4).mono ?_
        rw [if_neg (show ¬ (m < 0 ∨ n - o - h < m) by omega)]
        rintro e w' ⟨rfl, k, rfl⟩
        have HI2 := Lib.hid (HI.out.drewN k)
        have HO2 := Lib.hid (only_drewN HO.out k)
        clear HI HO
        generalize w.drewN k = w2 at *
        obtain ⟨⟨c0, c1, c2, c3, c4, c5, c6⟩, f0, f1, f2, f3, f4, f5, f6⟩ := HI2.out.all
        go_wp2_with fail
        clear c0 c1 c2 c3 c4 c5 c6 f0 f1 f2 f3 f4 f5 f6
        have HI3 := Lib.hid (HI2.out.set2 (o + m))
        have HO3 := Lib.hid (only_set HO2.out 2 (.int .i64 (o + m)))
        clear HI2 HO2
        generalize w2.setCell ⟨g, 2, none⟩ (.int .i64 (o + m)) = w3 at *
        obtain ⟨⟨c0, c1, c2, c3, c4, c5, c6⟩, f0, f1, f2, f3, f4, f5, f6⟩ := HI3.out.all
        go_quiet (fail)
        go_wp2
        go_ret
        exact ⟨rfl, by first | exact IsE.set0 (HI3.out.drewN _) 3 | exact (HI3.out.set0 3).drewN _, by first | exact only_set (only_drewN HO3.out _) 0 _ | exact only_drewN (only_set HO3.out 0 _) _⟩
    · rw [if_neg (show ¬ allLost ⟨3, n, o, h, x, y, z⟩ m by simp only [allLost]; omega)]
      go_enter Try.func11, Try.ntmps11
      go_wp2_with fail
      refine (wrong_is g 3 n o h x y z _ m HI.out (by decide) h1 h2 h3 h4).mono ?_
      rw [if_neg (show ¬ (m < 0 ∨ n - o - h < m) by omega)]
      rintro e w' ⟨rfl, k, rfl⟩
      have HI2 := Lib.hid (HI.out.drewN k)
      have HO2 := Lib.hid (only_drewN HO.out k)
      clear HI HO
      generalize w.drewN k = w2 at *
      obtain ⟨⟨c0, c1, c2, c3, c4, c5, c6⟩, f0, f1, f2, f3, f4, f5, f6⟩ := HI2.out.all
      go_wp2_with fail
      clear c0 c1 c2 c3 c4 c5 c6 f0 f1 f2 f3 f4 f5 f6
      have HI3 := Lib.hid (HI2.out.set2 (o + m))
      have HO3 := Lib.hid (only_set HO2.out 2 (.int .i64 (o + m)))
      clear HI2 HO2
      generalize w2.setCell ⟨g, 2, none⟩ (.int .i64 (o + m)) = w3 at *
      obtain ⟨⟨c0, c1, c2, c3, c4, c5, c6⟩, f0, f1, f2, f3, f4, f5, f6⟩ := HI3.out.all
      go_quiet (fail)
      go_wp2
      go_ret
      exact ⟨rfl, HI3.out.drewN _, only_drewN HO3.out _⟩
    · rw [if_neg (show ¬ allLost ⟨4, n, o, h, x, y, z⟩ m by simp only [allLost]; omega)]
      go_enter Try.func11, Try.ntmps11
      go_wp2_with fail
      refine (wrong_is g 4 n o h x y z _ m HI.out (by decide) h1 h2 h3 h4).mono ?_
      rw [if_neg (show ¬ (m < 0 ∨ n - o - h < m) by omega)]
      rintro e w' ⟨rfl, k, rfl⟩
      have HI2 := Lib.hid (HI.out.drewN k)
      have HO2 := Lib.hid (only_drewN HO.out k)
      clear HI HO
      generalize w.drewN k = w2 at *
      obtain ⟨⟨c0, c1, c2, c3, c4, c5, c6⟩, f0, f1, f2, f3, f4, f5, f6⟩ := HI2.out.all
      go_wp2_with fail
      clear c0 c1 c2 c3 c4 c5 c6 f0 f1 f2 f3 f4 f5 f6
      have HI3 := Lib.hid (HI2.out.set2 (o + m))
      have HO3 := Lib.hid (only_set HO2.out 2 (.int .i64 (o + m)))
      clear HI2 HO2
      generalize w2.setCell ⟨g, 2, none⟩ (.int .i64 (o + m)) = w3 at *
      obtain ⟨⟨c0, c1, c2, c3, c4, c5, c6⟩, f0, f1, f2, f3, f4, f5, f6⟩ := HI3.out.all
      go_quiet (fail)
      go_wp2
      go_ret
      exact ⟨rfl, HI3.out.drewN _, only_drewN HO3.out _⟩
theorem lost_any (g : Nat) (s : St) (B m : Int) (w : World) (H : IsS 35 w g s) (ho : Ok s B) (hB : B ≤ 1152921504606846976) : Calls Try.prog 11 #[.pointer (some ⟨g, 0, none⟩), .int .i64 m] w fun e w' => e = .returned (.int .i64 (loseE s m)) ∧ IsS 35 w' g (loseS s m) ∧ Only w w' g := by
  obtain ⟨h0, h1, h2, h3, h4, _⟩ := ho
  exact lost_raw g s.st s.sent s.lost s.here s.l0 s.l1 s.l2 m w H h0 h1 h2 h3 (by omega)

set_option maxHeartbeats 1600000 in
theorem rlose_raw (g : Nat) (a n o h x y z m : Int) (w : World) (H : IsE 43 w g a n o h x y z) (ha : a = 1 ∨ a = 2 ∨ a = 3 ∨ a = 4) (h1 : 0 ≤ o) (h2 : 0 ≤ h) (h3 : o + h ≤ n) (h4 : n ≤ 1152921504606846976) :
    Calls Try.prog 15 #[.pointer (some ⟨g, 0, none⟩), .int .i64 m] w fun e w' => e = .returned (.int .i64 (loseE ⟨a, n, o, h, x, y, z⟩ m)) ∧ IsS 43 w' g (loseS ⟨a, n, o, h, x, y, z⟩ m) ∧ Only w w' g := by
  have HI := Lib.hid H
  have HO := Lib.hid (only_refl w g)
  clear H
  by_cases hb : badM ⟨a, n, o, h, x, y, z⟩ m
  · rw [show loseE ⟨a, n, o, h, x, y, z⟩ m = 2 from if_pos hb, show loseS ⟨a, n, o, h, x, y, z⟩ m = ⟨a, n, o, h, x, y, z⟩ from if_pos hb]
    have HA := Lib.hid ha
    clear ha
    have hb2 : m < 0 ∨ n - o - h < m := hb
    have HB := Lib.hid hb2
    clear hb hb2
    go_enter Try.func15, Try.ntmps15
    go_wp2_with fail
    refine (rwrong_is g a n o h x y z _ m HI.out h1 h2 h3 h4).mono ?_
    rw [decide_eq_true HB.out]
    rintro e w' ⟨rfl, k, rfl⟩
    go_wp2
    go_ret
    exact ⟨rfl, HI.out.drewN k, only_drewN HO.out k⟩
  · rw [show loseE ⟨a, n, o, h, x, y, z⟩ m = 0 from if_neg hb, show loseS ⟨a, n, o, h, x, y, z⟩ m = ⟨if allLost ⟨a, n, o, h, x, y, z⟩ m then 3 else a, n, o + m, h, x, y, z⟩ from if_neg hb]
    have hm0 : 0 ≤ m := by simp only [badM] at hb; omega
    have hm1 : m ≤ n - o - h := by simp only [badM] at hb; omega
    clear hb
    have s1 : IntKind.i64.wrap (o + m) = o + m := wr_in (by omega) (by omega)
    rcases ha with rfl | rfl | rfl | rfl
    · rcases (show n < 10 ∨ 10 ≤ n ∧ o + m ≠ n ∨ 10 ≤ n ∧ o + m = n by omega) with hn | ⟨hn, hl⟩ | ⟨hn, hl⟩
      · rw [if_neg (show ¬ allLost ⟨1, n, o, h, x, y, z⟩ m by simp only [allLost]; omega)]
        have d0 : decide (10 ≤ n) = false := decide_eq_false (by omega)
        rcases (show o + m = n ∨ o + m ≠ n by omega) with hl | hl
        · have d1 : (o + m == n) = true := by simp [hl]
          clear hl
          go_enter Try.func15, Try.ntmps15
          go_wp2_with fail
          refine (rwrong_is g 1 n o h x y z _ m HI.out h1 h2 h3 h4).mono ?_
          rw [decide_eq_false (show ¬ (m < 0 ∨ n - o - h < m) by omega)]
          rintro e w' ⟨rfl, k, rfl⟩
          have HI2 := Lib.hid (HI.out.drewN k)
          have HO2 := Lib.hid (only_drewN HO.out k)
          clear HI HO
          generalize w.drewN k = w2 at *
          obtain ⟨⟨c0, c1, c2, c3, c4, c5, c6⟩, f0, f1, f2, f3, f4, f5, f6⟩ := HI2.out.all
          go_wp2_with fail
          clear c0 c1 c2 c3 c4 c5 c6 f0 f1 f2 f3 f4 f5 f6
          have HI3 := Lib.hid (HI2.out.set2 (o + m))
          have HO3 := Lib.hid (only_set HO2.out 2 (.int .i64 (o + m)))
          clear HI2 HO2
          generalize w2.setCell ⟨g, 2, none⟩ (.int .i64 (o + m)) = w3 at *
          obtain ⟨⟨c0, c1, c2, c3, c4, c5, c6⟩, f0, f1, f2, f3, f4, f5, f6⟩ := HI3.out.all
          go_quiet (fail)
          go_wp2
          go_ret
          exact ⟨rfl, HI3.out.drewN _, only_drewN HO3.out _⟩
        · have d1 : (o + m == n) = false := by simp [hl]
          clear hl
          go_enter Try.func15, Try.ntmps15
          go_wp2_with fail
          refine (rwrong_is g 1 n o h x y z _ m HI.out h1 h2 h3 h4).mono ?_
          rw [decide_eq_false (show ¬ (m < 0 ∨ n - o - h < m) by omega)]
          rintro e w' ⟨rfl, k, rfl⟩
          have HI2 := Lib.hid (HI.out.drewN k)
          have HO2 := Lib.hid (only_drewN HO.out k)
          clear HI HO
          generalize w.drewN k = w2 at *
          obtain ⟨⟨c0, c1, c2, c3, c4, c5, c6⟩, f0, f1, f2, f3, f4, f5, f6⟩ := HI2.out.all
          go_wp2_with fail
          clear c0 c1 c2 c3 c4 c5 c6 f0 f1 f2 f3 f4 f5 f6
          have HI3 := Lib.hid (HI2.out.set2 (o + m))
          have HO3 := Lib.hid (only_set HO2.out 2 (.int .i64 (o + m)))
          clear HI2 HO2
          generalize w2.setCell ⟨g, 2, none⟩ (.int .i64 (o + m)) = w3 at *
          obtain ⟨⟨c0, c1, c2, c3, c4, c5, c6⟩, f0, f1, f2, f3, f4, f5, f6⟩ := HI3.out.all
          go_quiet (fail)
          go_wp2
          go_ret
          exact ⟨rfl, HI3.out.drewN _, only_drewN HO3.out _⟩
      · rw [if_neg (show ¬ allLost ⟨1, n, o, h, x, y, z⟩ m by simp only [allLost]; omega)]
        have d0 : decide (10 ≤ n) = true := decide_eq_true (by omega)
        have d1 : (o + m == n) = false := by simp [hl]
        clear hl
        go_enter Try.func15, Try.ntmps15
        go_wp2_with fail
        refine (rwrong_is g 1 n o h x y z _ m HI.out h1 h2 h3 h4).mono ?_
        rw [decide_eq_false (show ¬ (m < 0 ∨ n - o - h < m) by omega)]
        rintro e w' ⟨rfl, k, rfl⟩
        have HI2 := Lib.hid (HI.out.drewN k)
        have HO2 := Lib.hid (only_drewN HO.out k)
        clear HI HO
        generalize w.drewN k = w2 at *
        obtain ⟨⟨c0, c1, c2, c3, c4, c5, c6⟩, f0, f1, f2, f3, f4, f5, f6⟩ := HI2.out.all
        go_wp2_with fail
        clear c0 c1 c2 c3 c4 c5 c6 f0 f1 f2 f3 f4 f5 f6
        have HI3 := Lib.hid (HI2.out.set2 (o + m))
        have HO3 := Lib.hid (only_set HO2.out 2 (.int .i64 (o + m)))
        clear HI2 HO2
        generalize w2.setCell ⟨g, 2, none⟩ (.int .i64 (o + m)) = w3 at *
        obtain ⟨⟨c0, c1, c2, c3, c4, c5, c6⟩, f0, f1, f2, f3, f4, f5, f6⟩ := HI3.out.all
        go_quiet (fail)
        go_wp2
        go_ret
        exact ⟨rfl, HI3.out.drewN _, only_drewN HO3.out _⟩
      · rw [if_pos (show allLost ⟨1, n, o, h, x, y, z⟩ m from ⟨by simp, hn, hl⟩)]
        have d0 : decide (10 ≤ n) = true := decide_eq_true (by omega)
        have d1 : (o + m == n) = true := by simp [hl]
        clear hl
        go_enter Try.func15, Try.ntmps15
        go_wp2_with fail
        refine (rwrong_is g 1 n o h x y z _ m HI.out h1 h2 h3 h4).mono ?_
        rw [decide_eq_false (show ¬ (m < 0 ∨ n - o - h < m) by omega)]
        rintro e w' ⟨rfl, k, rfl⟩
        have HI2 := Lib.hid (HI.out.drewN k)
        have HO2 := Lib.hid (only_drewN HO.out k)
        clear HI HO
        generalize w.drewN k = w2 at *
        obtain ⟨⟨c0, c1, c2, c3, c4, c5, c6⟩, f0, f1, f2, f3, f4, f5, f6⟩ := HI2.out.all
        go_wp2_with fail
        clear c0 c1 c2 c3 c4 c5 c6 f0 f1 f2 f3 f4 f5 f6
        have HI3 := Lib.hid (HI2.out.set2 (o + m))
        have HO3 := Lib.hid (only_set HO2.out 2 (.int .i64 (o + m)))
        clear HI2 HO2
        generalize w2.setCell ⟨g, 2, none⟩ (.int .i64 (o + m)) = w3 at *
        obtain ⟨⟨c0, c1, c2, c3, c4, c5, c6⟩, f0, f1, f2, f3, f4, f5, f6⟩ := HI3.out.all
        go_quiet (fail)
        go_wp2
        go_ret
        exact ⟨rfl, by first | exact IsE.set0 (HI3.out.drewN _) 3 | exact (HI3.out.set0 3).drewN _, by first | exact only_set (only_drewN HO3.out _) 0 _ | exact only_drewN (only_set HO3.out 0 _) _⟩
    · rcases (show n < 10 ∨ 10 ≤ n ∧ o + m ≠ n ∨ 10 ≤ n ∧ o + m = n by omega) with hn | ⟨hn, hl⟩ | ⟨hn, hl⟩
      · rw [if_neg (show ¬ allLost ⟨2, n, o, h, x, y, z⟩ m by simp only [allLost]; omega)]
        have d0 : decide (10 ≤ n) = false := decide_eq_false (by omega)
        rcases (show o + m = n ∨ o + m ≠ n by omega) with hl | hl
        · have d1 : (o + m == n) = true := by simp [hl]
          clear hl
          go_enter Try.func15, Try.ntmps15
          go_wp2_with fail
          refine (rwrong_is g 2 n o h x y z _ m HI.out h1 h2 h3 h4).mono ?_
          rw [decide_eq_false (show ¬ (m < 0 ∨ n - o - h < m) by omega)]
          rintro e w' ⟨rfl, k, rfl⟩
          have HI2 := Lib.hid (HI.out.drewN k)
          have HO2 := Lib.hid (only_drewN HO.out k)
          clear HI HO
          generalize w.drewN k = w2 at *
          obtain ⟨⟨c0, c1, c2, c3, c4, c5, c6⟩, f0, f1, f2, f3, f4, f5, f6⟩ := HI2.out.all
          go_wp2_with fail
          clear c0 c1 c2 c3 c4 c5 c6 f0 f1 f2 f3 f4 f5 f6
          have HI3 := Lib.hid (HI2.out.set2 (o + m))
          have HO3 := Lib.hid (only_set HO2.out 2 (.int .i64 (o + m)))
          clear HI2 HO2
          generalize w2.setCell ⟨g, 2, none⟩ (.int .i64 (o + m)) = w3 at *
          obtain ⟨⟨c0, c1, c2, c3, c4, c5, c6⟩, f0, f1, f2, f3, f4, f5, f6⟩ := HI3.out.all
          go_quiet (fail)
          go_wp2
          go_ret
          exact ⟨rfl, HI3.out.drewN _, only_drewN HO3.out _⟩
        · have d1 : (o + m == n) = false := by simp [hl]
          clear hl
          go_enter Try.func15, Try.ntmps15
          go_wp2_with fail
          refine (rwrong_is g 2 n o h x y z _ m HI.out h1 h2 h3 h4).mono ?_
          rw [decide_eq_false (show ¬ (m < 0 ∨ n - o - h < m) by omega)]
          rintro e w' ⟨rfl, k, rfl⟩
          have HI2 := Lib.hid (HI.out.drewN k)
          have HO2 := Lib.hid (only_drewN HO.out k)
          clear HI HO
          generalize w.drewN k = w2 at *
          obtain ⟨⟨c0, c1, c2, c3, c4, c5, c6⟩, f0, f1, f2, f3, f4, f5, f6⟩ := HI2.out.all
          go_wp2_with fail
          clear c0 c1 c2 c3 c4 c5 c6 f0 f1 f2 f3 f4 f5 f6
          have HI3 := Lib.hid (HI2.out.set2 (o + m))
          have HO3 := Lib.hid (only_set HO2.out 2 (.int .i64 (o + m)))
          clear HI2 HO2
          generalize w2.setCell ⟨g, 2, none⟩ (.int .i64 (o + m)) = w3 at *
          obtain ⟨⟨c0, c1, c2, c3, c4, c5, c6⟩, f0, f1, f2, f3, f4, f5, f6⟩ := HI3.out.all
          go_quiet (fail)
          go_wp2
          go_ret
          exact ⟨rfl, HI3.out.drewN _, only_drewN HO3.out _⟩
      · rw [if_neg (show ¬ allLost ⟨2, n, o, h, x, y, z⟩ m by simp only [allLost]; omega)]
        have d0 : decide (10 ≤ n) = true := decide_eq_true (by omega)
        have d1 : (o + m == n) = false := by simp [hl]
        clear hl
        go_enter Try.func15, Try.ntmps15
        go_wp2_with fail
        refine (rwrong_is g 2 n o h x y z _ m HI.out h1 h2 h3 h4).mono ?_
        rw [decide_eq_false (show ¬ (m < 0 ∨ n - o - h < m) by omega)]
        rintro e w' ⟨rfl, k, rfl⟩
        have HI2 := Lib.hid (HI.out.drewN k)
        have HO2 := Lib.hid (only_drewN HO.out k)
        clear HI HO
        generalize w.drewN k = w2 at *
        obtain ⟨⟨c0, c1, c2, c3, c4, c5, c6⟩, f0, f1, f2, f3, f4, f5, f6⟩ := HI2.out.all
        go_wp2_with fail
        clear c0 c1 c2 c3 c4 c5 c6 f0 f1 f2 f3 f4 f5 f6
        have HI3 := Lib.hid (HI2.out.set2 (o + m))
        have HO3 := Lib.hid (only_set HO2.out 2 (.int .i64 (o + m)))
        clear HI2 HO2
        generalize w2.setCell ⟨g, 2, none⟩ (.int .i64 (o + m)) = w3 at *
        obtain ⟨⟨c0, c1, c2, c3, c4, c5, c6⟩, f0, f1, f2, f3, f4, f5, f6⟩ := HI3.out.all
        go_quiet (fail)
        go_wp2
        go_ret
        exact ⟨rfl, HI3.out.drewN _, only_drewN HO3.out _⟩
      · rw [if_pos (show allLost ⟨2, n, o, h, x, y, z⟩ m from ⟨by simp, hn, hl⟩)]
        have d0 : decide (10 ≤ n) = true := decide_eq_true (by omega)
        have d1 : (o + m == n) = true := by simp [hl]
        clear hl
        go_enter Try.func15, Try.ntmps15
        go_wp2_with fail
        refine (rwrong_is g 2 n o h x y z _ m HI.out h1 h2 h3 h4).mono ?_
        rw [decide_eq_false (show ¬ (m < 0 ∨ n - o - h < m) by omega)]
        rintro e w' ⟨rfl, k, rfl⟩
        have HI2 := Lib.hid (HI.out.drewN k)
        have HO2 := Lib.hid (only_drewN HO.out k)
        clear HI HO
        generalize w.drewN k = w2 at *
        obtain ⟨⟨c0, c1, c2, c3, c4, c5, c6⟩, f0, f1, f2, f3, f4, f5, f6⟩ := HI2.out.all
        go_wp2_with fail
        clear c0 c1 c2 c3 c4 c5 c6 f0 f1 f2 f3 f4 f5 f6
        have HI3 := Lib.hid (HI2.out.set2 (o + m))
        have HO3 := Lib.hid (only_set HO2.out 2 (.int .i64 (o + m)))
        clear HI2 HO2
        generalize w2.setCell ⟨g, 2, none⟩ (.int .i64 (o + m)) = w3 at *
        obtain ⟨⟨c0, c1, c2, c3, c4, c5, c6⟩, f0, f1, f2, f3, f4, f5, f6⟩ := HI3.out.all
        go_quiet (fail)
        go_wp2
        go_ret
        exact ⟨rfl, by first | exact IsE.set0 (HI3.out.drewN _) 3 | exact (HI3.out.set0 3).drewN _, by first | exact only_set (only_drewN HO3.out _) 0 _ | exact only_drewN (only_set HO3.out 0 _) _⟩
    · rw [if_neg (show ¬ allLost ⟨3, n, o, h, x, y, z⟩ m by simp only [allLost]; omega)]
      go_enter Try.func15, Try.ntmps15
      go_wp2_with fail
      refine (rwrong_is g 3 n o h x y z _ m HI.out h1 h2 h3 h4).mono ?_
      rw [decide_eq_false (show ¬ (m < 0 ∨ n - o - h < m) by omega)]
      rintro e w' ⟨rfl, k, rfl⟩
      have HI2 := Lib.hid (HI.out.drewN k)
      have HO2 := Lib.hid (only_drewN HO.out k)
      clear HI HO
      generalize w.drewN k = w2 at *
      obtain ⟨⟨c0, c1, c2, c3, c4, c5, c6⟩, f0, f1, f2, f3, f4, f5, f6⟩ := HI2.out.all
      go_wp2_with fail
      clear c0 c1 c2 c3 c4 c5 c6 f0 f1 f2 f3 f4 f5 f6
      have HI3 := Lib.hid (HI2.out.set2 (o + m))
      have HO3 := Lib.hid (only_set HO2.out 2 (.int .i64 (o + m)))
      clear HI2 HO2
      generalize w2.setCell ⟨g, 2, none⟩ (.int .i64 (o + m)) = w3 at *
      obtain ⟨⟨c0, c1, c2, c3, c4, c5, c6⟩, f0, f1, f2, f3, f4, f5, f6⟩ := HI3.out.all
      go_quiet (fail)
      go_wp2
      go_ret
      exact ⟨rfl, HI3.out.drewN _, only_drewN HO3.out _⟩
    · rw [if_neg (show ¬ allLost ⟨4, n, o, h, x, y, z⟩ m by simp only [allLost]; omega)]
      go_enter Try.func15, Try.ntmps15
      go_wp2_with fail
      refine (rwrong_is g 4 n o h x y z _ m HI.out h1 h2 h3 h4).mono ?_
      rw [decide_eq_false (show ¬ (m < 0 ∨ n - o - h < m) by omega)]
      rintro e w' ⟨rfl, k, rfl⟩
      have HI2 := Lib.hid (HI.out.drewN k)
      have HO2 := Lib.hid (only_drewN HO.out k)
      clear HI HO
      generalize w.drewN k = w2 at *
      obtain ⟨⟨c0, c1, c2, c3, c4, c5, c6⟩, f0, f1, f2, f3, f4, f5, f6⟩ := HI2.out.all
      go_wp2_with fail
      clear c0 c1 c2 c3 c4 c5 c6 f0 f1 f2 f3 f4 f5 f6
      have HI3 := Lib.hid (HI2.out.set2 (o + m))
      have HO3 := Lib.hid (only_set HO2.out 2 (.int .i64 (o + m)))
      clear HI2 HO2
      generalize w2.setCell ⟨g, 2, none⟩ (.int .i64 (o + m)) = w3 at *
      obtain ⟨⟨c0, c1, c2, c3, c4, c5, c6⟩, f0, f1, f2, f3, f4, f5, f6⟩ := HI3.out.all
      go_quiet (fail)
      go_wp2
      go_ret
      exact ⟨rfl, HI3.out.drewN _, only_drewN HO3.out _⟩
theorem rlose_any (g : Nat) (s : St) (B m : Int) (w : World) (H : IsS 43 w g s) (ho : Ok s B) (hB : B ≤ 1152921504606846976) : Calls Try.prog 15 #[.pointer (some ⟨g, 0, none⟩), .int .i64 m] w fun e w' => e = .returned (.int .i64 (loseE s m)) ∧ IsS 43 w' g (loseS s m) ∧ Only w w' g := by
  obtain ⟨h0, h1, h2, h3, h4, _⟩ := ho
  exact rlose_raw g s.st s.sent s.lost s.here s.l0 s.l1 s.l2 m w H h0 h1 h2 h3 (by omega)
end Go.Proofs.Ytpammbkhomcjmaa

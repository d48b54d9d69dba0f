/- The walk of the law EcnHonest. -/
import Derived.Test.YtpammbkhomcjmaaFair
namespace Go.Proofs.Ytpammbkhomcjmaa
open Go.RowKit

set_option maxHeartbeats 4000000 in
set_option maxRecDepth 100000 in
theorem honest_at (w : World) (A : Option Addr) (n cap : Nat) (f : Nat → Int) (hA : IsInts w A n f) :
    Calls Try.prog 6 #[.slice A n cap] w fun e w' => e = .returned (.bool true) ∧ Below w.heap.size w w' := by
  obtain ⟨hreach, hcells⟩ := hA
  have HL := Lib.hid hcells
  clear hcells
  go_enter Try.func6, Try.ntmps6
  go_wp2_with fail
  refine (new_is _).mono ?_
  rintro e w1 ⟨rfl, hI, hb, hsz⟩
  have HI0 := Lib.hid (show IsE 35 w1 w.heap.size 1 0 0 (0 + 0) 0 0 0 from hI)
  have HB0 := Lib.hid hb
  clear hI hb
  go_wp2_with fail
  refine (state_is _ 1 _ _ _ _ _ _ _ HI0.out (by decide)).mono ?_
  rintro e w' ⟨rfl, rfl⟩
  go_wp2_with fail
  have HI2 := Lib.hid (IsE.alloc HI0.out (.cells #[.int .i64 0, .int .i64 0, .int .i64 0] 25))
  have HC2 := Lib.hid (show IsC (w1.alloc (.cells #[.int .i64 0, .int .i64 0, .int .i64 0] 25)) (w.heap.size + 1) 0 0 0 by rw [← hsz]; exact Bk.new w1 25 _)
  have HB2 := Lib.hid (below_new HB0.out (Nat.le_refl _) (.cells #[.int .i64 0, .int .i64 0, .int .i64 0] 25))
  have hqg : w.heap.size + 1 ≠ w.heap.size := by omega
  have hgq : w.heap.size ≠ w.heap.size + 1 := by omega
  have hqb : w.heap.size ≤ w.heap.size + 1 := by omega
  clear hsz HI0 HB0
  generalize w1.alloc (.cells #[.int .i64 0, .int .i64 0, .int .i64 0] 25) = w2 at *
  go_loopw [5, 6, 7] (fun a b i wr => ∃ (k : Nat) (t n' o p r : Int), k ≤ n ∧ a = .int .i64 n' ∧ b = .int .i64 o ∧ i = .int .i64 k ∧ Hid (IsS 35 wr w.heap.size (hon t n' o p r)) ∧ Hid (IsC wr (w.heap.size + 1) p 0 r) ∧ Hid (Head t n' o p r k) ∧ Hid (Below w.heap.size w wr)) (fun _ _ i _ => n - (intOf i).toNat)
  case atStart => exact ⟨0, 1, 0, 0, 0, 0, by omega, rfl, rfl, rfl, HI2, HC2, Lib.hid ⟨by decide, by decide, by decide, by decide, by decide, .inl ⟨rfl, rfl, rfl, by decide⟩⟩, HB2⟩
  case round =>
    obtain ⟨k, t, n', o, p, r, hk, rfl, rfl, rfl, HI1, HC1, HD, HB1⟩ := hrel
    by_cases hkn : k < n
    · obtain ⟨ab, ao, rfl, hab, hcl⟩ := HL.out.resolve_left (by omega)
      obtain ⟨a0, _, _⟩ := hcl k hkn
      clear hcl
      generalize f k = x at a0
      have HA := Lib.hid a0
      clear a0
      have hk60 : (k : Int) ≤ 1152921504606846976 := by omega
      have hk61 : (k : Int) + 1 ≤ 1152921504606846976 := by omega
      obtain ⟨hn0, hn1, ho0, ho1, hp0, hp1, hr0, hr1⟩ := head_in HD.out
      rcases (show t = 1 ∨ t = 3 ∨ t = 4 by have := HD.out; simp only [Head] at this; omega) with rfl | rfl | rfl
      · go_wp2_with fail
        refine (state_is _ 1 _ _ _ _ _ _ _ HI1.out (by decide)).mono ?_
        rintro e w' ⟨rfl, rfl⟩
        go_wp2_with fail
        refine (hsent _ _ _ _ _ _ k _ HI1.out hk60 HD.out (by decide)).mono ?_
        rintro e w2 ⟨rfl, ⟨t', hI, hM⟩, hO⟩
        have HI2 := Lib.hid hI
        have HM := Lib.hid hM
        have HC2 := Lib.hid (Bk.only HC1.out hO hqg)
        have HB2 := Lib.hid (below_only HB1.out hO (Nat.le_refl _) (Nat.le_refl _))
        clear hI hM hO
        obtain ⟨x0, x1, x2⟩ := IsC.all HC2.out
        have y0 : w2.frozen? ⟨w.heap.size + 1, 0, none⟩ = false := Bk.frozen HC2.out 0
        have y2 : w2.frozen? ⟨w.heap.size + 1, 2, none⟩ = false := Bk.frozen HC2.out 2
        have d0 := (HB2.out.cell (p := ⟨ab, ao + k, none⟩) hab).trans HA.out
        rcases (show x.tmod 3 = 0 ∨ x.tmod 3 = 1 ∨ x.tmod 3 = -1 ∨ x.tmod 3 ≠ 0 ∧ x.tmod 3 ≠ 1 ∧ x.tmod 3 ≠ -1 by omega) with hf | hf | hf | ⟨hf, hf1, hf2⟩
        · have e0 : (x.tmod 3 == 0) = true := by simp [hf]
          clear hf
          go_wp2_with fail
          refine (hlost _ _ _ _ _ _ (k + 1) _ HI2.out hk61 HM.out).mono ?_
          rintro e w3 ⟨rfl, ⟨t3, hI, hH⟩, hO⟩
          have HI3 := Lib.hid hI
          have HD3 := Lib.hid hH
          have HC3 := Lib.hid (Bk.only HC2.out hO hqg)
          have HB3 := Lib.hid (below_only HB2.out hO (Nat.le_refl _) (Nat.le_refl _))
          clear hI hH hO
          go_wp2
          go_roundw
          case rel => exact ⟨k + 1, t3, n' + 1, o + 1, p, r, by omega, rfl, rfl, by go_num, HI3, HC3, Lib.hid (by rw [show ((k + 1 : Nat) : Int) = (k : Int) + 1 by omega]; exact HD3.out), HB3⟩
          case measure => simp [intOf]; omega
        · have e0 : (x.tmod 3 == 0) = false := by simp [hf]
          have e1 : (x.tmod 3 == 1) = true := by simp [hf]
          clear hf
          go_wp2_with fail
          have HI3 := Lib.hid (IsE.far HI2.out (p := ⟨w.heap.size + 1, 0, none⟩) hgq (.int .i64 (p + 1)))
          have HC3 := Lib.hid (show IsC (w2.setCell ⟨w.heap.size + 1, 0, none⟩ (.int .i64 (p + 1))) (w.heap.size + 1) (p + 1) 0 r from Bk.at_ HC2.out 0 _)
          have HB3 := Lib.hid (HB2.out.setCell (p := ⟨w.heap.size + 1, 0, none⟩) hqb (.int .i64 (p + 1)))
          clear x0 x1 x2 y0 y2 d0
          generalize w2.setCell ⟨w.heap.size + 1, 0, none⟩ (.int .i64 (p + 1)) = w3 at *
          refine (hack _ _ _ _ _ _ (k + 1) _ HI3.out hk61 HM.out (p + 1) r false (by omega) (by omega) (by omega) (by first | exact decide_eq_false (by omega) | exact decide_eq_true (by omega))).mono ?_
          rintro e w4 ⟨rfl, hI, hO⟩
          have HI4 := Lib.hid hI
          have HD4 := Lib.hid (mid_ack HM.out (p + 1) r (by omega) (by omega) (by omega) hk61).2.2.2
          have HC4 := Lib.hid (Bk.only HC3.out hO hqg)
          have HB4 := Lib.hid (below_only HB3.out hO (Nat.le_refl _) (Nat.le_refl _))
          clear hI hO
          go_wp2_with fail
          refine (state_is _ 4 _ _ _ _ _ _ _ HI4.out (by decide)).mono ?_
          rintro e w' ⟨rfl, rfl⟩
          go_wp2
          go_roundw
          case rel => exact ⟨k + 1, 4, n' + 1, o, (p + 1), r, by omega, rfl, rfl, by go_num, HI4, HC4, Lib.hid (by rw [show ((k + 1 : Nat) : Int) = (k : Int) + 1 by omega]; exact HD4.out), HB4⟩
          case measure => simp [intOf]; omega
        · have e0 : (x.tmod 3 == 0) = false := by simp [hf]
          have e1 : (x.tmod 3 == 1) = false := by simp [hf]
          have e2 : (x.tmod 3 == -1) = true := by simp [hf]
          clear hf
          go_wp2_with fail
          have HI3 := Lib.hid (IsE.far HI2.out (p := ⟨w.heap.size + 1, 0, none⟩) hgq (.int .i64 (p + 1)))
          have HC3 := Lib.hid (show IsC (w2.setCell ⟨w.heap.size + 1, 0, none⟩ (.int .i64 (p + 1))) (w.heap.size + 1) (p + 1) 0 r from Bk.at_ HC2.out 0 _)
          have HB3 := Lib.hid (HB2.out.setCell (p := ⟨w.heap.size + 1, 0, none⟩) hqb (.int .i64 (p + 1)))
          clear x0 x1 x2 y0 y2 d0
          generalize w2.setCell ⟨w.heap.size + 1, 0, none⟩ (.int .i64 (p + 1)) = w3 at *
          refine (hack _ _ _ _ _ _ (k + 1) _ HI3.out hk61 HM.out (p + 1) r false (by omega) (by omega) (by omega) (by first | exact decide_eq_false (by omega) | exact decide_eq_true (by omega))).mono ?_
          rintro e w4 ⟨rfl, hI, hO⟩
          have HI4 := Lib.hid hI
          have HD4 := Lib.hid (mid_ack HM.out (p + 1) r (by omega) (by omega) (by omega) hk61).2.2.2
          have HC4 := Lib.hid (Bk.only HC3.out hO hqg)
          have HB4 := Lib.hid (below_only HB3.out hO (Nat.le_refl _) (Nat.le_refl _))
          clear hI hO
          go_wp2_with fail
          refine (state_is _ 4 _ _ _ _ _ _ _ HI4.out (by decide)).mono ?_
          rintro e w' ⟨rfl, rfl⟩
          go_wp2
          go_roundw
          case rel => exact ⟨k + 1, 4, n' + 1, o, (p + 1), r, by omega, rfl, rfl, by go_num, HI4, HC4, Lib.hid (by rw [show ((k + 1 : Nat) : Int) = (k : Int) + 1 by omega]; exact HD4.out), HB4⟩
          case measure => simp [intOf]; omega
        · have e0 : (x.tmod 3 == 0) = false := by simpa using hf
          have e1 : (x.tmod 3 == 1) = false := by simpa using hf1
          have e2 : (x.tmod 3 == -1) = false := by simpa using hf2
          clear hf hf1 hf2
          go_wp2_with fail
          have HI3 := Lib.hid (IsE.far HI2.out (p := ⟨w.heap.size + 1, 2, none⟩) hgq (.int .i64 (r + 1)))
          have HC3 := Lib.hid (show IsC (w2.setCell ⟨w.heap.size + 1, 2, none⟩ (.int .i64 (r + 1))) (w.heap.size + 1) p 0 (r + 1) from Bk.at_ HC2.out 2 _)
          have HB3 := Lib.hid (HB2.out.setCell (p := ⟨w.heap.size + 1, 2, none⟩) hqb (.int .i64 (r + 1)))
          clear x0 x1 x2 y0 y2 d0
          generalize w2.setCell ⟨w.heap.size + 1, 2, none⟩ (.int .i64 (r + 1)) = w3 at *
          refine (hack _ _ _ _ _ _ (k + 1) _ HI3.out hk61 HM.out p (r + 1) true (by omega) (by omega) (by omega) (by first | exact decide_eq_false (by omega) | exact decide_eq_true (by omega))).mono ?_
          rintro e w4 ⟨rfl, hI, hO⟩
          have HI4 := Lib.hid hI
          have HD4 := Lib.hid (mid_ack HM.out p (r + 1) (by omega) (by omega) (by omega) hk61).2.2.2
          have HC4 := Lib.hid (Bk.only HC3.out hO hqg)
          have HB4 := Lib.hid (below_only HB3.out hO (Nat.le_refl _) (Nat.le_refl _))
          clear hI hO
          go_wp2_with fail
          refine (state_is _ 4 _ _ _ _ _ _ _ HI4.out (by decide)).mono ?_
          rintro e w' ⟨rfl, rfl⟩
          go_wp2
          go_roundw
          case rel => exact ⟨k + 1, 4, n' + 1, o, p, (r + 1), by omega, rfl, rfl, by go_num, HI4, HC4, Lib.hid (by rw [show ((k + 1 : Nat) : Int) = (k : Int) + 1 by omega]; exact HD4.out), HB4⟩
          case measure => simp [intOf]; omega
      · have ho : o = n' := by have := HD.out; simp only [Head] at this; omega
        have hn : 10 ≤ n' := by have := HD.out; simp only [Head] at this; omega
        have eo : (o == n') = true := by simp [ho]
        have en : decide (10 ≤ n') = true := by simp [hn]
        clear ho
        go_wp2_with fail
        refine (state_is _ 3 _ _ _ _ _ _ _ HI1.out (by decide)).mono ?_
        rintro e w' ⟨rfl, rfl⟩
        go_wp2_with fail
        refine (hstop _ n' _ _ _ _ _ _ HI1.out hn0 (by omega)).mono ?_
        rintro e w2 ⟨rfl, hI, hO⟩
        have HI2 := Lib.hid hI
        have HB2 := Lib.hid (below_only HB1.out hO (Nat.le_refl _) (Nat.le_refl _))
        clear hI hO
        go_wp2_with fail
        refine (state_is _ 3 _ _ _ _ _ _ _ HI2.out (by decide)).mono ?_
        rintro e w' ⟨rfl, rfl⟩
        go_wp2
        go_ret
        exact ⟨rfl, HB2.out⟩
      · go_wp2_with fail
        refine (state_is _ 4 _ _ _ _ _ _ _ HI1.out (by decide)).mono ?_
        rintro e w' ⟨rfl, rfl⟩
        go_wp2_with fail
        refine (hsent _ _ _ _ _ _ k _ HI1.out hk60 HD.out (by decide)).mono ?_
        rintro e w2 ⟨rfl, ⟨t', hI, hM⟩, hO⟩
        have HI2 := Lib.hid hI
        have HM := Lib.hid hM
        have HC2 := Lib.hid (Bk.only HC1.out hO hqg)
        have HB2 := Lib.hid (below_only HB1.out hO (Nat.le_refl _) (Nat.le_refl _))
        clear hI hM hO
        obtain ⟨x0, x1, x2⟩ := IsC.all HC2.out
        have y0 : w2.frozen? ⟨w.heap.size + 1, 0, none⟩ = false := Bk.frozen HC2.out 0
        have y2 : w2.frozen? ⟨w.heap.size + 1, 2, none⟩ = false := Bk.frozen HC2.out 2
        have d0 := (HB2.out.cell (p := ⟨ab, ao + k, none⟩) hab).trans HA.out
        rcases (show x.tmod 3 = 0 ∨ x.tmod 3 = 1 ∨ x.tmod 3 = -1 ∨ x.tmod 3 ≠ 0 ∧ x.tmod 3 ≠ 1 ∧ x.tmod 3 ≠ -1 by omega) with hf | hf | hf | ⟨hf, hf1, hf2⟩
        · have e0 : (x.tmod 3 == 0) = true := by simp [hf]
          clear hf
          go_wp2_with fail
          refine (hlost _ _ _ _ _ _ (k + 1) _ HI2.out hk61 HM.out).mono ?_
          rintro e w3 ⟨rfl, ⟨t3, hI, hH⟩, hO⟩
          have HI3 := Lib.hid hI
          have HD3 := Lib.hid hH
          have HC3 := Lib.hid (Bk.only HC2.out hO hqg)
          have HB3 := Lib.hid (below_only HB2.out hO (Nat.le_refl _) (Nat.le_refl _))
          clear hI hH hO
          go_wp2
          go_roundw
          case rel => exact ⟨k + 1, t3, n' + 1, o + 1, p, r, by omega, rfl, rfl, by go_num, HI3, HC3, Lib.hid (by rw [show ((k + 1 : Nat) : Int) = (k : Int) + 1 by omega]; exact HD3.out), HB3⟩
          case measure => simp [intOf]; omega
        · have e0 : (x.tmod 3 == 0) = false := by simp [hf]
          have e1 : (x.tmod 3 == 1) = true := by simp [hf]
          clear hf
          go_wp2_with fail
          have HI3 := Lib.hid (IsE.far HI2.out (p := ⟨w.heap.size + 1, 0, none⟩) hgq (.int .i64 (p + 1)))
          have HC3 := Lib.hid (show IsC (w2.setCell ⟨w.heap.size + 1, 0, none⟩ (.int .i64 (p + 1))) (w.heap.size + 1) (p + 1) 0 r from Bk.at_ HC2.out 0 _)
          have HB3 := Lib.hid (HB2.out.setCell (p := ⟨w.heap.size + 1, 0, none⟩) hqb (.int .i64 (p + 1)))
          clear x0 x1 x2 y0 y2 d0
          generalize w2.setCell ⟨w.heap.size + 1, 0, none⟩ (.int .i64 (p + 1)) = w3 at *
          refine (hack _ _ _ _ _ _ (k + 1) _ HI3.out hk61 HM.out (p + 1) r false (by omega) (by omega) (by omega) (by first | exact decide_eq_false (by omega) | exact decide_eq_true (by omega))).mono ?_
          rintro e w4 ⟨rfl, hI, hO⟩
          have HI4 := Lib.hid hI
          have HD4 := Lib.hid (mid_ack HM.out (p + 1) r (by omega) (by omega) (by omega) hk61).2.2.2
          have HC4 := Lib.hid (Bk.only HC3.out hO hqg)
          have HB4 := Lib.hid (below_only HB3.out hO (Nat.le_refl _) (Nat.le_refl _))
          clear hI hO
          go_wp2_with fail
          refine (state_is _ 4 _ _ _ _ _ _ _ HI4.out (by decide)).mono ?_
          rintro e w' ⟨rfl, rfl⟩
          go_wp2
          go_roundw
          case rel => exact ⟨k + 1, 4, n' + 1, o, (p + 1), r, by omega, rfl, rfl, by go_num, HI4, HC4, Lib.hid (by rw [show ((k + 1 : Nat) : Int) = (k : Int) + 1 by omega]; exact HD4.out), HB4⟩
          case measure => simp [intOf]; omega
        · have e0 : (x.tmod 3 == 0) = false := by simp [hf]
          have e1 : (x.tmod 3 == 1) = false := by simp [hf]
          have e2 : (x.tmod 3 == -1) = true := by simp [hf]
          clear hf
          go_wp2_with fail
          have HI3 := Lib.hid (IsE.far HI2.out (p := ⟨w.heap.size + 1, 0, none⟩) hgq (.int .i64 (p + 1)))
          have HC3 := Lib.hid (show IsC (w2.setCell ⟨w.heap.size + 1, 0, none⟩ (.int .i64 (p + 1))) (w.heap.size + 1) (p + 1) 0 r from Bk.at_ HC2.out 0 _)
          have HB3 := Lib.hid (HB2.out.setCell (p := ⟨w.heap.size + 1, 0, none⟩) hqb (.int .i64 (p + 1)))
          clear x0 x1 x2 y0 y2 d0
          generalize w2.setCell ⟨w.heap.size + 1, 0, none⟩ (.int .i64 (p + 1)) = w3 at *
          refine (hack _ _ _ _ _ _ (k + 1) _ HI3.out hk61 HM.out (p + 1) r false (by omega) (by omega) (by omega) (by first | exact decide_eq_false (by omega) | exact decide_eq_true (by omega))).mono ?_
          rintro e w4 ⟨rfl, hI, hO⟩
          have HI4 := Lib.hid hI
          have HD4 := Lib.hid (mid_ack HM.out (p + 1) r (by omega) (by omega) (by omega) hk61).2.2.2
          have HC4 := Lib.hid (Bk.only HC3.out hO hqg)
          have HB4 := Lib.hid (below_only HB3.out hO (Nat.le_refl _) (Nat.le_refl _))
          clear hI hO
          go_wp2_with fail
          refine (state_is _ 4 _ _ _ _ _ _ _ HI4.out (by decide)).mono ?_
          rintro e w' ⟨rfl, rfl⟩
          go_wp2
          go_roundw
          case rel => exact ⟨k + 1, 4, n' + 1, o, (p + 1), r, by omega, rfl, rfl, by go_num, HI4, HC4, Lib.hid (by rw [show ((k + 1 : Nat) : Int) = (k : Int) + 1 by omega]; exact HD4.out), HB4⟩
          case measure => simp [intOf]; omega
        · have e0 : (x.tmod 3 == 0) = false := by simpa using hf
          have e1 : (x.tmod 3 == 1) = false := by simpa using hf1
          have e2 : (x.tmod 3 == -1) = false := by simpa using hf2
          clear hf hf1 hf2
          go_wp2_with fail
          have HI3 := Lib.hid (IsE.far HI2.out (p := ⟨w.heap.size + 1, 2, none⟩) hgq (.int .i64 (r + 1)))
          have HC3 := Lib.hid (show IsC (w2.setCell ⟨w.heap.size + 1, 2, none⟩ (.int .i64 (r + 1))) (w.heap.size + 1) p 0 (r + 1) from Bk.at_ HC2.out 2 _)
          have HB3 := Lib.hid (HB2.out.setCell (p := ⟨w.heap.size + 1, 2, none⟩) hqb (.int .i64 (r + 1)))
          clear x0 x1 x2 y0 y2 d0
          generalize w2.setCell ⟨w.heap.size + 1, 2, none⟩ (.int .i64 (r + 1)) = w3 at *
          refine (hack _ _ _ _ _ _ (k + 1) _ HI3.out hk61 HM.out p (r + 1) true (by omega) (by omega) (by omega) (by first | exact decide_eq_false (by omega) | exact decide_eq_true (by omega))).mono ?_
          rintro e w4 ⟨rfl, hI, hO⟩
          have HI4 := Lib.hid hI
          have HD4 := Lib.hid (mid_ack HM.out p (r + 1) (by omega) (by omega) (by omega) hk61).2.2.2
          have HC4 := Lib.hid (Bk.only HC3.out hO hqg)
          have HB4 := Lib.hid (below_only HB3.out hO (Nat.le_refl _) (Nat.le_refl _))
          clear hI hO
          go_wp2_with fail
          refine (state_is _ 4 _ _ _ _ _ _ _ HI4.out (by decide)).mono ?_
          rintro e w' ⟨rfl, rfl⟩
          go_wp2
          go_roundw
          case rel => exact ⟨k + 1, 4, n' + 1, o, p, (r + 1), by omega, rfl, rfl, by go_num, HI4, HC4, Lib.hid (by rw [show ((k + 1 : Nat) : Int) = (k : Int) + 1 by omega]; exact HD4.out), HB4⟩
          case measure => simp [intOf]; omega
    · have hk60 : (k : Int) ≤ 1152921504606846976 := by omega
      obtain ⟨hn0, hn1, ho0, ho1, hp0, hp1, hr0, hr1⟩ := head_in HD.out
      by_cases ht : t = 4
      · subst ht
        obtain ⟨x0, x1, x2⟩ := IsC.all HC1.out
        go_wp2_with fail
        refine (state_is _ 4 _ _ _ _ _ _ _ HI1.out (by decide)).mono ?_
        rintro e w' ⟨rfl, rfl⟩
        go_wp2_with fail
        refine (hbad _ _ _ _ _ k _ HI1.out hk60 HD.out).mono ?_
        rintro e w2 ⟨⟨b2, v2, rfl⟩, hI, hO⟩
        have HI2 := Lib.hid hI
        have HC2 := Lib.hid (Bk.only HC1.out hO hqg)
        have HB2 := Lib.hid (below_only HB1.out hO (Nat.le_refl _) (Nat.le_refl _))
        clear hI hO x0 x1 x2
        obtain ⟨x0, x1, x2⟩ := IsC.all HC2.out
        go_wp2_with fail
        refine (hnone _ _ _ _ _ k _ HI2.out hk60 HD.out).mono ?_
        rintro e w3 ⟨rfl, hI, hO⟩
        have HI3 := Lib.hid hI
        have HB3 := Lib.hid (below_only HB2.out hO (Nat.le_refl _) (Nat.le_refl _))
        clear hI hO
        go_wp2_with fail
        refine (state_is _ 3 _ _ _ _ _ _ _ HI3.out (by decide)).mono ?_
        rintro e w' ⟨rfl, rfl⟩
        go_wp2_with fail
        refine (hstop _ _ _ _ _ _ _ _ HI3.out hn0 (by omega)).mono ?_
        rintro e w4 ⟨rfl, hI, hO⟩
        have HB4 := Lib.hid (below_only HB3.out hO (Nat.le_refl _) (Nat.le_refl _))
        clear hI hO
        go_wp2
        go_ret
        exact ⟨rfl, HB4.out⟩
      · have e4 : (t != 4) = true := by simpa using ht
        clear ht
        go_wp2_with fail
        refine (state_is _ t _ _ _ _ _ _ _ HI1.out (head_ok HD.out hk60).1).mono ?_
        rintro e w' ⟨rfl, rfl⟩
        go_wp2
        go_ret
        exact ⟨rfl, HB1.out⟩
end Go.Proofs.Ytpammbkhomcjmaa

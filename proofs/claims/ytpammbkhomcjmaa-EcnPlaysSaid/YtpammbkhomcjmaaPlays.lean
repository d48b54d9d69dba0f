/- The walk of the law EcnPlays. -/
import Derived.Test.YtpammbkhomcjmaaTell
import Derived.Test.YtpammbkhomcjmaaActs
namespace Go.Proofs.Ytpammbkhomcjmaa
open Go.RowKit
attribute [local go_sem ↓] Go.wp_at_zero Go.wp_at_succ

set_option maxHeartbeats 4000000 in
set_option maxRecDepth 100000 in
theorem plays_at (w : World) (A : Option Addr) (n cap : Nat) (f : Nat → Act) (hA : IsActs w A n f) :
    Calls Try.prog 5 #[.slice A n cap] w fun e w' => e = .returned (.bool true) ∧ Below w.heap.size w w' := by
  obtain ⟨hreach, hcells⟩ := hA
  have HC := Lib.hid hcells
  clear hcells
  go_enter Try.func5, Try.ntmps5
  go_wp2_with fail
  refine (new_is _).mono ?_
  rintro e w1 ⟨rfl, hM, hB, hz⟩
  have HM := Lib.hid hM
  have HB := Lib.hid hB
  have hsz : w.heap.size < w1.heap.size := by omega
  clear hM hB hz
  go_wp2_with fail
  refine (rnew_is _).mono ?_
  rintro e w2 ⟨rfl, hR, hB2, _⟩
  have HM2 := Lib.hid (HM.out.below hB2)
  have HB2 := Lib.hid (HB.out.trans (hB2.mono HB.out.size))
  have HR2 := Lib.hid hR
  clear hR hB2 HM HB
  go_wp2_with fail
  obtain ⟨rr, hrd⟩ : ∃ r, r = w1.heap.size := ⟨_, rfl⟩
  simp only [← hrd] at HR2 hsz ⊢
  have hr : w.heap.size ≤ rr := by omega
  have hgr : w.heap.size ≠ rr := by omega
  clear hrd
  have c0 : w2.cell? ⟨rr, 0, none⟩ = some (.int .i64 1) := HR2.out.cells
  go_quiet (first | (go_at_call 10; exact quiet_eq (state_is _ 1 0 0 0 0 0 0 _ (HM2.out.drewN _) (.inl rfl))) | (go_at_call 13; exact quiet_eq (names_is _)))
  clear c0
  go_wp2_with fail
  go_loopw [5] (fun i wr => ∃ (k : Nat) (s : St), k ≤ n ∧ i = .int .i64 k ∧ Hid (IsS 35 wr w.heap.size s) ∧ Hid (IsS 43 wr rr s) ∧ Hid (Ok s k) ∧ Hid (Below w.heap.size w wr)) (fun i _ => n - (intOf i).toNat)
  case atStart => exact ⟨0, newS, by omega, rfl, Lib.hid (HM2.out.drewN _), Lib.hid (HR2.out.drewN _), Lib.hid ok_new, Lib.hid (below_drewN HB2.out _)⟩
  case round =>
    obtain ⟨k, s, hk, rfl, HI0, HR0, HO, HB0⟩ := hrel
    by_cases hkn : k < n
    · obtain ⟨ab, ao, rfl, hab, hcl⟩ := HC.out.resolve_left (by omega)
      obtain ⟨⟨a0, a1, a2, a3, a4, a5⟩, _⟩ := hcl k hkn
      clear hcl
      generalize f k = x at a0 a1 a2 a3 a4 a5
      obtain ⟨kd, mk, p, q, r, sy⟩ := x
      simp only at a0 a1 a2 a3 a4 a5
      have d0 := (HB0.out.cell (p := ⟨ab, ao + k * 6, none⟩) hab).trans a0
      have d1 := (HB0.out.cell (p := ⟨ab, ao + k * 6 + 1, none⟩) hab).trans a1
      have d2 := (HB0.out.cell (p := ⟨ab, ao + k * 6 + 2, none⟩) hab).trans a2
      have d3 := (HB0.out.cell (p := ⟨ab, ao + k * 6 + 3, none⟩) hab).trans a3
      have d4 := (HB0.out.cell (p := ⟨ab, ao + k * 6 + 4, none⟩) hab).trans a4
      have d5 := (HB0.out.cell (p := ⟨ab, ao + k * 6 + 5, none⟩) hab).trans a5
      clear a0 a1 a2 a3 a4 a5
      have hk60 : (k : Int) ≤ 1152921504606846976 := by omega
      by_cases k0 : kd = 0
      · subst k0
        go_wp2_with fail
        have HI1 := Lib.hid (HI0.out.alloc (.cells #[.int .i64 0, .int .i64 mk, .int .i64 p, .int .i64 q, .int .i64 r, .bool sy] 33))
        have HR1 := Lib.hid (HR0.out.alloc (.cells #[.int .i64 0, .int .i64 mk, .int .i64 p, .int .i64 q, .int .i64 r, .bool sy] 33))
        have HB1 := Lib.hid (below_new HB0.out (Nat.le_refl _) (.cells #[.int .i64 0, .int .i64 mk, .int .i64 p, .int .i64 q, .int .i64 r, .bool sy] 33))
        have HQ1 := Lib.hid (Bk.new wr 33 #[.int .i64 0, .int .i64 mk, .int .i64 p, .int .i64 q, .int .i64 r, .bool sy])
        have hqg : wr.heap.size ≠ w.heap.size := by have := HI0.out.lt; omega
        have hqr : wr.heap.size ≠ rr := by have := HR0.out.lt; omega
        clear d0 d1 d2 d3 d4 d5
        generalize wr.alloc (.cells #[.int .i64 0, .int .i64 mk, .int .i64 p, .int .i64 q, .int .i64 r, .bool sy] 33) = w1 at *
        obtain ⟨Q, hQ⟩ : ∃ Q, wr.heap.size = Q := ⟨_, rfl⟩
        rw [hQ] at HQ1 hqg hqr ⊢
        clear hQ HI0 HR0 HB0
        refine (sent_any _ s _ _ HI1.out HO.out hk60).mono ?_
        rintro e w2 ⟨rfl, hN, hO⟩
        have HI2 := Lib.hid hN
        have HR2 := Lib.hid (HR1.out.only hO (Ne.symm hgr))
        have HB2 := Lib.hid (below_only HB1.out hO (Nat.le_refl _) (Nat.le_refl _))
        have HQ2 := Lib.hid (HQ1.out.only hO hqg)
        clear hN hO HI1 HR1 HB1 HQ1
        go_wp2_with fail
        refine (rsend_any _ s _ _ HR2.out HO.out hk60).mono ?_
        rintro e w3 ⟨rfl, hN, hO⟩
        have HR3 := Lib.hid hN
        have HI3 := Lib.hid (HI2.out.only hO hgr)
        have HB3 := Lib.hid (below_only HB2.out hO (Nat.le_refl _) hr)
        have HQ3 := Lib.hid (HQ2.out.only hO hqr)
        clear hN hO HI2 HR2 HB2 HQ2
        have HO9 := Lib.hid (ok_send HO.out)
        have c0 := HR3.out.cells
        go_wp2_with fail
        go_quiet ((go_at_call 10; exact quiet_eq (state_any _ _ _ _ (HI3.out.drewN _) HO9.out)))
        go_wp2
        go_roundw
        case rel => exact ⟨k + 1, _, by omega, by go_num, Lib.hid (HI3.out.drewN _), Lib.hid (HR3.out.drewN _), Lib.hid (by have := HO9.out; simpa using this), Lib.hid (below_drewN HB3.out _)⟩
        case measure => simp [intOf]; omega
      · have e0 : (kd == 0) = false := by simpa using k0
        by_cases k1 : kd = 1
        · subst k1
          go_wp2_with fail
          have HI1 := Lib.hid (HI0.out.alloc (.cells #[.int .i64 1, .int .i64 mk, .int .i64 p, .int .i64 q, .int .i64 r, .bool sy] 33))
          have HR1 := Lib.hid (HR0.out.alloc (.cells #[.int .i64 1, .int .i64 mk, .int .i64 p, .int .i64 q, .int .i64 r, .bool sy] 33))
          have HB1 := Lib.hid (below_new HB0.out (Nat.le_refl _) (.cells #[.int .i64 1, .int .i64 mk, .int .i64 p, .int .i64 q, .int .i64 r, .bool sy] 33))
          have HQ1 := Lib.hid (Bk.new wr 33 #[.int .i64 1, .int .i64 mk, .int .i64 p, .int .i64 q, .int .i64 r, .bool sy])
          have hqg : wr.heap.size ≠ w.heap.size := by have := HI0.out.lt; omega
          have hqr : wr.heap.size ≠ rr := by have := HR0.out.lt; omega
          clear d0 d1 d2 d3 d4 d5
          generalize wr.alloc (.cells #[.int .i64 1, .int .i64 mk, .int .i64 p, .int .i64 q, .int .i64 r, .bool sy] 33) = w1 at *
          obtain ⟨Q, hQ⟩ : ∃ Q, wr.heap.size = Q := ⟨_, rfl⟩
          rw [hQ] at HQ1 hqg hqr ⊢
          clear hQ HI0 HR0 HB0
          have q1 := HQ1.out.cell 1
          simp only [List.getElem?_toArray, List.getElem?_cons_zero, List.getElem?_cons_succ] at q1
          have hqs := HQ1.out.lt
          go_region_held3 (fun w' => w'.cell? ⟨Q, 1, none⟩ = some (.int .i64 mk)) (first | exact q1 | exact hq2 | exact hq3)
            (first | ((go_at_call 11; refine (lost_any _ s _ mk _ (by first | exact HI1.out | exact HI1.out.drew) HO.out hk60).mono ?_; rintro e w2 ⟨rfl, hI2, hP2⟩; have hO2 : Only w1 w2 w.heap.size := (by first | exact hP2 | exact only_trans (only_drew (only_refl w1 _)) hP2); have hs2 : Q < w2.heap.size := Nat.lt_of_lt_of_le hqs hO2.size; have hq2 : w2.cell? ⟨Q, 1, none⟩ = some (.int .i64 mk) := (only_cell hO2 hqs hqg).trans q1)) | ((go_at_call 15; refine (rlose_any _ s _ mk _ (HR1.out.only hO2 (Ne.symm hgr)) HO.out hk60).mono ?_; rintro e w3 ⟨rfl, hI3, hO3⟩; have hq3 : w3.cell? ⟨Q, 1, none⟩ = some (.int .i64 mk) := (only_cell hO3 hs2 hqr).trans hq2)))
          have HI3 := Lib.hid (IsS.only hI2 hO3 hgr)
          have HR3 := Lib.hid hI3
          have HB3 := Lib.hid (below_only (below_only HB1.out hO2 (Nat.le_refl _) (Nat.le_refl _)) hO3 (Nat.le_refl _) hr)
          clear hI2 hI3 hO2 hO3 hP2 q1 hq2 hq3 hqs hs2 hqg hqr
          have HO9 := Lib.hid (ok_more (ok_lose (m := mk) HO.out) (show (k : Int) ≤ (k : Int) + 1 by omega))
          have c0 := HR3.out.cells
          go_wp2_with fail
          go_quiet ((go_at_call 10; exact quiet_eq (state_any _ _ _ _ (HI3.out.drewN _) HO9.out)))
          go_wp2
          go_roundw
          case rel => exact ⟨k + 1, _, by omega, by go_num, Lib.hid (HI3.out.drewN _), Lib.hid (HR3.out.drewN _), Lib.hid (by have := HO9.out; simpa using this), Lib.hid (below_drewN HB3.out _)⟩
          case measure => simp [intOf]; omega
        · have e1 : (kd == 1) = false := by simpa using k1
          by_cases k2 : kd = 2
          · subst k2
            go_wp2_with fail
            have HI1 := Lib.hid (HI0.out.alloc (.cells #[.int .i64 2, .int .i64 mk, .int .i64 p, .int .i64 q, .int .i64 r, .bool sy] 33))
            have HR1 := Lib.hid (HR0.out.alloc (.cells #[.int .i64 2, .int .i64 mk, .int .i64 p, .int .i64 q, .int .i64 r, .bool sy] 33))
            have HB1 := Lib.hid (below_new HB0.out (Nat.le_refl _) (.cells #[.int .i64 2, .int .i64 mk, .int .i64 p, .int .i64 q, .int .i64 r, .bool sy] 33))
            have HQ1 := Lib.hid (Bk.new wr 33 #[.int .i64 2, .int .i64 mk, .int .i64 p, .int .i64 q, .int .i64 r, .bool sy])
            have hqg : wr.heap.size ≠ w.heap.size := by have := HI0.out.lt; omega
            have hqr : wr.heap.size ≠ rr := by have := HR0.out.lt; omega
            clear d0 d1 d2 d3 d4 d5
            generalize wr.alloc (.cells #[.int .i64 2, .int .i64 mk, .int .i64 p, .int .i64 q, .int .i64 r, .bool sy] 33) = w1 at *
            obtain ⟨Q, hQ⟩ : ∃ Q, wr.heap.size = Q := ⟨_, rfl⟩
            rw [hQ] at HQ1 hqg hqr ⊢
            clear hQ HI0 HR0 HB0
            refine (ack_any _ s _ mk p q r sy _ HI1.out HO.out hk60).mono ?_
            rintro e w2 ⟨rfl, hN, hO⟩
            have HI2 := Lib.hid hN
            have HR2 := Lib.hid (HR1.out.only hO (Ne.symm hgr))
            have HB2 := Lib.hid (below_only HB1.out hO (Nat.le_refl _) (Nat.le_refl _))
            have HQ2 := Lib.hid (HQ1.out.only hO hqg)
            clear hN hO HI1 HR1 HB1 HQ1
            have q0 := HQ2.out.cell 0
            have q1 := HQ2.out.cell 1
            have q2 := HQ2.out.cell 2
            have q3 := HQ2.out.cell 3
            have q4 := HQ2.out.cell 4
            have q5 := HQ2.out.cell 5
            simp only [List.getElem?_toArray, List.getElem?_cons_zero, List.getElem?_cons_succ] at q0 q1 q2 q3 q4 q5
            go_wp2_with fail
            clear q0 q1 q2 q3 q4 q5
            refine (rack_any _ s _ mk p q r sy _ HR2.out HO.out hk60).mono ?_
            rintro e w3 ⟨rfl, hN, hO⟩
            have HR3 := Lib.hid hN
            have HI3 := Lib.hid (HI2.out.only hO hgr)
            have HB3 := Lib.hid (below_only HB2.out hO (Nat.le_refl _) hr)
            have HQ3 := Lib.hid (HQ2.out.only hO hqr)
            clear hN hO HI2 HR2 HB2 HQ2
            have HO9 := Lib.hid (ok_more (ok_ack (m := mk) (p := p) (q := q) (r := r) (says := sy) HO.out) (show (k : Int) ≤ (k : Int) + 1 by omega))
            have c0 := HR3.out.cells
            go_wp2_with fail
            go_quiet ((go_at_call 10; exact quiet_eq (state_any _ _ _ _ (HI3.out.drewN _) HO9.out)))
            go_wp2
            go_roundw
            case rel => exact ⟨k + 1, _, by omega, by go_num, Lib.hid (HI3.out.drewN _), Lib.hid (HR3.out.drewN _), Lib.hid (by have := HO9.out; simpa using this), Lib.hid (below_drewN HB3.out _)⟩
            case measure => simp [intOf]; omega
          · have e2 : (kd == 2) = false := by simpa using k2
            go_wp2_with fail
            have HI1 := Lib.hid (HI0.out.alloc (.cells #[.int .i64 kd, .int .i64 mk, .int .i64 p, .int .i64 q, .int .i64 r, .bool sy] 33))
            have HR1 := Lib.hid (HR0.out.alloc (.cells #[.int .i64 kd, .int .i64 mk, .int .i64 p, .int .i64 q, .int .i64 r, .bool sy] 33))
            have HB1 := Lib.hid (below_new HB0.out (Nat.le_refl _) (.cells #[.int .i64 kd, .int .i64 mk, .int .i64 p, .int .i64 q, .int .i64 r, .bool sy] 33))
            have HQ1 := Lib.hid (Bk.new wr 33 #[.int .i64 kd, .int .i64 mk, .int .i64 p, .int .i64 q, .int .i64 r, .bool sy])
            have hqg : wr.heap.size ≠ w.heap.size := by have := HI0.out.lt; omega
            have hqr : wr.heap.size ≠ rr := by have := HR0.out.lt; omega
            clear d0 d1 d2 d3 d4 d5
            generalize wr.alloc (.cells #[.int .i64 kd, .int .i64 mk, .int .i64 p, .int .i64 q, .int .i64 r, .bool sy] 33) = w1 at *
            obtain ⟨Q, hQ⟩ : ∃ Q, wr.heap.size = Q := ⟨_, rfl⟩
            rw [hQ] at HQ1 hqg hqr ⊢
            clear hQ HI0 HR0 HB0
            have HO9 := Lib.hid (ok_more (HO.out) (show (k : Int) ≤ (k : Int) + 1 by omega))
            have c0 := HR1.out.cells
            go_quiet ((go_at_call 10; exact quiet_eq (state_any _ _ _ _ (HI1.out.drewN _) HO9.out)))
            go_wp2
            go_roundw
            case rel => exact ⟨k + 1, _, by omega, by go_num, Lib.hid (HI1.out.drewN _), Lib.hid (HR1.out.drewN _), Lib.hid (by have := HO9.out; simpa using this), Lib.hid (below_drewN HB1.out _)⟩
            case measure => simp [intOf]; omega
    · go_wp2
      go_ret
      exact ⟨rfl, HB0.out⟩
end Go.Proofs.Ytpammbkhomcjmaa

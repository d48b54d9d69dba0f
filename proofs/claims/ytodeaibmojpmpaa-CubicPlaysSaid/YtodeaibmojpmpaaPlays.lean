/- The walk of the law CubicPlays. -/
import Derived.Test.YtodeaibmojpmpaaSteps
import Derived.Test.YtodeaibmojpmpaaRsteps
import Derived.Test.YtodeaibmojpmpaaActs
namespace Go.Proofs.Ytodeaibmojpmpaa
open Go.RowKit
attribute [local go_sem ↓] Go.wp_at_zero Go.wp_at_succ

theorem okn_more {s : St} {k : Nat} (h : Ok s (1073741824 + 300000 * (k : Int))) : Ok s (1073741824 + 300000 * ((k + 1 : Nat) : Int)) := h.more (by omega)
theorem okn_ack {s : St} {k : Nat} (h : Ok s (1073741824 + 300000 * (k : Int))) (hM : 1073741824 + 300000 * (k : Int) ≤ 1152921504606846976) (ak se no rt : Int) (fl : Bool) : Ok (ackS s ak se no rt fl) (1073741824 + 300000 * ((k + 1 : Nat) : Int)) :=
  (ok_ack h (by omega) hM ak se no rt fl).1.more (by omega)

set_option maxHeartbeats 8000000 in
set_option maxRecDepth 100000 in
theorem plays_at (w : World) (kd0 sz0 : Int) (A : Option Addr) (n cap : Nat) (f : Nat → Act) (_h0 : -9223372036854775808 ≤ kd0) (_h1 : kd0 ≤ 9223372036854775807) (_h2 : -9223372036854775808 ≤ sz0) (_h3 : sz0 ≤ 9223372036854775807) (hA : IsActs w A n f) :
    Calls Try.prog 6 #[.int .i64 kd0, .int .i64 sz0, .slice A n cap] w fun e w' => e = .returned (.bool true) ∧ Below w.heap.size w w' := by
  obtain ⟨hreach, hcells⟩ := hA
  have HC := Lib.hid hcells
  clear hcells
  by_cases hok : newOk kd0 sz0
  · have HK := Lib.hid hok
    clear hok
    go_enter Try.func6, Try.ntmps6
    go_wp2_with fail
    refine (new_ok kd0 sz0 _ HK.out).mono ?_
    rintro e w1 ⟨rfl, hM, hB⟩
    have HM := Lib.hid hM
    have HB := Lib.hid hB
    have hsz := hM.lt
    clear hM hB
    go_wp2_with fail
    refine (rnew_ok kd0 sz0 _ HK.out).mono ?_
    rintro e w2 ⟨rfl, hR, hB2⟩
    have HM2 := Lib.hid (HM.out.below hB2)
    have HB2 := Lib.hid (HB.out.trans (hB2.mono HB.out.size))
    have HR2 := Lib.hid hR
    clear hR hB2 HM HB
    obtain ⟨rr, hrd⟩ : ∃ r, r = w1.heap.size := ⟨_, rfl⟩
    simp only [← hrd] at HR2 hsz ⊢
    have hr : w.heap.size ≤ rr := by omega
    have hgr : w.heap.size ≠ rr := by omega
    clear hrd
    go_wp2_with fail
    refine (names_is _).mono ?_
    rintro e w' ⟨rfl, rfl⟩
    go_wp2_with fail
    go_loopw [11] (fun i wr => ∃ (k : Nat) (s : St), k ≤ n ∧ i = .int .i64 k ∧ Hid (IsS 28 wr w.heap.size s) ∧ Hid (IsS 46 wr rr s) ∧ Hid (Ok s (1073741824 + 300000 * (k : Int))) ∧ Hid (Below w.heap.size w wr)) (fun i _ => n + 1 - (intOf i).toNat)
    case atStart => exact ⟨0, newS kd0 sz0, by omega, rfl, Lib.hid HM2.out, Lib.hid HR2.out, Lib.hid (ok_new HK.out), Lib.hid HB2.out⟩
    case round =>
      obtain ⟨k, s, hk, rfl, HI0, HR0, HO, HB0⟩ := hrel
      by_cases hkn : k < n
      · obtain ⟨⟨_, _, c2, c3, c4, _⟩, _⟩ := IsE.all HR0.out
        go_wp2_with fail
        refine (told_is w.heap.size s.kind s.size s.bytes s.slow s.rcv s.peak s.epoch s.start s.est _ HI0.out HO.out.z0).mono ?_
        rintro e w' ⟨rfl, k3, rfl⟩
        have HIa := Lib.hid (HI0.out.drewN k3)
        have HRa := Lib.hid (HR0.out.drewN k3)
        have HBa := Lib.hid (below_drewN HB0.out k3)
        clear c2 c3 c4 HI0 HR0 HB0
        generalize wr.drewN k3 = wa at *
        obtain ⟨⟨_, _, c2, c3, c4, _⟩, _⟩ := IsE.all HRa.out
        have hM : 1073741824 + 300000 * (k : Int) ≤ 1152921504606846976 := by omega
        obtain ⟨ab, ao, rfl, hab, hcl⟩ := HC.out.resolve_left (by omega)
        obtain ⟨⟨a0, a1, a2, a3, a4, a5⟩, _⟩ := hcl k hkn
        clear hcl
        generalize f k = x at a0 a1 a2 a3 a4 a5
        obtain ⟨kd, ak, se, no, rt, fl⟩ := x
        simp only at a0 a1 a2 a3 a4 a5
        have d0 := (HBa.out.cell (p := ⟨ab, ao + k * 6, none⟩) hab).trans a0
        have d1 := (HBa.out.cell (p := ⟨ab, ao + k * 6 + 1, none⟩) hab).trans a1
        have d2 := (HBa.out.cell (p := ⟨ab, ao + k * 6 + 2, none⟩) hab).trans a2
        have d3 := (HBa.out.cell (p := ⟨ab, ao + k * 6 + 3, none⟩) hab).trans a3
        have d4 := (HBa.out.cell (p := ⟨ab, ao + k * 6 + 4, none⟩) hab).trans a4
        have d5 := (HBa.out.cell (p := ⟨ab, ao + k * 6 + 5, none⟩) hab).trans a5
        clear a0 a1 a2 a3 a4 a5
        have ekn : ((k : Int) == (n : Int)) = false := by simp; omega
        by_cases k0 : kd = 0
        · subst k0
          go_wp2_with fail
          have HI1 := Lib.hid (HIa.out.alloc (.cells #[.int .i64 0, .int .i64 ak, .int .i64 se, .int .i64 no, .int .i64 rt, .bool fl] 25))
          have HR1 := Lib.hid (HRa.out.alloc (.cells #[.int .i64 0, .int .i64 ak, .int .i64 se, .int .i64 no, .int .i64 rt, .bool fl] 25))
          have HB1 := Lib.hid (below_new HBa.out (Nat.le_refl _) (.cells #[.int .i64 0, .int .i64 ak, .int .i64 se, .int .i64 no, .int .i64 rt, .bool fl] 25))
          have HQ1 := Lib.hid (Bk.new wa 25 #[.int .i64 0, .int .i64 ak, .int .i64 se, .int .i64 no, .int .i64 rt, .bool fl])
          have hqg : wa.heap.size ≠ w.heap.size := by have := HIa.out.lt; omega
          have hqr : wa.heap.size ≠ rr := by have := HRa.out.lt; omega
          clear d0 d1 d2 d3 d4 d5 c2 c3 c4
          generalize wa.alloc (.cells #[.int .i64 0, .int .i64 ak, .int .i64 se, .int .i64 no, .int .i64 rt, .bool fl] 25) = w1 at *
          obtain ⟨Q, hQ⟩ : ∃ Q, wa.heap.size = Q := ⟨_, rfl⟩
          rw [hQ] at HQ1 hqg hqr ⊢
          clear hQ HIa HRa HBa
          have q1 := HQ1.out.cell 1
          have q2 := HQ1.out.cell 2
          have q3 := HQ1.out.cell 3
          have q4 := HQ1.out.cell 4
          have q5 := HQ1.out.cell 5
          simp only [List.getElem?_toArray, List.getElem?_cons_zero, List.getElem?_cons_succ] at q1 q2 q3 q4 q5
          have hqs := HQ1.out.lt
          have hqq : w1.cell? ⟨Q, 1, none⟩ = some (.int .i64 ak) ∧ w1.cell? ⟨Q, 2, none⟩ = some (.int .i64 se) ∧ w1.cell? ⟨Q, 3, none⟩ = some (.int .i64 no) ∧ w1.cell? ⟨Q, 4, none⟩ = some (.int .i64 rt) ∧ w1.cell? ⟨Q, 5, none⟩ = some (.bool fl) := ⟨q1, q2, q3, q4, q5⟩
          clear q1 q2 q3 q4 q5
          obtain ⟨q1, q2, q3, q4, q5⟩ := hqq
          go_region_held3 (fun w' => w'.cell? ⟨Q, 1, none⟩ = some (.int .i64 ak) ∧ w'.cell? ⟨Q, 2, none⟩ = some (.int .i64 se) ∧ w'.cell? ⟨Q, 3, none⟩ = some (.int .i64 no) ∧ w'.cell? ⟨Q, 4, none⟩ = some (.int .i64 rt) ∧ w'.cell? ⟨Q, 5, none⟩ = some (.bool fl)) (first | exact ⟨q1, q2, q3, q4, q5⟩ | exact hq2 | exact hq3)
            (first | ((go_at_call 12; refine (ack_any _ s _ ak se no rt fl _ (by first | exact HI1.out | exact HI1.out.drew) HO.out hM).mono ?_; rintro e w2 ⟨rfl, hI2, hP2⟩; have hO2 : Only w1 w2 w.heap.size := (by first | exact hP2 | exact only_trans (only_drew (only_refl w1 _)) hP2); have hs2 : Q < w2.heap.size := Nat.lt_of_lt_of_le hqs hO2.size; have hq2 : w2.cell? ⟨Q, 1, none⟩ = some (.int .i64 ak) ∧ w2.cell? ⟨Q, 2, none⟩ = some (.int .i64 se) ∧ w2.cell? ⟨Q, 3, none⟩ = some (.int .i64 no) ∧ w2.cell? ⟨Q, 4, none⟩ = some (.int .i64 rt) ∧ w2.cell? ⟨Q, 5, none⟩ = some (.bool fl) := ⟨(only_cell hO2 hqs hqg).trans q1, (only_cell hO2 hqs hqg).trans q2, (only_cell hO2 hqs hqg).trans q3, (only_cell hO2 hqs hqg).trans q4, (only_cell hO2 hqs hqg).trans q5⟩)) | ((go_at_call 17; refine (rack_any _ s _ ak se no rt fl _ (HR1.out.only hO2 (Ne.symm hgr)) HO.out hM).mono ?_; rintro e w3 ⟨rfl, hI3, hO3⟩; have hq3 : w3.cell? ⟨Q, 1, none⟩ = some (.int .i64 ak) ∧ w3.cell? ⟨Q, 2, none⟩ = some (.int .i64 se) ∧ w3.cell? ⟨Q, 3, none⟩ = some (.int .i64 no) ∧ w3.cell? ⟨Q, 4, none⟩ = some (.int .i64 rt) ∧ w3.cell? ⟨Q, 5, none⟩ = some (.bool fl) := ⟨(only_cell hO3 hs2 hqr).trans hq2.1, (only_cell hO3 hs2 hqr).trans hq2.2.1, (only_cell hO3 hs2 hqr).trans hq2.2.2.1, (only_cell hO3 hs2 hqr).trans hq2.2.2.2.1, (only_cell hO3 hs2 hqr).trans hq2.2.2.2.2⟩)))
          have HI3 := Lib.hid (IsS.only hI2 hO3 hgr)
          have HR3 := Lib.hid hI3
          have HB3 := Lib.hid (below_only (below_only HB1.out hO2 (Nat.le_refl _) (Nat.le_refl _)) hO3 (Nat.le_refl _) hr)
          clear hI2 hI3 hO2 hO3 hP2 q1 q2 q3 q4 q5 hq2 hq3 hqs hs2 hqg hqr
          have HO9 := Lib.hid (okn_ack HO.out hM ak se no rt fl)
          go_wp2
          go_roundw
          case rel => exact ⟨k + 1, _, by omega, by go_num, Lib.hid (HI3.out), Lib.hid (HR3.out), HO9, Lib.hid (HB3.out)⟩
          case measure => simp [intOf]; omega
        · have e0 : (kd == 0) = false := by simpa using k0
          by_cases k1 : kd = 1
          · subst k1
            go_wp2_with fail
            have HI1 := Lib.hid (HIa.out.alloc (.cells #[.int .i64 1, .int .i64 ak, .int .i64 se, .int .i64 no, .int .i64 rt, .bool fl] 25))
            have HR1 := Lib.hid (HRa.out.alloc (.cells #[.int .i64 1, .int .i64 ak, .int .i64 se, .int .i64 no, .int .i64 rt, .bool fl] 25))
            have HB1 := Lib.hid (below_new HBa.out (Nat.le_refl _) (.cells #[.int .i64 1, .int .i64 ak, .int .i64 se, .int .i64 no, .int .i64 rt, .bool fl] 25))
            have HQ1 := Lib.hid (Bk.new wa 25 #[.int .i64 1, .int .i64 ak, .int .i64 se, .int .i64 no, .int .i64 rt, .bool fl])
            have hqg : wa.heap.size ≠ w.heap.size := by have := HIa.out.lt; omega
            have hqr : wa.heap.size ≠ rr := by have := HRa.out.lt; omega
            clear d0 d1 d2 d3 d4 d5 c2 c3 c4
            generalize wa.alloc (.cells #[.int .i64 1, .int .i64 ak, .int .i64 se, .int .i64 no, .int .i64 rt, .bool fl] 25) = w1 at *
            obtain ⟨Q, hQ⟩ : ∃ Q, wa.heap.size = Q := ⟨_, rfl⟩
            rw [hQ] at HQ1 hqg hqr ⊢
            clear hQ HIa HRa HBa
            have q2 := HQ1.out.cell 2
            have q3 := HQ1.out.cell 3
            simp only [List.getElem?_toArray, List.getElem?_cons_zero, List.getElem?_cons_succ] at q2 q3
            have hqs := HQ1.out.lt
            have hqq : w1.cell? ⟨Q, 2, none⟩ = some (.int .i64 se) ∧ w1.cell? ⟨Q, 3, none⟩ = some (.int .i64 no) := ⟨q2, q3⟩
            clear q2 q3
            obtain ⟨q2, q3⟩ := hqq
            go_region_held3 (fun w' => w'.cell? ⟨Q, 2, none⟩ = some (.int .i64 se) ∧ w'.cell? ⟨Q, 3, none⟩ = some (.int .i64 no)) (first | exact ⟨q2, q3⟩ | exact hq2 | exact hq3)
              (first | ((go_at_call 13; refine (lost_any _ s _ se no _ (by first | exact HI1.out | exact HI1.out.drew) HO.out).mono ?_; rintro e w2 ⟨rfl, hI2, hP2⟩; have hO2 : Only w1 w2 w.heap.size := (by first | exact hP2 | exact only_trans (only_drew (only_refl w1 _)) hP2); have hs2 : Q < w2.heap.size := Nat.lt_of_lt_of_le hqs hO2.size; have hq2 : w2.cell? ⟨Q, 2, none⟩ = some (.int .i64 se) ∧ w2.cell? ⟨Q, 3, none⟩ = some (.int .i64 no) := ⟨(only_cell hO2 hqs hqg).trans q2, (only_cell hO2 hqs hqg).trans q3⟩)) | ((go_at_call 18; refine (rlost_any _ s _ se no _ (HR1.out.only hO2 (Ne.symm hgr)) HO.out).mono ?_; rintro e w3 ⟨rfl, hI3, hO3⟩; have hq3 : w3.cell? ⟨Q, 2, none⟩ = some (.int .i64 se) ∧ w3.cell? ⟨Q, 3, none⟩ = some (.int .i64 no) := ⟨(only_cell hO3 hs2 hqr).trans hq2.1, (only_cell hO3 hs2 hqr).trans hq2.2⟩)))
            have HI3 := Lib.hid (IsS.only hI2 hO3 hgr)
            have HR3 := Lib.hid hI3
            have HB3 := Lib.hid (below_only (below_only HB1.out hO2 (Nat.le_refl _) (Nat.le_refl _)) hO3 (Nat.le_refl _) hr)
            clear hI2 hI3 hO2 hO3 hP2 q2 q3 hq2 hq3 hqs hs2 hqg hqr
            have HO9 := Lib.hid (okn_more (ok_lost HO.out se no))
            go_wp2
            go_roundw
            case rel => exact ⟨k + 1, _, by omega, by go_num, Lib.hid (HI3.out), Lib.hid (HR3.out), HO9, Lib.hid (HB3.out)⟩
            case measure => simp [intOf]; omega
          · have e1 : (kd == 1) = false := by simpa using k1
            by_cases k2 : kd = 2
            · subst k2
              go_wp2_with fail
              have HI1 := Lib.hid (HIa.out.alloc (.cells #[.int .i64 2, .int .i64 ak, .int .i64 se, .int .i64 no, .int .i64 rt, .bool fl] 25))
              have HR1 := Lib.hid (HRa.out.alloc (.cells #[.int .i64 2, .int .i64 ak, .int .i64 se, .int .i64 no, .int .i64 rt, .bool fl] 25))
              have HB1 := Lib.hid (below_new HBa.out (Nat.le_refl _) (.cells #[.int .i64 2, .int .i64 ak, .int .i64 se, .int .i64 no, .int .i64 rt, .bool fl] 25))
              have HQ1 := Lib.hid (Bk.new wa 25 #[.int .i64 2, .int .i64 ak, .int .i64 se, .int .i64 no, .int .i64 rt, .bool fl])
              have hqg : wa.heap.size ≠ w.heap.size := by have := HIa.out.lt; omega
              have hqr : wa.heap.size ≠ rr := by have := HRa.out.lt; omega
              clear d0 d1 d2 d3 d4 d5 c2 c3 c4
              generalize wa.alloc (.cells #[.int .i64 2, .int .i64 ak, .int .i64 se, .int .i64 no, .int .i64 rt, .bool fl] 25) = w1 at *
              obtain ⟨Q, hQ⟩ : ∃ Q, wa.heap.size = Q := ⟨_, rfl⟩
              rw [hQ] at HQ1 hqg hqr ⊢
              clear hQ HIa HRa HBa
              refine (coll_any _ s _ _ HI1.out HO.out).mono ?_
              rintro e w2 ⟨rfl, hI2, hO2⟩
              have HI2 := Lib.hid hI2
              have HR2 := Lib.hid (HR1.out.only hO2 (Ne.symm hgr))
              have HB2 := Lib.hid (below_only HB1.out hO2 (Nat.le_refl _) (Nat.le_refl _))
              clear hI2 hO2 HI1 HR1 HB1
              go_wp2_with fail
              refine (rcoll_any _ s _ _ HR2.out HO.out).mono ?_
              rintro e w3 ⟨rfl, hI3, hO3⟩
              have HR3 := Lib.hid hI3
              have HI3 := Lib.hid (HI2.out.only hO3 hgr)
              have HB3 := Lib.hid (below_only HB2.out hO3 (Nat.le_refl _) hr)
              clear hI3 hO3 HI2 HR2 HB2
              have HO9 := Lib.hid (okn_more (ok_coll HO.out))
              go_wp2
              go_roundw
              case rel => exact ⟨k + 1, _, by omega, by go_num, Lib.hid (HI3.out), Lib.hid (HR3.out), HO9, Lib.hid (HB3.out)⟩
              case measure => simp [intOf]; omega
            · have e2 : (kd == 2) = false := by simpa using k2
              go_wp2_with fail
              have HI1 := Lib.hid (HIa.out.alloc (.cells #[.int .i64 kd, .int .i64 ak, .int .i64 se, .int .i64 no, .int .i64 rt, .bool fl] 25))
              have HR1 := Lib.hid (HRa.out.alloc (.cells #[.int .i64 kd, .int .i64 ak, .int .i64 se, .int .i64 no, .int .i64 rt, .bool fl] 25))
              have HB1 := Lib.hid (below_new HBa.out (Nat.le_refl _) (.cells #[.int .i64 kd, .int .i64 ak, .int .i64 se, .int .i64 no, .int .i64 rt, .bool fl] 25))
              have HQ1 := Lib.hid (Bk.new wa 25 #[.int .i64 kd, .int .i64 ak, .int .i64 se, .int .i64 no, .int .i64 rt, .bool fl])
              have hqg : wa.heap.size ≠ w.heap.size := by have := HIa.out.lt; omega
              have hqr : wa.heap.size ≠ rr := by have := HRa.out.lt; omega
              clear d0 d1 d2 d3 d4 d5 c2 c3 c4
              generalize wa.alloc (.cells #[.int .i64 kd, .int .i64 ak, .int .i64 se, .int .i64 no, .int .i64 rt, .bool fl] 25) = w1 at *
              clear hqg hqr HQ1 HIa HRa HBa
              have HO9 := Lib.hid (okn_more HO.out)
              go_roundw
              case rel => exact ⟨k + 1, _, by omega, by go_num, Lib.hid (HI1.out), Lib.hid (HR1.out), HO9, Lib.hid (HB1.out)⟩
              case measure => simp [intOf]; omega
      · obtain rfl : k = n := by omega
        obtain ⟨⟨_, _, c2, c3, c4, _⟩, _⟩ := IsE.all HR0.out
        go_wp2_with fail
        refine (told_is w.heap.size s.kind s.size s.bytes s.slow s.rcv s.peak s.epoch s.start s.est _ HI0.out HO.out.z0).mono ?_
        rintro e w' ⟨rfl, k3, rfl⟩
        have HIa := Lib.hid (HI0.out.drewN k3)
        have HRa := Lib.hid (HR0.out.drewN k3)
        have HBa := Lib.hid (below_drewN HB0.out k3)
        clear c2 c3 c4 HI0 HR0 HB0
        generalize wr.drewN k3 = wa at *
        obtain ⟨⟨_, _, c2, c3, c4, _⟩, _⟩ := IsE.all HRa.out
        go_wp2
        go_ret
        exact ⟨rfl, HBa.out⟩
  · have HK := Lib.hid hok
    clear hok
    go_enter Try.func6, Try.ntmps6
    go_wp2_with fail
    refine (new_no kd0 sz0 _ HK.out).mono ?_
    rintro e w1 ⟨rfl, rfl⟩
    go_wp2_with fail
    refine (rnew_no kd0 sz0 _ HK.out).mono ?_
    rintro e w1 ⟨rfl, rfl⟩
    go_wp2_with fail
    refine (names_is _).mono ?_
    rintro e w' ⟨rfl, rfl⟩
    go_wp2_with fail
    go_loopw [11] (fun i wr => i = .int .i64 0 ∧ Hid (Below w.heap.size w wr)) (fun _ _ => 0)
    case atStart => exact ⟨rfl, Lib.hid (Below.refl _ _)⟩
    case round =>
      obtain ⟨rfl, HB0⟩ := hrel
      go_wp2
      go_ret
      exact ⟨rfl, HB0.out⟩
end Go.Proofs.Ytodeaibmojpmpaa

/- The walk of the law CubicBounds. -/
import Derived.Test.YtodeaibmojpmpaaSteps
import Derived.Test.YtodeaibmojpmpaaActs
namespace Go.Proofs.Ytodeaibmojpmpaa
open Go.RowKit
attribute [local go_sem] and_1 and_4095

theorem okb_more {s : St} {k : Nat} (h : Ok s (1073741824 + 300000 * (k : Int))) : Ok s (1073741824 + 300000 * ((k + 1 : Nat) : Int)) := h.more (by omega)
theorem okb_ack {s : St} {k : Nat} (h : Ok s (1073741824 + 300000 * (k : Int))) (hM : 1073741824 + 300000 * (k : Int) ≤ 1152921504606846976) (ak se no rt : Int) (fl : Bool) : Ok (ackS s ak se no rt fl) (1073741824 + 300000 * ((k + 1 : Nat) : Int)) :=
  (ok_ack h (by omega) hM ak se no rt fl).1.more (by omega)

set_option maxHeartbeats 8000000 in
set_option maxRecDepth 100000 in
theorem bounds_at (w : World) (kd0 sz0 : Int) (A : Option Addr) (n cap : Nat) (f : Nat → Act) (_h0 : -9223372036854775808 ≤ kd0) (_h1 : kd0 ≤ 9223372036854775807) (_h2 : -9223372036854775808 ≤ sz0) (_h3 : sz0 ≤ 9223372036854775807) (hA : IsActs w A n f) :
    Calls Try.prog 7 #[.int .i64 kd0, .int .i64 sz0, .slice A n cap] w fun e w' => e = .returned (.bool true) ∧ Below w.heap.size w w' := by
  obtain ⟨hreach, hcells⟩ := hA
  have HC := Lib.hid hcells
  clear hcells
  obtain ⟨z, hz⟩ : ∃ z, sz0 % 4096 = z := ⟨_, rfl⟩
  obtain ⟨K, hk⟩ : ∃ K, kd0 % 2 = K := ⟨_, rfl⟩
  have hz0 : 0 ≤ z := by omega
  have hz1 : z ≤ 4095 := by omega
  have HK := Lib.hid (show newOk K (1200 + z) from ⟨by omega, by omega, by omega⟩)
  have HZz := Lib.hid hz
  have HKk := Lib.hid hk
  clear hz hk
  go_enter Try.func7, Try.ntmps7
  go_wp2_with fail
  simp only [HZz.out, HKk.out]
  refine (new_ok K (1200 + z) _ HK.out).mono ?_
  rintro e w1 ⟨rfl, hM, hB⟩
  have HM := Lib.hid hM
  have HB := Lib.hid hB
  clear hM hB
  go_wp2_with fail
  simp only [HZz.out]
  go_loopw [8, 10] (fun e i wr => ∃ (k : Nat) (s : St) (x : Int), k ≤ n ∧ e = .int .i64 x ∧ i = .int .i64 k ∧ Hid (IsS 28 wr w.heap.size s) ∧ Hid (Ok s (1073741824 + 300000 * (k : Int))) ∧ Hid (s.size = 1200 + z) ∧ Hid (Below w.heap.size w wr)) (fun _ i _ => n - (intOf i).toNat)
  case atStart => exact ⟨0, newS K (1200 + z), 0, by omega, rfl, rfl, Lib.hid HM.out, Lib.hid (ok_new HK.out), Lib.hid rfl, Lib.hid HB.out⟩
  case round =>
    obtain ⟨k, s, x0, hk, rfl, rfl, HI0, HO, HZ, HB0⟩ := hrel
    by_cases hkn : k < n
    · obtain ⟨ab, ao, rfl, hab, hcl⟩ := HC.out.resolve_left (by omega)
      obtain ⟨⟨a0, a1, a2, a3, a4, a5⟩, _⟩ := hcl k hkn
      clear hcl
      generalize f k = x at a0 a1 a2 a3 a4 a5
      obtain ⟨kd, ak, se, no, rt, fl⟩ := x
      simp only at a0 a1 a2 a3 a4 a5
      have d0 := (HB0.out.cell (p := ⟨ab, ao + k * 6, none⟩) hab).trans a0
      have d1 := (HB0.out.cell (p := ⟨ab, ao + k * 6 + 1, none⟩) hab).trans a1
      have d2 := (HB0.out.cell (p := ⟨ab, ao + k * 6 + 2, none⟩) hab).trans a2
      have d3 := (HB0.out.cell (p := ⟨ab, ao + k * 6 + 3, none⟩) hab).trans a3
      have d4 := (HB0.out.cell (p := ⟨ab, ao + k * 6 + 4, none⟩) hab).trans a4
      have d5 := (HB0.out.cell (p := ⟨ab, ao + k * 6 + 5, none⟩) hab).trans a5
      clear a0 a1 a2 a3 a4 a5
      have hM : 1073741824 + 300000 * (k : Int) ≤ 1152921504606846976 := by omega
      have e0 : decide ((k : Int) < (n : Int)) = true := decide_eq_true (by omega)
      go_wp2_with fail
      have HI1 := Lib.hid (HI0.out.alloc (.cells #[.int .i64 kd, .int .i64 ak, .int .i64 se, .int .i64 no, .int .i64 rt, .bool fl] 25))
      have HB1 := Lib.hid (below_new HB0.out (Nat.le_refl _) (.cells #[.int .i64 kd, .int .i64 ak, .int .i64 se, .int .i64 no, .int .i64 rt, .bool fl] 25))
      have HQ1 := Lib.hid (Bk.new wr 25 #[.int .i64 kd, .int .i64 ak, .int .i64 se, .int .i64 no, .int .i64 rt, .bool fl])
      have hqg : wr.heap.size ≠ w.heap.size := by have := HI0.out.lt; omega
      clear d0 d1 d2 d3 d4 d5
      generalize wr.alloc (.cells #[.int .i64 kd, .int .i64 ak, .int .i64 se, .int .i64 no, .int .i64 rt, .bool fl] 25) = w1 at *
      obtain ⟨Q, hQ⟩ : ∃ Q, wr.heap.size = Q := ⟨_, rfl⟩
      rw [hQ] at HQ1 hqg ⊢
      clear hQ HI0 HB0
      refine (told_is w.heap.size s.kind s.size s.bytes s.slow s.rcv s.peak s.epoch s.start s.est _ HI1.out HO.out.z0).mono ?_
      rintro e w' ⟨rfl, k3, rfl⟩
      have HI2 := Lib.hid (HI1.out.drewN k3)
      have HB2 := Lib.hid (below_drewN HB1.out k3)
      have HQ2 := Lib.hid (show Bk (w1.drewN k3) Q 25 #[.int .i64 kd, .int .i64 ak, .int .i64 se, .int .i64 no, .int .i64 rt, .bool fl] from HQ1.out)
      clear HI1 HB1 HQ1
      generalize w1.drewN k3 = w2 at *
      by_cases k0 : kd = 0
      · subst k0
        have q0 := HQ2.out.cell 0
        have q1 := HQ2.out.cell 1
        have q2 := HQ2.out.cell 2
        have q3 := HQ2.out.cell 3
        have q4 := HQ2.out.cell 4
        have q5 := HQ2.out.cell 5
        simp only [List.getElem?_toArray, List.getElem?_cons_zero, List.getElem?_cons_succ] at q0 q1 q2 q3 q4 q5
        have HG := Lib.hid (show s.bytes ≤ (ackS s ak se no rt fl).bytes from (ok_ack HO.out (by omega) hM ak se no rt fl).2)
        have HS := Lib.hid (show se ≤ s.rcv → (ackS s ak se no rt fl).bytes = s.bytes from fun h => by rw [ack_same h])
        go_wp2_with fail
        refine (ack_any _ s _ ak se no rt fl _ HI2.out HO.out hM).mono ?_
        rintro e w3 ⟨rfl, hI, hO⟩
        have HO3 := Lib.hid (okb_ack HO.out hM ak se no rt fl)
        have HZ' := Lib.hid (show (ackS s ak se no rt fl).size = 1200 + z from (same_size' s ak se no rt fl).trans HZ.out)
        have HI3 := Lib.hid hI
        have HB3 := Lib.hid (below_only HB2.out hO (Nat.le_refl _) (Nat.le_refl _))
        have HQ3 := Lib.hid (HQ2.out.only hO hqg)
        clear hI hO HI2 HB2 HQ2 q0 q1 q2 q3 q4 q5
        generalize ackS s ak se no rt fl = s' at *
        go_wp2_with fail
        refine (told_is w.heap.size s'.kind s'.size s'.bytes s'.slow s'.rcv s'.peak s'.epoch s'.start s'.est _ HI3.out HO3.out.z0).mono ?_
        rintro e w' ⟨rfl, k4, rfl⟩
        have HI4 := Lib.hid (HI3.out.drewN k4)
        have HB4 := Lib.hid (below_drewN HB3.out k4)
        have HQ4 := Lib.hid (show Bk (w3.drewN k4) Q 25 #[.int .i64 0, .int .i64 ak, .int .i64 se, .int .i64 no, .int .i64 rt, .bool fl] from HQ3.out)
        clear HI3 HB3 HQ3
        generalize w3.drewN k4 = w4 at *
        have q0 := HQ4.out.cell 0
        have q2 := HQ4.out.cell 2
        have q3 := HQ4.out.cell 3
        simp only [List.getElem?_toArray, List.getElem?_cons_zero, List.getElem?_cons_succ] at q0 q2 q3
        have hB0 : 2 * (1200 + z) ≤ s'.bytes := by have := HO3.out.b0; have := HZ'.out; omega
        have hB1 : s'.bytes ≤ 1073741824 := HO3.out.b1
        have hL : s'.slow = -1 ∨ 2 * (1200 + z) ≤ s'.slow := by have := HO3.out.l0; have := HZ'.out; omega
        have hG : s.bytes ≤ s'.bytes := HG.out
        have hS : se ≤ s.rcv → s'.bytes = s.bytes := HS.out
        have t0 : decide (s'.bytes < 2 * (1200 + z)) = false := decide_eq_false (by omega)
        have t1 : decide (1073741824 < s'.bytes) = false := decide_eq_false (by omega)
        obtain ⟨L, hl'⟩ : ∃ L, s'.slow = L := ⟨_, rfl⟩
        rw [hl'] at hL ⊢
        clear hl'
        have t4 : decide (s'.bytes < s.bytes) = false := decide_eq_false (by omega)
        rcases (show (se ≤ s.rcv) ∨ (¬ se ≤ s.rcv) from by omega) with hc | hc
        · have t5 : decide (se ≤ s.rcv) = true := decide_eq_true hc
          have t6 : (s'.bytes == s.bytes) = true := by simp; exact hS hc
          rcases hL with rfl | hL
          · go_wp2
            go_roundw
            case rel => exact ⟨k + 1, s', _, by omega, rfl, by go_num, HI4, HO3, Lib.hid HZ'.out, HB4⟩
            case measure => simp [intOf]; omega
          · have t2 : (L == -1) = false := by simp; omega
            have t3 : decide (L < 2 * (1200 + z)) = false := decide_eq_false (by omega)
            go_wp2
            go_roundw
            case rel => exact ⟨k + 1, s', _, by omega, rfl, by go_num, HI4, HO3, Lib.hid HZ'.out, HB4⟩
            case measure => simp [intOf]; omega
        · have t5 : decide (se ≤ s.rcv) = false := decide_eq_false hc
          rcases hL with rfl | hL
          · go_wp2
            go_roundw
            case rel => exact ⟨k + 1, s', _, by omega, rfl, by go_num, HI4, HO3, Lib.hid HZ'.out, HB4⟩
            case measure => simp [intOf]; omega
          · have t2 : (L == -1) = false := by simp; omega
            have t3 : decide (L < 2 * (1200 + z)) = false := decide_eq_false (by omega)
            go_wp2
            go_roundw
            case rel => exact ⟨k + 1, s', _, by omega, rfl, by go_num, HI4, HO3, Lib.hid HZ'.out, HB4⟩
            case measure => simp [intOf]; omega
      · have e1 : (kd == 0) = false := by simpa using k0
        by_cases k1 : kd = 1
        · subst k1
          have q0 := HQ2.out.cell 0
          have q1 := HQ2.out.cell 1
          have q2 := HQ2.out.cell 2
          have q3 := HQ2.out.cell 3
          have q4 := HQ2.out.cell 4
          have q5 := HQ2.out.cell 5
          simp only [List.getElem?_toArray, List.getElem?_cons_zero, List.getElem?_cons_succ] at q0 q1 q2 q3 q4 q5
          have HG := Lib.hid (lost_less HO.out se no)
          have HS := Lib.hid (show lostErr se no = 0 → s.rcv < se → (lostS s se no).rcv = no from fun h h' => lost_now h h')
          go_wp2_with fail
          refine (lost_any _ s _ se no _ HI2.out HO.out).mono ?_
          rintro e w3 ⟨rfl, hI, hO⟩
          generalize lostErr se no = E at *
          have HO3 := Lib.hid (okb_more (ok_lost HO.out se no))
          have HZ' := Lib.hid (show (lostS s se no).size = 1200 + z from (same_size s se no).trans HZ.out)
          have HI3 := Lib.hid hI
          have HB3 := Lib.hid (below_only HB2.out hO (Nat.le_refl _) (Nat.le_refl _))
          have HQ3 := Lib.hid (HQ2.out.only hO hqg)
          clear hI hO HI2 HB2 HQ2 q0 q1 q2 q3 q4 q5
          generalize lostS s se no = s' at *
          go_wp2_with fail
          refine (told_is w.heap.size s'.kind s'.size s'.bytes s'.slow s'.rcv s'.peak s'.epoch s'.start s'.est _ HI3.out HO3.out.z0).mono ?_
          rintro e w' ⟨rfl, k4, rfl⟩
          have HI4 := Lib.hid (HI3.out.drewN k4)
          have HB4 := Lib.hid (below_drewN HB3.out k4)
          have HQ4 := Lib.hid (show Bk (w3.drewN k4) Q 25 #[.int .i64 1, .int .i64 ak, .int .i64 se, .int .i64 no, .int .i64 rt, .bool fl] from HQ3.out)
          clear HI3 HB3 HQ3
          generalize w3.drewN k4 = w4 at *
          have q0 := HQ4.out.cell 0
          have q2 := HQ4.out.cell 2
          have q3 := HQ4.out.cell 3
          simp only [List.getElem?_toArray, List.getElem?_cons_zero, List.getElem?_cons_succ] at q0 q2 q3
          have hB0 : 2 * (1200 + z) ≤ s'.bytes := by have := HO3.out.b0; have := HZ'.out; omega
          have hB1 : s'.bytes ≤ 1073741824 := HO3.out.b1
          have hL : s'.slow = -1 ∨ 2 * (1200 + z) ≤ s'.slow := by have := HO3.out.l0; have := HZ'.out; omega
          have hG : s'.bytes ≤ s.bytes := HG.out
          have t0 : decide (s'.bytes < 2 * (1200 + z)) = false := decide_eq_false (by omega)
          have t1 : decide (1073741824 < s'.bytes) = false := decide_eq_false (by omega)
          obtain ⟨L, hl'⟩ : ∃ L, s'.slow = L := ⟨_, rfl⟩
          rw [hl'] at hL ⊢
          clear hl'
          have t4 : decide (s.bytes < s'.bytes) = false := decide_eq_false (by omega)
          rcases (show (¬ E = 0) ∨ (E = 0 ∧ ¬ s.rcv < se) ∨ (E = 0 ∧ s.rcv < se) from by omega) with hc | hc | hc
          · have t5 : (E == 0) = false := by simpa using hc
            rcases hL with rfl | hL
            · go_wp2
              go_roundw
              case rel => exact ⟨k + 1, s', _, by omega, rfl, by go_num, HI4, HO3, Lib.hid HZ'.out, HB4⟩
              case measure => simp [intOf]; omega
            · have t2 : (L == -1) = false := by simp; omega
              have t3 : decide (L < 2 * (1200 + z)) = false := decide_eq_false (by omega)
              go_wp2
              go_roundw
              case rel => exact ⟨k + 1, s', _, by omega, rfl, by go_num, HI4, HO3, Lib.hid HZ'.out, HB4⟩
              case measure => simp [intOf]; omega
          · have t5 : (E == 0) = true := by simp; exact hc.1
            have t6 : decide (s.rcv < se) = false := decide_eq_false hc.2
            rcases hL with rfl | hL
            · go_wp2
              go_roundw
              case rel => exact ⟨k + 1, s', _, by omega, rfl, by go_num, HI4, HO3, Lib.hid HZ'.out, HB4⟩
              case measure => simp [intOf]; omega
            · have t2 : (L == -1) = false := by simp; omega
              have t3 : decide (L < 2 * (1200 + z)) = false := decide_eq_false (by omega)
              go_wp2
              go_roundw
              case rel => exact ⟨k + 1, s', _, by omega, rfl, by go_num, HI4, HO3, Lib.hid HZ'.out, HB4⟩
              case measure => simp [intOf]; omega
          · have t5 : (E == 0) = true := by simp; exact hc.1
            have t6 : decide (s.rcv < se) = true := decide_eq_true hc.2
            have t7 : (s'.rcv == no) = true := by simp; exact HS.out hc.1 hc.2
            rcases hL with rfl | hL
            · go_wp2
              go_roundw
              case rel => exact ⟨k + 1, s', _, by omega, rfl, by go_num, HI4, HO3, Lib.hid HZ'.out, HB4⟩
              case measure => simp [intOf]; omega
            · have t2 : (L == -1) = false := by simp; omega
              have t3 : decide (L < 2 * (1200 + z)) = false := decide_eq_false (by omega)
              go_wp2
              go_roundw
              case rel => exact ⟨k + 1, s', _, by omega, rfl, by go_num, HI4, HO3, Lib.hid HZ'.out, HB4⟩
              case measure => simp [intOf]; omega
        · have e2 : (kd == 1) = false := by simpa using k1
          by_cases k2 : kd = 2
          · subst k2
            have q0 := HQ2.out.cell 0
            have q1 := HQ2.out.cell 1
            have q2 := HQ2.out.cell 2
            have q3 := HQ2.out.cell 3
            have q4 := HQ2.out.cell 4
            have q5 := HQ2.out.cell 5
            simp only [List.getElem?_toArray, List.getElem?_cons_zero, List.getElem?_cons_succ] at q0 q1 q2 q3 q4 q5
            go_wp2_with fail
            refine (coll_any _ s _ _ HI2.out HO.out).mono ?_
            rintro e w3 ⟨rfl, hI, hO⟩
            have HO3 := Lib.hid (okb_more (ok_coll HO.out))
            have HZ' := Lib.hid (show (collS s).size = 1200 + z from (rfl).trans HZ.out)
            have HI3 := Lib.hid hI
            have HB3 := Lib.hid (below_only HB2.out hO (Nat.le_refl _) (Nat.le_refl _))
            have HQ3 := Lib.hid (HQ2.out.only hO hqg)
            clear hI hO HI2 HB2 HQ2 q0 q1 q2 q3 q4 q5
            generalize collS s = s' at *
            go_wp2_with fail
            refine (told_is w.heap.size s'.kind s'.size s'.bytes s'.slow s'.rcv s'.peak s'.epoch s'.start s'.est _ HI3.out HO3.out.z0).mono ?_
            rintro e w' ⟨rfl, k4, rfl⟩
            have HI4 := Lib.hid (HI3.out.drewN k4)
            have HB4 := Lib.hid (below_drewN HB3.out k4)
            have HQ4 := Lib.hid (show Bk (w3.drewN k4) Q 25 #[.int .i64 2, .int .i64 ak, .int .i64 se, .int .i64 no, .int .i64 rt, .bool fl] from HQ3.out)
            clear HI3 HB3 HQ3
            generalize w3.drewN k4 = w4 at *
            have q0 := HQ4.out.cell 0
            have q2 := HQ4.out.cell 2
            have q3 := HQ4.out.cell 3
            simp only [List.getElem?_toArray, List.getElem?_cons_zero, List.getElem?_cons_succ] at q0 q2 q3
            have hB0 : 2 * (1200 + z) ≤ s'.bytes := by have := HO3.out.b0; have := HZ'.out; omega
            have hB1 : s'.bytes ≤ 1073741824 := HO3.out.b1
            have hL : s'.slow = -1 ∨ 2 * (1200 + z) ≤ s'.slow := by have := HO3.out.l0; have := HZ'.out; omega
            have t0 : decide (s'.bytes < 2 * (1200 + z)) = false := decide_eq_false (by omega)
            have t1 : decide (1073741824 < s'.bytes) = false := decide_eq_false (by omega)
            obtain ⟨L, hl'⟩ : ∃ L, s'.slow = L := ⟨_, rfl⟩
            rw [hl'] at hL ⊢
            clear hl'
            rcases hL with rfl | hL
            · go_wp2
              go_roundw
              case rel => exact ⟨k + 1, s', _, by omega, rfl, by go_num, HI4, HO3, Lib.hid HZ'.out, HB4⟩
              case measure => simp [intOf]; omega
            · have t2 : (L == -1) = false := by simp; omega
              have t3 : decide (L < 2 * (1200 + z)) = false := decide_eq_false (by omega)
              go_wp2
              go_roundw
              case rel => exact ⟨k + 1, s', _, by omega, rfl, by go_num, HI4, HO3, Lib.hid HZ'.out, HB4⟩
              case measure => simp [intOf]; omega
          · have e3 : (kd == 2) = false := by simpa using k2
            have q0 := HQ2.out.cell 0
            have q1 := HQ2.out.cell 1
            have q2 := HQ2.out.cell 2
            have q3 := HQ2.out.cell 3
            have q4 := HQ2.out.cell 4
            have q5 := HQ2.out.cell 5
            simp only [List.getElem?_toArray, List.getElem?_cons_zero, List.getElem?_cons_succ] at q0 q1 q2 q3 q4 q5
            have HO3 := Lib.hid (okb_more HO.out)
            have HZ' := HZ
            have HI3 := HI2
            have HB3 := HB2
            have HQ3 := HQ2
            obtain ⟨s', hs'⟩ : ∃ s', s' = s := ⟨_, rfl⟩
            rw [← hs'] at HO3 HZ' HI3
            clear hs' HI2 HB2 HQ2
            obtain ⟨w3, hw3⟩ : ∃ w3, w3 = w2 := ⟨_, rfl⟩
            rw [← hw3] at HI3 HB3 HQ3 q0 q1 q2 q3 q4 q5 ⊢
            clear hw3
            go_wp2_with fail
            refine (told_is w.heap.size s'.kind s'.size s'.bytes s'.slow s'.rcv s'.peak s'.epoch s'.start s'.est _ HI3.out HO3.out.z0).mono ?_
            rintro e w' ⟨rfl, k4, rfl⟩
            have HI4 := Lib.hid (HI3.out.drewN k4)
            have HB4 := Lib.hid (below_drewN HB3.out k4)
            have HQ4 := Lib.hid (show Bk (w3.drewN k4) Q 25 #[.int .i64 kd, .int .i64 ak, .int .i64 se, .int .i64 no, .int .i64 rt, .bool fl] from HQ3.out)
            clear HI3 HB3 HQ3 q0 q1 q2 q3 q4 q5
            generalize w3.drewN k4 = w4 at *
            have q0 := HQ4.out.cell 0
            have q2 := HQ4.out.cell 2
            have q3 := HQ4.out.cell 3
            simp only [List.getElem?_toArray, List.getElem?_cons_zero, List.getElem?_cons_succ] at q0 q2 q3
            have hB0 : 2 * (1200 + z) ≤ s'.bytes := by have := HO3.out.b0; have := HZ'.out; omega
            have hB1 : s'.bytes ≤ 1073741824 := HO3.out.b1
            have hL : s'.slow = -1 ∨ 2 * (1200 + z) ≤ s'.slow := by have := HO3.out.l0; have := HZ'.out; omega
            have t0 : decide (s'.bytes < 2 * (1200 + z)) = false := decide_eq_false (by omega)
            have t1 : decide (1073741824 < s'.bytes) = false := decide_eq_false (by omega)
            obtain ⟨L, hl'⟩ : ∃ L, s'.slow = L := ⟨_, rfl⟩
            rw [hl'] at hL ⊢
            clear hl'
            rcases hL with rfl | hL
            · go_wp2
              go_roundw
              case rel => exact ⟨k + 1, s', _, by omega, rfl, by go_num, HI4, HO3, Lib.hid HZ'.out, HB4⟩
              case measure => simp [intOf]; omega
            · have t2 : (L == -1) = false := by simp; omega
              have t3 : decide (L < 2 * (1200 + z)) = false := decide_eq_false (by omega)
              go_wp2
              go_roundw
              case rel => exact ⟨k + 1, s', _, by omega, rfl, by go_num, HI4, HO3, Lib.hid HZ'.out, HB4⟩
              case measure => simp [intOf]; omega
    · have e0 : decide ((k : Int) < (n : Int)) = false := decide_eq_false (by omega)
      go_wp2
      go_ret
      exact ⟨rfl, HB0.out⟩
end Go.Proofs.Ytodeaibmojpmpaa

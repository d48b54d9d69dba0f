/- The walk of the law MtuPlays. -/
import Derived.Test.YtopkjlcoiifakaaRef
import Derived.Test.YtopkjlcoiifakaaActs
namespace Go.Proofs.Ytopkjlcoiifakaa
open Go.RowKit

theorem ok_acked {b s c l n : Int} (h : Ok b s c l) : Ok b (ackS s c n) c (ackL s c n l) := by
  obtain ⟨h1, h2, h3, h4, h5, h6⟩ := h
  rcases wrongE_cases s c n with e0 | e0
  · obtain ⟨e1, e2⟩ := wrongE_zero e0
    rw [show ackS s c n = n by simp [ackS, e0], show ackL s c n l = 0 by simp [ackL, e0]]
    exact ⟨h1, by omega, by omega, h4, by omega, by omega⟩
  · rw [show ackS s c n = s by simp [ackS, e0], show ackL s c n l = l by simp [ackL, e0]]
    exact ⟨h1, h2, h3, h4, h5, h6⟩
theorem ok_lost {b s c l n : Int} (h : Ok b s c l) : Ok b s (lostC s c n l) (lostL s c n l) := by
  obtain ⟨h1, h2, h3, h4, h5, h6⟩ := h
  rcases wrongE_cases s c n with e0 | e0
  · obtain ⟨e1, e2⟩ := wrongE_zero e0
    by_cases hl : l = 2
    · rw [show lostC s c n l = n - 1 by simp [lostC, e0, hl], show lostL s c n l = 0 by simp [lostL, e0, hl]]
      exact ⟨h1, by omega, by omega, by omega, by omega, by omega⟩
    · rw [show lostC s c n l = c by simp [lostC, hl], show lostL s c n l = l + 1 by simp [lostL, e0, hl]]
      exact ⟨h1, h2, h3, h4, by omega, by omega⟩
  · rw [show lostC s c n l = c by simp [lostC, e0], show lostL s c n l = l by simp [lostL, e0]]
    exact ⟨h1, h2, h3, h4, h5, h6⟩
theorem ok_hole {b s c l : Int} (h : Ok b s c l) : Ok b b (max (s - 1) b) 0 := by
  obtain ⟨h1, h2, h3, h4, h5, h6⟩ := h
  exact ⟨h1, by omega, by omega, by omega, by omega, by omega⟩

set_option maxHeartbeats 1000000 in
set_option maxRecDepth 100000 in
theorem plays_at (w : World) (b m : Int) (A : Option Addr) (n cap : Nat) (f : Nat → Act) (hA : IsActs w A n f) :
    Calls Try.prog 6 #[.int .i64 b, .int .i64 m, .slice A n cap] w fun e w' => e = .returned (.bool true) ∧ Below w.heap.size w w' := by
  obtain ⟨hreach, hcells⟩ := hA
  have HC := Lib.hid hcells
  clear hcells
  by_cases hn : 1200 ≤ b ∧ m ≤ 65527 ∧ b ≤ m
  · obtain ⟨h1, h2, h3⟩ := hn
    go_enter Try.func6, Try.ntmps6
    go_wp2_with fail
    refine (new_ok b m _ h1 h2 h3).mono ?_
    rintro e w1 ⟨rfl, hM, hB⟩
    have HM := Lib.hid hM
    have HB := Lib.hid hB
    have hsz : w.heap.size < w1.heap.size := hM.lt
    clear hM hB
    go_wp2_with fail
    refine (rnew_ok b m _ h1 h2 h3).mono ?_
    rintro e w2 ⟨rfl, hR, hB2⟩
    have HM2 := Lib.hid (HM.out.below hB2 hsz)
    have HB2 := Lib.hid (HB.out.trans (hB2.mono HB.out.size))
    have HR2 := Lib.hid hR
    clear hR hB2 HM HB
    go_wp2_with fail
    refine (names_any _).mono ?_
    rintro e w3 ⟨rfl, rfl⟩
    go_wp2_with fail
    obtain ⟨g, hgd⟩ : ∃ g, g = w.heap.size := ⟨_, rfl⟩
    obtain ⟨r, hrd⟩ : ∃ r, r = w1.heap.size := ⟨_, rfl⟩
    simp only [← hrd] at HR2 hsz ⊢
    have hg : w.heap.size ≤ w.heap.size := Nat.le_refl _
    have hr : w.heap.size ≤ r := by omega
    have hgr : w.heap.size ≠ r := by omega
    clear hgd hrd g
    go_loopw [11] (fun i wr => ∃ (k : Nat) (s c l : Int), k ≤ n ∧ i = .int .i64 k ∧ Hid (IsM wr w.heap.size b s c l) ∧ Hid (IsR wr r b s c l) ∧ Hid (Ok b s c l) ∧ Hid (Below w.heap.size w wr)) (fun i _ => n - (intOf i).toNat)
    case atStart => exact ⟨0, b, m, 0, by omega, rfl, HM2, HR2, Lib.hid ⟨h1, by omega, by omega, by omega, by omega, by omega⟩, HB2⟩
    case round =>
      obtain ⟨k, s, c, l, hk, rfl, HI, HR, HO, HBr⟩ := hrel
      go_wp2_with fail
      refine (probe_w _ _ _ _ _ _ HI.out HO.out).mono ?_
      rintro e w4 ⟨rfl, hI4, hO4⟩
      have HI4 := Lib.hid hI4
      have HR4 := Lib.hid (HR.out.only hO4 (Ne.symm hgr))
      have HB4 := Lib.hid (below_only HBr.out hO4 (Nat.le_refl _) hg)
      clear hI4 hO4
      go_wp2_with fail
      refine (rprobe_w _ _ _ _ _ _ HR4.out HO.out).mono ?_
      rintro e w5 ⟨rfl, hI5, hO5⟩
      have HR5 := Lib.hid hI5
      have HI5 := Lib.hid (HI4.out.only hO5 hgr)
      have HB5 := Lib.hid (below_only HB4.out hO5 (Nat.le_refl _) hr)
      obtain ⟨⟨c0, c1, c2, c3⟩, _⟩ := hI5.all
      clear hI5 hO5
      have hb1 := HO.out.1
      by_cases hkn : k < n
      · obtain ⟨ab, ao, rfl, hab, hcl⟩ := HC.out.resolve_left (by omega)
        obtain ⟨⟨a0, a1, a2⟩, ⟨b0, b1⟩, b2, b3⟩ := hcl k hkn
        clear hcl
        generalize f k = x at a0 a1 a2 b0 b1 b2 b3
        obtain ⟨kd, sz, od⟩ := x
        simp only at a0 a1 a2 b0 b1 b2 b3
        have d0 := (HB5.out.cell (p := ⟨ab, ao + k * 3, none⟩) hab).trans a0
        have d1 := (HB5.out.cell (p := ⟨ab, ao + k * 3 + 1, none⟩) hab).trans a1
        have d2 := (HB5.out.cell (p := ⟨ab, ao + k * 3 + 2, none⟩) hab).trans a2
        clear a0 a1 a2
        cases od
        · have tok : True := trivial
          clear tok
          go_wp2_with fail
          go_quiet ((go_at_call 8; exact quiet_eq (size_any _ _ _ _ _ _ (HI5.out.drewN _) hb1)))
          by_cases k0 : kd = 0
          · subst k0
            go_wp2_with fail
            refine (acked_any _ _ _ _ _ _ _ (HI5.out.drewN _) HO.out).mono ?_
            rintro e w6 ⟨rfl, hI6, hO6⟩
            have HI6 := Lib.hid hI6
            have HR6 := Lib.hid ((HR5.out.drewN _).only hO6 (Ne.symm hgr))
            have HB6 := Lib.hid (below_only (below_drewN HB5.out _) hO6 (Nat.le_refl _) hg)
            clear hI6 hO6
            go_wp2_with fail
            refine (racked_any _ _ _ _ _ _ _ HR6.out HO.out).mono ?_
            rintro e w7 ⟨rfl, hI7, hO7⟩
            have HR7 := Lib.hid hI7
            have HI7 := Lib.hid (HI6.out.only hO7 hgr)
            have HB7 := Lib.hid (below_only HB6.out hO7 (Nat.le_refl _) hr)
            clear hI7 hO7
            go_wp2
            go_roundw
            case rel => exact ⟨k + 1, _, _, _, by omega, by go_num, HI7, HR7, Lib.hid (ok_acked HO.out), HB7⟩
            case measure => simp [intOf]; omega
          · have e0 : (kd == 0) = false := by simpa using k0
            by_cases k1 : kd = 1
            · subst k1
              clear k0
              go_wp2_with fail
              refine (lost_any _ _ _ _ _ _ _ (HI5.out.drewN _) HO.out).mono ?_
              rintro e w6 ⟨rfl, hI6, hO6⟩
              have HI6 := Lib.hid hI6
              have HR6 := Lib.hid ((HR5.out.drewN _).only hO6 (Ne.symm hgr))
              have HB6 := Lib.hid (below_only (below_drewN HB5.out _) hO6 (Nat.le_refl _) hg)
              clear hI6 hO6
              go_wp2_with fail
              refine (rlost_any _ _ _ _ _ _ _ HR6.out HO.out).mono ?_
              rintro e w7 ⟨rfl, hI7, hO7⟩
              have HR7 := Lib.hid hI7
              have HI7 := Lib.hid (HI6.out.only hO7 hgr)
              have HB7 := Lib.hid (below_only HB6.out hO7 (Nat.le_refl _) hr)
              clear hI7 hO7
              go_wp2
              go_roundw
              case rel => exact ⟨k + 1, _, _, _, by omega, by go_num, HI7, HR7, Lib.hid (ok_lost HO.out), HB7⟩
              case measure => simp [intOf]; omega
            · have e1 : (kd == 1) = false := by simpa using k1
              by_cases k2 : kd = 2
              · subst k2
                clear k0 k1
                go_wp2_with fail
                refine (hole_any _ _ _ _ _ _ (HI5.out.drewN _) HO.out).mono ?_
                rintro e w6 ⟨rfl, hI6, hO6⟩
                have HI6 := Lib.hid hI6
                have HR6 := Lib.hid ((HR5.out.drewN _).only hO6 (Ne.symm hgr))
                have HB6 := Lib.hid (below_only (below_drewN HB5.out _) hO6 (Nat.le_refl _) hg)
                clear hI6 hO6
                go_wp2_with fail
                refine (rhole_any _ _ _ _ _ _ HR6.out HO.out).mono ?_
                rintro e w7 ⟨rfl, hI7, hO7⟩
                have HR7 := Lib.hid hI7
                have HI7 := Lib.hid (HI6.out.only hO7 hgr)
                have HB7 := Lib.hid (below_only HB6.out hO7 (Nat.le_refl _) hr)
                clear hI7 hO7
                go_wp2
                go_roundw
                case rel => exact ⟨k + 1, _, _, _, by omega, by go_num, HI7, HR7, Lib.hid (ok_hole HO.out), HB7⟩
                case measure => simp [intOf]; omega
              · have e2 : (kd == 2) = false := by simpa using k2
                clear k0 k1 k2
                go_wp2
                go_roundw
                case rel => exact ⟨k + 1, _, _, _, by omega, by go_num, Lib.hid (HI5.out.drewN _), Lib.hid (HR5.out.drewN _), HO, Lib.hid (below_drewN HB5.out _)⟩
                case measure => simp [intOf]; omega
        · have tok : True := trivial
          clear tok
          go_wp2_with fail
          go_quiet ((go_at_call 8; exact quiet_eq (size_any _ _ _ _ _ _ (HI5.out.drewN _) hb1)))
          by_cases k0 : kd = 0
          · subst k0
            go_wp2_with fail
            refine (acked_any _ _ _ _ _ _ _ (HI5.out.drewN _) HO.out).mono ?_
            rintro e w6 ⟨rfl, hI6, hO6⟩
            have HI6 := Lib.hid hI6
            have HR6 := Lib.hid ((HR5.out.drewN _).only hO6 (Ne.symm hgr))
            have HB6 := Lib.hid (below_only (below_drewN HB5.out _) hO6 (Nat.le_refl _) hg)
            clear hI6 hO6
            go_wp2_with fail
            refine (racked_any _ _ _ _ _ _ _ HR6.out HO.out).mono ?_
            rintro e w7 ⟨rfl, hI7, hO7⟩
            have HR7 := Lib.hid hI7
            have HI7 := Lib.hid (HI6.out.only hO7 hgr)
            have HB7 := Lib.hid (below_only HB6.out hO7 (Nat.le_refl _) hr)
            clear hI7 hO7
            go_wp2
            go_roundw
            case rel => exact ⟨k + 1, _, _, _, by omega, by go_num, HI7, HR7, Lib.hid (ok_acked HO.out), HB7⟩
            case measure => simp [intOf]; omega
          · have e0 : (kd == 0) = false := by simpa using k0
            by_cases k1 : kd = 1
            · subst k1
              clear k0
              go_wp2_with fail
              refine (lost_any _ _ _ _ _ _ _ (HI5.out.drewN _) HO.out).mono ?_
              rintro e w6 ⟨rfl, hI6, hO6⟩
              have HI6 := Lib.hid hI6
              have HR6 := Lib.hid ((HR5.out.drewN _).only hO6 (Ne.symm hgr))
              have HB6 := Lib.hid (below_only (below_drewN HB5.out _) hO6 (Nat.le_refl _) hg)
              clear hI6 hO6
              go_wp2_with fail
              refine (rlost_any _ _ _ _ _ _ _ HR6.out HO.out).mono ?_
              rintro e w7 ⟨rfl, hI7, hO7⟩
              have HR7 := Lib.hid hI7
              have HI7 := Lib.hid (HI6.out.only hO7 hgr)
              have HB7 := Lib.hid (below_only HB6.out hO7 (Nat.le_refl _) hr)
              clear hI7 hO7
              go_wp2
              go_roundw
              case rel => exact ⟨k + 1, _, _, _, by omega, by go_num, HI7, HR7, Lib.hid (ok_lost HO.out), HB7⟩
              case measure => simp [intOf]; omega
            · have e1 : (kd == 1) = false := by simpa using k1
              by_cases k2 : kd = 2
              · subst k2
                clear k0 k1
                go_wp2_with fail
                refine (hole_any _ _ _ _ _ _ (HI5.out.drewN _) HO.out).mono ?_
                rintro e w6 ⟨rfl, hI6, hO6⟩
                have HI6 := Lib.hid hI6
                have HR6 := Lib.hid ((HR5.out.drewN _).only hO6 (Ne.symm hgr))
                have HB6 := Lib.hid (below_only (below_drewN HB5.out _) hO6 (Nat.le_refl _) hg)
                clear hI6 hO6
                go_wp2_with fail
                refine (rhole_any _ _ _ _ _ _ HR6.out HO.out).mono ?_
                rintro e w7 ⟨rfl, hI7, hO7⟩
                have HR7 := Lib.hid hI7
                have HI7 := Lib.hid (HI6.out.only hO7 hgr)
                have HB7 := Lib.hid (below_only HB6.out hO7 (Nat.le_refl _) hr)
                clear hI7 hO7
                go_wp2
                go_roundw
                case rel => exact ⟨k + 1, _, _, _, by omega, by go_num, HI7, HR7, Lib.hid (ok_hole HO.out), HB7⟩
                case measure => simp [intOf]; omega
              · have e2 : (kd == 2) = false := by simpa using k2
                clear k0 k1 k2
                go_wp2
                go_roundw
                case rel => exact ⟨k + 1, _, _, _, by omega, by go_num, Lib.hid (HI5.out.drewN _), Lib.hid (HR5.out.drewN _), HO, Lib.hid (below_drewN HB5.out _)⟩
                case measure => simp [intOf]; omega
      · obtain rfl : k = n := by omega
        go_wp2_with fail
        go_quiet ((go_at_call 8; exact quiet_eq (size_any _ _ _ _ _ _ (HI5.out.drewN _) hb1)))
        go_wp2
        go_ret
        exact ⟨rfl, below_drewN HB5.out _⟩
  · go_enter Try.func6, Try.ntmps6
    go_wp2_with fail
    refine (new_no b m _ hn).mono ?_
    rintro e w1 ⟨rfl, rfl⟩
    go_wp2_with fail
    refine (rnew_no b m _ hn).mono ?_
    rintro e w2 ⟨rfl, rfl⟩
    go_wp2_with fail
    refine (names_any _).mono ?_
    rintro e w3 ⟨rfl, rfl⟩
    go_wp2_with fail
    go_loop [11] (fun i => i = .int .i64 0) (fun _ => 0)
    case atStart => rfl
    case round =>
      obtain rfl := hrel
      go_wp2
      go_ret
      exact ⟨rfl, Below.refl _ _⟩
end Go.Proofs.Ytopkjlcoiifakaa

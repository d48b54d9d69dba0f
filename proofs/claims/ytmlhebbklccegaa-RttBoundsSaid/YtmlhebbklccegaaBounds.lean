/- The walk of the law RttBounds. -/
import Derived.Test.YtmlhebbklccegaaSteady
namespace Go.Proofs.Ytmlhebbklccegaa
open Go.RowKit
attribute [local go_sem] and_7 max2_is min2_is max_of_two min_of_two

/-- What holds of an estimate whose least sample is L, the greatest G. -/
def Bnd (s : St) (L G : Int) : Prop := (s.has = false ∧ L = 1125899906842624 ∧ G = 0) ∨ (s.has = true ∧ s.le = L ∧ 0 ≤ L ∧ L ≤ G ∧ G ≤ 1125899906842624 ∧ L ≤ s.sm ∧ s.sm ≤ G ∧ 0 ≤ s.va ∧ s.va ≤ G)
theorem tm_25000 : tm 25000 := ⟨by decide, by decide⟩
theorem bounds_next {s : St} {L G x : Int} (h : Bnd s L G) (hx : tm x) :
    (nextSt 25000 s x 0 true).has = true ∧ (nextSt 25000 s x 0 true).la = x ∧ (nextSt 25000 s x 0 true).le = min L x ∧ 0 ≤ min L x ∧ max G x ≤ 1125899906842624 ∧ min L x ≤ (nextSt 25000 s x 0 true).sm ∧ (nextSt 25000 s x 0 true).sm ≤ max G x ∧ 0 ≤ (nextSt 25000 s x 0 true).va ∧ (nextSt 25000 s x 0 true).va ≤ max G x := by
  have hx' := hx
  obtain ⟨x0, x1⟩ := hx'
  obtain ⟨hs, la, le, sm, va⟩ := s
  rcases h with ⟨h1, h2, h3⟩ | ⟨h1, h2, h3, h4, h5, h6, h7, h8, h9⟩
  · obtain rfl : hs = false := h1
    rw [next_first hx]
    refine ⟨rfl, rfl, ?_, ?_, ?_, ?_, ?_, ?_, ?_⟩ <;> (try simp only) <;> omega
  · obtain rfl : hs = true := h1
    simp only at h2 h6 h7 h8 h9
    rw [next_more tm_25000 hx]
    refine ⟨rfl, rfl, ?_, ?_, ?_, ?_, ?_, ?_, ?_⟩ <;> (try simp only [smoothN, varyN]) <;> omega
theorem bounds_keep {s : St} {L G x : Int} (_h : Bnd s L G) (hx : tm x) {t : St} (ht : t.has = true ∧ t.la = x ∧ t.le = min L x ∧ 0 ≤ min L x ∧ max G x ≤ 1125899906842624 ∧ min L x ≤ t.sm ∧ t.sm ≤ max G x ∧ 0 ≤ t.va ∧ t.va ≤ max G x) : Bnd t (min L x) (max G x) := by
  obtain ⟨x0, x1⟩ := hx
  obtain ⟨h1, h2, h3, h4, h5, h6, h7, h8, h9⟩ := ht
  exact .inr ⟨h1, h3, h4, by omega, h5, h6, h7, h8, h9⟩
theorem bounds_step {s : St} {L G x : Int} (_h : Bnd s L G) (_hx : tm x) : ∃ L' G' : Int, True ∧ True ∧ True ∧ L' = L ∧ G' = G := ⟨L, G, trivial, trivial, trivial, rfl, rfl⟩
theorem wait_double {M sm va q : Int} {d : Bool} (h0 : 0 ≤ q) (h1 : q ≤ 7) : waitN M sm va d (q + 1) = 2 * waitN M sm va d q := by
  unfold waitN
  have e : steps (q + 1) = steps q + 1 := by unfold steps; omega
  rw [e, Int.pow_succ, Int.mul_comm 2, Int.mul_assoc]
theorem wait_small {M sm va q : Int} {d : Bool} (h1 : tm M) (h2 : tm sm) (h3 : tm va) (h0 : 0 ≤ q) (h4 : q ≤ 7) : 0 ≤ waitN M sm va d q ∧ waitN M sm va d q ≤ 3458764513821052928 := by
  have a := waitN_in (d := d) (t := q) h1 h2 h3
  have b := waitN_in (d := d) (t := q + 1) h1 h2 h3
  rw [wait_double h0 h4] at b
  omega

set_option maxHeartbeats 4000000 in
set_option maxRecDepth 100000 in
theorem bounds_at (w : World) (A : Option Addr) (n cap : Nat) (f : Nat → Int) (times : Int) (hA : IsInts w A n f) :
    Calls Try.prog 4 #[.slice A n cap, .int .i64 times] w fun e w' => e = .returned (.bool true) ∧ Below w.heap.size w w' := by
  obtain ⟨hreach, hcells⟩ := hA
  have HC := Lib.hid hcells
  clear hcells
  have HM0 := Lib.hid tm_25000
  go_enter Try.func4, Try.ntmps4
  go_wp2_with fail
  refine (new_ok 25000 _ HM0.out).mono ?_
  rintro e w1 ⟨rfl, hM, hB⟩
  have HM := Lib.hid (show IsS w1 w.heap.size 25000 ⟨false, 0, 0, 333000, 166500⟩ from hM)
  have HB := Lib.hid hB
  clear hM hB
  go_wp2_with fail
  refine (wait_any _ _ _ _ _ _ _ 0 false _ HM.out HM0.out ⟨by decide, by decide⟩ ⟨by decide, by decide⟩ (by omega) (by omega)).mono ?_
  rw [show waitN 25000 333000 166500 false 0 = 999000 from by decide]
  rintro e w2 ⟨rfl, hI, hO⟩
  have HM2 := Lib.hid (show IsS w2 w.heap.size 25000 ⟨false, 0, 0, 333000, 166500⟩ from hI)
  have HB2 := Lib.hid (below_only HB.out hO (Nat.le_refl _) (Nat.le_refl _))
  clear hI hO HM HB
  go_wp2_with fail
  go_loopw [7, 8, 9, 10] (fun a b c i wr => ∃ (k : Nat) (s : St) (L G : Int) (N0 : Nat), k ≤ n ∧ i = .int .i64 k ∧ a = .int .i64 L ∧ b = .int .i64 G ∧ c = .int .i64 N0 ∧ N0 ≤ k ∧ Hid (IsS wr w.heap.size 25000 s) ∧ Hid (Rok 25000 s) ∧ Hid (Bnd s L G) ∧ Hid (Below w.heap.size w wr)) (fun _ _ _ i _ => n - (intOf i).toNat)
  case atStart => exact ⟨0, _, _, _, 0, by omega, rfl, rfl, rfl, rfl, by omega, HM2, Lib.hid ⟨HM0.out, ⟨by decide, by decide⟩, ⟨by decide, by decide⟩, ⟨by decide, by decide⟩, ⟨by decide, by decide⟩⟩, Lib.hid (.inl ⟨rfl, rfl, rfl⟩), HB2⟩
  case round =>
    obtain ⟨k, s, L, G, N0, hk, rfl, rfl, rfl, rfl, hN0, HI0, HOk, HV, HB0⟩ := hrel
    by_cases hkn : k < n
    · obtain ⟨ab, ao, rfl, hab, hcl⟩ := HC.out.resolve_left (by omega)
      obtain ⟨a0, b0, b1⟩ := hcl k hkn
      clear hcl
      generalize f k = x at a0 b0 b1
      have HA0 := Lib.hid a0
      clear a0
      have d0 := (HB0.out.cell (p := ⟨ab, ao + k, none⟩) hab).trans HA0.out
      by_cases hx : tm x
      · obtain ⟨L', G', hs, hv0, hv1, hL, hG⟩ := bounds_step (x := x) HV.out hx
        have hx' := hx
        obtain ⟨x0, x1⟩ := hx'
        go_wp2_with fail
        refine (sample_any _ _ _ x 0 true _ HI0.out HOk.out (by omega)).mono ?_
        rw [sampE_ok hx]
        rintro e v1 ⟨rfl, hI, hO⟩
        have HI1 := Lib.hid hI
        have HB1 := Lib.hid (below_only HB0.out hO (Nat.le_refl _) (Nat.le_refl _))
        have HOk1 := Lib.hid (rok_next (took := x) (waited := 0) (kn := true) HOk.out)
        have HV1 := Lib.hid (bounds_next HV.out hx)
        clear hI hO d0 hs hv0 hv1 hL hG
        generalize nextSt 25000 s x 0 true = s1 at *
        have d0 := (HB1.out.cell (p := ⟨ab, ao + k, none⟩) hab).trans HA0.out
        go_wp2_with fail
        go_quiet (fail)
        clear d0
        have HI1n := Lib.hid (show IsS (v1.drewN nq) w.heap.size 25000 s1 from HI1.out)
        have HB1n := Lib.hid (below_drewN HB1.out nq)
        generalize v1.drewN nq = v2 at *
        go_wp2_with fail
        refine (told_any _ _ _ _ _ _ _ _ HI1n.out).mono ?_
        rintro e v3 ⟨rfl, hI, hO⟩
        have HI3 := Lib.hid hI
        have HB3 := Lib.hid (below_only HB1n.out hO (Nat.le_refl _) (Nat.le_refl _))
        clear hI hO
        obtain ⟨g1, g2, g3, g4, g5, g6, g7, g8, g9⟩ := HV1.out
        have d0 := (HB3.out.cell (p := ⟨ab, ao + k, none⟩) hab).trans HA0.out
        have HG := Lib.hid g1
        have HG2 := Lib.hid g2
        have HG3 := Lib.hid g3
        have e2 : (s1.la != x) = false := by rw [bne_eq_false_iff_eq]; exact g2
        have e3 : (s1.le != min L x) = false := by rw [bne_eq_false_iff_eq]; exact g3
        clear g1 g2 g3
        go_wp2
        go_roundw
        case rel => exact ⟨k + 1, s1, min L x, max G x, N0 + 1, by omega, by go_num, rfl, rfl, by go_num, by omega, HI3, HOk1, Lib.hid (bounds_keep HV.out hx HV1.out), HB3⟩
        case measure => simp [intOf]; omega
      · have hE : sampE x 0 = 2 := by unfold sampE; rw [if_neg (fun h => hx h.1)]
        have hS : nextSt 25000 s x 0 true = s := by unfold nextSt; rw [if_neg (fun h => hx h.1)]
        have HE := Lib.hid hE
        have HS := Lib.hid hS
        clear hE hS
        have hx2 : x < 0 ∨ 1125899906842624 < x := by unfold tm at hx; omega
        clear hx
        go_wp2_with fail
        refine (sample_any _ _ _ x 0 true _ HI0.out HOk.out (by omega)).mono ?_
        rw [HE.out, HS.out]
        rintro e v1 ⟨rfl, hI, hO⟩
        have HI1 := Lib.hid hI
        have HB1 := Lib.hid (below_only HB0.out hO (Nat.le_refl _) (Nat.le_refl _))
        clear hI hO d0
        have d0 := (HB1.out.cell (p := ⟨ab, ao + k, none⟩) hab).trans HA0.out
        rcases hx2 with hx2 | hx2
        · go_wp2
          go_roundw
          case rel => exact ⟨k + 1, s, L, G, N0, by omega, by go_num, rfl, rfl, rfl, by omega, HI1, HOk, HV, HB1⟩
          case measure => simp [intOf]; omega
        · have hx3 : 0 ≤ x := by omega
          go_wp2
          go_roundw
          case rel => exact ⟨k + 1, s, L, G, N0, by omega, by go_num, rfl, rfl, rfl, by omega, HI1, HOk, HV, HB1⟩
          case measure => simp [intOf]; omega
    · have hkn2 : n ≤ k := by omega
      have hr := HOk.out
      obtain ⟨_, _, _, r3, r4⟩ := hr
      have HR3 := Lib.hid r3
      have HR4 := Lib.hid r4
      clear r3 r4
      obtain ⟨q, hq⟩ : ∃ q, times % 8 = q := ⟨_, rfl⟩
      have hq0 : 0 ≤ q := by omega
      have hq1 : q ≤ 7 := by omega
      have HW1 := Lib.hid (wait_double (M := 25000) (sm := s.sm) (va := s.va) (d := true) hq0 hq1)
      have HW2 := Lib.hid (show waitN 25000 s.sm s.va false 11 = waitN 25000 s.sm s.va false 10 from rfl)
      have HW3 := Lib.hid (show waitN 25000 s.sm s.va true (-1) = waitN 25000 s.sm s.va true 0 from rfl)
      have hw0 := wait_small (M := 25000) (sm := s.sm) (va := s.va) (d := true) (q := q) HM0.out HR3.out HR4.out hq0 hq1
      go_wp2_with fail
      (try rw [hq])
      clear hq
      refine (wait_any _ _ _ _ _ _ _ (q + 1) true _ HI0.out HM0.out HR3.out HR4.out (by omega) (by omega)).mono ?_
      rintro e v1 ⟨rfl, hI, hO⟩
      have HI1 := Lib.hid hI
      have HB1 := Lib.hid (below_only HB0.out hO (Nat.le_refl _) (Nat.le_refl _))
      clear hI hO
      go_wp2_with fail
      refine (wait_any _ _ _ _ _ _ _ q true _ HI1.out HM0.out HR3.out HR4.out (by omega) (by omega)).mono ?_
      rintro e v2 ⟨rfl, hI, hO⟩
      have HI2 := Lib.hid hI
      have HB2 := Lib.hid (below_only HB1.out hO (Nat.le_refl _) (Nat.le_refl _))
      clear hI hO
      rw [HW1.out]
      go_wp2_with fail
      refine (wait_any _ _ _ _ _ _ _ 11 false _ HI2.out HM0.out HR3.out HR4.out (by omega) (by omega)).mono ?_
      rintro e v3 ⟨rfl, hI, hO⟩
      have HI3 := Lib.hid hI
      have HB3 := Lib.hid (below_only HB2.out hO (Nat.le_refl _) (Nat.le_refl _))
      clear hI hO
      go_wp2_with fail
      refine (wait_any _ _ _ _ _ _ _ 10 false _ HI3.out HM0.out HR3.out HR4.out (by omega) (by omega)).mono ?_
      rintro e v4 ⟨rfl, hI, hO⟩
      have HI4 := Lib.hid hI
      have HB4 := Lib.hid (below_only HB3.out hO (Nat.le_refl _) (Nat.le_refl _))
      clear hI hO
      rw [HW2.out]
      go_wp2_with fail
      refine (wait_any _ _ _ _ _ _ _ (-1) true _ HI4.out HM0.out HR3.out HR4.out (by omega) (by omega)).mono ?_
      rintro e v5 ⟨rfl, hI, hO⟩
      have HI5 := Lib.hid hI
      have HB5 := Lib.hid (below_only HB4.out hO (Nat.le_refl _) (Nat.le_refl _))
      clear hI hO
      go_wp2_with fail
      refine (wait_any _ _ _ _ _ _ _ 0 true _ HI5.out HM0.out HR3.out HR4.out (by omega) (by omega)).mono ?_
      rintro e v6 ⟨rfl, hI, hO⟩
      have HI6 := Lib.hid hI
      have HB6 := Lib.hid (below_only HB5.out hO (Nat.le_refl _) (Nat.le_refl _))
      clear hI hO
      rw [HW3.out]
      go_wp2
      go_ret
      exact ⟨by first | rfl | exact ret_bool (by simp), HB6.out⟩
end Go.Proofs.Ytmlhebbklccegaa

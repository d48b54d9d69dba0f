/- The walk of the law CubicBegins. -/
import Derived.Test.YtodeaibmojpmpaaAcked
import Derived.Test.YtodeaibmojpmpaaLost
namespace Go.Proofs.Ytodeaibmojpmpaa
open Go.RowKit
attribute [local go_sem] and_1 and_65535

/-- A window that has grown to b and lost nothing. -/
abbrev IsB (w : World) (g : Nat) (kd b : Int) : Prop := IsE 28 w g kd 1200 b (-1) (-1) 0 (-1) 0 0
section
variable (g : Nat) (kd b : Int) (w : World) (H : IsB w g kd b) (hb0 : 12000 ≤ b) (hb1 : b ≤ 100000000)
include H hb0 hb1
theorem begin_full (ak no : Int) (ha0 : 0 ≤ ak) (ha1 : ak ≤ 65535) (hn0 : 0 ≤ no) (hn1 : no ≤ 100) :
    Calls Try.prog 12 #[.pointer (some ⟨g, 0, none⟩), .int .i64 ak, .int .i64 0, .int .i64 no, .int .i64 10, .bool true] w fun e w' => e = .returned (.int .i64 0) ∧ IsB w' g kd (b + ak) ∧ Only w w' g := by
  have := ack_slow g kd 1200 b (-1) (-1) 0 (-1) 0 0 ak 0 no 10 w H (by decide) (by decide) (by omega) (by omega) ha0 (by omega) ⟨⟨by decide, by decide⟩, ⟨hn0, by omega⟩, ⟨by decide, by decide⟩⟩ hn0 (by decide) (.inl (by decide))
  rw [show min (b + ak) 1073741824 = b + ak by omega] at this
  exact this
theorem begin_off (ak no : Int) (ha0 : 0 ≤ ak) (ha1 : ak ≤ 65535) (hn0 : 0 ≤ no) (hn1 : no ≤ 100) :
    Calls Try.prog 12 #[.pointer (some ⟨g, 0, none⟩), .int .i64 ak, .int .i64 0, .int .i64 no, .int .i64 10, .bool false] w fun e w' => e = .returned (.int .i64 0) ∧ IsB w' g kd b ∧ Only w w' g :=
  ack_off g kd 1200 b (-1) (-1) 0 (-1) 0 0 ak 0 no 10 w H (by decide) (by decide) (by omega) (by omega) ha0 (by omega) ⟨⟨by decide, by decide⟩, ⟨hn0, by omega⟩, ⟨by decide, by decide⟩⟩ hn0
theorem begin_lost (c : Int) (hc : kd = 0 ∧ c = b / 2 ∨ kd = 1 ∧ c = 7 * b / 10) :
    Calls Try.prog 13 #[.pointer (some ⟨g, 0, none⟩), .int .i64 200, .int .i64 300] w fun e w' => e = .returned (.int .i64 0) ∧ (∃ pk ep, IsE 28 w' g kd 1200 c c 300 pk ep 0 0) ∧ Only w w' g := by
  have ht : tm 200 ∧ tm 300 := ⟨⟨by decide, by decide⟩, ⟨by decide, by decide⟩⟩
  rcases hc with ⟨rfl, rfl⟩ | ⟨rfl, rfl⟩
  · have := lost_reno g 0 1200 b (-1) (-1) 0 (-1) 0 0 200 300 w H (by decide) (by decide) (by omega) (by omega) ht (by decide) rfl
    rw [show max (b / 2) (2 * 1200) = b / 2 by omega] at this
    exact this.mono fun _ _ ⟨he, hI, hO⟩ => ⟨he, ⟨_, _, hI⟩, hO⟩
  · have := lost_high g 1 1200 b (-1) (-1) 0 (-1) 0 0 200 300 w H (by decide) (by decide) (by omega) (by omega) ht (by decide) (by decide) (by omega)
    rw [show max (7 * b / 10) (2 * 1200) = 7 * b / 10 by omega] at this
    exact this.mono fun _ _ ⟨he, hI, hO⟩ => ⟨he, ⟨_, _, hI⟩, hO⟩
end

set_option maxHeartbeats 4000000 in
set_option maxRecDepth 100000 in
theorem begins_at (w : World) (x : Int) (A : Option Addr) (n cap : Nat) (f : Nat → Int) (_hx0 : -9223372036854775808 ≤ x) (_hx1 : x ≤ 9223372036854775807) (hA : IsInts w A n f) :
    Calls Try.prog 5 #[.int .i64 x, .slice A n cap] w fun e w' => e = .returned (.bool true) ∧ Below w.heap.size w w' := by
  obtain ⟨hreach, hcells⟩ := hA
  have HL := Lib.hid hcells
  clear hcells
  go_enter Try.func5, Try.ntmps5
  go_wp2_with fail
  obtain ⟨kd, hkd⟩ : ∃ kd, x % 2 = kd := ⟨_, rfl⟩
  have HK := Lib.hid (show kd = 0 ∨ kd = 1 by omega)
  simp only [hkd]
  clear hkd
  refine (new_ok kd 1200 _ ⟨HK.out, by decide, by decide⟩).mono ?_
  rintro e w1 ⟨rfl, hI, hb⟩
  have HI0 := Lib.hid (show IsB w1 w.heap.size kd 12000 from hI)
  have HB0 := Lib.hid hb
  clear hI hb
  go_wp2_with fail
  refine (told_is _ _ _ _ _ _ _ _ _ _ _ HI0.out (by decide)).mono ?_
  rintro e w' ⟨rfl, k0, rfl⟩
  have HI1 := Lib.hid (IsE.drewN HI0.out k0)
  have HB1 := Lib.hid (below_drewN HB0.out k0)
  clear HI0 HB0
  generalize w1.drewN k0 = w2 at *
  go_wp2_with fail
  go_loopw [7, 10] (fun a i wr => ∃ (k : Nat) (b : Int), k ≤ n ∧ k ≤ 100 ∧ a = .int .i64 b ∧ i = .int .i64 k ∧ 12000 ≤ b ∧ b ≤ 12000 + 65535 * k ∧ Hid (IsB wr w.heap.size kd b) ∧ Hid (Below w.heap.size w wr)) (fun _ i _ => n - (intOf i).toNat)
  case atStart => exact ⟨0, 12000, by omega, by omega, rfl, rfl, by omega, by omega, HI1, HB1⟩
  case round =>
    clear HI1 HB1
    obtain ⟨k, b, hk, hk2, rfl, rfl, hb0, hb1, HI1, HB1⟩ := hrel
    by_cases hkn : k < n ∧ k < 100
    · obtain ⟨hkn, hk3⟩ := hkn
      obtain ⟨ab, ao, rfl, hab, hcl⟩ := HL.out.resolve_left (by omega)
      obtain ⟨a0, _, _⟩ := hcl k hkn
      clear hcl
      generalize f k = y at a0
      have d0 := (HB1.out.cell (p := ⟨ab, ao + k, none⟩) hab).trans a0
      clear a0
      have e0 : decide ((k : Int) < (n : Int)) = true := decide_eq_true (by omega)
      have e1 : decide ((k : Int) < 100) = true := decide_eq_true (by omega)
      have hy0 : 0 ≤ y % 65536 := by omega
      have hy1 : y % 65536 ≤ 65535 := by omega
      go_wp2_with fail
      clear d0
      generalize y % 65536 = z at *
      refine (begin_full _ _ _ _ HI1.out hb0 (by omega) z _ hy0 hy1 (by omega) (by omega)).mono ?_
      rintro e w3 ⟨rfl, hI, hO⟩
      have HI2 := Lib.hid hI
      have HB2 := Lib.hid (below_only HB1.out hO (Nat.le_refl _) (Nat.le_refl _))
      clear hI hO HI1 HB1
      go_wp2_with fail
      refine (begin_off _ _ _ _ HI2.out (by omega) (by omega) z _ hy0 hy1 (by omega) (by omega)).mono ?_
      rintro e w4 ⟨rfl, hI, hO⟩
      have HI3 := Lib.hid hI
      have HB3 := Lib.hid (below_only HB2.out hO (Nat.le_refl _) (Nat.le_refl _))
      clear hI hO HI2 HB2
      go_wp2_with fail
      refine (told_is _ _ _ _ _ _ _ _ _ _ _ HI3.out (by decide)).mono ?_
      rintro e w' ⟨rfl, k1, rfl⟩
      have HI4 := Lib.hid (IsE.drewN HI3.out k1)
      have HB4 := Lib.hid (below_drewN HB3.out k1)
      clear HI3 HB3
      go_wp2
      go_roundw
      case rel => exact ⟨k + 1, b + z, by omega, by omega, rfl, by go_num, by omega, by omega, HI4, HB4⟩
      case measure => simp [intOf]; omega
    · rcases (show n ≤ k ∨ k < n ∧ 100 ≤ k by omega) with hq | ⟨hq, hq2⟩
      · have e0 : decide ((k : Int) < (n : Int)) = false := decide_eq_false (by omega)
        clear hkn
        go_wp2_with fail
        obtain h | h := HK.out
        · subst h
          refine (begin_lost _ _ _ _ HI1.out hb0 (by omega) (b / 2) (.inl ⟨rfl, rfl⟩)).mono ?_
          rintro e w3 ⟨rfl, ⟨pk, ep, hI⟩, hO⟩
          have HI2 := Lib.hid hI
          have HB2 := Lib.hid (below_only HB1.out hO (Nat.le_refl _) (Nat.le_refl _))
          clear hI hO HI1 HB1
          go_wp2_with fail
          refine (told_is _ _ _ _ _ _ _ _ _ _ _ HI2.out (by decide)).mono ?_
          rintro e w' ⟨rfl, k1, rfl⟩
          go_wp2
          go_ret
          exact ⟨rfl, below_drewN HB2.out _⟩
        · subst h
          refine (begin_lost _ _ _ _ HI1.out hb0 (by omega) (7 * b / 10) (.inr ⟨rfl, rfl⟩)).mono ?_
          rintro e w3 ⟨rfl, ⟨pk, ep, hI⟩, hO⟩
          have HI2 := Lib.hid hI
          have HB2 := Lib.hid (below_only HB1.out hO (Nat.le_refl _) (Nat.le_refl _))
          clear hI hO HI1 HB1
          go_wp2_with fail
          refine (told_is _ _ _ _ _ _ _ _ _ _ _ HI2.out (by decide)).mono ?_
          rintro e w' ⟨rfl, k1, rfl⟩
          go_wp2
          go_ret
          exact ⟨rfl, below_drewN HB2.out _⟩
      · have e0 : decide ((k : Int) < (n : Int)) = true := decide_eq_true (by omega)
        have e1 : decide ((k : Int) < 100) = false := decide_eq_false (by omega)
        clear hkn
        go_wp2_with fail
        obtain h | h := HK.out
        · subst h
          refine (begin_lost _ _ _ _ HI1.out hb0 (by omega) (b / 2) (.inl ⟨rfl, rfl⟩)).mono ?_
          rintro e w3 ⟨rfl, ⟨pk, ep, hI⟩, hO⟩
          have HI2 := Lib.hid hI
          have HB2 := Lib.hid (below_only HB1.out hO (Nat.le_refl _) (Nat.le_refl _))
          clear hI hO HI1 HB1
          go_wp2_with fail
          refine (told_is _ _ _ _ _ _ _ _ _ _ _ HI2.out (by decide)).mono ?_
          rintro e w' ⟨rfl, k1, rfl⟩
          go_wp2
          go_ret
          exact ⟨rfl, below_drewN HB2.out _⟩
        · subst h
          refine (begin_lost _ _ _ _ HI1.out hb0 (by omega) (7 * b / 10) (.inr ⟨rfl, rfl⟩)).mono ?_
          rintro e w3 ⟨rfl, ⟨pk, ep, hI⟩, hO⟩
          have HI2 := Lib.hid hI
          have HB2 := Lib.hid (below_only HB1.out hO (Nat.le_refl _) (Nat.le_refl _))
          clear hI hO HI1 HB1
          go_wp2_with fail
          refine (told_is _ _ _ _ _ _ _ _ _ _ _ HI2.out (by decide)).mono ?_
          rintro e w' ⟨rfl, k1, rfl⟩
          go_wp2
          go_ret
          exact ⟨rfl, below_drewN HB2.out _⟩
end Go.Proofs.Ytodeaibmojpmpaa

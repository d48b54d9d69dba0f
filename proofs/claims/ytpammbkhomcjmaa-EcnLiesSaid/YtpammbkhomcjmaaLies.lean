/- The walk of the law EcnLies. -/
import Derived.Test.YtpammbkhomcjmaaLiar
import Derived.Test.YtpammbkhomcjmaaMax
namespace Go.Proofs.Ytpammbkhomcjmaa
open Go.RowKit
attribute [local go_sem] and_255 max2_is max_of_two

theorem tmod9 (x : Int) : -8 ≤ x.tmod 9 ∧ x.tmod 9 ≤ 8 := by
  have h1 := Int.tmod_lt_of_pos x (show (0 : Int) < 9 by decide)
  have h2 := Int.lt_tmod_of_pos x (show (0 : Int) < 9 by decide)
  omega
set_option maxHeartbeats 4000000 in
set_option maxRecDepth 100000 in
theorem lies_at (w : World) (x y : Int) (_hx0 : -9223372036854775808 ≤ x) (_hx1 : x ≤ 9223372036854775807) (_hy0 : -9223372036854775808 ≤ y) (_hy1 : y ≤ 9223372036854775807) :
    Calls Try.prog 3 #[.int .i64 x, .int .i64 y] w fun e w' => e = .returned (.bool true) ∧ Below w.heap.size w w' := by
  have hl0 : 0 ≤ y % 256 := by omega
  have hl1 : y % 256 ≤ 255 := by omega
  obtain ⟨t0, t1⟩ := tmod9 x
  rcases (show 0 ≤ x.tmod 9 ∨ x.tmod 9 < 0 by omega) with ht | ht
  · go_enter Try.func3, Try.ntmps3
    go_wp2_with fail
    generalize x.tmod 9 = v at *
    have hn1 : 1 ≤ 1 + v := by omega
    have hn9 : 1 + v ≤ 9 := by omega
    clear t0 t1 ht
    generalize 1 + v = n at *
    go_loopw [5] (fun i wr => ∃ k : Nat, k ≤ 4 ∧ i = .int .i64 k ∧ Hid (Below w.heap.size w wr)) (fun i _ => 4 - (intOf i).toNat)
    case atStart => exact ⟨0, by omega, rfl, Lib.hid (Below.refl _ _)⟩
    case round =>
      obtain ⟨k, hk, rfl, HB0⟩ := hrel
      rcases (show k = 0 ∨ k = 1 ∨ k = 2 ∨ k = 3 ∨ k = 4 by omega) with rfl | rfl | rfl | rfl | rfl
      · go_wp2_with fail
        refine (new_is _).mono ?_
        rintro e w1 ⟨rfl, hI, hb, _⟩
        have HI1 := Lib.hid (show IsS 35 w1 wr.heap.size (sentS 0) from hI)
        have HB1 := Lib.hid (HB0.out.trans (hb.mono HB0.out.size))
        have hbg : w.heap.size ≤ wr.heap.size := HB0.out.size
        clear hI hb HB0
        obtain ⟨g, hg⟩ : ∃ g, wr.heap.size = g := ⟨_, rfl⟩
        rw [hg] at HI1 hbg ⊢
        clear hg
        go_wp2_with fail
        go_loopw [7] (fun i wi => ∃ i' : Nat, (i' : Int) ≤ n ∧ i = .int .i64 i' ∧ Hid (IsS 35 wi g (sentS i')) ∧ Hid (Below w.heap.size w wi)) (fun i _ => 9 - (intOf i).toNat)
        case atStart => exact ⟨0, by omega, rfl, HI1, HB1⟩
        case round =>
          obtain ⟨i, hi, rfl, HI2, HB2⟩ := hrel
          rcases (show (i : Int) < n ∨ (i : Int) = n by omega) with hin | hin
          · go_wp2_with fail
            refine (sent_call _ _ _ HI2.out (by omega) (by omega)).mono ?_
            rintro e w3 ⟨rfl, hI, hO⟩
            have HI3 := Lib.hid hI
            have HB3 := Lib.hid (below_only HB2.out hO (Nat.le_refl _) hbg)
            clear hI hO
            go_wp2
            go_roundw
            case rel => exact ⟨i + 1, by omega, by go_num, HI3, HB3⟩
            case measure => simp [intOf]; omega
          · have HI3 := Lib.hid (show IsS 35 wr g (sentS n) by rw [← hin]; exact HI2.out)
            have hle : n ≤ (i : Int) := by omega
            clear HI2 hin
            go_wp2_with fail
            refine (lie_call g _ _ _ _ _ (IsE.alloc (IsE.alloc HI3.out _) _) (by omega) (by omega) (by omega) (by omega) (by omega) (by omega) (by omega) (by omega) (by omega)).mono ?_
            rintro e w5 ⟨rfl, hI, hO⟩
            have HI5 := Lib.hid hI
            have HB5 := Lib.hid (below_only (below_new (below_new HB2.out (Nat.le_refl _) _) (Nat.le_refl _) _) hO (Nat.le_refl _) hbg)
            clear hI hO HI3 HB2
            go_wp2_with fail
            refine (state_is _ 3 _ 0 _ 0 0 0 _ HI5.out (by decide)).mono ?_
            rintro e w' ⟨rfl, rfl⟩
            go_wp2_with fail
            refine (stop_call _ _ _ HI5.out (by omega) (by omega)).mono ?_
            rintro e w6 ⟨rfl, hO⟩
            have HB6 := Lib.hid (below_only HB5.out hO (Nat.le_refl _) hbg)
            clear hO
            go_wp2
            go_roundw
            case rel => exact ⟨1, by omega, rfl, HB6⟩
            case measure => simp [intOf]
      · go_wp2_with fail
        refine (new_is _).mono ?_
        rintro e w1 ⟨rfl, hI, hb, _⟩
        have HI1 := Lib.hid (show IsS 35 w1 wr.heap.size (sentS 0) from hI)
        have HB1 := Lib.hid (HB0.out.trans (hb.mono HB0.out.size))
        have hbg : w.heap.size ≤ wr.heap.size := HB0.out.size
        clear hI hb HB0
        obtain ⟨g, hg⟩ : ∃ g, wr.heap.size = g := ⟨_, rfl⟩
        rw [hg] at HI1 hbg ⊢
        clear hg
        go_wp2_with fail
        go_loopw [7] (fun i wi => ∃ i' : Nat, (i' : Int) ≤ n ∧ i = .int .i64 i' ∧ Hid (IsS 35 wi g (sentS i')) ∧ Hid (Below w.heap.size w wi)) (fun i _ => 9 - (intOf i).toNat)
        case atStart => exact ⟨0, by omega, rfl, HI1, HB1⟩
        case round =>
          obtain ⟨i, hi, rfl, HI2, HB2⟩ := hrel
          rcases (show (i : Int) < n ∨ (i : Int) = n by omega) with hin | hin
          · go_wp2_with fail
            refine (sent_call _ _ _ HI2.out (by omega) (by omega)).mono ?_
            rintro e w3 ⟨rfl, hI, hO⟩
            have HI3 := Lib.hid hI
            have HB3 := Lib.hid (below_only HB2.out hO (Nat.le_refl _) hbg)
            clear hI hO
            go_wp2
            go_roundw
            case rel => exact ⟨i + 1, by omega, by go_num, HI3, HB3⟩
            case measure => simp [intOf]; omega
          · have HI3 := Lib.hid (show IsS 35 wr g (sentS n) by rw [← hin]; exact HI2.out)
            have hle : n ≤ (i : Int) := by omega
            clear HI2 hin
            go_wp2_with fail
            refine (lie_call g _ _ _ _ _ (IsE.alloc (IsE.alloc HI3.out _) _) (by omega) (by omega) (by omega) (by omega) (by omega) (by omega) (by omega) (by omega) (by omega)).mono ?_
            rintro e w5 ⟨rfl, hI, hO⟩
            have HI5 := Lib.hid hI
            have HB5 := Lib.hid (below_only (below_new (below_new HB2.out (Nat.le_refl _) _) (Nat.le_refl _) _) hO (Nat.le_refl _) hbg)
            clear hI hO HI3 HB2
            go_wp2_with fail
            refine (state_is _ 3 _ 0 _ 0 0 0 _ HI5.out (by decide)).mono ?_
            rintro e w' ⟨rfl, rfl⟩
            go_wp2_with fail
            refine (stop_call _ _ _ HI5.out (by omega) (by omega)).mono ?_
            rintro e w6 ⟨rfl, hO⟩
            have HB6 := Lib.hid (below_only HB5.out hO (Nat.le_refl _) hbg)
            clear hO
            go_wp2
            go_roundw
            case rel => exact ⟨2, by omega, rfl, HB6⟩
            case measure => simp [intOf]
      · go_wp2_with fail
        refine (new_is _).mono ?_
        rintro e w1 ⟨rfl, hI, hb, _⟩
        have HI1 := Lib.hid (show IsS 35 w1 wr.heap.size (sentS 0) from hI)
        have HB1 := Lib.hid (HB0.out.trans (hb.mono HB0.out.size))
        have hbg : w.heap.size ≤ wr.heap.size := HB0.out.size
        clear hI hb HB0
        obtain ⟨g, hg⟩ : ∃ g, wr.heap.size = g := ⟨_, rfl⟩
        rw [hg] at HI1 hbg ⊢
        clear hg
        go_wp2_with fail
        go_loopw [7] (fun i wi => ∃ i' : Nat, (i' : Int) ≤ n ∧ i = .int .i64 i' ∧ Hid (IsS 35 wi g (sentS i')) ∧ Hid (Below w.heap.size w wi)) (fun i _ => 9 - (intOf i).toNat)
        case atStart => exact ⟨0, by omega, rfl, HI1, HB1⟩
        case round =>
          obtain ⟨i, hi, rfl, HI2, HB2⟩ := hrel
          rcases (show (i : Int) < n ∨ (i : Int) = n by omega) with hin | hin
          · go_wp2_with fail
            refine (sent_call _ _ _ HI2.out (by omega) (by omega)).mono ?_
            rintro e w3 ⟨rfl, hI, hO⟩
            have HI3 := Lib.hid hI
            have HB3 := Lib.hid (below_only HB2.out hO (Nat.le_refl _) hbg)
            clear hI hO
            go_wp2
            go_roundw
            case rel => exact ⟨i + 1, by omega, by go_num, HI3, HB3⟩
            case measure => simp [intOf]; omega
          · have HI3 := Lib.hid (show IsS 35 wr g (sentS n) by rw [← hin]; exact HI2.out)
            have hle : n ≤ (i : Int) := by omega
            clear HI2 hin
            go_wp2_with fail
            refine (lie_call g _ _ _ _ _ (IsE.alloc (IsE.alloc HI3.out _) _) (by omega) (by omega) (by omega) (by omega) (by omega) (by omega) (by omega) (by omega) (by omega)).mono ?_
            rintro e w5 ⟨rfl, hI, hO⟩
            have HI5 := Lib.hid hI
            have HB5 := Lib.hid (below_only (below_new (below_new HB2.out (Nat.le_refl _) _) (Nat.le_refl _) _) hO (Nat.le_refl _) hbg)
            clear hI hO HI3 HB2
            go_wp2_with fail
            refine (state_is _ 3 _ 0 _ 0 0 0 _ HI5.out (by decide)).mono ?_
            rintro e w' ⟨rfl, rfl⟩
            go_wp2_with fail
            refine (stop_call _ _ _ HI5.out (by omega) (by omega)).mono ?_
            rintro e w6 ⟨rfl, hO⟩
            have HB6 := Lib.hid (below_only HB5.out hO (Nat.le_refl _) hbg)
            clear hO
            go_wp2
            go_roundw
            case rel => exact ⟨3, by omega, rfl, HB6⟩
            case measure => simp [intOf]
      · go_wp2_with fail
        refine (new_is _).mono ?_
        rintro e w1 ⟨rfl, hI, hb, _⟩
        have HI1 := Lib.hid (show IsS 35 w1 wr.heap.size (sentS 0) from hI)
        have HB1 := Lib.hid (HB0.out.trans (hb.mono HB0.out.size))
        have hbg : w.heap.size ≤ wr.heap.size := HB0.out.size
        clear hI hb HB0
        obtain ⟨g, hg⟩ : ∃ g, wr.heap.size = g := ⟨_, rfl⟩
        rw [hg] at HI1 hbg ⊢
        clear hg
        go_wp2_with fail
        go_loopw [7] (fun i wi => ∃ i' : Nat, (i' : Int) ≤ n ∧ i = .int .i64 i' ∧ Hid (IsS 35 wi g (sentS i')) ∧ Hid (Below w.heap.size w wi)) (fun i _ => 9 - (intOf i).toNat)
        case atStart => exact ⟨0, by omega, rfl, HI1, HB1⟩
        case round =>
          obtain ⟨i, hi, rfl, HI2, HB2⟩ := hrel
          rcases (show (i : Int) < n ∨ (i : Int) = n by omega) with hin | hin
          · go_wp2_with fail
            refine (sent_call _ _ _ HI2.out (by omega) (by omega)).mono ?_
            rintro e w3 ⟨rfl, hI, hO⟩
            have HI3 := Lib.hid hI
            have HB3 := Lib.hid (below_only HB2.out hO (Nat.le_refl _) hbg)
            clear hI hO
            go_wp2
            go_roundw
            case rel => exact ⟨i + 1, by omega, by go_num, HI3, HB3⟩
            case measure => simp [intOf]; omega
          · have HI3 := Lib.hid (show IsS 35 wr g (sentS n) by rw [← hin]; exact HI2.out)
            have hle : n ≤ (i : Int) := by omega
            clear HI2 hin
            go_wp2_with fail
            refine (lie_call g _ _ _ _ _ (IsE.alloc (IsE.alloc HI3.out _) _) (by omega) (by omega) (by omega) (by omega) (by omega) (by omega) (by omega) (by omega) (by omega)).mono ?_
            rintro e w5 ⟨rfl, hI, hO⟩
            have HI5 := Lib.hid hI
            have HB5 := Lib.hid (below_only (below_new (below_new HB2.out (Nat.le_refl _) _) (Nat.le_refl _) _) hO (Nat.le_refl _) hbg)
            clear hI hO HI3 HB2
            go_wp2_with fail
            refine (state_is _ 3 _ 0 _ 0 0 0 _ HI5.out (by decide)).mono ?_
            rintro e w' ⟨rfl, rfl⟩
            go_wp2_with fail
            refine (stop_call _ _ _ HI5.out (by omega) (by omega)).mono ?_
            rintro e w6 ⟨rfl, hO⟩
            have HB6 := Lib.hid (below_only HB5.out hO (Nat.le_refl _) hbg)
            clear hO
            go_wp2
            go_roundw
            case rel => exact ⟨4, by omega, rfl, HB6⟩
            case measure => simp [intOf]
      · go_wp2_with fail
        refine (new_is _).mono ?_
        rintro e w1 ⟨rfl, hI, hb, _⟩
        have HI1 := Lib.hid (show IsS 35 w1 wr.heap.size (sentS 0) from hI)
        have HB1 := Lib.hid (HB0.out.trans (hb.mono HB0.out.size))
        have hbg : w.heap.size ≤ wr.heap.size := HB0.out.size
        clear hI hb HB0
        obtain ⟨g, hg⟩ : ∃ g, wr.heap.size = g := ⟨_, rfl⟩
        rw [hg] at HI1 hbg ⊢
        clear hg
        go_wp2_with fail
        go_loopw [13] (fun i wi => ∃ i' : Nat, (i' : Int) ≤ n ∧ i = .int .i64 i' ∧ Hid (IsS 35 wi g (sentS i')) ∧ Hid (Below w.heap.size w wi)) (fun i _ => 9 - (intOf i).toNat)
        case atStart => exact ⟨0, by omega, rfl, HI1, HB1⟩
        case round =>
          obtain ⟨i, hi, rfl, HI2, HB2⟩ := hrel
          rcases (show (i : Int) < n ∨ (i : Int) = n by omega) with hin | hin
          · go_wp2_with fail
            refine (sent_call _ _ _ HI2.out (by omega) (by omega)).mono ?_
            rintro e w3 ⟨rfl, hI, hO⟩
            have HI3 := Lib.hid hI
            have HB3 := Lib.hid (below_only HB2.out hO (Nat.le_refl _) hbg)
            clear hI hO
            go_wp2
            go_roundw
            case rel => exact ⟨i + 1, by omega, by go_num, HI3, HB3⟩
            case measure => simp [intOf]; omega
          · have HI3 := Lib.hid (show IsS 35 wr g (sentS n) by rw [← hin]; exact HI2.out)
            have hle : n ≤ (i : Int) := by omega
            clear HI2 hin
            go_wp2_with fail
            refine (true_call g _ _ HI3.out (by omega) (by omega)).mono ?_
            rintro e w5 ⟨rfl, hI, hO⟩
            have HI5 := Lib.hid hI
            have HB5 := Lib.hid (below_only HB2.out hO (Nat.le_refl _) hbg)
            clear hI hO HI3 HB2
            go_wp2_with fail
            refine (state_is _ 4 _ 0 _ _ 0 0 _ HI5.out (by decide)).mono ?_
            rintro e w' ⟨rfl, rfl⟩
            go_wp2
            go_ret
            exact ⟨rfl, HB5.out⟩
  · go_enter Try.func3, Try.ntmps3
    go_wp2_with fail
    generalize x.tmod 9 = v at *
    clear t0 t1 ht
    generalize 1 + v = u at *
    generalize decide (u < 1) = bb at *
    go_loopw [5] (fun i wr => ∃ k : Nat, k ≤ 4 ∧ i = .int .i64 k ∧ Hid (Below w.heap.size w wr)) (fun i _ => 4 - (intOf i).toNat)
    case atStart => exact ⟨0, by omega, rfl, Lib.hid (Below.refl _ _)⟩
    case round =>
      obtain ⟨k, hk, rfl, HB0⟩ := hrel
      rcases (show k = 0 ∨ k = 1 ∨ k = 2 ∨ k = 3 ∨ k = 4 by omega) with rfl | rfl | rfl | rfl | rfl
      · go_wp2_with fail
        refine (new_is _).mono ?_
        rintro e w1 ⟨rfl, hI, hb, _⟩
        have HI1 := Lib.hid (show IsS 35 w1 wr.heap.size (sentS 0) from hI)
        have HB1 := Lib.hid (HB0.out.trans (hb.mono HB0.out.size))
        have hbg : w.heap.size ≤ wr.heap.size := HB0.out.size
        clear hI hb HB0
        obtain ⟨g, hg⟩ : ∃ g, wr.heap.size = g := ⟨_, rfl⟩
        rw [hg] at HI1 hbg ⊢
        clear hg
        go_wp2_with fail
        go_loopw [7] (fun i wi => ∃ i' : Nat, (i' : Int) ≤ 1 ∧ i = .int .i64 i' ∧ Hid (IsS 35 wi g (sentS i')) ∧ Hid (Below w.heap.size w wi)) (fun i _ => 9 - (intOf i).toNat)
        case atStart => exact ⟨0, by omega, rfl, HI1, HB1⟩
        case round =>
          obtain ⟨i, hi, rfl, HI2, HB2⟩ := hrel
          rcases (show (i : Int) < 1 ∨ (i : Int) = 1 by omega) with hin | hin
          · go_wp2_with fail
            refine (sent_call _ _ _ HI2.out (by omega) (by omega)).mono ?_
            rintro e w3 ⟨rfl, hI, hO⟩
            have HI3 := Lib.hid hI
            have HB3 := Lib.hid (below_only HB2.out hO (Nat.le_refl _) hbg)
            clear hI hO
            go_wp2
            go_roundw
            case rel => exact ⟨i + 1, by omega, by go_num, HI3, HB3⟩
            case measure => simp [intOf]; omega
          · have HI3 := Lib.hid (show IsS 35 wr g (sentS 1) by rw [← hin]; exact HI2.out)
            have hle : 1 ≤ (i : Int) := by omega
            clear HI2 hin
            go_wp2_with fail
            refine (lie_call g _ _ _ _ _ (IsE.alloc (IsE.alloc HI3.out _) _) (by omega) (by omega) (by omega) (by omega) (by omega) (by omega) (by omega) (by omega) (by omega)).mono ?_
            rintro e w5 ⟨rfl, hI, hO⟩
            have HI5 := Lib.hid hI
            have HB5 := Lib.hid (below_only (below_new (below_new HB2.out (Nat.le_refl _) _) (Nat.le_refl _) _) hO (Nat.le_refl _) hbg)
            clear hI hO HI3 HB2
            go_wp2_with fail
            refine (state_is _ 3 _ 0 _ 0 0 0 _ HI5.out (by decide)).mono ?_
            rintro e w' ⟨rfl, rfl⟩
            go_wp2_with fail
            refine (stop_call _ _ _ HI5.out (by omega) (by omega)).mono ?_
            rintro e w6 ⟨rfl, hO⟩
            have HB6 := Lib.hid (below_only HB5.out hO (Nat.le_refl _) hbg)
            clear hO
            go_wp2
            go_roundw
            case rel => exact ⟨1, by omega, rfl, HB6⟩
            case measure => simp [intOf]
      · go_wp2_with fail
        refine (new_is _).mono ?_
        rintro e w1 ⟨rfl, hI, hb, _⟩
        have HI1 := Lib.hid (show IsS 35 w1 wr.heap.size (sentS 0) from hI)
        have HB1 := Lib.hid (HB0.out.trans (hb.mono HB0.out.size))
        have hbg : w.heap.size ≤ wr.heap.size := HB0.out.size
        clear hI hb HB0
        obtain ⟨g, hg⟩ : ∃ g, wr.heap.size = g := ⟨_, rfl⟩
        rw [hg] at HI1 hbg ⊢
        clear hg
        go_wp2_with fail
        go_loopw [7] (fun i wi => ∃ i' : Nat, (i' : Int) ≤ 1 ∧ i = .int .i64 i' ∧ Hid (IsS 35 wi g (sentS i')) ∧ Hid (Below w.heap.size w wi)) (fun i _ => 9 - (intOf i).toNat)
        case atStart => exact ⟨0, by omega, rfl, HI1, HB1⟩
        case round =>
          obtain ⟨i, hi, rfl, HI2, HB2⟩ := hrel
          rcases (show (i : Int) < 1 ∨ (i : Int) = 1 by omega) with hin | hin
          · go_wp2_with fail
            refine (sent_call _ _ _ HI2.out (by omega) (by omega)).mono ?_
            rintro e w3 ⟨rfl, hI, hO⟩
            have HI3 := Lib.hid hI
            have HB3 := Lib.hid (below_only HB2.out hO (Nat.le_refl _) hbg)
            clear hI hO
            go_wp2
            go_roundw
            case rel => exact ⟨i + 1, by omega, by go_num, HI3, HB3⟩
            case measure => simp [intOf]; omega
          · have HI3 := Lib.hid (show IsS 35 wr g (sentS 1) by rw [← hin]; exact HI2.out)
            have hle : 1 ≤ (i : Int) := by omega
            clear HI2 hin
            go_wp2_with fail
            refine (lie_call g _ _ _ _ _ (IsE.alloc (IsE.alloc HI3.out _) _) (by omega) (by omega) (by omega) (by omega) (by omega) (by omega) (by omega) (by omega) (by omega)).mono ?_
            rintro e w5 ⟨rfl, hI, hO⟩
            have HI5 := Lib.hid hI
            have HB5 := Lib.hid (below_only (below_new (below_new HB2.out (Nat.le_refl _) _) (Nat.le_refl _) _) hO (Nat.le_refl _) hbg)
            clear hI hO HI3 HB2
            go_wp2_with fail
            refine (state_is _ 3 _ 0 _ 0 0 0 _ HI5.out (by decide)).mono ?_
            rintro e w' ⟨rfl, rfl⟩
            go_wp2_with fail
            refine (stop_call _ _ _ HI5.out (by omega) (by omega)).mono ?_
            rintro e w6 ⟨rfl, hO⟩
            have HB6 := Lib.hid (below_only HB5.out hO (Nat.le_refl _) hbg)
            clear hO
            go_wp2
            go_roundw
            case rel => exact ⟨2, by omega, rfl, HB6⟩
            case measure => simp [intOf]
      · go_wp2_with fail
        refine (new_is _).mono ?_
        rintro e w1 ⟨rfl, hI, hb, _⟩
        have HI1 := Lib.hid (show IsS 35 w1 wr.heap.size (sentS 0) from hI)
        have HB1 := Lib.hid (HB0.out.trans (hb.mono HB0.out.size))
        have hbg : w.heap.size ≤ wr.heap.size := HB0.out.size
        clear hI hb HB0
        obtain ⟨g, hg⟩ : ∃ g, wr.heap.size = g := ⟨_, rfl⟩
        rw [hg] at HI1 hbg ⊢
        clear hg
        go_wp2_with fail
        go_loopw [7] (fun i wi => ∃ i' : Nat, (i' : Int) ≤ 1 ∧ i = .int .i64 i' ∧ Hid (IsS 35 wi g (sentS i')) ∧ Hid (Below w.heap.size w wi)) (fun i _ => 9 - (intOf i).toNat)
        case atStart => exact ⟨0, by omega, rfl, HI1, HB1⟩
        case round =>
          obtain ⟨i, hi, rfl, HI2, HB2⟩ := hrel
          rcases (show (i : Int) < 1 ∨ (i : Int) = 1 by omega) with hin | hin
          · go_wp2_with fail
            refine (sent_call _ _ _ HI2.out (by omega) (by omega)).mono ?_
            rintro e w3 ⟨rfl, hI, hO⟩
            have HI3 := Lib.hid hI
            have HB3 := Lib.hid (below_only HB2.out hO (Nat.le_refl _) hbg)
            clear hI hO
            go_wp2
            go_roundw
            case rel => exact ⟨i + 1, by omega, by go_num, HI3, HB3⟩
            case measure => simp [intOf]; omega
          · have HI3 := Lib.hid (show IsS 35 wr g (sentS 1) by rw [← hin]; exact HI2.out)
            have hle : 1 ≤ (i : Int) := by omega
            clear HI2 hin
            go_wp2_with fail
            refine (lie_call g _ _ _ _ _ (IsE.alloc (IsE.alloc HI3.out _) _) (by omega) (by omega) (by omega) (by omega) (by omega) (by omega) (by omega) (by omega) (by omega)).mono ?_
            rintro e w5 ⟨rfl, hI, hO⟩
            have HI5 := Lib.hid hI
            have HB5 := Lib.hid (below_only (below_new (below_new HB2.out (Nat.le_refl _) _) (Nat.le_refl _) _) hO (Nat.le_refl _) hbg)
            clear hI hO HI3 HB2
            go_wp2_with fail
            refine (state_is _ 3 _ 0 _ 0 0 0 _ HI5.out (by decide)).mono ?_
            rintro e w' ⟨rfl, rfl⟩
            go_wp2_with fail
            refine (stop_call _ _ _ HI5.out (by omega) (by omega)).mono ?_
            rintro e w6 ⟨rfl, hO⟩
            have HB6 := Lib.hid (below_only HB5.out hO (Nat.le_refl _) hbg)
            clear hO
            go_wp2
            go_roundw
            case rel => exact ⟨3, by omega, rfl, HB6⟩
            case measure => simp [intOf]
      · go_wp2_with fail
        refine (new_is _).mono ?_
        rintro e w1 ⟨rfl, hI, hb, _⟩
        have HI1 := Lib.hid (show IsS 35 w1 wr.heap.size (sentS 0) from hI)
        have HB1 := Lib.hid (HB0.out.trans (hb.mono HB0.out.size))
        have hbg : w.heap.size ≤ wr.heap.size := HB0.out.size
        clear hI hb HB0
        obtain ⟨g, hg⟩ : ∃ g, wr.heap.size = g := ⟨_, rfl⟩
        rw [hg] at HI1 hbg ⊢
        clear hg
        go_wp2_with fail
        go_loopw [7] (fun i wi => ∃ i' : Nat, (i' : Int) ≤ 1 ∧ i = .int .i64 i' ∧ Hid (IsS 35 wi g (sentS i')) ∧ Hid (Below w.heap.size w wi)) (fun i _ => 9 - (intOf i).toNat)
        case atStart => exact ⟨0, by omega, rfl, HI1, HB1⟩
        case round =>
          obtain ⟨i, hi, rfl, HI2, HB2⟩ := hrel
          rcases (show (i : Int) < 1 ∨ (i : Int) = 1 by omega) with hin | hin
          · go_wp2_with fail
            refine (sent_call _ _ _ HI2.out (by omega) (by omega)).mono ?_
            rintro e w3 ⟨rfl, hI, hO⟩
            have HI3 := Lib.hid hI
            have HB3 := Lib.hid (below_only HB2.out hO (Nat.le_refl _) hbg)
            clear hI hO
            go_wp2
            go_roundw
            case rel => exact ⟨i + 1, by omega, by go_num, HI3, HB3⟩
            case measure => simp [intOf]; omega
          · have HI3 := Lib.hid (show IsS 35 wr g (sentS 1) by rw [← hin]; exact HI2.out)
            have hle : 1 ≤ (i : Int) := by omega
            clear HI2 hin
            go_wp2_with fail
            refine (lie_call g _ _ _ _ _ (IsE.alloc (IsE.alloc HI3.out _) _) (by omega) (by omega) (by omega) (by omega) (by omega) (by omega) (by omega) (by omega) (by omega)).mono ?_
            rintro e w5 ⟨rfl, hI, hO⟩
            have HI5 := Lib.hid hI
            have HB5 := Lib.hid (below_only (below_new (below_new HB2.out (Nat.le_refl _) _) (Nat.le_refl _) _) hO (Nat.le_refl _) hbg)
            clear hI hO HI3 HB2
            go_wp2_with fail
            refine (state_is _ 3 _ 0 _ 0 0 0 _ HI5.out (by decide)).mono ?_
            rintro e w' ⟨rfl, rfl⟩
            go_wp2_with fail
            refine (stop_call _ _ _ HI5.out (by omega) (by omega)).mono ?_
            rintro e w6 ⟨rfl, hO⟩
            have HB6 := Lib.hid (below_only HB5.out hO (Nat.le_refl _) hbg)
            clear hO
            go_wp2
            go_roundw
            case rel => exact ⟨4, by omega, rfl, HB6⟩
            case measure => simp [intOf]
      · go_wp2_with fail
        refine (new_is _).mono ?_
        rintro e w1 ⟨rfl, hI, hb, _⟩
        have HI1 := Lib.hid (show IsS 35 w1 wr.heap.size (sentS 0) from hI)
        have HB1 := Lib.hid (HB0.out.trans (hb.mono HB0.out.size))
        have hbg : w.heap.size ≤ wr.heap.size := HB0.out.size
        clear hI hb HB0
        obtain ⟨g, hg⟩ : ∃ g, wr.heap.size = g := ⟨_, rfl⟩
        rw [hg] at HI1 hbg ⊢
        clear hg
        go_wp2_with fail
        go_loopw [13] (fun i wi => ∃ i' : Nat, (i' : Int) ≤ 1 ∧ i = .int .i64 i' ∧ Hid (IsS 35 wi g (sentS i')) ∧ Hid (Below w.heap.size w wi)) (fun i _ => 9 - (intOf i).toNat)
        case atStart => exact ⟨0, by omega, rfl, HI1, HB1⟩
        case round =>
          obtain ⟨i, hi, rfl, HI2, HB2⟩ := hrel
          rcases (show (i : Int) < 1 ∨ (i : Int) = 1 by omega) with hin | hin
          · go_wp2_with fail
            refine (sent_call _ _ _ HI2.out (by omega) (by omega)).mono ?_
            rintro e w3 ⟨rfl, hI, hO⟩
            have HI3 := Lib.hid hI
            have HB3 := Lib.hid (below_only HB2.out hO (Nat.le_refl _) hbg)
            clear hI hO
            go_wp2
            go_roundw
            case rel => exact ⟨i + 1, by omega, by go_num, HI3, HB3⟩
            case measure => simp [intOf]; omega
          · have HI3 := Lib.hid (show IsS 35 wr g (sentS 1) by rw [← hin]; exact HI2.out)
            have hle : 1 ≤ (i : Int) := by omega
            clear HI2 hin
            go_wp2_with fail
            refine (true_call g _ _ HI3.out (by omega) (by omega)).mono ?_
            rintro e w5 ⟨rfl, hI, hO⟩
            have HI5 := Lib.hid hI
            have HB5 := Lib.hid (below_only HB2.out hO (Nat.le_refl _) hbg)
            clear hI hO HI3 HB2
            go_wp2_with fail
            refine (state_is _ 4 _ 0 _ _ 0 0 _ HI5.out (by decide)).mono ?_
            rintro e w' ⟨rfl, rfl⟩
            go_wp2
            go_ret
            exact ⟨rfl, HB5.out⟩
end Go.Proofs.Ytpammbkhomcjmaa

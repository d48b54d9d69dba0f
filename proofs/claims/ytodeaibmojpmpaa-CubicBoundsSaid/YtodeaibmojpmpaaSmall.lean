/- The window's state, and its small methods, the program's and the reference's. -/
import Derived.Test.YtodeaibmojpmpaaRows
import Derived.Test.YtodeaibmojpmpaaStates
import Derived.Test.YtodeaibmojpmpaaMax
import Derived.Test.YtodeaibmojpmpaaRoot
import Derived.WalkSpells
import Derived.WalkLawsBesides
import Derived.BigQuiet
import Derived.BigRegion
import Derived.Deep.QuietTactic
import Derived.Deep.RegionHeld3
import Derived.Deep.DrawnRows
import Derived.StillTailTactics
import Derived.LoopTactic
namespace Go.Proofs.Ytodeaibmojpmpaa
open Go.RowKit
attribute [local go_sem] max2_is min2_is max_of_two min_of_two

/-- What a window holds. -/
structure St where
  kind : Int
  size : Int
  bytes : Int
  slow : Int
  rcv : Int
  peak : Int
  epoch : Int
  start : Int
  est : Int
/-- Block g holds s; t: the program's type, or the reference's. -/
def IsS (t : TypeId) (w : World) (g : Nat) (s : St) : Prop := IsE t w g s.kind s.size s.bytes s.slow s.rcv s.peak s.epoch s.start s.est
section
variable {t : TypeId} {w w' : World} {g k : Nat} {s : St}
theorem IsS.drew (h : IsS t w g s) : IsS t w.drew g s := h
theorem IsS.drewN (h : IsS t w g s) (n : Nat) : IsS t (w.drewN n) g s := h
theorem IsS.alloc (h : IsS t w g s) (o : Obj) : IsS t (w.alloc o) g s := IsE.alloc h o
theorem IsS.lt (h : IsS t w g s) : g < w.heap.size := IsE.lt h
theorem IsS.only (h : IsS t w g s) (hb : Only w w' k) (hg : g ≠ k) : IsS t w' g s := IsE.only h hb hg
theorem IsS.below (h : IsS t w g s) (hb : Below w.heap.size w w') : IsS t w' g s := IsE.below h hb h.lt
end
theorem only_below2 {a w w' : World} {g : Nat} (h : Only a w g) (hb : Below w.heap.size w w') : Only a w' g :=
  ⟨hb.os.trans h.os, hb.tape.trans h.tape, hb.output.trans h.output, Nat.le_trans h.size hb.size, fun i hi hn => (hb.block i (Nat.lt_of_lt_of_le hi h.size)).trans (h.block i hi hn)⟩
theorem wr_in {x : Int} (h0 : -9223372036854775808 ≤ x) (h1 : x ≤ 9223372036854775807) : IntKind.i64.wrap x = x := by rw [IntKind.wrap_i64]; omega
theorem wr_div {x k : Int} (h0 : 0 ≤ x) (h1 : x ≤ 9223372036854775807) (hk : 1 ≤ k) : IntKind.i64.wrap (x.tdiv k) = x / k := by
  rw [Int.tdiv_eq_ediv_of_nonneg h0]
  have a := Int.ediv_nonneg h0 (show 0 ≤ k by omega)
  have b := Int.ediv_le_self k h0
  exact wr_in (by omega) (by omega)

/-- A time. -/
def tm (t : Int) : Prop := 0 ≤ t ∧ t ≤ 1125899906842624
instance (t : Int) : Decidable (tm t) := by unfold tm; infer_instance
set_option maxHeartbeats 400000 in
theorem rtime_is (t : Int) (w : World) : Calls Try.prog 24 #[.int .i64 t] w fun e w' => e = .returned (.bool (decide (tm t))) ∧ w = w' := by
  rcases (show t < 0 ∨ 0 ≤ t ∧ 1125899906842624 < t ∨ 0 ≤ t ∧ t ≤ 1125899906842624 by omega) with h | ⟨h, k⟩ | ⟨h, k⟩
  · rw [decide_eq_false (show ¬ tm t by unfold tm; omega)]
    have d0 : decide (0 ≤ t) = false := decide_eq_false (by omega)
    go_enter Try.func24, Try.ntmps24
    go_wp2
    go_ret
    exact ⟨rfl, rfl⟩
  · rw [decide_eq_false (show ¬ tm t by unfold tm; omega)]
    have d0 : decide (0 ≤ t) = true := decide_eq_true (by omega)
    have d1 : decide (t ≤ 1125899906842624) = false := decide_eq_false (by omega)
    go_enter Try.func24, Try.ntmps24
    go_wp2
    go_ret
    exact ⟨rfl, rfl⟩
  · rw [decide_eq_true (show tm t from ⟨h, k⟩)]
    have d0 : decide (0 ≤ t) = true := decide_eq_true (by omega)
    have d1 : decide (t ≤ 1125899906842624) = true := decide_eq_true (by omega)
    go_enter Try.func24, Try.ntmps24
    go_wp2
    go_ret
    exact ⟨rfl, rfl⟩
set_option maxHeartbeats 800000 in
theorem times_is (q n : Nat) (f : Nat → Int) (w : World) (hn : n ≤ 3) (hc : ∀ i, i < n → w.cell? ⟨q, i, none⟩ = some (.int .i64 (f i))) (b : Bool) (hb : decide (∀ i, i < n → tm (f i)) = b) :
    Calls Try.prog 22 #[.slice (some ⟨q, 0, none⟩) n n] w fun e w' => e = .returned (.bool b) ∧ w = w' := by
  have HB := Lib.hid hb
  have HC := Lib.hid hc
  clear hb hc
  go_enter Try.func22, Try.ntmps22
  go_wp2_with fail
  go_loop [7] (fun i => ∃ k : Nat, k ≤ n ∧ i = .int .i64 k ∧ Hid (∀ j, j < k → tm (f j))) (fun i => n - (intOf i).toNat)
  case atStart => exact ⟨0, by omega, rfl, Lib.hid (fun j hj => by omega)⟩
  case round =>
    obtain ⟨k, hk, rfl, HK⟩ := hrel
    by_cases hkn : k < n
    · have c0 := HC.out k hkn
      have HF := Lib.hid (show ∀ x, f k = x → tm x → ∀ j, j < k + 1 → tm (f j) from fun x hx ht j hj => by
        rcases (show j < k ∨ j = k by omega) with h | rfl
        · exact HK.out j h
        · rw [hx]; exact ht)
      have HG := Lib.hid (show ∀ x, f k = x → ¬ tm x → b = false from fun x hx ht => HB.out.symm.trans (decide_eq_false (fun h => ht (hx ▸ h k hkn))))
      obtain ⟨x, hx⟩ : ∃ x, f k = x := ⟨_, rfl⟩
      rw [hx] at c0
      have HX := Lib.hid hx
      clear hx
      rcases (show x < 0 ∨ 0 ≤ x ∧ 1125899906842624 < x ∨ 0 ≤ x ∧ x ≤ 1125899906842624 by omega) with h | ⟨h, h2⟩ | ⟨h, h2⟩
      · have d0 : decide (x < 0) = true := decide_eq_true h
        go_wp2
        go_ret
        exact ⟨ret_bool (HG.out x HX.out (fun hx => by have := hx.1; omega)).symm, rfl⟩
      · have d0 : decide (x < 0) = false := decide_eq_false (by omega)
        have d1 : decide (1125899906842624 < x) = true := decide_eq_true h2
        go_wp2
        go_ret
        exact ⟨ret_bool (HG.out x HX.out (fun hx => by have := hx.2; omega)).symm, rfl⟩
      · have d0 : decide (x < 0) = false := decide_eq_false (by omega)
        have d1 : decide (1125899906842624 < x) = false := decide_eq_false (by omega)
        go_wp2
        go_round
        case rel => exact ⟨k + 1, by omega, by go_num, Lib.hid (HF.out x HX.out ⟨h, h2⟩)⟩
        case measure => simp [intOf]; omega
    · have hkn2 : k = n := by omega
      have HZ := Lib.hid (show b = true from HB.out.symm.trans (decide_eq_true (fun j hj => HK.out j (by omega))))
      clear hkn2
      go_wp2
      go_ret
      exact ⟨ret_bool HZ.out.symm, rfl⟩
theorem times2 (a b : Int) (w : World) : Calls Try.prog 22 #[.slice (some ⟨w.heap.size, 0, none⟩) 2 2] (w.alloc (.cells #[.int .i64 a, .int .i64 b] 3)) fun e w' => e = .returned (.bool (decide (tm a ∧ tm b))) ∧ w.alloc (.cells #[.int .i64 a, .int .i64 b] 3) = w' := by
  refine times_is w.heap.size 2 (fun i => if i = 0 then a else b) _ (by omega) ?_ _ ?_
  · intro i hi
    rcases (show i = 0 ∨ i = 1 by omega) with rfl | rfl
    · exact (Bk.new w 3 _).cell 0
    · exact (Bk.new w 3 _).cell 1
  · refine decide_eq_decide.2 ⟨fun h => ⟨h 0 (by omega), h 1 (by omega)⟩, fun h i hi => ?_⟩
    rcases (show i = 0 ∨ i = 1 by omega) with rfl | rfl
    · exact h.1
    · exact h.2
theorem times3 (a b c : Int) (w : World) : Calls Try.prog 22 #[.slice (some ⟨w.heap.size, 0, none⟩) 3 3] (w.alloc (.cells #[.int .i64 a, .int .i64 b, .int .i64 c] 3)) fun e w' => e = .returned (.bool (decide (tm a ∧ tm b ∧ tm c))) ∧ w.alloc (.cells #[.int .i64 a, .int .i64 b, .int .i64 c] 3) = w' := by
  refine times_is w.heap.size 3 (fun i => if i = 0 then a else if i = 1 then b else c) _ (by omega) ?_ _ ?_
  · intro i hi
    rcases (show i = 0 ∨ i = 1 ∨ i = 2 by omega) with rfl | rfl | rfl
    · exact (Bk.new w 3 _).cell 0
    · exact (Bk.new w 3 _).cell 1
    · exact (Bk.new w 3 _).cell 2
  · refine decide_eq_decide.2 ⟨fun h => ⟨h 0 (by omega), h 1 (by omega), h 2 (by omega)⟩, fun h i hi => ?_⟩
    rcases (show i = 0 ∨ i = 1 ∨ i = 2 by omega) with rfl | rfl | rfl
    · exact h.1
    · exact h.2.1
    · exact h.2.2
-- limited
set_option maxHeartbeats 400000 in
theorem limited_is (x l h : Int) (w : World) (hlh : l ≤ h) : Calls Try.prog 27 #[.int .i64 x, .int .i64 l, .int .i64 h] w fun e w' => e = .returned (.int .i64 (min (max x l) h)) ∧ w = w' := by
  rcases (show x < l ∨ l ≤ x ∧ h < x ∨ l ≤ x ∧ x ≤ h by omega) with h1 | ⟨h1, h2⟩ | ⟨h1, h2⟩
  · obtain ⟨m, hm⟩ : ∃ m, min (max x l) h = m := ⟨_, rfl⟩
    rw [hm]
    have HM := Lib.hid (show l = m by omega)
    clear hm
    go_enter Try.func27, Try.ntmps27
    go_wp2
    go_ret
    exact ⟨ret_int HM.out, rfl⟩
  · obtain ⟨m, hm⟩ : ∃ m, min (max x l) h = m := ⟨_, rfl⟩
    rw [hm]
    have HM := Lib.hid (show h = m by omega)
    clear hm
    go_enter Try.func27, Try.ntmps27
    go_wp2
    go_ret
    exact ⟨ret_int HM.out, rfl⟩
  · obtain ⟨m, hm⟩ : ∃ m, min (max x l) h = m := ⟨_, rfl⟩
    rw [hm]
    have HM := Lib.hid (show x = m by omega)
    clear hm
    go_enter Try.func27, Try.ntmps27
    go_wp2
    go_ret
    exact ⟨ret_int HM.out, rfl⟩

-- none, Told, Collapse: a window that New made is never the zero one, its size is not 0
set_option maxHeartbeats 400000 in
theorem none_no (g : Nat) (a b c d e f h i j : Int) (w : World) (H : IsE 28 w g a b c d e f h i j) (hb : 1200 ≤ b) : Calls Try.prog 21 #[.pointer (some ⟨g, 0, none⟩)] w fun e w' => e = .returned (.bool false) ∧ w = w' := by
  obtain ⟨⟨c0, c1, c2, c3, c4, c5, c6, c7, c8⟩, _⟩ := H.all
  clear H
  have d0 : (b == 0) = false := by simp; omega
  by_cases ha : a = 0
  · subst ha
    go_enter Try.func21, Try.ntmps21
    go_wp2
    go_ret
    exact ⟨rfl, rfl⟩
  · have d1 : (a == 0) = false := by simpa using ha
    go_enter Try.func21, Try.ntmps21
    go_wp2
    go_ret
    exact ⟨rfl, rfl⟩
end Go.Proofs.Ytodeaibmojpmpaa

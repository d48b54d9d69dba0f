/- The methods of the program's Rtt, each by one contract. -/
import Derived.Test.YtmlhebbklccegaaRows
import Derived.Test.YtmlhebbklccegaaStates
import Derived.Test.YtmlhebbklccegaaMax
import Derived.WalkSpells
import Derived.WalkLawsBesides
import Derived.BigQuiet
import Derived.BigRegion
import Derived.Deep.QuietTactic
import Derived.Deep.RegionHeld3
import Derived.Deep.DrawnRows
namespace Go.Proofs.Ytmlhebbklccegaa
open Go.RowKit
attribute [local go_sem] max2_is min2_is max_of_two min_of_two
attribute [local go_sem ↓] Go.wp_at_zero Go.wp_at_succ

def tm (n : Int) : Prop := 0 ≤ n ∧ n ≤ 1125899906842624
instance (n : Int) : Decidable (tm n) := by unfold tm; exact inferInstance
/-- How long it took less what was waited, where that fits. -/
def adj (most least took waited : Int) (known : Bool) : Int :=
  if (if known then min waited most else waited) ≤ took - min least took then took - (if known then min waited most else waited) else took

theorem time_yes (n : Int) (w : World) (h : tm n) : Calls Try.prog 18 #[.int .i64 n] w fun e w' => e = .returned (.bool true) ∧ w = w' := by
  obtain ⟨h1, h2⟩ := h
  go_enter Try.func18, Try.ntmps18
  go_wp2
  go_ret
  exact ⟨by first | rfl | exact ret_bool (decide_eq_true h2), rfl⟩
theorem time_no (n : Int) (w : World) (h : ¬ tm n) : Calls Try.prog 18 #[.int .i64 n] w fun e w' => e = .returned (.bool false) ∧ w = w' := by
  unfold tm at h
  by_cases h1 : 0 ≤ n
  · have h2 : 1125899906842624 < n := by omega
    clear h
    go_enter Try.func18, Try.ntmps18
    go_wp2
    go_ret
    exact ⟨by first | rfl | exact ret_bool (decide_eq_false (by omega)), rfl⟩
  · have h2 : n < 0 := by omega
    clear h h1
    go_enter Try.func18, Try.ntmps18
    go_wp2
    go_ret
    exact ⟨rfl, rfl⟩
theorem new_ok (n : Int) (w : World) (h : tm n) :
    Calls Try.prog 11 #[.int .i64 n] w fun e w' => e = .returned (.tuple #[.pointer (some ⟨w.heap.size, 0, none⟩), .int .i64 0]) ∧ IsQ w' w.heap.size true n false 0 0 333000 166500 ∧ Below w.heap.size w w' := by
  have H := Lib.hid h
  clear h
  go_enter Try.func11, Try.ntmps11
  go_wp2_with fail
  refine (time_yes n _ H.out).mono ?_
  rintro e w' ⟨rfl, rfl⟩
  go_wp2
  go_ret2
  exact ⟨rfl, IsQ.new w true n false 0 0 333000 166500, below_new (Below.refl _ _) (Nat.le_refl _) _⟩
theorem new_no (n : Int) (w : World) (h : ¬ tm n) :
    Calls Try.prog 11 #[.int .i64 n] w fun e w' => e = .returned (.tuple #[.pointer none, .int .i64 2]) ∧ w = w' := by
  have H := Lib.hid h
  clear h
  go_enter Try.func11, Try.ntmps11
  go_wp2_with fail
  refine (time_no n _ H.out).mono ?_
  rintro e w' ⟨rfl, rfl⟩
  go_wp2
  go_ret2
  exact ⟨rfl, rfl⟩

section
variable (g : Nat) (M : Int) (h0 : Bool) (la le sm va : Int) (w : World) (h : IsQ w g true M h0 la le sm va)
include h
set_option maxHeartbeats 400000 in
theorem none_no :
    Calls Try.prog 17 #[.pointer (some ⟨g, 0, none⟩)] w fun e w' => e = .returned (.bool false) ∧ w = w' := by
  obtain ⟨⟨c0, c1, c2, c3, c4, c5, c6⟩, _⟩ := h.all
  clear h
  go_enter Try.func17, Try.ntmps17
  go_wp2
  go_ret
  exact ⟨rfl, rfl⟩
end
theorem results_four {fn : Func} {t u v x : Tmp} (h : fn.results = #[.tmp t, .tmp u, .tmp v, .tmp x]) (tmps : Array Value) (P : Program) (w : World) :
    (results fn tmps).run P w = .ok (.tuple #[tmps.getD t undef, tmps.getD u undef, tmps.getD v undef, tmps.getD x undef]) w := by simp [results, h]

set_option maxHeartbeats 400000 in
theorem told_any (g : Nat) (M : Int) (h0 : Bool) (la le sm va : Int) (w : World) (h : IsQ w g true M h0 la le sm va) :
    Calls Try.prog 7 #[.pointer (some ⟨g, 0, none⟩)] w fun e w' => e = .returned (.tuple #[.int .i64 la, .int .i64 le, .int .i64 sm, .int .i64 va]) ∧ IsQ w' g true M h0 la le sm va ∧ Only w w' g := by
  have H := Lib.hid h
  obtain ⟨⟨c0, c1, c2, c3, c4, c5, c6⟩, _⟩ := h.all
  clear h
  go_enter Try.func7, Try.ntmps7
  go_wp2_with fail
  refine (none_no g M h0 la le sm va _ H.out).mono ?_
  rintro e w' ⟨rfl, rfl⟩
  go_wp2_with fail
  go_quiet (fail)
  go_wp2
  refine bodyPost_ret (results_four rfl _ _ _) rfl ?_
  exact ⟨rfl, H.out.drewN _, only_drewN (only_refl w g) _⟩

def lateN (sm la : Int) : Int := max (9 * max sm la / 8) 1000
set_option maxHeartbeats 400000 in
theorem late_any (g : Nat) (M : Int) (h0 : Bool) (la le sm va : Int) (w : World) (h : IsQ w g true M h0 la le sm va) (h1 : tm la) (h2 : tm sm) :
    Calls Try.prog 10 #[.pointer (some ⟨g, 0, none⟩)] w fun e w' => e = .returned (.int .i64 (lateN sm la)) ∧ IsQ w' g true M h0 la le sm va ∧ Only w w' g := by
  have H := Lib.hid h
  obtain ⟨⟨c0, c1, c2, c3, c4, c5, c6⟩, _⟩ := h.all
  obtain ⟨h3, h4⟩ := h1
  obtain ⟨h5, h6⟩ := h2
  clear h
  go_enter Try.func10, Try.ntmps10
  go_wp2_with fail
  refine (none_no g M h0 la le sm va _ H.out).mono ?_
  rintro e w' ⟨rfl, rfl⟩
  go_wp2_with fail
  go_quiet (fail)
  go_wp2

  go_ret
  exact ⟨rfl, H.out.drewN _, only_drewN (only_refl w g) _⟩
end Go.Proofs.Ytmlhebbklccegaa

/- The walk of the law CubicRoots. -/
import Derived.Test.YtodeaibmojpmpaaRoot
namespace Go.Proofs.Ytodeaibmojpmpaa
open Go.RowKit

theorem roots_at (w : World) (a0 : Int) (hn0 : -9223372036854775808 ≤ a0) (hn1 : a0 ≤ 9223372036854775807) :
    Calls Try.prog 3 #[.int .i64 a0] w fun e w' => e = .returned (.bool true) ∧ Below w.heap.size w w' := by
  by_cases hc : a0 < 1
  · have hc2 : decide (1 ≤ a0) = false := by simpa using hc
    go_enter Try.func3, Try.ntmps3
    go_wp2_with fail
    refine (root_any a0 _ hn0 hn1).mono ?_
    rintro e w1 ⟨rfl, hlh, hb⟩
    have hz : rootOf a0 = 0 := (lowHigh_pos hlh).1 hc
    have HZ : (rootOf a0 == 0) = true := by rw [hz]; rfl
    clear hlh hz
    go_wp2_with fail
    refine (rref_any a0 _ hn0 hn1).mono ?_
    rintro e w2 ⟨rfl, rfl⟩
    go_wp2
    go_ret
    exact ⟨rfl, hb⟩
  · have hc2 : decide (1 ≤ a0) = true := by simp; omega
    go_enter Try.func3, Try.ntmps3
    go_wp2_with fail
    refine (root_any a0 _ hn0 hn1).mono ?_
    rintro e w1 ⟨rfl, hlh, hb⟩
    have hz : 1 ≤ rootOf a0 := (lowHigh_pos hlh).2 (by omega)
    clear hlh
    go_wp2_with fail
    refine (rref_any a0 _ hn0 hn1).mono ?_
    rintro e w2 ⟨rfl, rfl⟩
    go_wp2
    go_ret
    exact ⟨rfl, hb⟩
end Go.Proofs.Ytodeaibmojpmpaa

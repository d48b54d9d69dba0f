/- Sample, the program's and the reference's; the reference's New and Late. -/
import Derived.Test.YtmlhebbklccegaaWait
namespace Go.Proofs.Ytmlhebbklccegaa
open Go.RowKit
attribute [local go_sem] max2_is min2_is max_of_two min_of_two
attribute [local go_sem ↓] Go.wp_at_zero Go.wp_at_succ

theorem names_any (w : World) : Calls Try.prog 13 #[] w fun e w' => e = .returned (.bool true) ∧ w = w' := by
  go_enter Try.func13, Try.ntmps13
  go_wp2
  go_ret
  exact ⟨rfl, rfl⟩
theorem rnew_ok (n : Int) (w : World) (h : tm n) :
    Calls Try.prog 12 #[.int .i64 n] w fun e w' => e = .returned (.tuple #[.pointer (some ⟨w.heap.size, 0, none⟩), .int .i64 0]) ∧ IsR w' w.heap.size n false 0 0 333000 166500 ∧ Below w.heap.size w w' := by
  obtain ⟨h1, h2⟩ := h
  go_enter Try.func12, Try.ntmps12
  go_wp2
  go_ret2
  exact ⟨rfl, IsR.new w n false 0 0 333000 166500, below_new (Below.refl _ _) (Nat.le_refl _) _⟩
theorem rnew_no (n : Int) (w : World) (h : ¬ tm n) :
    Calls Try.prog 12 #[.int .i64 n] w fun e w' => e = .returned (.tuple #[.pointer none, .int .i64 2]) ∧ w = w' := by
  unfold tm at h
  by_cases h1 : 0 ≤ n
  · have h2 : 1125899906842624 < n := by omega
    clear h
    go_enter Try.func12, Try.ntmps12
    go_wp2
    go_ret2
    exact ⟨rfl, rfl⟩
  · have h2 : n < 0 := by omega
    clear h h1
    go_enter Try.func12, Try.ntmps12
    go_wp2
    go_ret2
    exact ⟨rfl, rfl⟩

set_option maxHeartbeats 400000 in
theorem rlate_any (g : Nat) (M : Int) (h0 : Bool) (la le sm va : Int) (w : World) (h : IsR w g M h0 la le sm va) (h1 : tm la) (h2 : tm sm) :
    Calls Try.prog 15 #[.pointer (some ⟨g, 0, none⟩)] w fun e w' => e = .returned (.int .i64 (lateN sm la)) ∧ w = w' := by
  obtain ⟨⟨c0, c1, c2, c3, c4, c5⟩, _⟩ := h.all
  obtain ⟨h3, h4⟩ := h1
  obtain ⟨h5, h6⟩ := h2
  clear h
  unfold lateN
  rcases (show sm < la ∨ la ≤ sm by omega) with hc | hc
  · rw [show max sm la = la by omega]
    rcases (show 9 * la / 8 < 1000 ∨ 1000 ≤ 9 * la / 8 by omega) with hd | hd
    · rw [show max (9 * la / 8) 1000 = 1000 by omega]
      go_enter Try.func15, Try.ntmps15
      go_wp2
      go_ret
      exact ⟨rfl, rfl⟩
    · rw [show max (9 * la / 8) 1000 = 9 * la / 8 by omega]
      go_enter Try.func15, Try.ntmps15
      go_wp2
      go_ret
      exact ⟨rfl, rfl⟩
  · rw [show max sm la = sm by omega]
    rcases (show 9 * sm / 8 < 1000 ∨ 1000 ≤ 9 * sm / 8 by omega) with hd | hd
    · rw [show max (9 * sm / 8) 1000 = 1000 by omega]
      go_enter Try.func15, Try.ntmps15
      go_wp2
      go_ret
      exact ⟨rfl, rfl⟩
    · rw [show max (9 * sm / 8) 1000 = 9 * sm / 8 by omega]
      go_enter Try.func15, Try.ntmps15
      go_wp2
      go_ret
      exact ⟨rfl, rfl⟩

theorem dist_any (a b : Int) (w : World) (ha : tm a) (hb : tm b) : Calls Try.prog 20 #[.int .i64 a, .int .i64 b] w fun e w' => e = .returned (.int .i64 (max a b - min a b)) ∧ w = w' := by
  obtain ⟨h1, h2⟩ := ha
  obtain ⟨h3, h4⟩ := hb
  go_enter Try.func20, Try.ntmps20
  go_wp2
  go_ret
  exact ⟨rfl, rfl⟩

/-- What a sample is told: an error, or none. -/
def sampE (took waited : Int) : Int := if tm took ∧ 0 ≤ waited then 0 else 2

set_option maxHeartbeats 400000 in
theorem fits_any (g x y z : Nat) (M : Int) (h0 : Bool) (la le sm va took wt : Int) (w : World) (h : IsQ w g true M h0 la le sm va)
    (hx : w.cell? ⟨x, 0, none⟩ = some (.int .i64 wt)) (hy : w.cell? ⟨y, 0, none⟩ = some (.int .i64 took)) (hz : w.cell? ⟨z, 0, none⟩ = some (.pointer (some ⟨g, 0, none⟩))) (h1 : tm took) (h2 : tm le) :
    Calls Try.prog 19 #[.pointer (some ⟨x, 0, none⟩), .pointer (some ⟨y, 0, none⟩), .pointer (some ⟨z, 0, none⟩)] w fun e w' => e = .returned (.bool (decide (wt ≤ took - le))) ∧ ∃ n, w' = w.drewN n := by
  obtain ⟨⟨c0, c1, c2, c3, c4, c5, c6⟩, _⟩ := h.all
  obtain ⟨h3, h4⟩ := h1
  obtain ⟨h5, h6⟩ := h2
  clear h
  go_enter Try.func19, Try.ntmps19
  go_wp2_with fail
  go_quiet (fail)
  go_wp2
  go_ret
  exact ⟨rfl, _, rfl⟩

/-- The boxes of a call of Sample: the estimate, how long it took, how long was waited. -/
def Boxes (w : World) (q g : Nat) (took wt : Int) : Prop := Bk w q 24 #[.pointer (some ⟨g, 0, none⟩)] ∧ Bk w (q + 1) 3 #[.int .i64 took] ∧ Bk w (q + 1 + 1) 3 #[.int .i64 wt]
section
variable {w : World} {q g : Nat} {took wt : Int}
theorem cell_far {p a : Addr} {v : Value} (h : w.cell? p = some v) (hn : p.block ≠ a.block) (u : Value) : (w.setCell a u).cell? p = some v :=
  (World.cell?_setCell_other w a p u (fun e => hn (by rw [e]))).trans h
theorem cell_drew {p : Addr} {v : Value} (h : w.cell? p = some v) : w.drew.cell? p = some v := h
theorem Boxes.c (h : Boxes w q g took wt) : w.cell? ⟨q, 0, none⟩ = some (.pointer (some ⟨g, 0, none⟩)) ∧ w.cell? ⟨q + 1, 0, none⟩ = some (.int .i64 took) ∧ w.cell? ⟨q + 1 + 1, 0, none⟩ = some (.int .i64 wt) ∧ w.frozen? ⟨q + 1, 0, none⟩ = false ∧ w.frozen? ⟨q + 1 + 1, 0, none⟩ = false :=
  ⟨h.1.cell 0, h.2.1.cell 0, h.2.2.cell 0, h.2.1.frozen 0, h.2.2.frozen 0⟩
theorem Boxes.far (h : Boxes w q g took wt) (hg : g < q) (i : Nat) (u : Value) : Boxes (w.setCell ⟨g, i, none⟩ u) q g took wt :=
  ⟨h.1.far (by show q ≠ g; omega) u, h.2.1.far (by show q + 1 ≠ g; omega) u, h.2.2.far (by show q + 1 + 1 ≠ g; omega) u⟩
theorem Boxes.drew (h : Boxes w q g took wt) : Boxes w.drew q g took wt := h
theorem Boxes.drewN (h : Boxes w q g took wt) (n : Nat) : Boxes (w.drewN n) q g took wt := h
theorem Boxes.less (h : Boxes w q g took wt) (x : Int) : Boxes (w.setCell ⟨q + 1, 0, none⟩ (.int .i64 x)) q g x wt :=
  ⟨h.1.far (by show q ≠ q + 1; omega) _, h.2.1.at_ 0 _, h.2.2.far (by show q + 1 + 1 ≠ q + 1; omega) _⟩
theorem Boxes.waited (h : Boxes w q g took wt) (x : Int) : Boxes (w.setCell ⟨q + 1 + 1, 0, none⟩ (.int .i64 x)) q g took x :=
  ⟨h.1.far (by show q ≠ q + 1 + 1; omega) _, h.2.1.far (by show q + 1 ≠ q + 1 + 1; omega) _, h.2.2.at_ 0 _⟩
theorem Boxes.new (w : World) (g : Nat) (took wt : Int) : Boxes (((w.alloc (.cells #[.pointer (some ⟨g, 0, none⟩)] 24)).alloc (.cells #[.int .i64 took] 3)).alloc (.cells #[.int .i64 wt] 3)) w.heap.size g took wt := by
  refine ⟨((Bk.new w _ _).alloc _).alloc _, ?_, ?_⟩
  · have := (Bk.new (w.alloc (.cells #[.pointer (some ⟨g, 0, none⟩)] 24)) 3 #[.int .i64 took]).alloc (.cells #[.int .i64 wt] 3)
    simpa using this
  · have := Bk.new ((w.alloc (.cells #[.pointer (some ⟨g, 0, none⟩)] 24)).alloc (.cells #[.int .i64 took] 3)) 3 #[.int .i64 wt]
    simpa using this
end

set_option maxHeartbeats 800000 in
theorem sample_first (g : Nat) (M : Int) (la le sm va took waited : Int) (kn : Bool) (w : World) (h : IsQ w g true M false la le sm va) (h1 : tm took) (h2 : 0 ≤ waited) (h2' : waited ≤ 9223372036854775807) :
    Calls Try.prog 8 #[.pointer (some ⟨g, 0, none⟩), .int .i64 took, .int .i64 waited, .bool kn] w fun e w' => e = .returned (.int .i64 0) ∧ IsQ w' g true M true took took took (took / 2) ∧ Only w w' g := by
  have H1 := Lib.hid (((h.alloc (.cells #[.pointer (some ⟨g, 0, none⟩)] 24)).alloc (.cells #[.int .i64 took] 3)).alloc (.cells #[.int .i64 waited] 3))
  have HX := Lib.hid (Boxes.new w g took waited)
  have HO := Lib.hid (only_alloc (only_alloc (only_alloc (only_refl w g) (.cells #[.pointer (some ⟨g, 0, none⟩)] 24)) (.cells #[.int .i64 took] 3)) (.cells #[.int .i64 waited] 3))
  have HT := Lib.hid h1
  have hlt := h.lt
  obtain ⟨h3, h4⟩ := h1
  clear h
  go_enter Try.func8, Try.ntmps8
  go_wp2_with fail
  generalize ((w.alloc (.cells #[.pointer (some ⟨g, 0, none⟩)] 24)).alloc (.cells #[.int .i64 took] 3)).alloc (.cells #[.int .i64 waited] 3) = w1 at *
  generalize w.heap.size = q at *
  refine (none_no g M _ la le sm va _ H1.out).mono ?_
  rintro e w' ⟨rfl, rfl⟩
  obtain ⟨x0, x1, x2, x3, x4⟩ := HX.out.c
  obtain ⟨⟨c0, c1, c2, c3, c4, c5, c6⟩, f0, f1, f2, f3, f4, f5, f6⟩ := H1.out.all
  go_wp2_with fail
  refine (time_yes took _ HT.out).mono ?_
  rintro e w' ⟨rfl, rfl⟩
  go_wp2_with fail
  clear x0 x1 x2 x3 x4 c0 c1 c2 c3 c4 c5 c6 f0 f1 f2 f3 f4 f5 f6
  have H2 := Lib.hid (H1.out.set3 took)
  have HX2 := Lib.hid (HX.out.far hlt 3 (.int .i64 took))
  have HO2 := Lib.hid (only_set HO.out 3 (.int .i64 took))
  generalize w1.setCell ⟨g, 3, none⟩ (.int .i64 took) = w2 at *
  obtain ⟨x0, x1, x2, x3, x4⟩ := HX2.out.c
  obtain ⟨⟨c0, c1, c2, c3, c4, c5, c6⟩, f0, f1, f2, f3, f4, f5, f6⟩ := H2.out.all
  have n0 : q ≠ g := by omega
  have n1 : q + 1 ≠ g := by omega
  have hq : IntKind.i64.wrap (took.tdiv 2) = took / 2 := by rw [IntKind.wrap_i64, Int.tdiv_eq_ediv_of_nonneg h3]; omega
  go_region_held3 (fun w' => w'.cell? ⟨q, 0, none⟩ = some (.pointer (some ⟨g, 0, none⟩)) ∧ w'.cell? ⟨q + 1, 0, none⟩ = some (.int .i64 took)) (refine ⟨?_, ?_⟩ <;> (repeat (first | (with_reducible exact x0) | (with_reducible exact x1) | (with_reducible refine cell_drew ?_) | (with_reducible refine cell_far ?_ ?_ _; rotate_left; (first | exact n0 | exact n1))))) (fail)
  rename_i hheld
  clear x0 x1 x2 x3 x4 c0 c1 c2 c3 c4 c5 c6 f0 f1 f2 f3 f4 f5 f6 hheld hq
  have H3 := Lib.hid ((((H2.out.set2 true).set4 took).set5 took).set6 (took / 2)).drew
  have HO3 := Lib.hid (only_drew (only_set (only_set (only_set (only_set HO2.out 2 (.bool true)) 4 (.int .i64 took)) 5 (.int .i64 took)) 6 (.int .i64 (took / 2))))
  generalize ((((w2.setCell ⟨g, 2, none⟩ (.bool true)).setCell ⟨g, 4, none⟩ (.int .i64 took)).setCell ⟨g, 5, none⟩ (.int .i64 took)).setCell ⟨g, 6, none⟩ (.int .i64 (took / 2))).drew = w3 at *
  go_wp2
  go_ret
  exact ⟨rfl, H3.out, HO3.out⟩
end Go.Proofs.Ytmlhebbklccegaa

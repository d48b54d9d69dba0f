/- Sample behind the first one: the program's. -/
import Derived.Test.YtmlhebbklccegaaTake
import Derived.StillTailTactics
namespace Go.Proofs.Ytmlhebbklccegaa
open Go.RowKit
attribute [local go_sem] max2_is min2_is max_of_two min_of_two
attribute [local go_sem ↓] Go.wp_at_zero Go.wp_at_succ

/-- The estimate behind a sample that took a, less what was waited. -/
def varyN (sm va a : Int) : Int := (3 * va + (max sm a - min sm a)) / 4
def smoothN (sm a : Int) : Int := (7 * sm + a) / 8
theorem wr_in {x : Int} (h0 : -9223372036854775808 ≤ x) (h1 : x ≤ 9223372036854775807) : IntKind.i64.wrap x = x := by rw [IntKind.wrap_i64]; omega
theorem wr_div {x k : Int} (h0 : 0 ≤ x) (h1 : x ≤ 9223372036854775807) (hk : 1 ≤ k) : IntKind.i64.wrap (x.tdiv k) = x / k := by
  rw [Int.tdiv_eq_ediv_of_nonneg h0]
  have a := Int.ediv_nonneg h0 (show 0 ≤ k by omega)
  have b := Int.ediv_le_self k h0
  exact wr_in (by omega) (by omega)
theorem dist_eq (a b : Int) (w : World) (ha : tm a) (hb : tm b) : Calls Try.prog 20 #[.int .i64 a, .int .i64 b] w fun e w' => e = .returned (.int .i64 (max a b - min a b)) ∧ w' = w :=
  (dist_any a b w ha hb).mono fun _ _ ⟨he, hw⟩ => ⟨he, hw.symm⟩

set_option maxHeartbeats 4000000 in
set_option maxRecDepth 100000 in
theorem sample_next (g : Nat) (M : Int) (la le sm va took waited : Int) (kn : Bool) (w : World) (h : IsQ w g true M true la le sm va) (h1 : tm took) (h2 : 0 ≤ waited) (h2' : waited ≤ 9223372036854775807) (hM : tm M) (hl : tm le) (hs : tm sm) (hv : tm va) :
    Calls Try.prog 8 #[.pointer (some ⟨g, 0, none⟩), .int .i64 took, .int .i64 waited, .bool kn] w fun e w' => e = .returned (.int .i64 0) ∧
      IsQ w' g true M true took (min le took) (smoothN sm (adj M le took waited kn)) (varyN sm va (adj M le took waited kn)) ∧ Only w w' g := by
  have H1 := Lib.hid (((h.alloc (.cells #[.pointer (some ⟨g, 0, none⟩)] 24)).alloc (.cells #[.int .i64 took] 3)).alloc (.cells #[.int .i64 waited] 3))
  have HX1 := Lib.hid (Boxes.new w g took waited)
  have HO1 := Lib.hid (only_alloc (only_alloc (only_alloc (only_refl w g) (.cells #[.pointer (some ⟨g, 0, none⟩)] 24)) (.cells #[.int .i64 took] 3)) (.cells #[.int .i64 waited] 3))
  have HT := Lib.hid h1
  have hlt := h.lt
  obtain ⟨h3, h4⟩ := h1
  obtain ⟨hM0, hM1⟩ := hM
  obtain ⟨hl0, hl1⟩ := hl
  obtain ⟨hs0, hs1⟩ := hs
  obtain ⟨hv0, hv1⟩ := hv
  have hlm : tm (min le took) := ⟨by omega, by omega⟩
  have n0 : w.heap.size ≠ g := by omega
  have n1 : w.heap.size + 1 ≠ g := by omega
  have n2 : w.heap.size + 1 + 1 ≠ g := by omega
  have hq1 : g ≠ w.heap.size + 1 := by omega
  have hq2 : g ≠ w.heap.size + 1 + 1 := by omega
  have hq3 : w.heap.size ≤ w.heap.size + 1 + 1 := by omega
  have hq4 : w.heap.size ≤ w.heap.size + 1 := by omega
  have hz0 : 0 ≤ min le took := by omega
  have hz1 : min le took ≤ took := by omega
  clear h
  cases kn
  · go_enter Try.func8, Try.ntmps8
    go_wp2_with fail
    generalize ((w.alloc (.cells #[.pointer (some ⟨g, 0, none⟩)] 24)).alloc (.cells #[.int .i64 took] 3)).alloc (.cells #[.int .i64 waited] 3) = w1 at *
    obtain ⟨q, hqe⟩ : ∃ q, w.heap.size = q := ⟨_, rfl⟩
    rw [hqe] at n0 n1 n2 hq1 hq2 hlt HX1
    rw [hqe]
    have hqw : w.heap.size ≤ q := by omega
    clear hq3 hq4 hqe
    have hq3 : w.heap.size ≤ q + 1 + 1 := by omega
    have hq4 : w.heap.size ≤ q + 1 := by omega
    refine (none_no g M _ la le sm va _ H1.out).mono ?_
    rintro e w' ⟨rfl, rfl⟩
    obtain ⟨x0, x1, x2, x3, x4⟩ := HX1.out.c
    obtain ⟨⟨c0, c1, c2, c3, c4, c5, c6⟩, f0, f1, f2, f3, f4, f5, f6⟩ := H1.out.all
    go_wp2_with fail
    refine (time_yes took _ HT.out).mono ?_
    rintro e w' ⟨rfl, rfl⟩
    go_wp2_with fail
    clear x0 x1 x2 x3 x4 c0 c1 c2 c3 c4 c5 c6 f0 f1 f2 f3 f4 f5 f6
    have H2 := Lib.hid (H1.out.set3 took)
    have HX2 := Lib.hid (HX1.out.far hlt 3 (.int .i64 took))
    have HO2 := Lib.hid (only_set HO1.out 3 (.int .i64 took))
    generalize w1.setCell ⟨g, 3, none⟩ (.int .i64 took) = w2 at *
    obtain ⟨x0, x1, x2, x3, x4⟩ := HX2.out.c
    obtain ⟨⟨c0, c1, c2, c3, c4, c5, c6⟩, f0, f1, f2, f3, f4, f5, f6⟩ := H2.out.all
    go_still_tail 9, (by kernel_rfl)
    change wpList _ _ _ _ _ w2.drew
    clear x0 x1 x2 x3 x4 c0 c1 c2 c3 c4 c5 c6 f0 f1 f2 f3 f4 f5 f6
    have H3 := Lib.hid (IsQ.drew H2.out)
    have HX3 := Lib.hid (Boxes.drew HX2.out)
    have HO3 := Lib.hid (only_drew HO2.out)
    generalize w2.drew = w3 at *
    obtain ⟨x0, x1, x2, x3, x4⟩ := HX3.out.c
    obtain ⟨⟨c0, c1, c2, c3, c4, c5, c6⟩, f0, f1, f2, f3, f4, f5, f6⟩ := H3.out.all
    go_wp2_with fail
    clear x0 x1 x2 x3 x4 c0 c1 c2 c3 c4 c5 c6 f0 f1 f2 f3 f4 f5 f6
    have H4 := Lib.hid (H3.out.set4 (min le took))
    have HX4 := Lib.hid (HX3.out.far hlt 4 (.int .i64 (min le took)))
    have HO4 := Lib.hid (only_set HO3.out 4 (.int .i64 (min le took)))
    generalize w3.setCell ⟨g, 4, none⟩ (.int .i64 (min le took)) = w4 at *
    obtain ⟨x0, x1, x2, x3, x4⟩ := HX4.out.c
    obtain ⟨⟨c0, c1, c2, c3, c4, c5, c6⟩, f0, f1, f2, f3, f4, f5, f6⟩ := H4.out.all
    clear x0 x1 x2 x3 x4 c0 c1 c2 c3 c4 c5 c6 f0 f1 f2 f3 f4 f5 f6
    obtain ⟨wt, hwt⟩ : ∃ wt, waited = wt := ⟨_, rfl⟩
    rw [hwt] at HX4
    have ha : adj M le took waited false = if wt ≤ took - min le took then took - wt else took := by simp only [adj, Bool.false_eq_true, if_false, hwt]
    have hw0 : 0 ≤ wt := by omega
    have hw1 : wt ≤ 9223372036854775807 := by omega
    clear hwt
    obtain ⟨x0, x1, x2, x3, x4⟩ := HX4.out.c
    refine (fits_any g _ _ _ M _ took (min le took) sm va took wt _ H4.out x2 x1 x0 HT.out hlm).mono ?_
    rintro e w' ⟨rfl, nd, rfl⟩
    clear x0 x1 x2 x3 x4
    have H5 := Lib.hid (IsQ.drewN H4.out nd)
    have HX5 := Lib.hid (Boxes.drewN HX4.out nd)
    have HO5 := Lib.hid (only_drewN HO4.out nd)
    generalize w4.drewN nd = w5 at *
    rcases (show wt ≤ took - min le took ∨ took - min le took < wt by omega) with hf | hf
    · obtain ⟨x0, x1, x2, x3, x4⟩ := HX5.out.c
      obtain ⟨⟨c0, c1, c2, c3, c4, c5, c6⟩, f0, f1, f2, f3, f4, f5, f6⟩ := H5.out.all
      have hd : decide (wt ≤ took - min le took) = true := decide_eq_true hf
      have ea0 := ha.trans (if_pos hf)
      have EA := Lib.hid ea0
      clear ha ea0
      go_wp2_with fail
      clear x0 x1 x2 x3 x4 c0 c1 c2 c3 c4 c5 c6 f0 f1 f2 f3 f4 f5 f6
      have H6 := Lib.hid (IsQ.far H5.out (p := ⟨q + 1, 0, none⟩) hq1 (.int .i64 (took - wt)))
      have HX6 := Lib.hid (HX5.out.less (took - wt))
      have HO6 := Lib.hid (only_new HO5.out (p := ⟨q + 1, 0, none⟩) hq4 (.int .i64 (took - wt)))
      generalize w5.setCell ⟨q + 1, 0, none⟩ (.int .i64 (took - wt)) = w6 at *
      obtain ⟨a, had⟩ : ∃ a, took - wt = a := ⟨_, rfl⟩
      rw [had] at HX6
      have ea := Lib.hid (EA.out.trans had)
      clear EA
      have ha0 : 0 ≤ a := by omega
      have ha1 : a ≤ 1125899906842624 := by omega
      clear had hf hd
      obtain ⟨x0, x1, x2, x3, x4⟩ := HX6.out.c
      obtain ⟨⟨c0, c1, c2, c3, c4, c5, c6⟩, f0, f1, f2, f3, f4, f5, f6⟩ := H6.out.all
      have s1 : IntKind.i64.wrap (3 * va) = 3 * va := wr_in (by omega) (by omega)
      have s2 : IntKind.i64.wrap (3 * va + (max sm a - min sm a)) = 3 * va + (max sm a - min sm a) := wr_in (by omega) (by omega)
      have s3 : IntKind.i64.wrap ((3 * va + (max sm a - min sm a)).tdiv 4) = varyN sm va a := wr_div (by omega) (by omega) (by omega)
      go_still_tail 16, (by kernel_rfl)
      still_call (dist_eq sm a _ ⟨hs0, hs1⟩ ⟨ha0, ha1⟩)
      repeat still_step
      refine wpStill_nil ?_
      change wpList _ _ _ _ _ w6.drew
      clear x0 x1 x2 x3 x4 c0 c1 c2 c3 c4 c5 c6 f0 f1 f2 f3 f4 f5 f6
      have H7 := Lib.hid (IsQ.drew H6.out)
      have HX7 := Lib.hid (Boxes.drew HX6.out)
      have HO7 := Lib.hid (only_drew HO6.out)
      generalize w6.drew = w7 at *
      obtain ⟨x0, x1, x2, x3, x4⟩ := HX7.out.c
      obtain ⟨⟨c0, c1, c2, c3, c4, c5, c6⟩, f0, f1, f2, f3, f4, f5, f6⟩ := H7.out.all
      clear s1 s2 s3
      go_wp2_with fail
      clear x0 x1 x2 x3 x4 c0 c1 c2 c3 c4 c5 c6 f0 f1 f2 f3 f4 f5 f6
      have H8 := Lib.hid (H7.out.set6 (varyN sm va a))
      have HX8 := Lib.hid (HX7.out.far hlt 6 (.int .i64 (varyN sm va a)))
      have HO8 := Lib.hid (only_set HO7.out 6 (.int .i64 (varyN sm va a)))
      generalize w7.setCell ⟨g, 6, none⟩ (.int .i64 (varyN sm va a)) = w8 at *
      obtain ⟨x0, x1, x2, x3, x4⟩ := HX8.out.c
      obtain ⟨⟨c0, c1, c2, c3, c4, c5, c6⟩, f0, f1, f2, f3, f4, f5, f6⟩ := H8.out.all
      have s1 : IntKind.i64.wrap (7 * sm) = 7 * sm := wr_in (by omega) (by omega)
      have s2 : IntKind.i64.wrap (7 * sm + a) = 7 * sm + a := wr_in (by omega) (by omega)
      have s3 : IntKind.i64.wrap ((7 * sm + a).tdiv 8) = smoothN sm a := wr_div (by omega) (by omega) (by omega)
      go_still_tail 11, (by kernel_rfl)
      change wpList _ _ _ _ _ w8.drew
      clear x0 x1 x2 x3 x4 c0 c1 c2 c3 c4 c5 c6 f0 f1 f2 f3 f4 f5 f6
      have H9 := Lib.hid (IsQ.drew H8.out)
      have HX9 := Lib.hid (Boxes.drew HX8.out)
      have HO9 := Lib.hid (only_drew HO8.out)
      generalize w8.drew = w9 at *
      obtain ⟨x0, x1, x2, x3, x4⟩ := HX9.out.c
      obtain ⟨⟨c0, c1, c2, c3, c4, c5, c6⟩, f0, f1, f2, f3, f4, f5, f6⟩ := H9.out.all
      clear s1 s2 s3
      go_wp2
      go_ret
      rw [ea.out]
      exact ⟨rfl, H9.out.set5 (smoothN sm a), only_set HO9.out 5 _⟩
    · obtain ⟨x0, x1, x2, x3, x4⟩ := HX5.out.c
      obtain ⟨⟨c0, c1, c2, c3, c4, c5, c6⟩, f0, f1, f2, f3, f4, f5, f6⟩ := H5.out.all
      have hd : decide (wt ≤ took - min le took) = false := decide_eq_false (by omega)
      have ea0 := ha.trans (if_neg (by omega))
      have EA := Lib.hid ea0
      clear ha ea0
      go_wp2_with fail
      clear x0 x1 x2 x3 x4 c0 c1 c2 c3 c4 c5 c6 f0 f1 f2 f3 f4 f5 f6
      obtain ⟨a, had⟩ : ∃ a, took = a := ⟨_, rfl⟩
      rw [had] at HX5
      have ea := Lib.hid (EA.out.trans had)
      clear EA
      have ha0 : 0 ≤ a := by omega
      have ha1 : a ≤ 1125899906842624 := by omega
      clear had hf hd
      obtain ⟨x0, x1, x2, x3, x4⟩ := HX5.out.c
      obtain ⟨⟨c0, c1, c2, c3, c4, c5, c6⟩, f0, f1, f2, f3, f4, f5, f6⟩ := H5.out.all
      have s1 : IntKind.i64.wrap (3 * va) = 3 * va := wr_in (by omega) (by omega)
      have s2 : IntKind.i64.wrap (3 * va + (max sm a - min sm a)) = 3 * va + (max sm a - min sm a) := wr_in (by omega) (by omega)
      have s3 : IntKind.i64.wrap ((3 * va + (max sm a - min sm a)).tdiv 4) = varyN sm va a := wr_div (by omega) (by omega) (by omega)
      go_still_tail 16, (by kernel_rfl)
      still_call (dist_eq sm a _ ⟨hs0, hs1⟩ ⟨ha0, ha1⟩)
      repeat still_step
      refine wpStill_nil ?_
      change wpList _ _ _ _ _ w5.drew
      clear x0 x1 x2 x3 x4 c0 c1 c2 c3 c4 c5 c6 f0 f1 f2 f3 f4 f5 f6
      have H6 := Lib.hid (IsQ.drew H5.out)
      have HX6 := Lib.hid (Boxes.drew HX5.out)
      have HO6 := Lib.hid (only_drew HO5.out)
      generalize w5.drew = w6 at *
      obtain ⟨x0, x1, x2, x3, x4⟩ := HX6.out.c
      obtain ⟨⟨c0, c1, c2, c3, c4, c5, c6⟩, f0, f1, f2, f3, f4, f5, f6⟩ := H6.out.all
      clear s1 s2 s3
      go_wp2_with fail
      clear x0 x1 x2 x3 x4 c0 c1 c2 c3 c4 c5 c6 f0 f1 f2 f3 f4 f5 f6
      have H7 := Lib.hid (H6.out.set6 (varyN sm va a))
      have HX7 := Lib.hid (HX6.out.far hlt 6 (.int .i64 (varyN sm va a)))
      have HO7 := Lib.hid (only_set HO6.out 6 (.int .i64 (varyN sm va a)))
      generalize w6.setCell ⟨g, 6, none⟩ (.int .i64 (varyN sm va a)) = w7 at *
      obtain ⟨x0, x1, x2, x3, x4⟩ := HX7.out.c
      obtain ⟨⟨c0, c1, c2, c3, c4, c5, c6⟩, f0, f1, f2, f3, f4, f5, f6⟩ := H7.out.all
      have s1 : IntKind.i64.wrap (7 * sm) = 7 * sm := wr_in (by omega) (by omega)
      have s2 : IntKind.i64.wrap (7 * sm + a) = 7 * sm + a := wr_in (by omega) (by omega)
      have s3 : IntKind.i64.wrap ((7 * sm + a).tdiv 8) = smoothN sm a := wr_div (by omega) (by omega) (by omega)
      go_still_tail 11, (by kernel_rfl)
      change wpList _ _ _ _ _ w7.drew
      clear x0 x1 x2 x3 x4 c0 c1 c2 c3 c4 c5 c6 f0 f1 f2 f3 f4 f5 f6
      have H8 := Lib.hid (IsQ.drew H7.out)
      have HX8 := Lib.hid (Boxes.drew HX7.out)
      have HO8 := Lib.hid (only_drew HO7.out)
      generalize w7.drew = w8 at *
      obtain ⟨x0, x1, x2, x3, x4⟩ := HX8.out.c
      obtain ⟨⟨c0, c1, c2, c3, c4, c5, c6⟩, f0, f1, f2, f3, f4, f5, f6⟩ := H8.out.all
      clear s1 s2 s3
      go_wp2
      go_ret
      rw [ea.out]
      exact ⟨rfl, H8.out.set5 (smoothN sm a), only_set HO8.out 5 _⟩
  · go_enter Try.func8, Try.ntmps8
    go_wp2_with fail
    generalize ((w.alloc (.cells #[.pointer (some ⟨g, 0, none⟩)] 24)).alloc (.cells #[.int .i64 took] 3)).alloc (.cells #[.int .i64 waited] 3) = w1 at *
    obtain ⟨q, hqe⟩ : ∃ q, w.heap.size = q := ⟨_, rfl⟩
    rw [hqe] at n0 n1 n2 hq1 hq2 hlt HX1
    rw [hqe]
    have hqw : w.heap.size ≤ q := by omega
    clear hq3 hq4 hqe
    have hq3 : w.heap.size ≤ q + 1 + 1 := by omega
    have hq4 : w.heap.size ≤ q + 1 := by omega
    refine (none_no g M _ la le sm va _ H1.out).mono ?_
    rintro e w' ⟨rfl, rfl⟩
    obtain ⟨x0, x1, x2, x3, x4⟩ := HX1.out.c
    obtain ⟨⟨c0, c1, c2, c3, c4, c5, c6⟩, f0, f1, f2, f3, f4, f5, f6⟩ := H1.out.all
    go_wp2_with fail
    refine (time_yes took _ HT.out).mono ?_
    rintro e w' ⟨rfl, rfl⟩
    go_wp2_with fail
    clear x0 x1 x2 x3 x4 c0 c1 c2 c3 c4 c5 c6 f0 f1 f2 f3 f4 f5 f6
    have H2 := Lib.hid (H1.out.set3 took)
    have HX2 := Lib.hid (HX1.out.far hlt 3 (.int .i64 took))
    have HO2 := Lib.hid (only_set HO1.out 3 (.int .i64 took))
    generalize w1.setCell ⟨g, 3, none⟩ (.int .i64 took) = w2 at *
    obtain ⟨x0, x1, x2, x3, x4⟩ := HX2.out.c
    obtain ⟨⟨c0, c1, c2, c3, c4, c5, c6⟩, f0, f1, f2, f3, f4, f5, f6⟩ := H2.out.all
    go_still_tail 9, (by kernel_rfl)
    change wpList _ _ _ _ _ w2.drew
    clear x0 x1 x2 x3 x4 c0 c1 c2 c3 c4 c5 c6 f0 f1 f2 f3 f4 f5 f6
    have H3 := Lib.hid (IsQ.drew H2.out)
    have HX3 := Lib.hid (Boxes.drew HX2.out)
    have HO3 := Lib.hid (only_drew HO2.out)
    generalize w2.drew = w3 at *
    obtain ⟨x0, x1, x2, x3, x4⟩ := HX3.out.c
    obtain ⟨⟨c0, c1, c2, c3, c4, c5, c6⟩, f0, f1, f2, f3, f4, f5, f6⟩ := H3.out.all
    go_wp2_with fail
    clear x0 x1 x2 x3 x4 c0 c1 c2 c3 c4 c5 c6 f0 f1 f2 f3 f4 f5 f6
    have H4 := Lib.hid (H3.out.set4 (min le took))
    have HX4 := Lib.hid (HX3.out.far hlt 4 (.int .i64 (min le took)))
    have HO4 := Lib.hid (only_set HO3.out 4 (.int .i64 (min le took)))
    generalize w3.setCell ⟨g, 4, none⟩ (.int .i64 (min le took)) = w4 at *
    obtain ⟨x0, x1, x2, x3, x4⟩ := HX4.out.c
    obtain ⟨⟨c0, c1, c2, c3, c4, c5, c6⟩, f0, f1, f2, f3, f4, f5, f6⟩ := H4.out.all
    go_still_tail 6, (by kernel_rfl)
    change wpList _ _ _ _ _ w4.drew
    clear x0 x1 x2 x3 x4 c0 c1 c2 c3 c4 c5 c6 f0 f1 f2 f3 f4 f5 f6
    have H5 := Lib.hid (IsQ.drew H4.out)
    have HX5 := Lib.hid (Boxes.drew HX4.out)
    have HO5 := Lib.hid (only_drew HO4.out)
    generalize w4.drew = w5 at *
    obtain ⟨x0, x1, x2, x3, x4⟩ := HX5.out.c
    obtain ⟨⟨c0, c1, c2, c3, c4, c5, c6⟩, f0, f1, f2, f3, f4, f5, f6⟩ := H5.out.all
    go_wp2_with fail
    clear x0 x1 x2 x3 x4 c0 c1 c2 c3 c4 c5 c6 f0 f1 f2 f3 f4 f5 f6
    have H6 := Lib.hid (IsQ.far H5.out (p := ⟨q + 1 + 1, 0, none⟩) hq2 (.int .i64 (min waited M)))
    have HX6 := Lib.hid (HX5.out.waited (min waited M))
    have HO6 := Lib.hid (only_new HO5.out (p := ⟨q + 1 + 1, 0, none⟩) hq3 (.int .i64 (min waited M)))
    generalize w5.setCell ⟨q + 1 + 1, 0, none⟩ (.int .i64 (min waited M)) = w6 at *
    obtain ⟨wt, hwt⟩ : ∃ wt, min waited M = wt := ⟨_, rfl⟩
    rw [hwt] at HX6
    have ha : adj M le took waited true = if wt ≤ took - min le took then took - wt else took := by simp only [adj, if_true, hwt]
    have hw0 : 0 ≤ wt := by omega
    have hw1 : wt ≤ 9223372036854775807 := by omega
    clear hwt
    obtain ⟨x0, x1, x2, x3, x4⟩ := HX6.out.c
    refine (fits_any g _ _ _ M _ took (min le took) sm va took wt _ H6.out x2 x1 x0 HT.out hlm).mono ?_
    rintro e w' ⟨rfl, nd, rfl⟩
    clear x0 x1 x2 x3 x4
    have H7 := Lib.hid (IsQ.drewN H6.out nd)
    have HX7 := Lib.hid (Boxes.drewN HX6.out nd)
    have HO7 := Lib.hid (only_drewN HO6.out nd)
    generalize w6.drewN nd = w7 at *
    rcases (show wt ≤ took - min le took ∨ took - min le took < wt by omega) with hf | hf
    · obtain ⟨x0, x1, x2, x3, x4⟩ := HX7.out.c
      obtain ⟨⟨c0, c1, c2, c3, c4, c5, c6⟩, f0, f1, f2, f3, f4, f5, f6⟩ := H7.out.all
      have hd : decide (wt ≤ took - min le took) = true := decide_eq_true hf
      have ea0 := ha.trans (if_pos hf)
      have EA := Lib.hid ea0
      clear ha ea0
      go_wp2_with fail
      clear x0 x1 x2 x3 x4 c0 c1 c2 c3 c4 c5 c6 f0 f1 f2 f3 f4 f5 f6
      have H8 := Lib.hid (IsQ.far H7.out (p := ⟨q + 1, 0, none⟩) hq1 (.int .i64 (took - wt)))
      have HX8 := Lib.hid (HX7.out.less (took - wt))
      have HO8 := Lib.hid (only_new HO7.out (p := ⟨q + 1, 0, none⟩) hq4 (.int .i64 (took - wt)))
      generalize w7.setCell ⟨q + 1, 0, none⟩ (.int .i64 (took - wt)) = w8 at *
      obtain ⟨a, had⟩ : ∃ a, took - wt = a := ⟨_, rfl⟩
      rw [had] at HX8
      have ea := Lib.hid (EA.out.trans had)
      clear EA
      have ha0 : 0 ≤ a := by omega
      have ha1 : a ≤ 1125899906842624 := by omega
      clear had hf hd
      obtain ⟨x0, x1, x2, x3, x4⟩ := HX8.out.c
      obtain ⟨⟨c0, c1, c2, c3, c4, c5, c6⟩, f0, f1, f2, f3, f4, f5, f6⟩ := H8.out.all
      have s1 : IntKind.i64.wrap (3 * va) = 3 * va := wr_in (by omega) (by omega)
      have s2 : IntKind.i64.wrap (3 * va + (max sm a - min sm a)) = 3 * va + (max sm a - min sm a) := wr_in (by omega) (by omega)
      have s3 : IntKind.i64.wrap ((3 * va + (max sm a - min sm a)).tdiv 4) = varyN sm va a := wr_div (by omega) (by omega) (by omega)
      go_still_tail 16, (by kernel_rfl)
      still_call (dist_eq sm a _ ⟨hs0, hs1⟩ ⟨ha0, ha1⟩)
      repeat still_step
      refine wpStill_nil ?_
      change wpList _ _ _ _ _ w8.drew
      clear x0 x1 x2 x3 x4 c0 c1 c2 c3 c4 c5 c6 f0 f1 f2 f3 f4 f5 f6
      have H9 := Lib.hid (IsQ.drew H8.out)
      have HX9 := Lib.hid (Boxes.drew HX8.out)
      have HO9 := Lib.hid (only_drew HO8.out)
      generalize w8.drew = w9 at *
      obtain ⟨x0, x1, x2, x3, x4⟩ := HX9.out.c
      obtain ⟨⟨c0, c1, c2, c3, c4, c5, c6⟩, f0, f1, f2, f3, f4, f5, f6⟩ := H9.out.all
      clear s1 s2 s3
      go_wp2_with fail
      clear x0 x1 x2 x3 x4 c0 c1 c2 c3 c4 c5 c6 f0 f1 f2 f3 f4 f5 f6
      have H10 := Lib.hid (H9.out.set6 (varyN sm va a))
      have HX10 := Lib.hid (HX9.out.far hlt 6 (.int .i64 (varyN sm va a)))
      have HO10 := Lib.hid (only_set HO9.out 6 (.int .i64 (varyN sm va a)))
      generalize w9.setCell ⟨g, 6, none⟩ (.int .i64 (varyN sm va a)) = w10 at *
      obtain ⟨x0, x1, x2, x3, x4⟩ := HX10.out.c
      obtain ⟨⟨c0, c1, c2, c3, c4, c5, c6⟩, f0, f1, f2, f3, f4, f5, f6⟩ := H10.out.all
      have s1 : IntKind.i64.wrap (7 * sm) = 7 * sm := wr_in (by omega) (by omega)
      have s2 : IntKind.i64.wrap (7 * sm + a) = 7 * sm + a := wr_in (by omega) (by omega)
      have s3 : IntKind.i64.wrap ((7 * sm + a).tdiv 8) = smoothN sm a := wr_div (by omega) (by omega) (by omega)
      go_still_tail 11, (by kernel_rfl)
      change wpList _ _ _ _ _ w10.drew
      clear x0 x1 x2 x3 x4 c0 c1 c2 c3 c4 c5 c6 f0 f1 f2 f3 f4 f5 f6
      have H11 := Lib.hid (IsQ.drew H10.out)
      have HX11 := Lib.hid (Boxes.drew HX10.out)
      have HO11 := Lib.hid (only_drew HO10.out)
      generalize w10.drew = w11 at *
      obtain ⟨x0, x1, x2, x3, x4⟩ := HX11.out.c
      obtain ⟨⟨c0, c1, c2, c3, c4, c5, c6⟩, f0, f1, f2, f3, f4, f5, f6⟩ := H11.out.all
      clear s1 s2 s3
      go_wp2
      go_ret
      rw [ea.out]
      exact ⟨rfl, H11.out.set5 (smoothN sm a), only_set HO11.out 5 _⟩
    · obtain ⟨x0, x1, x2, x3, x4⟩ := HX7.out.c
      obtain ⟨⟨c0, c1, c2, c3, c4, c5, c6⟩, f0, f1, f2, f3, f4, f5, f6⟩ := H7.out.all
      have hd : decide (wt ≤ took - min le took) = false := decide_eq_false (by omega)
      have ea0 := ha.trans (if_neg (by omega))
      have EA := Lib.hid ea0
      clear ha ea0
      go_wp2_with fail
      clear x0 x1 x2 x3 x4 c0 c1 c2 c3 c4 c5 c6 f0 f1 f2 f3 f4 f5 f6
      obtain ⟨a, had⟩ : ∃ a, took = a := ⟨_, rfl⟩
      rw [had] at HX7
      have ea := Lib.hid (EA.out.trans had)
      clear EA
      have ha0 : 0 ≤ a := by omega
      have ha1 : a ≤ 1125899906842624 := by omega
      clear had hf hd
      obtain ⟨x0, x1, x2, x3, x4⟩ := HX7.out.c
      obtain ⟨⟨c0, c1, c2, c3, c4, c5, c6⟩, f0, f1, f2, f3, f4, f5, f6⟩ := H7.out.all
      have s1 : IntKind.i64.wrap (3 * va) = 3 * va := wr_in (by omega) (by omega)
      have s2 : IntKind.i64.wrap (3 * va + (max sm a - min sm a)) = 3 * va + (max sm a - min sm a) := wr_in (by omega) (by omega)
      have s3 : IntKind.i64.wrap ((3 * va + (max sm a - min sm a)).tdiv 4) = varyN sm va a := wr_div (by omega) (by omega) (by omega)
      go_still_tail 16, (by kernel_rfl)
      still_call (dist_eq sm a _ ⟨hs0, hs1⟩ ⟨ha0, ha1⟩)
      repeat still_step
      refine wpStill_nil ?_
      change wpList _ _ _ _ _ w7.drew
      clear x0 x1 x2 x3 x4 c0 c1 c2 c3 c4 c5 c6 f0 f1 f2 f3 f4 f5 f6
      have H8 := Lib.hid (IsQ.drew H7.out)
      have HX8 := Lib.hid (Boxes.drew HX7.out)
      have HO8 := Lib.hid (only_drew HO7.out)
      generalize w7.drew = w8 at *
      obtain ⟨x0, x1, x2, x3, x4⟩ := HX8.out.c
      obtain ⟨⟨c0, c1, c2, c3, c4, c5, c6⟩, f0, f1, f2, f3, f4, f5, f6⟩ := H8.out.all
      clear s1 s2 s3
      go_wp2_with fail
      clear x0 x1 x2 x3 x4 c0 c1 c2 c3 c4 c5 c6 f0 f1 f2 f3 f4 f5 f6
      have H9 := Lib.hid (H8.out.set6 (varyN sm va a))
      have HX9 := Lib.hid (HX8.out.far hlt 6 (.int .i64 (varyN sm va a)))
      have HO9 := Lib.hid (only_set HO8.out 6 (.int .i64 (varyN sm va a)))
      generalize w8.setCell ⟨g, 6, none⟩ (.int .i64 (varyN sm va a)) = w9 at *
      obtain ⟨x0, x1, x2, x3, x4⟩ := HX9.out.c
      obtain ⟨⟨c0, c1, c2, c3, c4, c5, c6⟩, f0, f1, f2, f3, f4, f5, f6⟩ := H9.out.all
      have s1 : IntKind.i64.wrap (7 * sm) = 7 * sm := wr_in (by omega) (by omega)
      have s2 : IntKind.i64.wrap (7 * sm + a) = 7 * sm + a := wr_in (by omega) (by omega)
      have s3 : IntKind.i64.wrap ((7 * sm + a).tdiv 8) = smoothN sm a := wr_div (by omega) (by omega) (by omega)
      go_still_tail 11, (by kernel_rfl)
      change wpList _ _ _ _ _ w9.drew
      clear x0 x1 x2 x3 x4 c0 c1 c2 c3 c4 c5 c6 f0 f1 f2 f3 f4 f5 f6
      have H10 := Lib.hid (IsQ.drew H9.out)
      have HX10 := Lib.hid (Boxes.drew HX9.out)
      have HO10 := Lib.hid (only_drew HO9.out)
      generalize w9.drew = w10 at *
      obtain ⟨x0, x1, x2, x3, x4⟩ := HX10.out.c
      obtain ⟨⟨c0, c1, c2, c3, c4, c5, c6⟩, f0, f1, f2, f3, f4, f5, f6⟩ := H10.out.all
      clear s1 s2 s3
      go_wp2
      go_ret
      rw [ea.out]
      exact ⟨rfl, H10.out.set5 (smoothN sm a), only_set HO10.out 5 _⟩
end Go.Proofs.Ytmlhebbklccegaa

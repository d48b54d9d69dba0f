/- Sample in one contract: the program's and the reference's. -/
import Derived.Test.YtmlhebbklccegaaNext
namespace Go.Proofs.Ytmlhebbklccegaa
open Go.RowKit
attribute [local go_sem] max2_is min2_is max_of_two min_of_two

/-- What an estimate holds. -/
structure St where
  has : Bool
  la : Int
  le : Int
  sm : Int
  va : Int
def nextSt (M : Int) (s : St) (took waited : Int) (kn : Bool) : St :=
  if tm took ∧ 0 ≤ waited then
    (if s.has then ⟨true, took, min s.le took, smoothN s.sm (adj M s.le took waited kn), varyN s.sm s.va (adj M s.le took waited kn)⟩ else ⟨true, took, took, took, took / 2⟩)
  else s
def Rok (M : Int) (s : St) : Prop := tm M ∧ tm s.la ∧ tm s.le ∧ tm s.sm ∧ tm s.va
def IsS (w : World) (g : Nat) (M : Int) (s : St) : Prop := IsQ w g true M s.has s.la s.le s.sm s.va
def IsP (w : World) (g : Nat) (M : Int) (s : St) : Prop := IsR w g M s.has s.la s.le s.sm s.va

theorem adj_in {M le took waited : Int} {kn : Bool} (hM : tm M) (_hl : tm le) (ht : tm took) (hw : 0 ≤ waited) : tm (adj M le took waited kn) ∧ min le took ≤ adj M le took waited kn ∧ adj M le took waited kn ≤ took := by
  obtain ⟨h1, h2⟩ := hM
  obtain ⟨h3, h4⟩ := _hl
  obtain ⟨h5, h6⟩ := ht
  unfold adj
  cases kn <;> simp only [Bool.false_eq_true, if_false, if_true] <;> split <;> (refine ⟨⟨?_, ?_⟩, ?_, ?_⟩ <;> omega)
theorem rok_next {M : Int} {s : St} {took waited : Int} {kn : Bool} (h : Rok M s) : Rok M (nextSt M s took waited kn) := by
  obtain ⟨hM, h1, h2, h3, h4⟩ := h
  unfold nextSt
  split
  · rename_i hc
    obtain ⟨ht, hw⟩ := hc
    split
    · have ha := (adj_in (kn := kn) hM h2 ht hw).1
      obtain ⟨a0, a1⟩ := ha
      obtain ⟨b0, b1⟩ := h3
      obtain ⟨c0, c1⟩ := h4
      obtain ⟨d0, d1⟩ := h2
      have ht' := ht
      obtain ⟨e0, e1⟩ := ht'
      exact ⟨hM, ht, ⟨by show 0 ≤ min s.le took; omega, by show min s.le took ≤ _; omega⟩, ⟨by show 0 ≤ smoothN _ _; unfold smoothN; omega, by show smoothN _ _ ≤ _; unfold smoothN; omega⟩, ⟨by show 0 ≤ varyN _ _ _; unfold varyN; omega, by show varyN _ _ _ ≤ _; unfold varyN; omega⟩⟩
    · have ht' := ht
      obtain ⟨e0, e1⟩ := ht'
      exact ⟨hM, ht, ht, ht, ⟨by show 0 ≤ took / 2; omega, by show took / 2 ≤ _; omega⟩⟩
  · exact ⟨hM, h1, h2, h3, h4⟩

set_option maxHeartbeats 800000 in
theorem sample_bad (g : Nat) (M : Int) (hs : Bool) (la le sm va took waited : Int) (kn : Bool) (w : World) (h : IsQ w g true M hs la le sm va) (h1 : ¬ (tm took ∧ 0 ≤ waited)) :
    Calls Try.prog 8 #[.pointer (some ⟨g, 0, none⟩), .int .i64 took, .int .i64 waited, .bool kn] w fun e w' => e = .returned (.int .i64 2) ∧ IsQ w' g true M hs la le sm va ∧ Only w w' g := by
  have H1 := Lib.hid (((h.alloc (.cells #[.pointer (some ⟨g, 0, none⟩)] 24)).alloc (.cells #[.int .i64 took] 3)).alloc (.cells #[.int .i64 waited] 3))
  have HX := Lib.hid (Boxes.new w g took waited)
  have HO := Lib.hid (only_alloc (only_alloc (only_alloc (only_refl w g) (.cells #[.pointer (some ⟨g, 0, none⟩)] 24)) (.cells #[.int .i64 took] 3)) (.cells #[.int .i64 waited] 3))
  clear h
  by_cases ht : tm took
  · have hw : waited < 0 := by
      rcases (show waited < 0 ∨ 0 ≤ waited by omega) with h | h
      · exact h
      · exact absurd ⟨ht, h⟩ h1
    have HT := Lib.hid ht
    clear h1 ht
    go_enter Try.func8, Try.ntmps8
    go_wp2_with fail
    refine (none_no g M _ la le sm va _ H1.out).mono ?_
    rintro e w' ⟨rfl, rfl⟩
    obtain ⟨x0, x1, x2, x3, x4⟩ := HX.out.c
    go_wp2_with fail
    refine (time_yes took _ HT.out).mono ?_
    rintro e w' ⟨rfl, rfl⟩
    go_wp2
    go_ret
    exact ⟨rfl, H1.out, HO.out⟩
  · have HT := Lib.hid ht
    clear h1 ht
    go_enter Try.func8, Try.ntmps8
    go_wp2_with fail
    refine (none_no g M _ la le sm va _ H1.out).mono ?_
    rintro e w' ⟨rfl, rfl⟩
    obtain ⟨x0, x1, x2, x3, x4⟩ := HX.out.c
    go_wp2_with fail
    refine (time_no took _ HT.out).mono ?_
    rintro e w' ⟨rfl, rfl⟩
    go_wp2
    go_ret
    exact ⟨rfl, H1.out, HO.out⟩

theorem sample_any (g : Nat) (M : Int) (s : St) (took waited : Int) (kn : Bool) (w : World) (h : IsS w g M s) (ho : Rok M s) (hw : waited ≤ 9223372036854775807) :
    Calls Try.prog 8 #[.pointer (some ⟨g, 0, none⟩), .int .i64 took, .int .i64 waited, .bool kn] w fun e w' => e = .returned (.int .i64 (sampE took waited)) ∧ IsS w' g M (nextSt M s took waited kn) ∧ Only w w' g := by
  obtain ⟨hs, la, le, sm, va⟩ := s
  obtain ⟨hM, h1, h2, h3, h4⟩ := ho
  by_cases hc : tm took ∧ 0 ≤ waited
  · rw [show sampE took waited = 0 from if_pos hc]
    unfold nextSt
    rw [if_pos hc]
    cases hs
    · exact sample_first g M la le sm va took waited kn w h hc.1 hc.2 hw
    · exact sample_next g M la le sm va took waited kn w h hc.1 hc.2 hw hM h2 h3 h4
  · rw [show sampE took waited = 2 from if_neg hc]
    unfold nextSt
    rw [if_neg hc]
    exact sample_bad g M hs la le sm va took waited kn w h hc

set_option maxHeartbeats 800000 in
theorem rsample_bad (g : Nat) (M : Int) (hs : Bool) (la le sm va took waited : Int) (kn : Bool) (w : World) (h : IsR w g M hs la le sm va) (h1 : ¬ (tm took ∧ 0 ≤ waited)) :
    Calls Try.prog 16 #[.pointer (some ⟨g, 0, none⟩), .int .i64 took, .int .i64 waited, .bool kn] w fun e w' => e = .returned (.int .i64 2) ∧ IsR w' g M hs la le sm va ∧ Only w w' g := by
  have H := Lib.hid h
  clear h
  unfold tm at h1
  by_cases h2 : took < 0
  · clear h1
    go_enter Try.func16, Try.ntmps16
    go_wp2
    go_ret
    exact ⟨rfl, H.out, only_refl w g⟩
  · have h3 : 0 ≤ took := by omega
    by_cases h4 : 1125899906842624 < took
    · clear h1 h2
      go_enter Try.func16, Try.ntmps16
      go_wp2
      go_ret
      exact ⟨rfl, H.out, only_refl w g⟩
    · have h5 : took ≤ 1125899906842624 := by omega
      have h6 : waited < 0 := by omega
      clear h1 h2 h4
      go_enter Try.func16, Try.ntmps16
      go_wp2
      go_ret
      exact ⟨rfl, H.out, only_refl w g⟩

set_option maxHeartbeats 800000 in
theorem rsample_first (g : Nat) (M : Int) (la le sm va took waited : Int) (kn : Bool) (w : World) (h : IsR w g M false la le sm va) (h1 : tm took) (h2 : 0 ≤ waited) :
    Calls Try.prog 16 #[.pointer (some ⟨g, 0, none⟩), .int .i64 took, .int .i64 waited, .bool kn] w fun e w' => e = .returned (.int .i64 0) ∧ IsR w' g M true took took took (took / 2) ∧ Only w w' g := by
  have H := Lib.hid h
  obtain ⟨⟨c0, c1, c2, c3, c4, c5⟩, f0, f1, f2, f3, f4, f5⟩ := h.all
  obtain ⟨h3, h4⟩ := h1
  clear h
  go_enter Try.func16, Try.ntmps16
  go_wp2
  go_ret
  exact ⟨rfl, ((((H.out.set2 took).set1 true).set3 took).set4 took).set5 (took / 2), only_set (only_set (only_set (only_set (only_set (only_refl w g) _ _) _ _) _ _) _ _) _ _⟩

set_option maxHeartbeats 4000000 in
theorem rsample_next (g : Nat) (M : Int) (la le sm va took waited : Int) (kn : Bool) (w : World) (h : IsR w g M true la le sm va) (h1 : tm took) (h2 : 0 ≤ waited) (h2' : waited ≤ 9223372036854775807) (hM : tm M) (hl : tm le) (hs : tm sm) (hv : tm va) :
    Calls Try.prog 16 #[.pointer (some ⟨g, 0, none⟩), .int .i64 took, .int .i64 waited, .bool kn] w fun e w' => e = .returned (.int .i64 0) ∧
      IsR w' g M true took (min le took) (smoothN sm (adj M le took waited kn)) (varyN sm va (adj M le took waited kn)) ∧ Only w w' g := by
  have H := Lib.hid h
  have HA := Lib.hid (adj_in (kn := kn) hM hl h1 h2).1
  obtain ⟨⟨c0, c1, c2, c3, c4, c5⟩, f0, f1, f2, f3, f4, f5⟩ := h.all
  obtain ⟨h3, h4⟩ := h1
  obtain ⟨hM0, hM1⟩ := hM
  obtain ⟨hl0, hl1⟩ := hl
  obtain ⟨hs0, hs1⟩ := hs
  obtain ⟨hv0, hv1⟩ := hv
  clear h
  rcases (show took < le ∨ le ≤ took by omega) with hA | hA
  · cases kn
    · rcases (show (waited ≤ took ∧ took ≤ took - waited) ∨ (waited ≤ took ∧ took - waited < took) ∨ took < waited by omega) with ⟨hC, hD⟩ | ⟨hC, hD⟩ | hC
      · rcases (show sm - (took - waited) < 0 ∨ 0 ≤ sm - (took - waited) by omega) with hE | hE
        · have ea : adj M le took waited false = (took - waited) := by
            unfold adj
            rw [show min le took = took by omega]
            simp only [Bool.false_eq_true, if_false]
            rw [if_pos (by omega)]
          have em : min le took = took := by omega
          have ev : varyN sm va (took - waited) = (3 * va + (-(sm - (took - waited)))) / 4 := by unfold varyN; omega
          rw [ea, em, ev]
          have HS : Hid (smoothN sm (took - waited) = (7 * sm + (took - waited)) / 8) := Lib.hid rfl
          rw [HS.out]
          clear ea em ev
          go_enter Try.func16, Try.ntmps16
          go_wp2
          go_ret
          exact ⟨rfl, ((((H.out.set2 took).set3 took)).set5 _).set4 _, only_set (only_set (only_set (only_set (only_refl w g) _ _) _ _) _ _) _ _⟩
        · have ea : adj M le took waited false = (took - waited) := by
            unfold adj
            rw [show min le took = took by omega]
            simp only [Bool.false_eq_true, if_false]
            rw [if_pos (by omega)]
          have em : min le took = took := by omega
          have ev : varyN sm va (took - waited) = (3 * va + (sm - (took - waited))) / 4 := by unfold varyN; omega
          rw [ea, em, ev]
          have HS : Hid (smoothN sm (took - waited) = (7 * sm + (took - waited)) / 8) := Lib.hid rfl
          rw [HS.out]
          clear ea em ev
          go_enter Try.func16, Try.ntmps16
          go_wp2
          go_ret
          exact ⟨rfl, ((((H.out.set2 took).set3 took)).set5 _).set4 _, only_set (only_set (only_set (only_set (only_refl w g) _ _) _ _) _ _) _ _⟩
      · rcases (show sm - took < 0 ∨ 0 ≤ sm - took by omega) with hE | hE
        · have ea : adj M le took waited false = took := by
            unfold adj
            rw [show min le took = took by omega]
            simp only [Bool.false_eq_true, if_false]
            rw [if_neg (by omega)]
          have em : min le took = took := by omega
          have ev : varyN sm va took = (3 * va + (-(sm - took))) / 4 := by unfold varyN; omega
          rw [ea, em, ev]
          have HS : Hid (smoothN sm took = (7 * sm + took) / 8) := Lib.hid rfl
          rw [HS.out]
          clear ea em ev
          go_enter Try.func16, Try.ntmps16
          go_wp2
          go_ret
          exact ⟨rfl, ((((H.out.set2 took).set3 took)).set5 _).set4 _, only_set (only_set (only_set (only_set (only_refl w g) _ _) _ _) _ _) _ _⟩
        · have ea : adj M le took waited false = took := by
            unfold adj
            rw [show min le took = took by omega]
            simp only [Bool.false_eq_true, if_false]
            rw [if_neg (by omega)]
          have em : min le took = took := by omega
          have ev : varyN sm va took = (3 * va + (sm - took)) / 4 := by unfold varyN; omega
          rw [ea, em, ev]
          have HS : Hid (smoothN sm took = (7 * sm + took) / 8) := Lib.hid rfl
          rw [HS.out]
          clear ea em ev
          go_enter Try.func16, Try.ntmps16
          go_wp2
          go_ret
          exact ⟨rfl, ((((H.out.set2 took).set3 took)).set5 _).set4 _, only_set (only_set (only_set (only_set (only_refl w g) _ _) _ _) _ _) _ _⟩
      · rcases (show sm - took < 0 ∨ 0 ≤ sm - took by omega) with hE | hE
        · have ea : adj M le took waited false = took := by
            unfold adj
            rw [show min le took = took by omega]
            simp only [Bool.false_eq_true, if_false]
            rw [if_neg (by omega)]
          have em : min le took = took := by omega
          have ev : varyN sm va took = (3 * va + (-(sm - took))) / 4 := by unfold varyN; omega
          rw [ea, em, ev]
          have HS : Hid (smoothN sm took = (7 * sm + took) / 8) := Lib.hid rfl
          rw [HS.out]
          clear ea em ev
          go_enter Try.func16, Try.ntmps16
          go_wp2
          go_ret
          exact ⟨rfl, ((((H.out.set2 took).set3 took)).set5 _).set4 _, only_set (only_set (only_set (only_set (only_refl w g) _ _) _ _) _ _) _ _⟩
        · have ea : adj M le took waited false = took := by
            unfold adj
            rw [show min le took = took by omega]
            simp only [Bool.false_eq_true, if_false]
            rw [if_neg (by omega)]
          have em : min le took = took := by omega
          have ev : varyN sm va took = (3 * va + (sm - took)) / 4 := by unfold varyN; omega
          rw [ea, em, ev]
          have HS : Hid (smoothN sm took = (7 * sm + took) / 8) := Lib.hid rfl
          rw [HS.out]
          clear ea em ev
          go_enter Try.func16, Try.ntmps16
          go_wp2
          go_ret
          exact ⟨rfl, ((((H.out.set2 took).set3 took)).set5 _).set4 _, only_set (only_set (only_set (only_set (only_refl w g) _ _) _ _) _ _) _ _⟩
    · rcases (show M < waited ∨ waited ≤ M by omega) with hB | hB
      · rcases (show (M ≤ took ∧ took ≤ took - M) ∨ (M ≤ took ∧ took - M < took) ∨ took < M by omega) with ⟨hC, hD⟩ | ⟨hC, hD⟩ | hC
        · rcases (show sm - (took - M) < 0 ∨ 0 ≤ sm - (took - M) by omega) with hE | hE
          · have ea : adj M le took waited true = (took - M) := by
              unfold adj
              rw [show min le took = took by omega]
              rw [if_pos rfl, show min waited M = M by omega]
              rw [if_pos (by omega)]
            have em : min le took = took := by omega
            have ev : varyN sm va (took - M) = (3 * va + (-(sm - (took - M)))) / 4 := by unfold varyN; omega
            rw [ea, em, ev]
            have HS : Hid (smoothN sm (took - M) = (7 * sm + (took - M)) / 8) := Lib.hid rfl
            rw [HS.out]
            clear ea em ev
            go_enter Try.func16, Try.ntmps16
            go_wp2
            go_ret
            exact ⟨rfl, ((((H.out.set2 took).set3 took)).set5 _).set4 _, only_set (only_set (only_set (only_set (only_refl w g) _ _) _ _) _ _) _ _⟩
          · have ea : adj M le took waited true = (took - M) := by
              unfold adj
              rw [show min le took = took by omega]
              rw [if_pos rfl, show min waited M = M by omega]
              rw [if_pos (by omega)]
            have em : min le took = took := by omega
            have ev : varyN sm va (took - M) = (3 * va + (sm - (took - M))) / 4 := by unfold varyN; omega
            rw [ea, em, ev]
            have HS : Hid (smoothN sm (took - M) = (7 * sm + (took - M)) / 8) := Lib.hid rfl
            rw [HS.out]
            clear ea em ev
            go_enter Try.func16, Try.ntmps16
            go_wp2
            go_ret
            exact ⟨rfl, ((((H.out.set2 took).set3 took)).set5 _).set4 _, only_set (only_set (only_set (only_set (only_refl w g) _ _) _ _) _ _) _ _⟩
        · rcases (show sm - took < 0 ∨ 0 ≤ sm - took by omega) with hE | hE
          · have ea : adj M le took waited true = took := by
              unfold adj
              rw [show min le took = took by omega]
              rw [if_pos rfl, show min waited M = M by omega]
              rw [if_neg (by omega)]
            have em : min le took = took := by omega
            have ev : varyN sm va took = (3 * va + (-(sm - took))) / 4 := by unfold varyN; omega
            rw [ea, em, ev]
            have HS : Hid (smoothN sm took = (7 * sm + took) / 8) := Lib.hid rfl
            rw [HS.out]
            clear ea em ev
            go_enter Try.func16, Try.ntmps16
            go_wp2
            go_ret
            exact ⟨rfl, ((((H.out.set2 took).set3 took)).set5 _).set4 _, only_set (only_set (only_set (only_set (only_refl w g) _ _) _ _) _ _) _ _⟩
          · have ea : adj M le took waited true = took := by
              unfold adj
              rw [show min le took = took by omega]
              rw [if_pos rfl, show min waited M = M by omega]
              rw [if_neg (by omega)]
            have em : min le took = took := by omega
            have ev : varyN sm va took = (3 * va + (sm - took)) / 4 := by unfold varyN; omega
            rw [ea, em, ev]
            have HS : Hid (smoothN sm took = (7 * sm + took) / 8) := Lib.hid rfl
            rw [HS.out]
            clear ea em ev
            go_enter Try.func16, Try.ntmps16
            go_wp2
            go_ret
            exact ⟨rfl, ((((H.out.set2 took).set3 took)).set5 _).set4 _, only_set (only_set (only_set (only_set (only_refl w g) _ _) _ _) _ _) _ _⟩
        · rcases (show sm - took < 0 ∨ 0 ≤ sm - took by omega) with hE | hE
          · have ea : adj M le took waited true = took := by
              unfold adj
              rw [show min le took = took by omega]
              rw [if_pos rfl, show min waited M = M by omega]
              rw [if_neg (by omega)]
            have em : min le took = took := by omega
            have ev : varyN sm va took = (3 * va + (-(sm - took))) / 4 := by unfold varyN; omega
            rw [ea, em, ev]
            have HS : Hid (smoothN sm took = (7 * sm + took) / 8) := Lib.hid rfl
            rw [HS.out]
            clear ea em ev
            go_enter Try.func16, Try.ntmps16
            go_wp2
            go_ret
            exact ⟨rfl, ((((H.out.set2 took).set3 took)).set5 _).set4 _, only_set (only_set (only_set (only_set (only_refl w g) _ _) _ _) _ _) _ _⟩
          · have ea : adj M le took waited true = took := by
              unfold adj
              rw [show min le took = took by omega]
              rw [if_pos rfl, show min waited M = M by omega]
              rw [if_neg (by omega)]
            have em : min le took = took := by omega
            have ev : varyN sm va took = (3 * va + (sm - took)) / 4 := by unfold varyN; omega
            rw [ea, em, ev]
            have HS : Hid (smoothN sm took = (7 * sm + took) / 8) := Lib.hid rfl
            rw [HS.out]
            clear ea em ev
            go_enter Try.func16, Try.ntmps16
            go_wp2
            go_ret
            exact ⟨rfl, ((((H.out.set2 took).set3 took)).set5 _).set4 _, only_set (only_set (only_set (only_set (only_refl w g) _ _) _ _) _ _) _ _⟩
      · rcases (show (waited ≤ took ∧ took ≤ took - waited) ∨ (waited ≤ took ∧ took - waited < took) ∨ took < waited by omega) with ⟨hC, hD⟩ | ⟨hC, hD⟩ | hC
        · rcases (show sm - (took - waited) < 0 ∨ 0 ≤ sm - (took - waited) by omega) with hE | hE
          · have ea : adj M le took waited true = (took - waited) := by
              unfold adj
              rw [show min le took = took by omega]
              rw [if_pos rfl, show min waited M = waited by omega]
              rw [if_pos (by omega)]
            have em : min le took = took := by omega
            have ev : varyN sm va (took - waited) = (3 * va + (-(sm - (took - waited)))) / 4 := by unfold varyN; omega
            rw [ea, em, ev]
            have HS : Hid (smoothN sm (took - waited) = (7 * sm + (took - waited)) / 8) := Lib.hid rfl
            rw [HS.out]
            clear ea em ev
            go_enter Try.func16, Try.ntmps16
            go_wp2
            go_ret
            exact ⟨rfl, ((((H.out.set2 took).set3 took)).set5 _).set4 _, only_set (only_set (only_set (only_set (only_refl w g) _ _) _ _) _ _) _ _⟩
          · have ea : adj M le took waited true = (took - waited) := by
              unfold adj
              rw [show min le took = took by omega]
              rw [if_pos rfl, show min waited M = waited by omega]
              rw [if_pos (by omega)]
            have em : min le took = took := by omega
            have ev : varyN sm va (took - waited) = (3 * va + (sm - (took - waited))) / 4 := by unfold varyN; omega
            rw [ea, em, ev]
            have HS : Hid (smoothN sm (took - waited) = (7 * sm + (took - waited)) / 8) := Lib.hid rfl
            rw [HS.out]
            clear ea em ev
            go_enter Try.func16, Try.ntmps16
            go_wp2
            go_ret
            exact ⟨rfl, ((((H.out.set2 took).set3 took)).set5 _).set4 _, only_set (only_set (only_set (only_set (only_refl w g) _ _) _ _) _ _) _ _⟩
        · rcases (show sm - took < 0 ∨ 0 ≤ sm - took by omega) with hE | hE
          · have ea : adj M le took waited true = took := by
              unfold adj
              rw [show min le took = took by omega]
              rw [if_pos rfl, show min waited M = waited by omega]
              rw [if_neg (by omega)]
            have em : min le took = took := by omega
            have ev : varyN sm va took = (3 * va + (-(sm - took))) / 4 := by unfold varyN; omega
            rw [ea, em, ev]
            have HS : Hid (smoothN sm took = (7 * sm + took) / 8) := Lib.hid rfl
            rw [HS.out]
            clear ea em ev
            go_enter Try.func16, Try.ntmps16
            go_wp2
            go_ret
            exact ⟨rfl, ((((H.out.set2 took).set3 took)).set5 _).set4 _, only_set (only_set (only_set (only_set (only_refl w g) _ _) _ _) _ _) _ _⟩
          · have ea : adj M le took waited true = took := by
              unfold adj
              rw [show min le took = took by omega]
              rw [if_pos rfl, show min waited M = waited by omega]
              rw [if_neg (by omega)]
            have em : min le took = took := by omega
            have ev : varyN sm va took = (3 * va + (sm - took)) / 4 := by unfold varyN; omega
            rw [ea, em, ev]
            have HS : Hid (smoothN sm took = (7 * sm + took) / 8) := Lib.hid rfl
            rw [HS.out]
            clear ea em ev
            go_enter Try.func16, Try.ntmps16
            go_wp2
            go_ret
            exact ⟨rfl, ((((H.out.set2 took).set3 took)).set5 _).set4 _, only_set (only_set (only_set (only_set (only_refl w g) _ _) _ _) _ _) _ _⟩
        · rcases (show sm - took < 0 ∨ 0 ≤ sm - took by omega) with hE | hE
          · have ea : adj M le took waited true = took := by
              unfold adj
              rw [show min le took = took by omega]
              rw [if_pos rfl, show min waited M = waited by omega]
              rw [if_neg (by omega)]
            have em : min le took = took := by omega
            have ev : varyN sm va took = (3 * va + (-(sm - took))) / 4 := by unfold varyN; omega
            rw [ea, em, ev]
            have HS : Hid (smoothN sm took = (7 * sm + took) / 8) := Lib.hid rfl
            rw [HS.out]
            clear ea em ev
            go_enter Try.func16, Try.ntmps16
            go_wp2
            go_ret
            exact ⟨rfl, ((((H.out.set2 took).set3 took)).set5 _).set4 _, only_set (only_set (only_set (only_set (only_refl w g) _ _) _ _) _ _) _ _⟩
          · have ea : adj M le took waited true = took := by
              unfold adj
              rw [show min le took = took by omega]
              rw [if_pos rfl, show min waited M = waited by omega]
              rw [if_neg (by omega)]
            have em : min le took = took := by omega
            have ev : varyN sm va took = (3 * va + (sm - took)) / 4 := by unfold varyN; omega
            rw [ea, em, ev]
            have HS : Hid (smoothN sm took = (7 * sm + took) / 8) := Lib.hid rfl
            rw [HS.out]
            clear ea em ev
            go_enter Try.func16, Try.ntmps16
            go_wp2
            go_ret
            exact ⟨rfl, ((((H.out.set2 took).set3 took)).set5 _).set4 _, only_set (only_set (only_set (only_set (only_refl w g) _ _) _ _) _ _) _ _⟩
  · cases kn
    · rcases (show (waited ≤ took ∧ le ≤ took - waited) ∨ (waited ≤ took ∧ took - waited < le) ∨ took < waited by omega) with ⟨hC, hD⟩ | ⟨hC, hD⟩ | hC
      · rcases (show sm - (took - waited) < 0 ∨ 0 ≤ sm - (took - waited) by omega) with hE | hE
        · have ea : adj M le took waited false = (took - waited) := by
            unfold adj
            rw [show min le took = le by omega]
            simp only [Bool.false_eq_true, if_false]
            rw [if_pos (by omega)]
          have em : min le took = le := by omega
          have ev : varyN sm va (took - waited) = (3 * va + (-(sm - (took - waited)))) / 4 := by unfold varyN; omega
          rw [ea, em, ev]
          have HS : Hid (smoothN sm (took - waited) = (7 * sm + (took - waited)) / 8) := Lib.hid rfl
          rw [HS.out]
          clear ea em ev
          go_enter Try.func16, Try.ntmps16
          go_wp2
          go_ret
          exact ⟨rfl, (((H.out.set2 took)).set5 _).set4 _, only_set (only_set (only_set (only_refl w g) _ _) _ _) _ _⟩
        · have ea : adj M le took waited false = (took - waited) := by
            unfold adj
            rw [show min le took = le by omega]
            simp only [Bool.false_eq_true, if_false]
            rw [if_pos (by omega)]
          have em : min le took = le := by omega
          have ev : varyN sm va (took - waited) = (3 * va + (sm - (took - waited))) / 4 := by unfold varyN; omega
          rw [ea, em, ev]
          have HS : Hid (smoothN sm (took - waited) = (7 * sm + (took - waited)) / 8) := Lib.hid rfl
          rw [HS.out]
          clear ea em ev
          go_enter Try.func16, Try.ntmps16
          go_wp2
          go_ret
          exact ⟨rfl, (((H.out.set2 took)).set5 _).set4 _, only_set (only_set (only_set (only_refl w g) _ _) _ _) _ _⟩
      · rcases (show sm - took < 0 ∨ 0 ≤ sm - took by omega) with hE | hE
        · have ea : adj M le took waited false = took := by
            unfold adj
            rw [show min le took = le by omega]
            simp only [Bool.false_eq_true, if_false]
            rw [if_neg (by omega)]
          have em : min le took = le := by omega
          have ev : varyN sm va took = (3 * va + (-(sm - took))) / 4 := by unfold varyN; omega
          rw [ea, em, ev]
          have HS : Hid (smoothN sm took = (7 * sm + took) / 8) := Lib.hid rfl
          rw [HS.out]
          clear ea em ev
          go_enter Try.func16, Try.ntmps16
          go_wp2
          go_ret
          exact ⟨rfl, (((H.out.set2 took)).set5 _).set4 _, only_set (only_set (only_set (only_refl w g) _ _) _ _) _ _⟩
        · have ea : adj M le took waited false = took := by
            unfold adj
            rw [show min le took = le by omega]
            simp only [Bool.false_eq_true, if_false]
            rw [if_neg (by omega)]
          have em : min le took = le := by omega
          have ev : varyN sm va took = (3 * va + (sm - took)) / 4 := by unfold varyN; omega
          rw [ea, em, ev]
          have HS : Hid (smoothN sm took = (7 * sm + took) / 8) := Lib.hid rfl
          rw [HS.out]
          clear ea em ev
          go_enter Try.func16, Try.ntmps16
          go_wp2
          go_ret
          exact ⟨rfl, (((H.out.set2 took)).set5 _).set4 _, only_set (only_set (only_set (only_refl w g) _ _) _ _) _ _⟩
      · rcases (show sm - took < 0 ∨ 0 ≤ sm - took by omega) with hE | hE
        · have ea : adj M le took waited false = took := by
            unfold adj
            rw [show min le took = le by omega]
            simp only [Bool.false_eq_true, if_false]
            rw [if_neg (by omega)]
          have em : min le took = le := by omega
          have ev : varyN sm va took = (3 * va + (-(sm - took))) / 4 := by unfold varyN; omega
          rw [ea, em, ev]
          have HS : Hid (smoothN sm took = (7 * sm + took) / 8) := Lib.hid rfl
          rw [HS.out]
          clear ea em ev
          go_enter Try.func16, Try.ntmps16
          go_wp2
          go_ret
          exact ⟨rfl, (((H.out.set2 took)).set5 _).set4 _, only_set (only_set (only_set (only_refl w g) _ _) _ _) _ _⟩
        · have ea : adj M le took waited false = took := by
            unfold adj
            rw [show min le took = le by omega]
            simp only [Bool.false_eq_true, if_false]
            rw [if_neg (by omega)]
          have em : min le took = le := by omega
          have ev : varyN sm va took = (3 * va + (sm - took)) / 4 := by unfold varyN; omega
          rw [ea, em, ev]
          have HS : Hid (smoothN sm took = (7 * sm + took) / 8) := Lib.hid rfl
          rw [HS.out]
          clear ea em ev
          go_enter Try.func16, Try.ntmps16
          go_wp2
          go_ret
          exact ⟨rfl, (((H.out.set2 took)).set5 _).set4 _, only_set (only_set (only_set (only_refl w g) _ _) _ _) _ _⟩
    · rcases (show M < waited ∨ waited ≤ M by omega) with hB | hB
      · rcases (show (M ≤ took ∧ le ≤ took - M) ∨ (M ≤ took ∧ took - M < le) ∨ took < M by omega) with ⟨hC, hD⟩ | ⟨hC, hD⟩ | hC
        · rcases (show sm - (took - M) < 0 ∨ 0 ≤ sm - (took - M) by omega) with hE | hE
          · have ea : adj M le took waited true = (took - M) := by
              unfold adj
              rw [show min le took = le by omega]
              rw [if_pos rfl, show min waited M = M by omega]
              rw [if_pos (by omega)]
            have em : min le took = le := by omega
            have ev : varyN sm va (took - M) = (3 * va + (-(sm - (took - M)))) / 4 := by unfold varyN; omega
            rw [ea, em, ev]
            have HS : Hid (smoothN sm (took - M) = (7 * sm + (took - M)) / 8) := Lib.hid rfl
            rw [HS.out]
            clear ea em ev
            go_enter Try.func16, Try.ntmps16
            go_wp2
            go_ret
            exact ⟨rfl, (((H.out.set2 took)).set5 _).set4 _, only_set (only_set (only_set (only_refl w g) _ _) _ _) _ _⟩
          · have ea : adj M le took waited true = (took - M) := by
              unfold adj
              rw [show min le took = le by omega]
              rw [if_pos rfl, show min waited M = M by omega]
              rw [if_pos (by omega)]
            have em : min le took = le := by omega
            have ev : varyN sm va (took - M) = (3 * va + (sm - (took - M))) / 4 := by unfold varyN; omega
            rw [ea, em, ev]
            have HS : Hid (smoothN sm (took - M) = (7 * sm + (took - M)) / 8) := Lib.hid rfl
            rw [HS.out]
            clear ea em ev
            go_enter Try.func16, Try.ntmps16
            go_wp2
            go_ret
            exact ⟨rfl, (((H.out.set2 took)).set5 _).set4 _, only_set (only_set (only_set (only_refl w g) _ _) _ _) _ _⟩
        · rcases (show sm - took < 0 ∨ 0 ≤ sm - took by omega) with hE | hE
          · have ea : adj M le took waited true = took := by
              unfold adj
              rw [show min le took = le by omega]
              rw [if_pos rfl, show min waited M = M by omega]
              rw [if_neg (by omega)]
            have em : min le took = le := by omega
            have ev : varyN sm va took = (3 * va + (-(sm - took))) / 4 := by unfold varyN; omega
            rw [ea, em, ev]
            have HS : Hid (smoothN sm took = (7 * sm + took) / 8) := Lib.hid rfl
            rw [HS.out]
            clear ea em ev
            go_enter Try.func16, Try.ntmps16
            go_wp2
            go_ret
            exact ⟨rfl, (((H.out.set2 took)).set5 _).set4 _, only_set (only_set (only_set (only_refl w g) _ _) _ _) _ _⟩
          · have ea : adj M le took waited true = took := by
              unfold adj
              rw [show min le took = le by omega]
              rw [if_pos rfl, show min waited M = M by omega]
              rw [if_neg (by omega)]
            have em : min le took = le := by omega
            have ev : varyN sm va took = (3 * va + (sm - took)) / 4 := by unfold varyN; omega
            rw [ea, em, ev]
            have HS : Hid (smoothN sm took = (7 * sm + took) / 8) := Lib.hid rfl
            rw [HS.out]
            clear ea em ev
            go_enter Try.func16, Try.ntmps16
            go_wp2
            go_ret
            exact ⟨rfl, (((H.out.set2 took)).set5 _).set4 _, only_set (only_set (only_set (only_refl w g) _ _) _ _) _ _⟩
        · rcases (show sm - took < 0 ∨ 0 ≤ sm - took by omega) with hE | hE
          · have ea : adj M le took waited true = took := by
              unfold adj
              rw [show min le took = le by omega]
              rw [if_pos rfl, show min waited M = M by omega]
              rw [if_neg (by omega)]
            have em : min le took = le := by omega
            have ev : varyN sm va took = (3 * va + (-(sm - took))) / 4 := by unfold varyN; omega
            rw [ea, em, ev]
            have HS : Hid (smoothN sm took = (7 * sm + took) / 8) := Lib.hid rfl
            rw [HS.out]
            clear ea em ev
            go_enter Try.func16, Try.ntmps16
            go_wp2
            go_ret
            exact ⟨rfl, (((H.out.set2 took)).set5 _).set4 _, only_set (only_set (only_set (only_refl w g) _ _) _ _) _ _⟩
          · have ea : adj M le took waited true = took := by
              unfold adj
              rw [show min le took = le by omega]
              rw [if_pos rfl, show min waited M = M by omega]
              rw [if_neg (by omega)]
            have em : min le took = le := by omega
            have ev : varyN sm va took = (3 * va + (sm - took)) / 4 := by unfold varyN; omega
            rw [ea, em, ev]
            have HS : Hid (smoothN sm took = (7 * sm + took) / 8) := Lib.hid rfl
            rw [HS.out]
            clear ea em ev
            go_enter Try.func16, Try.ntmps16
            go_wp2
            go_ret
            exact ⟨rfl, (((H.out.set2 took)).set5 _).set4 _, only_set (only_set (only_set (only_refl w g) _ _) _ _) _ _⟩
      · rcases (show (waited ≤ took ∧ le ≤ took - waited) ∨ (waited ≤ took ∧ took - waited < le) ∨ took < waited by omega) with ⟨hC, hD⟩ | ⟨hC, hD⟩ | hC
        · rcases (show sm - (took - waited) < 0 ∨ 0 ≤ sm - (took - waited) by omega) with hE | hE
          · have ea : adj M le took waited true = (took - waited) := by
              unfold adj
              rw [show min le took = le by omega]
              rw [if_pos rfl, show min waited M = waited by omega]
              rw [if_pos (by omega)]
            have em : min le took = le := by omega
            have ev : varyN sm va (took - waited) = (3 * va + (-(sm - (took - waited)))) / 4 := by unfold varyN; omega
            rw [ea, em, ev]
            have HS : Hid (smoothN sm (took - waited) = (7 * sm + (took - waited)) / 8) := Lib.hid rfl
            rw [HS.out]
            clear ea em ev
            go_enter Try.func16, Try.ntmps16
            go_wp2
            go_ret
            exact ⟨rfl, (((H.out.set2 took)).set5 _).set4 _, only_set (only_set (only_set (only_refl w g) _ _) _ _) _ _⟩
          · have ea : adj M le took waited true = (took - waited) := by
              unfold adj
              rw [show min le took = le by omega]
              rw [if_pos rfl, show min waited M = waited by omega]
              rw [if_pos (by omega)]
            have em : min le took = le := by omega
            have ev : varyN sm va (took - waited) = (3 * va + (sm - (took - waited))) / 4 := by unfold varyN; omega
            rw [ea, em, ev]
            have HS : Hid (smoothN sm (took - waited) = (7 * sm + (took - waited)) / 8) := Lib.hid rfl
            rw [HS.out]
            clear ea em ev
            go_enter Try.func16, Try.ntmps16
            go_wp2
            go_ret
            exact ⟨rfl, (((H.out.set2 took)).set5 _).set4 _, only_set (only_set (only_set (only_refl w g) _ _) _ _) _ _⟩
        · rcases (show sm - took < 0 ∨ 0 ≤ sm - took by omega) with hE | hE
          · have ea : adj M le took waited true = took := by
              unfold adj
              rw [show min le took = le by omega]
              rw [if_pos rfl, show min waited M = waited by omega]
              rw [if_neg (by omega)]
            have em : min le took = le := by omega
            have ev : varyN sm va took = (3 * va + (-(sm - took))) / 4 := by unfold varyN; omega
            rw [ea, em, ev]
            have HS : Hid (smoothN sm took = (7 * sm + took) / 8) := Lib.hid rfl
            rw [HS.out]
            clear ea em ev
            go_enter Try.func16, Try.ntmps16
            go_wp2
            go_ret
            exact ⟨rfl, (((H.out.set2 took)).set5 _).set4 _, only_set (only_set (only_set (only_refl w g) _ _) _ _) _ _⟩
          · have ea : adj M le took waited true = took := by
              unfold adj
              rw [show min le took = le by omega]
              rw [if_pos rfl, show min waited M = waited by omega]
              rw [if_neg (by omega)]
            have em : min le took = le := by omega
            have ev : varyN sm va took = (3 * va + (sm - took)) / 4 := by unfold varyN; omega
            rw [ea, em, ev]
            have HS : Hid (smoothN sm took = (7 * sm + took) / 8) := Lib.hid rfl
            rw [HS.out]
            clear ea em ev
            go_enter Try.func16, Try.ntmps16
            go_wp2
            go_ret
            exact ⟨rfl, (((H.out.set2 took)).set5 _).set4 _, only_set (only_set (only_set (only_refl w g) _ _) _ _) _ _⟩
        · rcases (show sm - took < 0 ∨ 0 ≤ sm - took by omega) with hE | hE
          · have ea : adj M le took waited true = took := by
              unfold adj
              rw [show min le took = le by omega]
              rw [if_pos rfl, show min waited M = waited by omega]
              rw [if_neg (by omega)]
            have em : min le took = le := by omega
            have ev : varyN sm va took = (3 * va + (-(sm - took))) / 4 := by unfold varyN; omega
            rw [ea, em, ev]
            have HS : Hid (smoothN sm took = (7 * sm + took) / 8) := Lib.hid rfl
            rw [HS.out]
            clear ea em ev
            go_enter Try.func16, Try.ntmps16
            go_wp2
            go_ret
            exact ⟨rfl, (((H.out.set2 took)).set5 _).set4 _, only_set (only_set (only_set (only_refl w g) _ _) _ _) _ _⟩
          · have ea : adj M le took waited true = took := by
              unfold adj
              rw [show min le took = le by omega]
              rw [if_pos rfl, show min waited M = waited by omega]
              rw [if_neg (by omega)]
            have em : min le took = le := by omega
            have ev : varyN sm va took = (3 * va + (sm - took)) / 4 := by unfold varyN; omega
            rw [ea, em, ev]
            have HS : Hid (smoothN sm took = (7 * sm + took) / 8) := Lib.hid rfl
            rw [HS.out]
            clear ea em ev
            go_enter Try.func16, Try.ntmps16
            go_wp2
            go_ret
            exact ⟨rfl, (((H.out.set2 took)).set5 _).set4 _, only_set (only_set (only_set (only_refl w g) _ _) _ _) _ _⟩

theorem rsample_any (g : Nat) (M : Int) (s : St) (took waited : Int) (kn : Bool) (w : World) (h : IsP w g M s) (ho : Rok M s) (hw : waited ≤ 9223372036854775807) :
    Calls Try.prog 16 #[.pointer (some ⟨g, 0, none⟩), .int .i64 took, .int .i64 waited, .bool kn] w fun e w' => e = .returned (.int .i64 (sampE took waited)) ∧ IsP w' g M (nextSt M s took waited kn) ∧ Only w w' g := by
  obtain ⟨hs, la, le, sm, va⟩ := s
  obtain ⟨hM, h1, h2, h3, h4⟩ := ho
  by_cases hc : tm took ∧ 0 ≤ waited
  · rw [show sampE took waited = 0 from if_pos hc]
    unfold nextSt
    rw [if_pos hc]
    cases hs
    · exact rsample_first g M la le sm va took waited kn w h hc.1 hc.2
    · exact rsample_next g M la le sm va took waited kn w h hc.1 hc.2 hw hM h2 h3 h4
  · rw [show sampE took waited = 2 from if_neg hc]
    unfold nextSt
    rw [if_neg hc]
    exact rsample_bad g M hs la le sm va took waited kn w h hc
end Go.Proofs.Ytmlhebbklccegaa

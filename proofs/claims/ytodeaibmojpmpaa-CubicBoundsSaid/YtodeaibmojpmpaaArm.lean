/- Acked, the program's: a cubic that grows slowly. -/
import Derived.Test.YtodeaibmojpmpaaGrow
import Derived.Test.YtodeaibmojpmpaaGrowoff
namespace Go.Proofs.Ytodeaibmojpmpaa
open Go.RowKit
attribute [local go_sem] max2_is min2_is max_of_two min_of_two

set_option maxHeartbeats 4000000 in
theorem ack_on (g : Nat) (kd sz by_ sl rc pk ep st es : Int) (ak se no rt : Int) (w : World) (H : IsE 28 w g kd sz by_ sl rc pk ep st es) (hz0 : 1200 ≤ sz) (hz1 : sz ≤ 65535) (hb0 : 2400 ≤ by_) (hb1 : by_ ≤ 1073741824) (ha0 : 0 ≤ ak) (ha1 : ak ≤ 1048576) (ht : tm se ∧ tm no ∧ tm rt) (hs : se ≤ no) (hr : rc < se) (hl0 : 0 ≤ sl) (hl1 : sl ≤ by_) (hk : kd ≠ 0) (hp0 : 0 ≤ pk) (hp : pk ≤ 1073741824) (he0 : 0 ≤ ep) (he1 : ep ≤ 1125899906842624) (hs0 : 0 ≤ st) (hs1 : st ≤ pk) (hE0 : 0 ≤ es) (hE1 : es ≤ 1152921504606846976) :
    Calls Try.prog 12 #[.pointer (some ⟨g, 0, none⟩), .int .i64 ak, .int .i64 se, .int .i64 no, .int .i64 rt, .bool true] w fun e w' => e = .returned (.int .i64 0) ∧ IsE 28 w' g kd sz (min (max (byN by_ (tgN pk by_ (curveN pk st sz ep no rt)) ak) (esN es sz ak by_)) 1073741824) sl rc pk ep st (esN es sz ak by_) ∧ Only w w' g := by
  have d0 : decide (ak < 0) = false := decide_eq_false (by omega)
  have d1 : decide (1048576 < ak) = false := decide_eq_false (by omega)
  have d2 : decide (no < se) = false := decide_eq_false (by omega)
  have HT := Lib.hid ht
  clear ht
  have d3 : decide (se ≤ rc) = false := decide_eq_false (by omega)
  have d4 : decide (sl < 0) = false := decide_eq_false (by omega)
  have d5 : decide (by_ < sl) = false := decide_eq_false (by omega)
  have d6 : (kd == 0) = false := by simp [hk]
  obtain ⟨B, hB⟩ : ∃ B, max (byN by_ (tgN pk by_ (curveN pk st sz ep no rt)) ak) (esN es sz ak by_) = B := ⟨_, rfl⟩
  obtain ⟨E, hE⟩ : ∃ E, esN es sz ak by_ = E := ⟨_, rfl⟩
  rw [hB, hE]
  have HB := Lib.hid hB
  have HE := Lib.hid hE
  clear hB hE
  have H0 := Lib.hid H
  have HO0 := Lib.hid (only_refl w g)
  clear H
  go_enter Try.func12, Try.ntmps12
  go_wp2_with fail
  refine (none_no g kd sz by_ sl rc pk ep st es _ H0.out hz0).mono ?_
  rintro e w' ⟨rfl, rfl⟩
  go_wp2_with fail
  refine (times3 se no rt _).mono ?_
  rw [decide_eq_true HT.out]
  rintro e w' ⟨rfl, rfl⟩
  have H1 := Lib.hid (IsE.alloc H0.out (.cells #[.int .i64 se, .int .i64 no, .int .i64 rt] 3))
  have HO1 := Lib.hid (only_alloc (only_refl w g) (.cells #[.int .i64 se, .int .i64 no, .int .i64 rt] 3))
  clear H0 HO0
  generalize w.alloc (.cells #[.int .i64 se, .int .i64 no, .int .i64 rt] 3) = w1 at *
  obtain ⟨⟨c0, c1, c2, c3, c4, c5, c6, c7, c8⟩, f0, f1, f2, f3, f4, f5, f6, f7, f8⟩ := H1.out.all
  go_wp2_with fail
  go_quiet (fail)
  have H2 := Lib.hid (IsE.drewN H1.out nq)
  have HO2 := Lib.hid (only_drewN HO1.out nq)
  clear c0 c1 c2 c3 c4 c5 c6 c7 c8 f0 f1 f2 f3 f4 f5 f6 f7 f8
  generalize w1.drewN nq = w2 at *
  obtain ⟨⟨c0, c1, c2, c3, c4, c5, c6, c7, c8⟩, f0, f1, f2, f3, f4, f5, f6, f7, f8⟩ := H2.out.all
  go_wp2_with fail
  refine (grow_on g kd sz by_ sl rc pk ep st es ak no rt _ H2.out hz0 hz1 hb0 hb1 hp0 hp ha0 ha1 HT.out.2.1 HT.out.2.2 he0 he1 hs0 hs1 hE0 hE1).mono ?_
  rintro e w3 ⟨rfl, hI, hO⟩
  rw [HB.out, HE.out] at hI
  have H3 := Lib.hid hI
  have HO3 := Lib.hid (only_trans HO2.out hO)
  clear hI hO H1 H2 HO1 HO2 d0 d1 d2 d3 d4 d5 d6 c0 c1 c2 c3 c4 c5 c6 c7 c8 f0 f1 f2 f3 f4 f5 f6 f7 f8
  obtain ⟨⟨c0, c1, c2, c3, c4, c5, c6, c7, c8⟩, f0, f1, f2, f3, f4, f5, f6, f7, f8⟩ := H3.out.all
  go_wp2
  go_ret
  exact ⟨rfl, H3.out.set2 (min B 1073741824), only_set HO3.out 2 _⟩

set_option maxHeartbeats 4000000 in
theorem ack_first (g : Nat) (kd sz by_ sl rc pk ep st es : Int) (ak se no rt : Int) (w : World) (H : IsE 28 w g kd sz by_ sl rc pk ep st es) (hz0 : 1200 ≤ sz) (hz1 : sz ≤ 65535) (hb0 : 2400 ≤ by_) (hb1 : by_ ≤ 1073741824) (ha0 : 0 ≤ ak) (ha1 : ak ≤ 1048576) (ht : tm se ∧ tm no ∧ tm rt) (hs : se ≤ no) (hr : rc < se) (hl0 : 0 ≤ sl) (hl1 : sl ≤ by_) (hk : kd ≠ 0) (hp0 : 0 ≤ pk) (hp : pk ≤ 1073741824) (he : ep < 0) :
    Calls Try.prog 12 #[.pointer (some ⟨g, 0, none⟩), .int .i64 ak, .int .i64 se, .int .i64 no, .int .i64 rt, .bool true] w fun e w' => e = .returned (.int .i64 0) ∧ IsE 28 w' g kd sz (min (max (byN by_ (tgN (max pk by_) by_ (curveN (max pk by_) by_ sz no no rt)) ak) (esN by_ sz ak by_)) 1073741824) sl rc (max pk by_) no by_ (esN by_ sz ak by_) ∧ Only w w' g := by
  have d0 : decide (ak < 0) = false := decide_eq_false (by omega)
  have d1 : decide (1048576 < ak) = false := decide_eq_false (by omega)
  have d2 : decide (no < se) = false := decide_eq_false (by omega)
  have HT := Lib.hid ht
  clear ht
  have d3 : decide (se ≤ rc) = false := decide_eq_false (by omega)
  have d4 : decide (sl < 0) = false := decide_eq_false (by omega)
  have d5 : decide (by_ < sl) = false := decide_eq_false (by omega)
  have d6 : (kd == 0) = false := by simp [hk]
  obtain ⟨B, hB⟩ : ∃ B, max (byN by_ (tgN (max pk by_) by_ (curveN (max pk by_) by_ sz no no rt)) ak) (esN by_ sz ak by_) = B := ⟨_, rfl⟩
  obtain ⟨E, hE⟩ : ∃ E, esN by_ sz ak by_ = E := ⟨_, rfl⟩
  rw [hB, hE]
  have HB := Lib.hid hB
  have HE := Lib.hid hE
  clear hB hE
  obtain ⟨P, hP⟩ : ∃ P, max pk by_ = P := ⟨_, rfl⟩
  rw [hP]
  have HP := Lib.hid hP
  clear hP
  have H0 := Lib.hid H
  have HO0 := Lib.hid (only_refl w g)
  clear H
  go_enter Try.func12, Try.ntmps12
  go_wp2_with fail
  refine (none_no g kd sz by_ sl rc pk ep st es _ H0.out hz0).mono ?_
  rintro e w' ⟨rfl, rfl⟩
  go_wp2_with fail
  refine (times3 se no rt _).mono ?_
  rw [decide_eq_true HT.out]
  rintro e w' ⟨rfl, rfl⟩
  have H1 := Lib.hid (IsE.alloc H0.out (.cells #[.int .i64 se, .int .i64 no, .int .i64 rt] 3))
  have HO1 := Lib.hid (only_alloc (only_refl w g) (.cells #[.int .i64 se, .int .i64 no, .int .i64 rt] 3))
  clear H0 HO0
  generalize w.alloc (.cells #[.int .i64 se, .int .i64 no, .int .i64 rt] 3) = w1 at *
  obtain ⟨⟨c0, c1, c2, c3, c4, c5, c6, c7, c8⟩, f0, f1, f2, f3, f4, f5, f6, f7, f8⟩ := H1.out.all
  go_wp2_with fail
  go_quiet (fail)
  have H2 := Lib.hid (IsE.drewN H1.out nq)
  have HO2 := Lib.hid (only_drewN HO1.out nq)
  clear c0 c1 c2 c3 c4 c5 c6 c7 c8 f0 f1 f2 f3 f4 f5 f6 f7 f8
  generalize w1.drewN nq = w2 at *
  obtain ⟨⟨c0, c1, c2, c3, c4, c5, c6, c7, c8⟩, f0, f1, f2, f3, f4, f5, f6, f7, f8⟩ := H2.out.all
  go_wp2_with fail
  refine (grow_off g kd sz by_ sl rc pk ep st es ak no rt _ H2.out hz0 hz1 hb0 hb1 hp0 hp ha0 ha1 HT.out.2.1 HT.out.2.2 he).mono ?_
  rintro e w3 ⟨rfl, hI, hO⟩
  rw [HB.out, HE.out, HP.out] at hI
  have H3 := Lib.hid hI
  have HO3 := Lib.hid (only_trans HO2.out hO)
  clear hI hO H1 H2 HO1 HO2 d0 d1 d2 d3 d4 d5 d6 c0 c1 c2 c3 c4 c5 c6 c7 c8 f0 f1 f2 f3 f4 f5 f6 f7 f8
  obtain ⟨⟨c0, c1, c2, c3, c4, c5, c6, c7, c8⟩, f0, f1, f2, f3, f4, f5, f6, f7, f8⟩ := H3.out.all
  go_wp2
  go_ret
  exact ⟨rfl, H3.out.set2 (min B 1073741824), only_set HO3.out 2 _⟩
end Go.Proofs.Ytodeaibmojpmpaa

/- Acked, the program's, but for a cubic's growth. -/
import Derived.Test.YtodeaibmojpmpaaNew
namespace Go.Proofs.Ytodeaibmojpmpaa
open Go.RowKit
attribute [local go_sem] max2_is min2_is max_of_two min_of_two

set_option maxHeartbeats 4000000 in
theorem ack_a (g : Nat) (kd sz by_ sl rc pk ep st es : Int) (ak se no rt : Int) (fl : Bool) (w : World) (H : IsE 28 w g kd sz by_ sl rc pk ep st es) (hz0 : 1200 ≤ sz) (_hz1 : sz ≤ 65535) (_hb0 : 2400 ≤ by_) (_hb1 : by_ ≤ 1073741824) (ha : ak < 0) :
    Calls Try.prog 12 #[.pointer (some ⟨g, 0, none⟩), .int .i64 ak, .int .i64 se, .int .i64 no, .int .i64 rt, .bool fl] w fun e w' => e = .returned (.int .i64 2) ∧ IsE 28 w' g kd sz by_ sl rc pk ep st es ∧ Only w w' g := by
  have d0 : decide (ak < 0) = true := decide_eq_true ha
  have H0 := Lib.hid H
  have HO0 := Lib.hid (only_refl w g)
  clear H
  go_enter Try.func12, Try.ntmps12
  go_wp2_with fail
  refine (none_no g kd sz by_ sl rc pk ep st es _ H0.out hz0).mono ?_
  rintro e w' ⟨rfl, rfl⟩
  go_wp2
  go_ret
  exact ⟨rfl, H0.out, HO0.out⟩

set_option maxHeartbeats 4000000 in
theorem ack_b (g : Nat) (kd sz by_ sl rc pk ep st es : Int) (ak se no rt : Int) (fl : Bool) (w : World) (H : IsE 28 w g kd sz by_ sl rc pk ep st es) (hz0 : 1200 ≤ sz) (_hz1 : sz ≤ 65535) (_hb0 : 2400 ≤ by_) (_hb1 : by_ ≤ 1073741824) (_ha0 : 0 ≤ ak) (ha : 1048576 < ak) :
    Calls Try.prog 12 #[.pointer (some ⟨g, 0, none⟩), .int .i64 ak, .int .i64 se, .int .i64 no, .int .i64 rt, .bool fl] w fun e w' => e = .returned (.int .i64 2) ∧ IsE 28 w' g kd sz by_ sl rc pk ep st es ∧ Only w w' g := by
  have d0 : decide (ak < 0) = false := decide_eq_false (by omega)
  have d1 : decide (1048576 < ak) = true := decide_eq_true ha
  have H0 := Lib.hid H
  have HO0 := Lib.hid (only_refl w g)
  clear H
  go_enter Try.func12, Try.ntmps12
  go_wp2_with fail
  refine (none_no g kd sz by_ sl rc pk ep st es _ H0.out hz0).mono ?_
  rintro e w' ⟨rfl, rfl⟩
  go_wp2
  go_ret
  exact ⟨rfl, H0.out, HO0.out⟩

set_option maxHeartbeats 4000000 in
theorem ack_t (g : Nat) (kd sz by_ sl rc pk ep st es : Int) (ak se no rt : Int) (fl : Bool) (w : World) (H : IsE 28 w g kd sz by_ sl rc pk ep st es) (hz0 : 1200 ≤ sz) (_hz1 : sz ≤ 65535) (_hb0 : 2400 ≤ by_) (_hb1 : by_ ≤ 1073741824) (ha0 : 0 ≤ ak) (ha1 : ak ≤ 1048576) (ht : ¬ (tm se ∧ tm no ∧ tm rt)) :
    Calls Try.prog 12 #[.pointer (some ⟨g, 0, none⟩), .int .i64 ak, .int .i64 se, .int .i64 no, .int .i64 rt, .bool fl] w fun e w' => e = .returned (.int .i64 2) ∧ IsE 28 w' g kd sz by_ sl rc pk ep st es ∧ Only w w' g := by
  have d0 : decide (ak < 0) = false := decide_eq_false (by omega)
  have d1 : decide (1048576 < ak) = false := decide_eq_false (by omega)
  have HT := Lib.hid ht
  clear ht
  have H0 := Lib.hid H
  have HO0 := Lib.hid (only_refl w g)
  clear H
  go_enter Try.func12, Try.ntmps12
  go_wp2_with fail
  refine (none_no g kd sz by_ sl rc pk ep st es _ H0.out hz0).mono ?_
  rintro e w' ⟨rfl, rfl⟩
  go_wp2_with fail
  refine (times3 se no rt _).mono ?_
  rw [decide_eq_false HT.out]
  rintro e w' ⟨rfl, rfl⟩
  have H1 := Lib.hid (IsE.alloc H0.out (.cells #[.int .i64 se, .int .i64 no, .int .i64 rt] 3))
  have HO1 := Lib.hid (only_alloc (only_refl w g) (.cells #[.int .i64 se, .int .i64 no, .int .i64 rt] 3))
  clear H0 HO0
  generalize w.alloc (.cells #[.int .i64 se, .int .i64 no, .int .i64 rt] 3) = w1 at *
  go_wp2
  go_ret
  exact ⟨rfl, H1.out, HO1.out⟩

set_option maxHeartbeats 4000000 in
theorem ack_s (g : Nat) (kd sz by_ sl rc pk ep st es : Int) (ak se no rt : Int) (fl : Bool) (w : World) (H : IsE 28 w g kd sz by_ sl rc pk ep st es) (hz0 : 1200 ≤ sz) (_hz1 : sz ≤ 65535) (_hb0 : 2400 ≤ by_) (_hb1 : by_ ≤ 1073741824) (ha0 : 0 ≤ ak) (ha1 : ak ≤ 1048576) (ht : tm se ∧ tm no ∧ tm rt) (hs : no < se) :
    Calls Try.prog 12 #[.pointer (some ⟨g, 0, none⟩), .int .i64 ak, .int .i64 se, .int .i64 no, .int .i64 rt, .bool fl] w fun e w' => e = .returned (.int .i64 2) ∧ IsE 28 w' g kd sz by_ sl rc pk ep st es ∧ Only w w' g := by
  have d0 : decide (ak < 0) = false := decide_eq_false (by omega)
  have d1 : decide (1048576 < ak) = false := decide_eq_false (by omega)
  have d2 : decide (no < se) = true := decide_eq_true hs
  have HT := Lib.hid ht
  clear ht
  have H0 := Lib.hid H
  have HO0 := Lib.hid (only_refl w g)
  clear H
  go_enter Try.func12, Try.ntmps12
  go_wp2_with fail
  refine (none_no g kd sz by_ sl rc pk ep st es _ H0.out hz0).mono ?_
  rintro e w' ⟨rfl, rfl⟩
  go_wp2_with fail
  refine (times3 se no rt _).mono ?_
  rw [decide_eq_true HT.out]
  rintro e w' ⟨rfl, rfl⟩
  have H1 := Lib.hid (IsE.alloc H0.out (.cells #[.int .i64 se, .int .i64 no, .int .i64 rt] 3))
  have HO1 := Lib.hid (only_alloc (only_refl w g) (.cells #[.int .i64 se, .int .i64 no, .int .i64 rt] 3))
  clear H0 HO0
  generalize w.alloc (.cells #[.int .i64 se, .int .i64 no, .int .i64 rt] 3) = w1 at *
  go_wp2
  go_ret
  exact ⟨rfl, H1.out, HO1.out⟩

set_option maxHeartbeats 4000000 in
theorem ack_off (g : Nat) (kd sz by_ sl rc pk ep st es : Int) (ak se no rt : Int) (w : World) (H : IsE 28 w g kd sz by_ sl rc pk ep st es) (hz0 : 1200 ≤ sz) (_hz1 : sz ≤ 65535) (_hb0 : 2400 ≤ by_) (_hb1 : by_ ≤ 1073741824) (ha0 : 0 ≤ ak) (ha1 : ak ≤ 1048576) (ht : tm se ∧ tm no ∧ tm rt) (hs : se ≤ no) :
    Calls Try.prog 12 #[.pointer (some ⟨g, 0, none⟩), .int .i64 ak, .int .i64 se, .int .i64 no, .int .i64 rt, .bool false] w fun e w' => e = .returned (.int .i64 0) ∧ IsE 28 w' g kd sz by_ sl rc pk ep st es ∧ Only w w' g := by
  have d0 : decide (ak < 0) = false := decide_eq_false (by omega)
  have d1 : decide (1048576 < ak) = false := decide_eq_false (by omega)
  have d2 : decide (no < se) = false := decide_eq_false (by omega)
  have HT := Lib.hid ht
  clear ht
  have H0 := Lib.hid H
  have HO0 := Lib.hid (only_refl w g)
  clear H
  go_enter Try.func12, Try.ntmps12
  go_wp2_with fail
  refine (none_no g kd sz by_ sl rc pk ep st es _ H0.out hz0).mono ?_
  rintro e w' ⟨rfl, rfl⟩
  go_wp2_with fail
  refine (times3 se no rt _).mono ?_
  rw [decide_eq_true HT.out]
  rintro e w' ⟨rfl, rfl⟩
  have H1 := Lib.hid (IsE.alloc H0.out (.cells #[.int .i64 se, .int .i64 no, .int .i64 rt] 3))
  have HO1 := Lib.hid (only_alloc (only_refl w g) (.cells #[.int .i64 se, .int .i64 no, .int .i64 rt] 3))
  clear H0 HO0
  generalize w.alloc (.cells #[.int .i64 se, .int .i64 no, .int .i64 rt] 3) = w1 at *
  obtain ⟨⟨c0, c1, c2, c3, c4, c5, c6, c7, c8⟩, f0, f1, f2, f3, f4, f5, f6, f7, f8⟩ := H1.out.all
  go_wp2
  go_ret
  exact ⟨rfl, H1.out, HO1.out⟩

set_option maxHeartbeats 4000000 in
theorem ack_old (g : Nat) (kd sz by_ sl rc pk ep st es : Int) (ak se no rt : Int) (w : World) (H : IsE 28 w g kd sz by_ sl rc pk ep st es) (hz0 : 1200 ≤ sz) (_hz1 : sz ≤ 65535) (_hb0 : 2400 ≤ by_) (_hb1 : by_ ≤ 1073741824) (ha0 : 0 ≤ ak) (ha1 : ak ≤ 1048576) (ht : tm se ∧ tm no ∧ tm rt) (hs : se ≤ no) (hr : se ≤ rc) :
    Calls Try.prog 12 #[.pointer (some ⟨g, 0, none⟩), .int .i64 ak, .int .i64 se, .int .i64 no, .int .i64 rt, .bool true] w fun e w' => e = .returned (.int .i64 0) ∧ IsE 28 w' g kd sz by_ sl rc pk ep st es ∧ Only w w' g := by
  have d0 : decide (ak < 0) = false := decide_eq_false (by omega)
  have d1 : decide (1048576 < ak) = false := decide_eq_false (by omega)
  have d2 : decide (no < se) = false := decide_eq_false (by omega)
  have HT := Lib.hid ht
  clear ht
  have d3 : decide (se ≤ rc) = true := decide_eq_true hr
  have H0 := Lib.hid H
  have HO0 := Lib.hid (only_refl w g)
  clear H
  go_enter Try.func12, Try.ntmps12
  go_wp2_with fail
  refine (none_no g kd sz by_ sl rc pk ep st es _ H0.out hz0).mono ?_
  rintro e w' ⟨rfl, rfl⟩
  go_wp2_with fail
  refine (times3 se no rt _).mono ?_
  rw [decide_eq_true HT.out]
  rintro e w' ⟨rfl, rfl⟩
  have H1 := Lib.hid (IsE.alloc H0.out (.cells #[.int .i64 se, .int .i64 no, .int .i64 rt] 3))
  have HO1 := Lib.hid (only_alloc (only_refl w g) (.cells #[.int .i64 se, .int .i64 no, .int .i64 rt] 3))
  clear H0 HO0
  generalize w.alloc (.cells #[.int .i64 se, .int .i64 no, .int .i64 rt] 3) = w1 at *
  obtain ⟨⟨c0, c1, c2, c3, c4, c5, c6, c7, c8⟩, f0, f1, f2, f3, f4, f5, f6, f7, f8⟩ := H1.out.all
  go_wp2
  go_ret
  exact ⟨rfl, H1.out, HO1.out⟩

set_option maxHeartbeats 4000000 in
theorem ack_slow (g : Nat) (kd sz by_ sl rc pk ep st es : Int) (ak se no rt : Int) (w : World) (H : IsE 28 w g kd sz by_ sl rc pk ep st es) (hz0 : 1200 ≤ sz) (_hz1 : sz ≤ 65535) (hb0 : 2400 ≤ by_) (hb1 : by_ ≤ 1073741824) (ha0 : 0 ≤ ak) (ha1 : ak ≤ 1048576) (ht : tm se ∧ tm no ∧ tm rt) (hs : se ≤ no) (hr : rc < se) (hl : sl < 0 ∨ by_ < sl) :
    Calls Try.prog 12 #[.pointer (some ⟨g, 0, none⟩), .int .i64 ak, .int .i64 se, .int .i64 no, .int .i64 rt, .bool true] w fun e w' => e = .returned (.int .i64 0) ∧ IsE 28 w' g kd sz (min (by_ + ak) 1073741824) sl rc pk ep st es ∧ Only w w' g := by
  have d0 : decide (ak < 0) = false := decide_eq_false (by omega)
  have d1 : decide (1048576 < ak) = false := decide_eq_false (by omega)
  have d2 : decide (no < se) = false := decide_eq_false (by omega)
  have HT := Lib.hid ht
  clear ht
  have d3 : decide (se ≤ rc) = false := decide_eq_false (by omega)
  rcases (show sl < 0 ∨ 0 ≤ sl ∧ by_ < sl by omega) with hx | ⟨hx, hy⟩
  · have d4 : decide (sl < 0) = true := decide_eq_true hx
    have H0 := Lib.hid H
    have HO0 := Lib.hid (only_refl w g)
    clear H
    go_enter Try.func12, Try.ntmps12
    go_wp2_with fail
    refine (none_no g kd sz by_ sl rc pk ep st es _ H0.out hz0).mono ?_
    rintro e w' ⟨rfl, rfl⟩
    go_wp2_with fail
    refine (times3 se no rt _).mono ?_
    rw [decide_eq_true HT.out]
    rintro e w' ⟨rfl, rfl⟩
    have H1 := Lib.hid (IsE.alloc H0.out (.cells #[.int .i64 se, .int .i64 no, .int .i64 rt] 3))
    have HO1 := Lib.hid (only_alloc (only_refl w g) (.cells #[.int .i64 se, .int .i64 no, .int .i64 rt] 3))
    clear H0 HO0
    generalize w.alloc (.cells #[.int .i64 se, .int .i64 no, .int .i64 rt] 3) = w1 at *
    obtain ⟨⟨c0, c1, c2, c3, c4, c5, c6, c7, c8⟩, f0, f1, f2, f3, f4, f5, f6, f7, f8⟩ := H1.out.all
    go_wp2_with fail
    go_quiet (fail)
    have H2 := Lib.hid (IsE.drewN H1.out nq)
    have HO2 := Lib.hid (only_drewN HO1.out nq)
    clear c0 c1 c2 c3 c4 c5 c6 c7 c8 f0 f1 f2 f3 f4 f5 f6 f7 f8
    generalize w1.drewN nq = w2 at *
    obtain ⟨⟨c0, c1, c2, c3, c4, c5, c6, c7, c8⟩, f0, f1, f2, f3, f4, f5, f6, f7, f8⟩ := H2.out.all
    go_wp2
    go_ret
    exact ⟨rfl, (H2.out.set2 (by_ + ak)).set2 (min (by_ + ak) 1073741824), only_set (only_set HO2.out 2 _) 2 _⟩
  · have d4 : decide (sl < 0) = false := decide_eq_false (by omega)
    have d5 : decide (by_ < sl) = true := decide_eq_true hy
    have H0 := Lib.hid H
    have HO0 := Lib.hid (only_refl w g)
    clear H
    go_enter Try.func12, Try.ntmps12
    go_wp2_with fail
    refine (none_no g kd sz by_ sl rc pk ep st es _ H0.out hz0).mono ?_
    rintro e w' ⟨rfl, rfl⟩
    go_wp2_with fail
    refine (times3 se no rt _).mono ?_
    rw [decide_eq_true HT.out]
    rintro e w' ⟨rfl, rfl⟩
    have H1 := Lib.hid (IsE.alloc H0.out (.cells #[.int .i64 se, .int .i64 no, .int .i64 rt] 3))
    have HO1 := Lib.hid (only_alloc (only_refl w g) (.cells #[.int .i64 se, .int .i64 no, .int .i64 rt] 3))
    clear H0 HO0
    generalize w.alloc (.cells #[.int .i64 se, .int .i64 no, .int .i64 rt] 3) = w1 at *
    obtain ⟨⟨c0, c1, c2, c3, c4, c5, c6, c7, c8⟩, f0, f1, f2, f3, f4, f5, f6, f7, f8⟩ := H1.out.all
    go_wp2_with fail
    go_quiet (fail)
    have H2 := Lib.hid (IsE.drewN H1.out nq)
    have HO2 := Lib.hid (only_drewN HO1.out nq)
    clear c0 c1 c2 c3 c4 c5 c6 c7 c8 f0 f1 f2 f3 f4 f5 f6 f7 f8
    generalize w1.drewN nq = w2 at *
    obtain ⟨⟨c0, c1, c2, c3, c4, c5, c6, c7, c8⟩, f0, f1, f2, f3, f4, f5, f6, f7, f8⟩ := H2.out.all
    go_wp2
    go_ret
    exact ⟨rfl, (H2.out.set2 (by_ + ak)).set2 (min (by_ + ak) 1073741824), only_set (only_set HO2.out 2 _) 2 _⟩

set_option maxHeartbeats 4000000 in
theorem ack_reno (g : Nat) (kd sz by_ sl rc pk ep st es : Int) (ak se no rt : Int) (w : World) (H : IsE 28 w g kd sz by_ sl rc pk ep st es) (hz0 : 1200 ≤ sz) (hz1 : sz ≤ 65535) (hb0 : 2400 ≤ by_) (hb1 : by_ ≤ 1073741824) (ha0 : 0 ≤ ak) (ha1 : ak ≤ 1048576) (ht : tm se ∧ tm no ∧ tm rt) (hs : se ≤ no) (hr : rc < se) (hl0 : 0 ≤ sl) (hl1 : sl ≤ by_) (hk : kd = 0) :
    Calls Try.prog 12 #[.pointer (some ⟨g, 0, none⟩), .int .i64 ak, .int .i64 se, .int .i64 no, .int .i64 rt, .bool true] w fun e w' => e = .returned (.int .i64 0) ∧ IsE 28 w' g kd sz (min (by_ + sz * ak / by_) 1073741824) sl rc pk ep st es ∧ Only w w' g := by
  have d0 : decide (ak < 0) = false := decide_eq_false (by omega)
  have d1 : decide (1048576 < ak) = false := decide_eq_false (by omega)
  have d2 : decide (no < se) = false := decide_eq_false (by omega)
  have HT := Lib.hid ht
  clear ht
  have d3 : decide (se ≤ rc) = false := decide_eq_false (by omega)
  have d4 : decide (sl < 0) = false := decide_eq_false (by omega)
  have d5 : decide (by_ < sl) = false := decide_eq_false (by omega)
  subst hk
  have hp0 : 0 ≤ sz * ak := Int.mul_nonneg (by omega) ha0
  have hp1 : sz * ak ≤ 68718428160 := by
    have h1 := Int.mul_le_mul hz1 ha1 ha0 (show (0 : Int) ≤ 65535 by decide)
    omega
  have hq0 : 0 ≤ sz * ak / by_ := Int.ediv_nonneg hp0 (by omega)
  have hq1 : sz * ak / by_ ≤ sz * ak := Int.ediv_le_self _ hp0
  have s1 : IntKind.i64.wrap (sz * ak) = sz * ak := wr_in (by omega) (by omega)
  have s2 : IntKind.i64.wrap ((sz * ak).tdiv by_) = sz * ak / by_ := wr_div hp0 (by omega) (by omega)
  have s3 : IntKind.i64.wrap (by_ + sz * ak / by_) = by_ + sz * ak / by_ := wr_in (by omega) (by omega)
  have dz : ¬ by_ = 0 := by omega
  have H0 := Lib.hid H
  have HO0 := Lib.hid (only_refl w g)
  clear H
  go_enter Try.func12, Try.ntmps12
  go_wp2_with fail
  refine (none_no g 0 sz by_ sl rc pk ep st es _ H0.out hz0).mono ?_
  rintro e w' ⟨rfl, rfl⟩
  go_wp2_with fail
  refine (times3 se no rt _).mono ?_
  rw [decide_eq_true HT.out]
  rintro e w' ⟨rfl, rfl⟩
  have H1 := Lib.hid (IsE.alloc H0.out (.cells #[.int .i64 se, .int .i64 no, .int .i64 rt] 3))
  have HO1 := Lib.hid (only_alloc (only_refl w g) (.cells #[.int .i64 se, .int .i64 no, .int .i64 rt] 3))
  clear H0 HO0
  generalize w.alloc (.cells #[.int .i64 se, .int .i64 no, .int .i64 rt] 3) = w1 at *
  obtain ⟨⟨c0, c1, c2, c3, c4, c5, c6, c7, c8⟩, f0, f1, f2, f3, f4, f5, f6, f7, f8⟩ := H1.out.all
  go_wp2_with fail
  go_quiet (fail)
  have H2 := Lib.hid (IsE.drewN H1.out nq)
  have HO2 := Lib.hid (only_drewN HO1.out nq)
  clear c0 c1 c2 c3 c4 c5 c6 c7 c8 f0 f1 f2 f3 f4 f5 f6 f7 f8
  generalize w1.drewN nq = w2 at *
  obtain ⟨⟨c0, c1, c2, c3, c4, c5, c6, c7, c8⟩, f0, f1, f2, f3, f4, f5, f6, f7, f8⟩ := H2.out.all
  go_wp2_with fail
  go_still_tail 17, (by kernel_rfl)
  change wpList _ _ _ _ _ w2.drew
  have H3 := Lib.hid (IsE.drew H2.out)
  have HO3 := Lib.hid (only_drew HO2.out)
  clear c0 c1 c2 c3 c4 c5 c6 c7 c8 f0 f1 f2 f3 f4 f5 f6 f7 f8
  generalize w2.drew = w3 at *
  obtain ⟨⟨c0, c1, c2, c3, c4, c5, c6, c7, c8⟩, f0, f1, f2, f3, f4, f5, f6, f7, f8⟩ := H3.out.all
  go_wp2
  go_ret
  exact ⟨rfl, (H3.out.set2 (by_ + sz * ak / by_)).set2 (min (by_ + sz * ak / by_) 1073741824), only_set (only_set HO3.out 2 _) 2 _⟩
end Go.Proofs.Ytodeaibmojpmpaa

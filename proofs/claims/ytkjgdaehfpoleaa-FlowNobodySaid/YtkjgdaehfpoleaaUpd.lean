/- Get's Update, the program's and the reference's. -/
import Derived.Test.YtkjgdaehfpoleaaGet
namespace Go.Proofs.Ytkjgdaehfpoleaa
open Go.RowKit

set_option maxHeartbeats 800000 in
theorem upd_any (g : Nat) (W L C U : Int) (w : World) (h : IsT w g true W L C U) (h0 : 0 ≤ W) :
    Calls Try.prog 24 #[.pointer (some ⟨g, 0, none⟩)] w fun e w' => e = .returned (.tuple #[.int .i64 (updX W L U), .bool (updB W L U)]) ∧ IsT w' g true W (updL W L U) C U ∧ Only w w' g := by
  have H := Lib.hid (h.alloc (.cells #[.pointer (some ⟨g, 0, none⟩)] 44))
  have hlt := h.lt
  have ck : (w.alloc (.cells #[.pointer (some ⟨g, 0, none⟩)] 44)).cell? ⟨w.heap.size, 0, none⟩ = some (.pointer (some ⟨g, 0, none⟩)) := by simp
  clear h
  by_cases hb : updB W L U = true
  · rw [show updX W L U = wrap64 (U + W) from if_pos hb, show updL W L U = wrap64 (U + W) from if_pos hb, hb]
    have HB := Lib.hid hb
    clear hb
    go_enter Try.func24, Try.ntmps24
    go_wp2_with fail
    refine (tnone_no g W L C U _ H.out).mono ?_
    rintro e w' ⟨rfl, rfl⟩
    go_wp2_with fail
    obtain ⟨⟨c0, c1, c2, c3, c4⟩, f0, f1, f2, f3, f4⟩ := H.out.all
    go_region
    go_wp2_with fail
    clear c0 c1 c2 c3 c4 f0 f1 f2 f3 f4
    have H2 := Lib.hid (IsT.drew (H.out.alloc (.cells #[.int .i64 (wrap64 (U + W))] 3)))
    have ck2 : (((w.alloc (.cells #[.pointer (some ⟨g, 0, none⟩)] 44)).alloc (.cells #[.int .i64 (wrap64 (U + W))] 3)).drew).cell? ⟨w.heap.size, 0, none⟩ = some (.pointer (some ⟨g, 0, none⟩)) := Bk.cell (((Bk.new w 44 #[.pointer (some ⟨g, 0, none⟩)]).alloc _).drew) 0
    have cx2 : (((w.alloc (.cells #[.pointer (some ⟨g, 0, none⟩)] 44)).alloc (.cells #[.int .i64 (wrap64 (U + W))] 3)).drew).cell? ⟨w.heap.size + 1, 0, none⟩ = some (.int .i64 (wrap64 (U + W))) := by simp
    have HO := Lib.hid (only_drew (only_alloc (only_alloc (only_refl w g) (.cells #[.pointer (some ⟨g, 0, none⟩)] 44)) (.cells #[.int .i64 (wrap64 (U + W))] 3)))
    clear ck H
    generalize ((w.alloc (.cells #[.pointer (some ⟨g, 0, none⟩)] 44)).alloc (.cells #[.int .i64 (wrap64 (U + W))] 3)).drew = w2 at *
    have hk : w.heap.size ≠ g := by omega
    have hk2 : w.heap.size + 1 ≠ g := by omega
    refine (worth_any g _ _ W L C U w2 H2.out h0 ck2 cx2).mono ?_
    rw [HB.out]
    rintro e w' ⟨rfl, n, rfl⟩
    obtain ⟨⟨c0, c1, c2, c3, c4⟩, f0, f1, f2, f3, f4⟩ := H2.out.all
    go_wp2
    go_ret2
    exact ⟨rfl, IsT.drewN (H2.out.set2 _) n, only_drewN (only_set HO.out _ _) n⟩
  · rw [show updX W L U = 0 from if_neg hb, show updL W L U = L from if_neg hb, Bool.eq_false_iff.2 hb]
    replace hb := Bool.eq_false_iff.2 hb
    have HB := Lib.hid hb
    clear hb
    go_enter Try.func24, Try.ntmps24
    go_wp2_with fail
    refine (tnone_no g W L C U _ H.out).mono ?_
    rintro e w' ⟨rfl, rfl⟩
    go_wp2_with fail
    obtain ⟨⟨c0, c1, c2, c3, c4⟩, f0, f1, f2, f3, f4⟩ := H.out.all
    go_region
    go_wp2_with fail
    clear c0 c1 c2 c3 c4 f0 f1 f2 f3 f4
    have H2 := Lib.hid (IsT.drew (H.out.alloc (.cells #[.int .i64 (wrap64 (U + W))] 3)))
    have ck2 : (((w.alloc (.cells #[.pointer (some ⟨g, 0, none⟩)] 44)).alloc (.cells #[.int .i64 (wrap64 (U + W))] 3)).drew).cell? ⟨w.heap.size, 0, none⟩ = some (.pointer (some ⟨g, 0, none⟩)) := Bk.cell (((Bk.new w 44 #[.pointer (some ⟨g, 0, none⟩)]).alloc _).drew) 0
    have cx2 : (((w.alloc (.cells #[.pointer (some ⟨g, 0, none⟩)] 44)).alloc (.cells #[.int .i64 (wrap64 (U + W))] 3)).drew).cell? ⟨w.heap.size + 1, 0, none⟩ = some (.int .i64 (wrap64 (U + W))) := by simp
    have HO := Lib.hid (only_drew (only_alloc (only_alloc (only_refl w g) (.cells #[.pointer (some ⟨g, 0, none⟩)] 44)) (.cells #[.int .i64 (wrap64 (U + W))] 3)))
    clear ck H
    generalize ((w.alloc (.cells #[.pointer (some ⟨g, 0, none⟩)] 44)).alloc (.cells #[.int .i64 (wrap64 (U + W))] 3)).drew = w2 at *
    have hk : w.heap.size ≠ g := by omega
    have hk2 : w.heap.size + 1 ≠ g := by omega
    refine (worth_any g _ _ W L C U w2 H2.out h0 ck2 cx2).mono ?_
    rw [HB.out]
    rintro e w' ⟨rfl, n, rfl⟩
    go_wp2
    go_ret2
    exact ⟨rfl, H2.out.drewN n, only_drewN HO.out n⟩

set_option maxHeartbeats 400000 in
theorem rupd_any (g : Nat) (W L C U : Int) (w : World) (h : IsRT w g W L C U) (ho : Tok W L C U) :
    Calls Try.prog 25 #[.pointer (some ⟨g, 0, none⟩)] w fun e w' => e = .returned (.tuple #[.int .i64 (updX W L U), .bool (updB W L U)]) ∧ IsRT w' g W (updL W L U) C U ∧ Only w w' g := by
  have H := Lib.hid h
  obtain ⟨⟨c0, c1, c2, c3⟩, f0, f1, f2, f3⟩ := h.all
  obtain ⟨h1, h2⟩ := ho.1
  clear h
  by_cases hw : 0 < W
  · have hu := upd_ref ho hw
    have hw2 : (W == 0) = false := by simp; omega
    by_cases hb : wrap64 (wrap64 (U + W) - L) < (W + 1) / 2
    · have hb2 : updB W L U = false := by rw [hu]; simpa using hb
      rw [show updX W L U = 0 by simp [updX, hb2], show updL W L U = L by simp [updL, hb2], hb2]
      have hd : decide (IntKind.i64.wrap (wrap64 (U + W) - L) < (W + 1) / 2) = true := by rw [wrap_is]; simpa using hb
      clear hb2 hu ho
      go_enter Try.func25, Try.ntmps25
      go_wp2_with fail
      go_quiet (fail)
      go_wp2_with fail
      go_quiet (fail)
      go_wp2
      go_ret2
      exact ⟨rfl, by first | exact H.out.drewN _ | exact (H.out.drewN _).drewN _, by first | exact only_drewN (only_refl w g) _ | exact only_drewN (only_drewN (only_refl w g) _) _⟩
    · have hb2 : updB W L U = true := by rw [hu]; simpa using hb
      rw [show updX W L U = wrap64 (U + W) by simp [updX, hb2], show updL W L U = wrap64 (U + W) by simp [updL, hb2], hb2]
      have hd : decide (IntKind.i64.wrap (wrap64 (U + W) - L) < (W + 1) / 2) = false := by rw [wrap_is]; simpa using hb
      have hb3 : (W + 1) / 2 ≤ wrap64 (wrap64 (U + W) - L) := by omega
      clear hb hb2 hu ho
      go_enter Try.func25, Try.ntmps25
      go_wp2_with fail
      go_quiet (fail)
      go_wp2_with fail
      go_quiet (fail)
      go_wp2
      go_ret2
      exact ⟨rfl, by first | exact (H.out.set1 _).drewN _ | exact ((H.out.set1 _).drewN _).drewN _, by first | exact only_drewN (only_set (only_refl w g) _ _) _ | exact only_drewN (only_drewN (only_set (only_refl w g) _ _) _) _⟩
  · have hb2 : updB W L U = false := if_neg hw
    rw [show updX W L U = 0 by simp [updX, hb2], show updL W L U = L by simp [updL, hb2], hb2]
    have hw2 : (W == 0) = true := by simp; omega
    clear hb2 hw ho
    go_enter Try.func25, Try.ntmps25
    go_wp2_with fail
    go_quiet (fail)
    go_wp2_with fail
    go_quiet (fail)
    go_wp2
    go_ret2
    exact ⟨rfl, by first | exact H.out.drewN _ | exact (H.out.drewN _).drewN _, by first | exact only_drewN (only_refl w g) _ | exact only_drewN (only_drewN (only_refl w g) _) _⟩
end Go.Proofs.Ytkjgdaehfpoleaa

import Derived.Test.YtbhjdapkhcgmlaaMrA
import Derived.Handy
import Derived.Deep.Cut

set_option linter.unusedSimpArgs false
set_option linter.unusedVariables false
set_option linter.unnecessarySimpa false

namespace Go.Proofs.Ytbhjdapkhcgmlaa
open Go.RowKit

attribute [local go_sem] run_store_complex

/-! The reference: what a kind has; puts that can be; the same puts. -/

theorem row6 {w : World} {b : Nat} {T : TypeId} {v0 v1 v2 v3 v4 v5 : Value} (h : w.heap[b]? = some (.cells #[v0, v1, v2, v3, v4, v5] T (0, 0))) :
    w.cell? ⟨b, 0, none⟩ = some v0 ∧ w.cell? ⟨b, 1, none⟩ = some v1 ∧ w.cell? ⟨b, 2, none⟩ = some v2 ∧ w.cell? ⟨b, 3, none⟩ = some v3 ∧ w.cell? ⟨b, 4, none⟩ = some v4 ∧ w.cell? ⟨b, 5, none⟩ = some v5 ∧ ∀ j, w.frozen? ⟨b, j, none⟩ = false :=
  ⟨(cell_of_row w b 0 _ _ _ h).trans rfl, (cell_of_row w b 1 _ _ _ h).trans rfl, (cell_of_row w b 2 _ _ _ h).trans rfl, (cell_of_row w b 3 _ _ _ h).trans rfl, (cell_of_row w b 4 _ _ _ h).trans rfl, (cell_of_row w b 5 _ _ _ h).trans rfl, row_thawed h⟩

theorem upto6 (w : World) (b : Nat) (v0 v1 v2 v3 v4 v5 : Value) : Upto (fun j => j = b) w ((((((w.setCell ⟨b, 0, none⟩ v0).setCell ⟨b, 1, none⟩ v1).setCell ⟨b, 2, none⟩ v2).setCell ⟨b, 3, none⟩ v3).setCell ⟨b, 4, none⟩ v4).setCell ⟨b, 5, none⟩ v5) :=
  ((((((Upto.refl (fun j => j = b) w).setCell (p := ⟨b, 0, none⟩) rfl v0).setCell (p := ⟨b, 1, none⟩) rfl v1).setCell (p := ⟨b, 2, none⟩) rfl v2).setCell (p := ⟨b, 3, none⟩) rfl v3).setCell (p := ⟨b, 4, none⟩) rfl v4).setCell (p := ⟨b, 5, none⟩) rfl v5

theorem sets6_row {w : World} {b : Nat} {T : TypeId} {z0 z1 z2 z3 z4 z5 : Value} (h : w.heap[b]? = some (.cells #[z0, z1, z2, z3, z4, z5] T (0, 0))) (v0 v1 v2 v3 v4 v5 : Value) :
    ((((((w.setCell ⟨b, 0, none⟩ v0).setCell ⟨b, 1, none⟩ v1).setCell ⟨b, 2, none⟩ v2).setCell ⟨b, 3, none⟩ v3).setCell ⟨b, 4, none⟩ v4).setCell ⟨b, 5, none⟩ v5).heap[b]? = some (.cells #[v0, v1, v2, v3, v4, v5] T (0, 0)) := by
  have := row_set (row_set (row_set (row_set (row_set (row_set h 0 v0) 1 v1) 2 v2) 3 v3) 4 v4) 5 v5
  simpa using this

theorem has0_c (w : World) : Calls Try.prog 67 #[.int .i64 0] w fun e w' => e = .returned (.agg #[.bool true, .bool false, .bool false, .bool false, .bool false, .bool false]) ∧ Below w.heap.size w w' := by
  have hz := heap_alloc_new w (.cells #[.bool false, .bool false, .bool false, .bool false, .bool false, .bool false] 110)
  have hb := (Below.refl w.heap.size w).alloc (Nat.le_refl _) (.cells #[.bool false, .bool false, .bool false, .bool false, .bool false, .bool false] 110)
  go_enter Try.func67, Try.ntmps67
  go_upto_region 1 with fail
  generalize w.alloc (.cells #[.bool false, .bool false, .bool false, .bool false, .bool false, .bool false] 110) = W0 at *
  obtain ⟨x0, x1, x2, x3, x4, x5, xz⟩ := row6 hz
  go_wp2_with fail
  obtain ⟨w9, hw9⟩ : ∃ w9, w9 = ((((((W0.setCell ⟨w.heap.size, 0, none⟩ (.bool true)).setCell ⟨w.heap.size, 1, none⟩ (.bool false)).setCell ⟨w.heap.size, 2, none⟩ (.bool false)).setCell ⟨w.heap.size, 3, none⟩ (.bool false)).setCell ⟨w.heap.size, 4, none⟩ (.bool false)).setCell ⟨w.heap.size, 5, none⟩ (.bool false)) := ⟨_, rfl⟩
  have hu9 : Upto (fun j => j = w.heap.size) W0 w9 := by rw [hw9]; exact upto6 _ _ _ _ _ _ _ _
  have h9 := sets6_row hz (.bool true) (.bool false) (.bool false) (.bool false) (.bool false) (.bool false)
  rw [← hw9] at h9 ⊢
  clear hw9 x0 x1 x2 x3 x4 x5 xz
  obtain ⟨x0, x1, x2, x3, x4, x5, xz⟩ := row6 h9
  clear h9
  refine bodyPost_ret (by simp [results, Try.results67, go_sem, x0, x1, x2, x3, x4, x5]; try rfl) rfl ?_
  exact ⟨rfl, hb.trans (hu9.below (B := w.heap.size) hb.size (fun k hk e => by omega))⟩

theorem has1_c (w : World) : Calls Try.prog 67 #[.int .i64 1] w fun e w' => e = .returned (.agg #[.bool true, .bool false, .bool false, .bool false, .bool false, .bool false]) ∧ Below w.heap.size w w' := by
  have hz := heap_alloc_new w (.cells #[.bool false, .bool false, .bool false, .bool false, .bool false, .bool false] 110)
  have hb := (Below.refl w.heap.size w).alloc (Nat.le_refl _) (.cells #[.bool false, .bool false, .bool false, .bool false, .bool false, .bool false] 110)
  go_enter Try.func67, Try.ntmps67
  go_upto_region 1 with fail
  generalize w.alloc (.cells #[.bool false, .bool false, .bool false, .bool false, .bool false, .bool false] 110) = W0 at *
  obtain ⟨x0, x1, x2, x3, x4, x5, xz⟩ := row6 hz
  go_wp2_with fail
  obtain ⟨w9, hw9⟩ : ∃ w9, w9 = ((((((W0.setCell ⟨w.heap.size, 0, none⟩ (.bool true)).setCell ⟨w.heap.size, 1, none⟩ (.bool false)).setCell ⟨w.heap.size, 2, none⟩ (.bool false)).setCell ⟨w.heap.size, 3, none⟩ (.bool false)).setCell ⟨w.heap.size, 4, none⟩ (.bool false)).setCell ⟨w.heap.size, 5, none⟩ (.bool false)) := ⟨_, rfl⟩
  have hu9 : Upto (fun j => j = w.heap.size) W0 w9 := by rw [hw9]; exact upto6 _ _ _ _ _ _ _ _
  have h9 := sets6_row hz (.bool true) (.bool false) (.bool false) (.bool false) (.bool false) (.bool false)
  rw [← hw9] at h9 ⊢
  clear hw9 x0 x1 x2 x3 x4 x5 xz
  obtain ⟨x0, x1, x2, x3, x4, x5, xz⟩ := row6 h9
  clear h9
  refine bodyPost_ret (by simp [results, Try.results67, go_sem, x0, x1, x2, x3, x4, x5]; try rfl) rfl ?_
  exact ⟨rfl, hb.trans (hu9.below (B := w.heap.size) hb.size (fun k hk e => by omega))⟩

theorem has2_c (w : World) : Calls Try.prog 67 #[.int .i64 2] w fun e w' => e = .returned (.agg #[.bool false, .bool true, .bool false, .bool false, .bool true, .bool false]) ∧ Below w.heap.size w w' := by
  have hz := heap_alloc_new w (.cells #[.bool false, .bool false, .bool false, .bool false, .bool false, .bool false] 110)
  have hb := (Below.refl w.heap.size w).alloc (Nat.le_refl _) (.cells #[.bool false, .bool false, .bool false, .bool false, .bool false, .bool false] 110)
  go_enter Try.func67, Try.ntmps67
  go_upto_region 1 with fail
  generalize w.alloc (.cells #[.bool false, .bool false, .bool false, .bool false, .bool false, .bool false] 110) = W0 at *
  obtain ⟨x0, x1, x2, x3, x4, x5, xz⟩ := row6 hz
  go_wp2_with fail
  obtain ⟨w9, hw9⟩ : ∃ w9, w9 = ((((((W0.setCell ⟨w.heap.size, 0, none⟩ (.bool false)).setCell ⟨w.heap.size, 1, none⟩ (.bool true)).setCell ⟨w.heap.size, 2, none⟩ (.bool false)).setCell ⟨w.heap.size, 3, none⟩ (.bool false)).setCell ⟨w.heap.size, 4, none⟩ (.bool true)).setCell ⟨w.heap.size, 5, none⟩ (.bool false)) := ⟨_, rfl⟩
  have hu9 : Upto (fun j => j = w.heap.size) W0 w9 := by rw [hw9]; exact upto6 _ _ _ _ _ _ _ _
  have h9 := sets6_row hz (.bool false) (.bool true) (.bool false) (.bool false) (.bool true) (.bool false)
  rw [← hw9] at h9 ⊢
  clear hw9 x0 x1 x2 x3 x4 x5 xz
  obtain ⟨x0, x1, x2, x3, x4, x5, xz⟩ := row6 h9
  clear h9
  refine bodyPost_ret (by simp [results, Try.results67, go_sem, x0, x1, x2, x3, x4, x5]; try rfl) rfl ?_
  exact ⟨rfl, hb.trans (hu9.below (B := w.heap.size) hb.size (fun k hk e => by omega))⟩

theorem has3_c (w : World) : Calls Try.prog 67 #[.int .i64 3] w fun e w' => e = .returned (.agg #[.bool false, .bool false, .bool true, .bool false, .bool false, .bool false]) ∧ Below w.heap.size w w' := by
  have hz := heap_alloc_new w (.cells #[.bool false, .bool false, .bool false, .bool false, .bool false, .bool false] 110)
  have hb := (Below.refl w.heap.size w).alloc (Nat.le_refl _) (.cells #[.bool false, .bool false, .bool false, .bool false, .bool false, .bool false] 110)
  go_enter Try.func67, Try.ntmps67
  go_upto_region 1 with fail
  generalize w.alloc (.cells #[.bool false, .bool false, .bool false, .bool false, .bool false, .bool false] 110) = W0 at *
  obtain ⟨x0, x1, x2, x3, x4, x5, xz⟩ := row6 hz
  go_wp2_with fail
  obtain ⟨w9, hw9⟩ : ∃ w9, w9 = ((((((W0.setCell ⟨w.heap.size, 0, none⟩ (.bool false)).setCell ⟨w.heap.size, 1, none⟩ (.bool false)).setCell ⟨w.heap.size, 2, none⟩ (.bool true)).setCell ⟨w.heap.size, 3, none⟩ (.bool false)).setCell ⟨w.heap.size, 4, none⟩ (.bool false)).setCell ⟨w.heap.size, 5, none⟩ (.bool false)) := ⟨_, rfl⟩
  have hu9 : Upto (fun j => j = w.heap.size) W0 w9 := by rw [hw9]; exact upto6 _ _ _ _ _ _ _ _
  have h9 := sets6_row hz (.bool false) (.bool false) (.bool true) (.bool false) (.bool false) (.bool false)
  rw [← hw9] at h9 ⊢
  clear hw9 x0 x1 x2 x3 x4 x5 xz
  obtain ⟨x0, x1, x2, x3, x4, x5, xz⟩ := row6 h9
  clear h9
  refine bodyPost_ret (by simp [results, Try.results67, go_sem, x0, x1, x2, x3, x4, x5]; try rfl) rfl ?_
  exact ⟨rfl, hb.trans (hu9.below (B := w.heap.size) hb.size (fun k hk e => by omega))⟩

theorem has4_c (w : World) : Calls Try.prog 67 #[.int .i64 4] w fun e w' => e = .returned (.agg #[.bool true, .bool false, .bool false, .bool true, .bool false, .bool false]) ∧ Below w.heap.size w w' := by
  have hz := heap_alloc_new w (.cells #[.bool false, .bool false, .bool false, .bool false, .bool false, .bool false] 110)
  have hb := (Below.refl w.heap.size w).alloc (Nat.le_refl _) (.cells #[.bool false, .bool false, .bool false, .bool false, .bool false, .bool false] 110)
  go_enter Try.func67, Try.ntmps67
  go_upto_region 1 with fail
  generalize w.alloc (.cells #[.bool false, .bool false, .bool false, .bool false, .bool false, .bool false] 110) = W0 at *
  obtain ⟨x0, x1, x2, x3, x4, x5, xz⟩ := row6 hz
  go_wp2_with fail
  obtain ⟨w9, hw9⟩ : ∃ w9, w9 = ((((((W0.setCell ⟨w.heap.size, 0, none⟩ (.bool true)).setCell ⟨w.heap.size, 1, none⟩ (.bool false)).setCell ⟨w.heap.size, 2, none⟩ (.bool false)).setCell ⟨w.heap.size, 3, none⟩ (.bool true)).setCell ⟨w.heap.size, 4, none⟩ (.bool false)).setCell ⟨w.heap.size, 5, none⟩ (.bool false)) := ⟨_, rfl⟩
  have hu9 : Upto (fun j => j = w.heap.size) W0 w9 := by rw [hw9]; exact upto6 _ _ _ _ _ _ _ _
  have h9 := sets6_row hz (.bool true) (.bool false) (.bool false) (.bool true) (.bool false) (.bool false)
  rw [← hw9] at h9 ⊢
  clear hw9 x0 x1 x2 x3 x4 x5 xz
  obtain ⟨x0, x1, x2, x3, x4, x5, xz⟩ := row6 h9
  clear h9
  refine bodyPost_ret (by simp [results, Try.results67, go_sem, x0, x1, x2, x3, x4, x5]; try rfl) rfl ?_
  exact ⟨rfl, hb.trans (hu9.below (B := w.heap.size) hb.size (fun k hk e => by omega))⟩

theorem has5_c (w : World) : Calls Try.prog 67 #[.int .i64 5] w fun e w' => e = .returned (.agg #[.bool false, .bool false, .bool true, .bool false, .bool false, .bool true]) ∧ Below w.heap.size w w' := by
  have hz := heap_alloc_new w (.cells #[.bool false, .bool false, .bool false, .bool false, .bool false, .bool false] 110)
  have hb := (Below.refl w.heap.size w).alloc (Nat.le_refl _) (.cells #[.bool false, .bool false, .bool false, .bool false, .bool false, .bool false] 110)
  go_enter Try.func67, Try.ntmps67
  go_upto_region 1 with fail
  generalize w.alloc (.cells #[.bool false, .bool false, .bool false, .bool false, .bool false, .bool false] 110) = W0 at *
  obtain ⟨x0, x1, x2, x3, x4, x5, xz⟩ := row6 hz
  go_wp2_with fail
  obtain ⟨w9, hw9⟩ : ∃ w9, w9 = ((((((W0.setCell ⟨w.heap.size, 0, none⟩ (.bool false)).setCell ⟨w.heap.size, 1, none⟩ (.bool false)).setCell ⟨w.heap.size, 2, none⟩ (.bool true)).setCell ⟨w.heap.size, 3, none⟩ (.bool false)).setCell ⟨w.heap.size, 4, none⟩ (.bool false)).setCell ⟨w.heap.size, 5, none⟩ (.bool true)) := ⟨_, rfl⟩
  have hu9 : Upto (fun j => j = w.heap.size) W0 w9 := by rw [hw9]; exact upto6 _ _ _ _ _ _ _ _
  have h9 := sets6_row hz (.bool false) (.bool false) (.bool true) (.bool false) (.bool false) (.bool true)
  rw [← hw9] at h9 ⊢
  clear hw9 x0 x1 x2 x3 x4 x5 xz
  obtain ⟨x0, x1, x2, x3, x4, x5, xz⟩ := row6 h9
  clear h9
  refine bodyPost_ret (by simp [results, Try.results67, go_sem, x0, x1, x2, x3, x4, x5]; try rfl) rfl ?_
  exact ⟨rfl, hb.trans (hu9.below (B := w.heap.size) hb.size (fun k hk e => by omega))⟩

theorem has6_c (w : World) : Calls Try.prog 67 #[.int .i64 6] w fun e w' => e = .returned (.agg #[.bool true, .bool false, .bool false, .bool true, .bool false, .bool false]) ∧ Below w.heap.size w w' := by
  have hz := heap_alloc_new w (.cells #[.bool false, .bool false, .bool false, .bool false, .bool false, .bool false] 110)
  have hb := (Below.refl w.heap.size w).alloc (Nat.le_refl _) (.cells #[.bool false, .bool false, .bool false, .bool false, .bool false, .bool false] 110)
  go_enter Try.func67, Try.ntmps67
  go_upto_region 1 with fail
  generalize w.alloc (.cells #[.bool false, .bool false, .bool false, .bool false, .bool false, .bool false] 110) = W0 at *
  obtain ⟨x0, x1, x2, x3, x4, x5, xz⟩ := row6 hz
  go_wp2_with fail
  obtain ⟨w9, hw9⟩ : ∃ w9, w9 = ((((((W0.setCell ⟨w.heap.size, 0, none⟩ (.bool true)).setCell ⟨w.heap.size, 1, none⟩ (.bool false)).setCell ⟨w.heap.size, 2, none⟩ (.bool false)).setCell ⟨w.heap.size, 3, none⟩ (.bool true)).setCell ⟨w.heap.size, 4, none⟩ (.bool false)).setCell ⟨w.heap.size, 5, none⟩ (.bool false)) := ⟨_, rfl⟩
  have hu9 : Upto (fun j => j = w.heap.size) W0 w9 := by rw [hw9]; exact upto6 _ _ _ _ _ _ _ _
  have h9 := sets6_row hz (.bool true) (.bool false) (.bool false) (.bool true) (.bool false) (.bool false)
  rw [← hw9] at h9 ⊢
  clear hw9 x0 x1 x2 x3 x4 x5 xz
  obtain ⟨x0, x1, x2, x3, x4, x5, xz⟩ := row6 h9
  clear h9
  refine bodyPost_ret (by simp [results, Try.results67, go_sem, x0, x1, x2, x3, x4, x5]; try rfl) rfl ?_
  exact ⟨rfl, hb.trans (hu9.below (B := w.heap.size) hb.size (fun k hk e => by omega))⟩

theorem has7_c (w : World) : Calls Try.prog 67 #[.int .i64 7] w fun e w' => e = .returned (.agg #[.bool false, .bool true, .bool false, .bool false, .bool false, .bool false]) ∧ Below w.heap.size w w' := by
  have hz := heap_alloc_new w (.cells #[.bool false, .bool false, .bool false, .bool false, .bool false, .bool false] 110)
  have hb := (Below.refl w.heap.size w).alloc (Nat.le_refl _) (.cells #[.bool false, .bool false, .bool false, .bool false, .bool false, .bool false] 110)
  go_enter Try.func67, Try.ntmps67
  go_upto_region 1 with fail
  generalize w.alloc (.cells #[.bool false, .bool false, .bool false, .bool false, .bool false, .bool false] 110) = W0 at *
  obtain ⟨x0, x1, x2, x3, x4, x5, xz⟩ := row6 hz
  go_wp2_with fail
  obtain ⟨w9, hw9⟩ : ∃ w9, w9 = ((((((W0.setCell ⟨w.heap.size, 0, none⟩ (.bool false)).setCell ⟨w.heap.size, 1, none⟩ (.bool true)).setCell ⟨w.heap.size, 2, none⟩ (.bool false)).setCell ⟨w.heap.size, 3, none⟩ (.bool false)).setCell ⟨w.heap.size, 4, none⟩ (.bool false)).setCell ⟨w.heap.size, 5, none⟩ (.bool false)) := ⟨_, rfl⟩
  have hu9 : Upto (fun j => j = w.heap.size) W0 w9 := by rw [hw9]; exact upto6 _ _ _ _ _ _ _ _
  have h9 := sets6_row hz (.bool false) (.bool true) (.bool false) (.bool false) (.bool false) (.bool false)
  rw [← hw9] at h9 ⊢
  clear hw9 x0 x1 x2 x3 x4 x5 xz
  obtain ⟨x0, x1, x2, x3, x4, x5, xz⟩ := row6 h9
  clear h9
  refine bodyPost_ret (by simp [results, Try.results67, go_sem, x0, x1, x2, x3, x4, x5]; try rfl) rfl ?_
  exact ⟨rfl, hb.trans (hu9.below (B := w.heap.size) hb.size (fun k hk e => by omega))⟩

theorem has8_c (w : World) : Calls Try.prog 67 #[.int .i64 8] w fun e w' => e = .returned (.agg #[.bool false, .bool true, .bool false, .bool false, .bool false, .bool false]) ∧ Below w.heap.size w w' := by
  have hz := heap_alloc_new w (.cells #[.bool false, .bool false, .bool false, .bool false, .bool false, .bool false] 110)
  have hb := (Below.refl w.heap.size w).alloc (Nat.le_refl _) (.cells #[.bool false, .bool false, .bool false, .bool false, .bool false, .bool false] 110)
  go_enter Try.func67, Try.ntmps67
  go_upto_region 1 with fail
  generalize w.alloc (.cells #[.bool false, .bool false, .bool false, .bool false, .bool false, .bool false] 110) = W0 at *
  obtain ⟨x0, x1, x2, x3, x4, x5, xz⟩ := row6 hz
  go_wp2_with fail
  obtain ⟨w9, hw9⟩ : ∃ w9, w9 = ((((((W0.setCell ⟨w.heap.size, 0, none⟩ (.bool false)).setCell ⟨w.heap.size, 1, none⟩ (.bool true)).setCell ⟨w.heap.size, 2, none⟩ (.bool false)).setCell ⟨w.heap.size, 3, none⟩ (.bool false)).setCell ⟨w.heap.size, 4, none⟩ (.bool false)).setCell ⟨w.heap.size, 5, none⟩ (.bool false)) := ⟨_, rfl⟩
  have hu9 : Upto (fun j => j = w.heap.size) W0 w9 := by rw [hw9]; exact upto6 _ _ _ _ _ _ _ _
  have h9 := sets6_row hz (.bool false) (.bool true) (.bool false) (.bool false) (.bool false) (.bool false)
  rw [← hw9] at h9 ⊢
  clear hw9 x0 x1 x2 x3 x4 x5 xz
  obtain ⟨x0, x1, x2, x3, x4, x5, xz⟩ := row6 h9
  clear h9
  refine bodyPost_ret (by simp [results, Try.results67, go_sem, x0, x1, x2, x3, x4, x5]; try rfl) rfl ?_
  exact ⟨rfl, hb.trans (hu9.below (B := w.heap.size) hb.size (fun k hk e => by omega))⟩

set_option maxHeartbeats 4000000 in
theorem rputs_c (b : Nat) (ps : List PutV) (n c : Nat) (hn : ps.length = n) (hl : n ≤ 1000) (w : World) (h : RdP w b ps) (hr : Small ps) :
    Calls Try.prog 68 #[.slice (some ⟨b, 0, none⟩) n c] w fun e w' => e = .returned (.bool (putsOk ps)) ∧ Below w.heap.size w w' := by
  go_enter Try.func68, Try.ntmps68
  go_wp2_with fail
  go_loopw [7] (fun i wr => ∃ (k : Nat) (z : Int), k ≤ n ∧ i = .int .i64 k ∧ (k = 0 ∧ z = -1 ∨ ∃ q, ps[k - 1]? = some q ∧ 0 < k ∧ z = placeV q ∧ inB q = true) ∧ Hid (putsFrom (-1) ps = putsFrom z (ps.drop k)) ∧ Hid (Below w.heap.size w wr)) (fun i _ => n - (intOf i).toNat)
  case atStart => exact ⟨0, -1, Nat.zero_le _, rfl, .inl ⟨rfl, rfl⟩, rfl, Below.refl _ _⟩
  case round =>
    obtain ⟨k, z, hk, rfl, hkz, hz, hb⟩ := hrel
    by_cases hlt : k < n
    · obtain ⟨p, hp⟩ := get_some ps k (by omega)
      have HPK := Lib.hid hp
      obtain ⟨y0, y1, y2⟩ := h.below hb.out k p hp
      obtain ⟨q1, q2, q3, q4⟩ := hr p (List.mem_of_getElem? hp)
      have hd : ps.drop k = p :: ps.drop (k + 1) := by
        obtain ⟨hlt2, e⟩ := List.getElem?_eq_some_iff.1 hp
        rw [← e]; exact List.drop_eq_getElem_cons hlt2
      have HD := Lib.hid hd
      clear hp hd
      by_cases hp5 : p.pg ≤ 5
      · by_cases ho3 : p.ob ≤ 3
        · have b1 : decide ((0 : Int) ≤ p.pg ∧ p.pg ≤ 5) = true := by simp; omega
          have b2 : decide ((0 : Int) ≤ p.ob ∧ p.ob ≤ 3) = true := by simp; omega
          have HIN : Hid (inB p = true) := by unfold Hid inB; simp; omega
          have HDP : Hid (placeV p = p.pg * 4 + p.ob) := rfl
          have HZS : Hid (putsFrom (-1) ps = (decide (z < placeV p) && putsFrom (placeV p) (ps.drop (k + 1)))) := by
            unfold Hid; rw [hz.out, HD.out, putsFrom, HIN.out]; rfl
          clear hz
          rcases hkz with ⟨rfl, rfl⟩ | ⟨q, hq, hk0, rfl, hqi⟩
          · have HE : Hid (putsFrom (-1) ps = putsFrom (placeV p) (ps.drop (0 + 1))) := by
              unfold Hid; rw [HZS.out, show decide (-1 < placeV p) = true by rw [HDP.out]; simp; omega]; rfl
            clear q1 q2 q3 q4 hp5 ho3 h hr
            go_wp2_with fail
            have hw := (Below.refl wr.heap.size wr).alloc (Nat.le_refl _) (.cells #[.int .i64 p.pg, .int .i64 p.ob, .complex .f64 p.re p.im] 53)
            have hrow := heap_alloc_new wr (.cells #[.int .i64 p.pg, .int .i64 p.ob, .complex .f64 p.re p.im] 53)
            have y0a := cell_alloc (.cells #[.int .i64 p.pg, .int .i64 p.ob, .complex .f64 p.re p.im] 53) y0
            generalize wr.alloc (.cells #[.int .i64 p.pg, .int .i64 p.ob, .complex .f64 p.re p.im] 53) = W2 at *
            obtain ⟨x0, x1, x2, xz⟩ := row3 hrow
            refine (rin_c _ _ _ _).mono ?_; rintro e w1 ⟨rfl, rfl⟩
            rw [b1]
            go_wp2_with fail
            refine (rin_c _ _ _ _).mono ?_; rintro e w1 ⟨rfl, rfl⟩
            rw [b2]
            go_wp2_with fail
            go_quiet (fail)
            go_wp2_with fail
            go_roundw
            case rel => exact ⟨0 + 1, placeV p, by omega, by simp, .inr ⟨p, by simpa using HPK.out, by omega, rfl, HIN.out⟩, HE, hb.out.trans (below_drewN (hw.mono hb.out.size) _)⟩
            case measure => simp [intOf]; omega
          · obtain ⟨k', rfl⟩ : ∃ k', k = k' + 1 := ⟨k - 1, by omega⟩
            have hq' : ps[k']? = some q := by simpa using hq
            obtain ⟨t0, t1, t2⟩ := h.below hb.out k' q hq'
            obtain ⟨s1, s2, s3, s4⟩ := hr q (List.mem_of_getElem? hq')
            have hqi' : q.pg ≤ 5 ∧ q.ob ≤ 3 := by unfold inB at hqi; simpa using hqi
            have HQP : Hid (placeV q = q.pg * 4 + q.ob) := rfl
            have hix : ((k' : Int) + 1 - 1) = k' := by omega
            have hwr : IntKind.i64.wrap (k' : Int) = (k' : Int) := by simp [IntKind.wrap, IntKind.bits, IntKind.signed]; omega
            clear hq hq' hqi t2
            by_cases g1 : p.pg < q.pg
            · have HE : Hid (putsOk ps = false) := by
                unfold Hid putsOk; rw [HZS.out, show decide (placeV q < placeV p) = false by rw [HQP.out, HDP.out]; simp; omega]; rfl
              clear q1 q2 q3 q4 hp5 ho3 h hr s1 s2 s3 s4 hqi'
              go_wp2_with fail
              have hw := (Below.refl wr.heap.size wr).alloc (Nat.le_refl _) (.cells #[.int .i64 p.pg, .int .i64 p.ob, .complex .f64 p.re p.im] 53)
              have hrow := heap_alloc_new wr (.cells #[.int .i64 p.pg, .int .i64 p.ob, .complex .f64 p.re p.im] 53)
              have y0a := cell_alloc (.cells #[.int .i64 p.pg, .int .i64 p.ob, .complex .f64 p.re p.im] 53) y0
              have y1a := cell_alloc (.cells #[.int .i64 p.pg, .int .i64 p.ob, .complex .f64 p.re p.im] 53) y1
              have y2a := cell_alloc (.cells #[.int .i64 p.pg, .int .i64 p.ob, .complex .f64 p.re p.im] 53) y2
              have t0a := cell_alloc (.cells #[.int .i64 p.pg, .int .i64 p.ob, .complex .f64 p.re p.im] 53) t0
              have t1a := cell_alloc (.cells #[.int .i64 p.pg, .int .i64 p.ob, .complex .f64 p.re p.im] 53) t1
              generalize wr.alloc (.cells #[.int .i64 p.pg, .int .i64 p.ob, .complex .f64 p.re p.im] 53) = W2 at *
              obtain ⟨x0, x1, x2, xz⟩ := row3 hrow
              refine (rin_c _ _ _ _).mono ?_; rintro e w1 ⟨rfl, rfl⟩
              rw [b1]
              go_wp2_with fail
              refine (rin_c _ _ _ _).mono ?_; rintro e w1 ⟨rfl, rfl⟩
              rw [b2]
              go_wp2_with fail
              go_quiet (fail)
              go_wp2_with fail
              go_ret
              exact ⟨ret_bool (by rw [HE.out]), hb.out.trans (below_drewN (hw.mono hb.out.size) _)⟩
            · by_cases g2 : q.pg = p.pg
              · by_cases g3 : p.ob ≤ q.ob
                · have HE : Hid (putsOk ps = false) := by
                    unfold Hid putsOk; rw [HZS.out, show decide (placeV q < placeV p) = false by rw [HQP.out, HDP.out]; simp; omega]; rfl
                  clear q1 q2 q3 q4 hp5 ho3 h hr s1 s2 s3 s4 hqi'
                  go_wp2_with fail
                  have hw := (Below.refl wr.heap.size wr).alloc (Nat.le_refl _) (.cells #[.int .i64 p.pg, .int .i64 p.ob, .complex .f64 p.re p.im] 53)
                  have hrow := heap_alloc_new wr (.cells #[.int .i64 p.pg, .int .i64 p.ob, .complex .f64 p.re p.im] 53)
                  have y0a := cell_alloc (.cells #[.int .i64 p.pg, .int .i64 p.ob, .complex .f64 p.re p.im] 53) y0
                  have y1a := cell_alloc (.cells #[.int .i64 p.pg, .int .i64 p.ob, .complex .f64 p.re p.im] 53) y1
                  have y2a := cell_alloc (.cells #[.int .i64 p.pg, .int .i64 p.ob, .complex .f64 p.re p.im] 53) y2
                  have t0a := cell_alloc (.cells #[.int .i64 p.pg, .int .i64 p.ob, .complex .f64 p.re p.im] 53) t0
                  have t1a := cell_alloc (.cells #[.int .i64 p.pg, .int .i64 p.ob, .complex .f64 p.re p.im] 53) t1
                  generalize wr.alloc (.cells #[.int .i64 p.pg, .int .i64 p.ob, .complex .f64 p.re p.im] 53) = W2 at *
                  obtain ⟨x0, x1, x2, xz⟩ := row3 hrow
                  refine (rin_c _ _ _ _).mono ?_; rintro e w1 ⟨rfl, rfl⟩
                  rw [b1]
                  go_wp2_with fail
                  refine (rin_c _ _ _ _).mono ?_; rintro e w1 ⟨rfl, rfl⟩
                  rw [b2]
                  go_wp2_with fail
                  go_quiet (fail)
                  go_wp2_with fail
                  go_ret
                  exact ⟨ret_bool (by rw [HE.out]), hb.out.trans (below_drewN (hw.mono hb.out.size) _)⟩
                · have HE : Hid (putsFrom (-1) ps = putsFrom (placeV p) (ps.drop (k' + 1 + 1))) := by
                    unfold Hid; rw [HZS.out, show decide (placeV q < placeV p) = true by rw [HQP.out, HDP.out]; simp; omega]; rfl
                  clear q1 q2 q3 q4 hp5 ho3 h hr s1 s2 s3 s4 hqi'
                  go_wp2_with fail
                  have hw := (Below.refl wr.heap.size wr).alloc (Nat.le_refl _) (.cells #[.int .i64 p.pg, .int .i64 p.ob, .complex .f64 p.re p.im] 53)
                  have hrow := heap_alloc_new wr (.cells #[.int .i64 p.pg, .int .i64 p.ob, .complex .f64 p.re p.im] 53)
                  have y0a := cell_alloc (.cells #[.int .i64 p.pg, .int .i64 p.ob, .complex .f64 p.re p.im] 53) y0
                  have y1a := cell_alloc (.cells #[.int .i64 p.pg, .int .i64 p.ob, .complex .f64 p.re p.im] 53) y1
                  have y2a := cell_alloc (.cells #[.int .i64 p.pg, .int .i64 p.ob, .complex .f64 p.re p.im] 53) y2
                  have t0a := cell_alloc (.cells #[.int .i64 p.pg, .int .i64 p.ob, .complex .f64 p.re p.im] 53) t0
                  have t1a := cell_alloc (.cells #[.int .i64 p.pg, .int .i64 p.ob, .complex .f64 p.re p.im] 53) t1
                  generalize wr.alloc (.cells #[.int .i64 p.pg, .int .i64 p.ob, .complex .f64 p.re p.im] 53) = W2 at *
                  obtain ⟨x0, x1, x2, xz⟩ := row3 hrow
                  refine (rin_c _ _ _ _).mono ?_; rintro e w1 ⟨rfl, rfl⟩
                  rw [b1]
                  go_wp2_with fail
                  refine (rin_c _ _ _ _).mono ?_; rintro e w1 ⟨rfl, rfl⟩
                  rw [b2]
                  go_wp2_with fail
                  go_quiet (fail)
                  go_wp2_with fail
                  go_roundw
                  case rel => exact ⟨k' + 1 + 1, placeV p, by omega, by simp, .inr ⟨p, by simpa using HPK.out, by omega, rfl, HIN.out⟩, HE, hb.out.trans (below_drewN (hw.mono hb.out.size) _)⟩
                  case measure => simp [intOf]; omega
              · have HE : Hid (putsFrom (-1) ps = putsFrom (placeV p) (ps.drop (k' + 1 + 1))) := by
                  unfold Hid; rw [HZS.out, show decide (placeV q < placeV p) = true by rw [HQP.out, HDP.out]; simp; omega]; rfl
                have hd1 : decide (p.pg < q.pg) = false := by simp; omega
                have hd2 : decide (q.pg > p.pg) = false := by simp; omega
                have hd3 : (q.pg == p.pg) = false := by simp; omega
                clear g1 g2 q1 q2 q3 q4 hp5 ho3 h hr s1 s2 s3 s4 hqi'
                go_wp2_with fail
                have hw := (Below.refl wr.heap.size wr).alloc (Nat.le_refl _) (.cells #[.int .i64 p.pg, .int .i64 p.ob, .complex .f64 p.re p.im] 53)
                have hrow := heap_alloc_new wr (.cells #[.int .i64 p.pg, .int .i64 p.ob, .complex .f64 p.re p.im] 53)
                have y0a := cell_alloc (.cells #[.int .i64 p.pg, .int .i64 p.ob, .complex .f64 p.re p.im] 53) y0
                have y1a := cell_alloc (.cells #[.int .i64 p.pg, .int .i64 p.ob, .complex .f64 p.re p.im] 53) y1
                have y2a := cell_alloc (.cells #[.int .i64 p.pg, .int .i64 p.ob, .complex .f64 p.re p.im] 53) y2
                have t0a := cell_alloc (.cells #[.int .i64 p.pg, .int .i64 p.ob, .complex .f64 p.re p.im] 53) t0
                have t1a := cell_alloc (.cells #[.int .i64 p.pg, .int .i64 p.ob, .complex .f64 p.re p.im] 53) t1
                generalize wr.alloc (.cells #[.int .i64 p.pg, .int .i64 p.ob, .complex .f64 p.re p.im] 53) = W2 at *
                obtain ⟨x0, x1, x2, xz⟩ := row3 hrow
                refine (rin_c _ _ _ _).mono ?_; rintro e w1 ⟨rfl, rfl⟩
                rw [b1]
                go_wp2_with fail
                refine (rin_c _ _ _ _).mono ?_; rintro e w1 ⟨rfl, rfl⟩
                rw [b2]
                go_wp2_with fail
                go_quiet (fail)
                go_wp2_with fail
                go_roundw
                case rel => exact ⟨k' + 1 + 1, placeV p, by omega, by simp, .inr ⟨p, by simpa using HPK.out, by omega, rfl, HIN.out⟩, HE, hb.out.trans (below_drewN (hw.mono hb.out.size) _)⟩
                case measure => simp [intOf]; omega
        · have HE : Hid (putsOk ps = false) := by
            unfold Hid putsOk; rw [hz.out, HD.out]; unfold putsFrom inB; simp [ho3]
          have b1 : decide ((0 : Int) ≤ p.pg ∧ p.pg ≤ 5) = true := by simp; omega
          have b2 : decide ((0 : Int) ≤ p.ob ∧ p.ob ≤ 3) = false := by simp; omega
          clear q1 q2 q3 q4 hp5 ho3 h hr hkz
          go_wp2_with fail
          have hw := (Below.refl wr.heap.size wr).alloc (Nat.le_refl _) (.cells #[.int .i64 p.pg, .int .i64 p.ob, .complex .f64 p.re p.im] 53)
          have hrow := heap_alloc_new wr (.cells #[.int .i64 p.pg, .int .i64 p.ob, .complex .f64 p.re p.im] 53)
          skip
          generalize wr.alloc (.cells #[.int .i64 p.pg, .int .i64 p.ob, .complex .f64 p.re p.im] 53) = W2 at *
          obtain ⟨x0, x1, x2, xz⟩ := row3 hrow
          refine (rin_c _ _ _ _).mono ?_; rintro e w1 ⟨rfl, rfl⟩
          rw [b1]
          go_wp2_with fail
          refine (rin_c _ _ _ _).mono ?_; rintro e w1 ⟨rfl, rfl⟩
          rw [b2]
          go_wp2_with fail
          go_ret
          exact ⟨ret_bool (by rw [HE.out]), hb.out.trans (hw.mono hb.out.size)⟩
      · have HE : Hid (putsOk ps = false) := by
          unfold Hid putsOk; rw [hz.out, HD.out]; unfold putsFrom inB; simp [hp5]
        have b1 : decide ((0 : Int) ≤ p.pg ∧ p.pg ≤ 5) = false := by simp; omega
        clear q1 q2 q3 q4 hp5 h hr hkz
        go_wp2_with fail
        have hw := (Below.refl wr.heap.size wr).alloc (Nat.le_refl _) (.cells #[.int .i64 p.pg, .int .i64 p.ob, .complex .f64 p.re p.im] 53)
        have hrow := heap_alloc_new wr (.cells #[.int .i64 p.pg, .int .i64 p.ob, .complex .f64 p.re p.im] 53)
        skip
        generalize wr.alloc (.cells #[.int .i64 p.pg, .int .i64 p.ob, .complex .f64 p.re p.im] 53) = W2 at *
        obtain ⟨x0, x1, x2, xz⟩ := row3 hrow
        refine (rin_c _ _ _ _).mono ?_; rintro e w1 ⟨rfl, rfl⟩
        rw [b1]
        go_wp2_with fail
        go_ret
        exact ⟨ret_bool (by rw [HE.out]), hb.out.trans (hw.mono hb.out.size)⟩
    · have he : k = n := by omega
      subst he
      have HE : Hid (putsOk ps = decide ((k : Int) ≤ 24)) := by
        unfold Hid putsOk; rw [hz.out, ← hn, List.drop_length]; simp [putsFrom]; omega
      clear hz h hr hkz
      go_wp2_with fail
      go_ret
      exact ⟨ret_bool (by rw [HE.out]), hb.out⟩

theorem rsameputs_r (b1 b2 : Nat) (ps : List PutV) (n c d : Nat) (hn : ps.length = n) (hl : n ≤ 1000) (w : World) (h1 : RdP w b1 ps) (h2 : RdP w b2 ps) (hv : ∀ p ∈ ps, W64 (p.re, p.im)) :
    Calls Try.prog 29 #[.slice (some ⟨b1, 0, none⟩) n c, .slice (some ⟨b2, 0, none⟩) n d] w fun e w' => e = .returned (.bool true) ∧ Below w.heap.size w w' := by
  go_enter Try.func29, Try.ntmps29
  go_wp2_with fail
  go_loopw [13] (fun i wr => ∃ (k m : Nat), k ≤ n ∧ i = .int .i64 k ∧ wr = w.drewN m) (fun i _ => n - (intOf i).toNat)
  case atStart => exact ⟨0, 0, Nat.zero_le _, rfl, rfl⟩
  case round =>
    obtain ⟨k, m, hk, rfl, rfl⟩ := hrel
    by_cases hlt : k < n
    · obtain ⟨p, hp⟩ := get_some ps k (by omega)
      obtain ⟨y0, y1, y2⟩ := h1 k p hp
      obtain ⟨z0, z1, z2⟩ := h2 k p hp
      have hw := hv p (List.mem_of_getElem? hp)
      have HS := Lib.hid (refSame_r p.re p.im hw.1 hw.2)
      clear h1 h2 hv hw hp
      go_wp2_with fail
      go_quiet ((go_at_call 54; first | exact quiet_left (HS.out _) | exact quiet_add_left (HS.out _)))
      go_wp2_with fail
      go_roundw
      case rel => exact ⟨k + 1, _, by omega, by simp, rfl⟩
      case measure => simp [intOf]; omega
    · have he : k = n := by omega
      subst he
      go_wp2_with fail
      go_ret
      exact ⟨ret_bool (by simp), below_drewN (Below.refl _ _) _⟩

theorem rputs_nil (w : World) : Calls Try.prog 68 #[.slice none 0 0] w fun e w' => e = .returned (.bool (putsOk [])) ∧ Below w.heap.size w w' := by
  go_enter Try.func68, Try.ntmps68
  go_wp2_with fail
  go_loopw [7] (fun i wr => i = .int .i64 0 ∧ wr = w) (fun _ _ => 0)
  case atStart => exact ⟨rfl, rfl⟩
  case round =>
    obtain ⟨rfl, rfl⟩ := hrel
    go_wp2_with fail
    go_ret
    exact ⟨ret_bool rfl, Below.refl _ _⟩

theorem rsameputs_nil (w : World) : Calls Try.prog 29 #[.slice none 0 0, .slice none 0 0] w fun e w' => e = .returned (.bool true) ∧ Below w.heap.size w w' := by
  go_enter Try.func29, Try.ntmps29
  go_wp2_with fail
  go_loopw [13] (fun i wr => i = .int .i64 0 ∧ wr = w) (fun _ _ => 0)
  case atStart => exact ⟨rfl, rfl⟩
  case round =>
    obtain ⟨rfl, rfl⟩ := hrel
    go_wp2_with fail
    go_ret
    exact ⟨ret_bool rfl, Below.refl _ _⟩

theorem rputs_at {w : World} {A : Option Addr} {n c : Nat} {ps : List PutV} (h : PutsAt w A c ps) (hn : ps.length = n) (hl : n ≤ 1000) (hr : Small ps) : From w 68 #[.slice A n c] (.bool (putsOk ps)) := by
  intro W hW
  rcases h.below hW with ⟨rfl, rfl, rfl⟩ | ⟨b, rfl, h1, h2⟩
  · subst hn
    exact rputs_nil W
  · exact rputs_c b ps n c hn hl W h2 hr

theorem rsameputs_at {w : World} {A B : Option Addr} {n c d : Nat} {ps : List PutV} (h : PutsAt w A c ps) (h' : PutsAt w B d ps) (hn : ps.length = n) (hl : n ≤ 1000) (hv : ∀ p ∈ ps, W64 (p.re, p.im)) : From w 29 #[.slice A n c, .slice B n d] (.bool true) := by
  intro W hW
  rcases h.below hW with ⟨rfl, rfl, rfl⟩ | ⟨b, rfl, h1, h2⟩
  · rcases h'.below hW with ⟨rfl, rfl, -⟩ | ⟨b', rfl, h3, -⟩
    · subst hn
      exact rsameputs_nil W
    · exact absurd rfl h3
  · rcases h'.below hW with ⟨rfl, rfl, e⟩ | ⟨b', rfl, h3, h4⟩
    · exact absurd e h1
    · exact rsameputs_r b b' ps n c d hn hl W h2 h4 hv

end Go.Proofs.Ytbhjdapkhcgmlaa

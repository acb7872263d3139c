import Derived.Test.YtbhjdapkhcgmlaaMsgE
import Derived.Handy
import Derived.Deep.Cut
namespace Go.Proofs.Ytbhjdapkhcgmlaa
open Go.RowKit

attribute [local go_sem] run_store_complex

/-! msg.bare, msg.Right. -/

theorem sets12_row {w : World} {b : Nat} {T : TypeId} {z0 z1 z2 z3 z4 z5 z6 z7 z8 z9 z10 z11 : Value} (h : w.heap[b]? = some (.cells #[z0, z1, z2, z3, z4, z5, z6, z7, z8, z9, z10, z11] T (0, 0))) (v0 v1 v2 v3 v4 v5 v6 v7 v8 v9 v10 v11 : Value) :
    ((((((((((((w.setCell ⟨b, 0, none⟩ v0).setCell ⟨b, 1, none⟩ v1).setCell ⟨b, 2, none⟩ v2).setCell ⟨b, 3, none⟩ v3).setCell ⟨b, 4, none⟩ v4).setCell ⟨b, 5, none⟩ v5).setCell ⟨b, 6, none⟩ v6).setCell ⟨b, 7, none⟩ v7).setCell ⟨b, 8, none⟩ v8).setCell ⟨b, 9, none⟩ v9).setCell ⟨b, 10, none⟩ v10).setCell ⟨b, 11, none⟩ v11).heap[b]? = some (.cells #[v0, v1, v2, v3, v4, v5, v6, v7, v8, v9, v10, v11] T (0, 0)) := by
  have := (row_set (row_set (row_set (row_set (row_set (row_set (row_set (row_set (row_set (row_set (row_set (row_set h 0 v0) 1 v1) 2 v2) 3 v3) 4 v4) 5 v5) 6 v6) 7 v7) 8 v8) 9 v9) 10 v10) 11 v11)
  simpa using this

theorem sets3_row {w : World} {b : Nat} {T : TypeId} {z0 z1 z2 z3 z4 z5 z6 z7 z8 z9 z10 z11 : Value} (h : w.heap[b]? = some (.cells #[z0, z1, z2, z3, z4, z5, z6, z7, z8, z9, z10, z11] T (0, 0))) (v1 v4 v5 : Value) :
    (((w.setCell ⟨b, 1, none⟩ v1).setCell ⟨b, 4, none⟩ v4).setCell ⟨b, 5, none⟩ v5).heap[b]? = some (.cells #[z0, v1, z2, z3, v4, v5, z6, z7, z8, z9, z10, z11] T (0, 0)) := by
  have := row_set (row_set (row_set h 1 v1) 4 v4) 5 v5
  simpa using this

theorem sets2_row {w : World} {b : Nat} {T : TypeId} {z0 z1 z2 z3 z4 z5 z6 z7 z8 z9 z10 z11 : Value} (h : w.heap[b]? = some (.cells #[z0, z1, z2, z3, z4, z5, z6, z7, z8, z9, z10, z11] T (0, 0))) (v1 v2 : Value) :
    ((w.setCell ⟨b, 1, none⟩ v1).setCell ⟨b, 2, none⟩ v2).heap[b]? = some (.cells #[z0, v1, v2, z3, z4, z5, z6, z7, z8, z9, z10, z11] T (0, 0)) := by
  have := row_set (row_set h 1 v1) 2 v2
  simpa using this

theorem upto12 (w : World) (b : Nat) (v0 v1 v2 v3 v4 v5 v6 v7 v8 v9 v10 v11 : Value) : Upto (fun j => j = b) w ((((((((((((w.setCell ⟨b, 0, none⟩ v0).setCell ⟨b, 1, none⟩ v1).setCell ⟨b, 2, none⟩ v2).setCell ⟨b, 3, none⟩ v3).setCell ⟨b, 4, none⟩ v4).setCell ⟨b, 5, none⟩ v5).setCell ⟨b, 6, none⟩ v6).setCell ⟨b, 7, none⟩ v7).setCell ⟨b, 8, none⟩ v8).setCell ⟨b, 9, none⟩ v9).setCell ⟨b, 10, none⟩ v10).setCell ⟨b, 11, none⟩ v11) :=
  (((((((((((((Upto.refl (fun j => j = b) w).setCell (p := ⟨b, 0, none⟩) rfl v0).setCell (p := ⟨b, 1, none⟩) rfl v1).setCell (p := ⟨b, 2, none⟩) rfl v2).setCell (p := ⟨b, 3, none⟩) rfl v3).setCell (p := ⟨b, 4, none⟩) rfl v4).setCell (p := ⟨b, 5, none⟩) rfl v5).setCell (p := ⟨b, 6, none⟩) rfl v6).setCell (p := ⟨b, 7, none⟩) rfl v7).setCell (p := ⟨b, 8, none⟩) rfl v8).setCell (p := ⟨b, 9, none⟩) rfl v9).setCell (p := ⟨b, 10, none⟩) rfl v10).setCell (p := ⟨b, 11, none⟩) rfl v11)

theorem heap3 (w : World) (a b c : Obj) : (((w.alloc a).alloc b).alloc c).heap[w.heap.size]? = some a ∧ (((w.alloc a).alloc b).alloc c).heap[w.heap.size + 1]? = some b ∧ (((w.alloc a).alloc b).alloc c).heap[w.heap.size + 2]? = some c := by
  have e2 : (((w.alloc a).alloc b).alloc c).heap[w.heap.size + 1 + 1]? = some c := by simpa using heap_alloc_new ((w.alloc a).alloc b) c
  have hk := ((Below.refl ((w.alloc a).alloc b).heap.size ((w.alloc a).alloc b)).alloc (Nat.le_refl _) c)
  have e0 := heap_alloc2_old w a b
  have e1 := heap_alloc2_new w a b
  exact ⟨(hk.block _ (lt_of_row (Nat.le_refl _) e0)).trans e0, (hk.block _ (lt_of_row (Nat.le_refl _) e1)).trans e1, e2⟩

theorem below3 (w : World) (a b c : Obj) : Below w.heap.size w (((w.alloc a).alloc b).alloc c) := (below2 w a b).alloc (by simp; omega) _

set_option maxRecDepth 100000 in
set_option maxHeartbeats 8000000 in
theorem bare5_c (pg ob tx cp ow : Int) (wr : Bool) (a0 b0 a1 b1 a2 b2 a3 b3 : Nat) (w : World) : Calls Try.prog 38 #[.agg (msgC 5 pg ob tx cp ow wr a0 b0 a1 b1 a2 b2 a3 b3)] w fun e w' => e = .returned (.agg (msgC 5 pg 0 0 cp ow false a0 b0 a1 b1 a2 b2 a3 b3)) ∧ Below w.heap.size w w' := by
  unfold msgC
  go_enter Try.func38, Try.ntmps38
  go_wp2_with fail
  obtain ⟨h1, h2, h3⟩ := heap3 w (Obj.cells #[.int .i64 5, .int .i64 pg, .int .i64 ob, .int .i64 tx, .int .i64 cp, .int .i64 ow, .bool wr, .slice none 0 0, .complex .f64 a0 b0, .complex .f64 a1 b1, .complex .f64 a2 b2, .complex .f64 a3 b3] 30) (Obj.cells #[.int .i64 0, .int .i64 0, .int .i64 0, .int .i64 0, .int .i64 0, .int .i64 0, .bool false, .slice none 0 0, .complex .f64 0 0, .complex .f64 0 0, .complex .f64 0 0, .complex .f64 0 0] 30) (Obj.cells #[.int .i64 5, .int .i64 0, .int .i64 0, .int .i64 0, .int .i64 0, .int .i64 0, .bool false, .slice none 0 0, .complex .f64 a0 b0, .complex .f64 a1 b1, .complex .f64 a2 b2, .complex .f64 a3 b3] 30)
  have hb := below3 w (Obj.cells #[.int .i64 5, .int .i64 pg, .int .i64 ob, .int .i64 tx, .int .i64 cp, .int .i64 ow, .bool wr, .slice none 0 0, .complex .f64 a0 b0, .complex .f64 a1 b1, .complex .f64 a2 b2, .complex .f64 a3 b3] 30) (Obj.cells #[.int .i64 0, .int .i64 0, .int .i64 0, .int .i64 0, .int .i64 0, .int .i64 0, .bool false, .slice none 0 0, .complex .f64 0 0, .complex .f64 0 0, .complex .f64 0 0, .complex .f64 0 0] 30) (Obj.cells #[.int .i64 5, .int .i64 0, .int .i64 0, .int .i64 0, .int .i64 0, .int .i64 0, .bool false, .slice none 0 0, .complex .f64 a0 b0, .complex .f64 a1 b1, .complex .f64 a2 b2, .complex .f64 a3 b3] 30)
  generalize ((w.alloc (Obj.cells #[.int .i64 5, .int .i64 pg, .int .i64 ob, .int .i64 tx, .int .i64 cp, .int .i64 ow, .bool wr, .slice none 0 0, .complex .f64 a0 b0, .complex .f64 a1 b1, .complex .f64 a2 b2, .complex .f64 a3 b3] 30)).alloc (Obj.cells #[.int .i64 0, .int .i64 0, .int .i64 0, .int .i64 0, .int .i64 0, .int .i64 0, .bool false, .slice none 0 0, .complex .f64 0 0, .complex .f64 0 0, .complex .f64 0 0, .complex .f64 0 0] 30)).alloc (Obj.cells #[.int .i64 5, .int .i64 0, .int .i64 0, .int .i64 0, .int .i64 0, .int .i64 0, .bool false, .slice none 0 0, .complex .f64 a0 b0, .complex .f64 a1 b1, .complex .f64 a2 b2, .complex .f64 a3 b3] 30) = W3 at *
  have HB := Lib.hid hb
  obtain ⟨x0, x1, x2, x3, x4, x5, x6, x7, x8, x9, x10, x11, xz⟩ := row12 h1
  obtain ⟨z0, z1, z2, z3, z4, z5, z6, z7, z8, z9, z10, z11, zz⟩ := row12 h3
  have H2 := Lib.hid h2
  have H3 := Lib.hid h3
  clear h1 h2 h3 hb
  have hn2 : w.heap.size + 1 + 1 ≠ w.heap.size := by omega
  have hn12 : w.heap.size + 1 ≠ w.heap.size + 1 + 1 := by omega
  have hlt1 : w.heap.size + 1 < W3.heap.size := lt_of_row (Nat.le_succ _) H3.out
  have hl2 : w.heap.size ≤ w.heap.size + 1 + 1 := by omega
  rw [show w.heap.size + 2 = w.heap.size + 1 + 1 from rfl] at *
  generalize w.heap.size + 1 + 1 = B2 at *
  go_region_held_law (fun W => W.cell? ⟨w.heap.size, 1, none⟩ = some (.int .i64 pg) ∧ W.cell? ⟨w.heap.size, 4, none⟩ = some (.int .i64 cp) ∧ W.cell? ⟨w.heap.size, 5, none⟩ = some (.int .i64 ow)) (go_keep) (fail)
  all_goals
    rename_i hh
    clear hh
    obtain ⟨W4, hw4⟩ : ∃ W4, W4 = (((W3.setCell ⟨B2, 1, none⟩ (.int .i64 pg)).setCell ⟨B2, 4, none⟩ (.int .i64 cp)).setCell ⟨B2, 5, none⟩ (.int .i64 ow)).drew := ⟨_, rfl⟩
    have hu : Upto (fun j => j = B2) W3 W4 := by rw [hw4]; exact ((((Upto.refl (fun j => j = B2) W3).setCell (p := ⟨B2, 1, none⟩) rfl _).setCell (p := ⟨B2, 4, none⟩) rfl _).setCell (p := ⟨B2, 5, none⟩) rfl _).drew
    have h4 : W4.heap[B2]? = some (.cells #[.int .i64 5, .int .i64 pg, .int .i64 0, .int .i64 0, .int .i64 cp, .int .i64 ow, .bool false, .slice none 0 0, .complex .f64 a0 b0, .complex .f64 a1 b1, .complex .f64 a2 b2, .complex .f64 a3 b3] 30 (0, 0)) := by
      rw [hw4, heapDrew]
      exact sets3_row H3.out _ _ _
    rw [← hw4]
    clear hw4 x0 x1 x2 x3 x4 x5 x6 x7 x8 x9 x10 x11 xz z0 z1 z2 z3 z4 z5 z6 z7 z8 z9 z10 z11 zz
    have h5 : W4.heap[w.heap.size + 1]? = some (.cells #[.int .i64 0, .int .i64 0, .int .i64 0, .int .i64 0, .int .i64 0, .int .i64 0, .bool false, .slice none 0 0, .complex .f64 0 0, .complex .f64 0 0, .complex .f64 0 0, .complex .f64 0 0] 30 (0, 0)) := (hu.block _ hlt1 (by omega)).trans H2.out
    have HB4 := Lib.hid (HB.out.trans (hu.below (B := w.heap.size) HB.out.size (fun k hk e => by omega)))
    obtain ⟨z0, z1, z2, z3, z4, z5, z6, z7, z8, z9, z10, z11, zz⟩ := row12 h4
    obtain ⟨x0, x1, x2, x3, x4, x5, x6, x7, x8, x9, x10, x11, xz⟩ := row12 h5
    have H5 := Lib.hid h5
    clear h4 h5 hu
    go_wp2_with fail
    obtain ⟨W5, hw5⟩ : ∃ W5, W5 = ((((((((((((W4.setCell ⟨w.heap.size + 1, 0, none⟩ (.int .i64 5)).setCell ⟨w.heap.size + 1, 1, none⟩ (.int .i64 pg)).setCell ⟨w.heap.size + 1, 2, none⟩ (.int .i64 0)).setCell ⟨w.heap.size + 1, 3, none⟩ (.int .i64 0)).setCell ⟨w.heap.size + 1, 4, none⟩ (.int .i64 cp)).setCell ⟨w.heap.size + 1, 5, none⟩ (.int .i64 ow)).setCell ⟨w.heap.size + 1, 6, none⟩ (.bool false)).setCell ⟨w.heap.size + 1, 7, none⟩ (.slice none 0 0)).setCell ⟨w.heap.size + 1, 8, none⟩ (.complex .f64 a0 b0)).setCell ⟨w.heap.size + 1, 9, none⟩ (.complex .f64 a1 b1)).setCell ⟨w.heap.size + 1, 10, none⟩ (.complex .f64 a2 b2)).setCell ⟨w.heap.size + 1, 11, none⟩ (.complex .f64 a3 b3)) := ⟨_, rfl⟩
    have hu : Upto (fun j => j = w.heap.size + 1) W4 W5 := by rw [hw5]; exact upto12 _ _ _ _ _ _ _ _ _ _ _ _ _ _
    have h6 := sets12_row H5.out (.int .i64 5) (.int .i64 pg) (.int .i64 0) (.int .i64 0) (.int .i64 cp) (.int .i64 ow) (.bool false) (.slice none 0 0) (.complex .f64 a0 b0) (.complex .f64 a1 b1) (.complex .f64 a2 b2) (.complex .f64 a3 b3)
    rw [← hw5] at h6 ⊢
    clear hw5 x0 x1 x2 x3 x4 x5 x6 x7 x8 x9 x10 x11 xz z0 z1 z2 z3 z4 z5 z6 z7 z8 z9 z10 z11 zz
    obtain ⟨x0, x1, x2, x3, x4, x5, x6, x7, x8, x9, x10, x11, xz⟩ := row12 h6
    clear h6
    refine bodyPost_ret (by simp [results, Try.results38, go_sem, x0, x1, x2, x3, x4, x5, x6, x7, x8, x9, x10, x11]; try rfl) rfl ?_
    exact ⟨rfl, HB4.out.trans (hu.below (B := w.heap.size) HB4.out.size (fun k hk e => by omega))⟩

set_option maxRecDepth 100000 in
set_option maxHeartbeats 8000000 in
theorem bare0_c (pg ob tx cp ow : Int) (wr : Bool) (a0 b0 a1 b1 a2 b2 a3 b3 : Nat) (w : World) : Calls Try.prog 38 #[.agg (msgC 0 pg ob tx cp ow wr a0 b0 a1 b1 a2 b2 a3 b3)] w fun e w' => e = .returned (.agg (msgC 0 pg ob 0 0 0 false 0 0 0 0 0 0 0 0)) ∧ Below w.heap.size w w' := by
  unfold msgC
  go_enter Try.func38, Try.ntmps38
  go_wp2_with fail
  obtain ⟨h1, h2, h3⟩ := heap3 w (Obj.cells #[.int .i64 0, .int .i64 pg, .int .i64 ob, .int .i64 tx, .int .i64 cp, .int .i64 ow, .bool wr, .slice none 0 0, .complex .f64 a0 b0, .complex .f64 a1 b1, .complex .f64 a2 b2, .complex .f64 a3 b3] 30) (Obj.cells #[.int .i64 0, .int .i64 0, .int .i64 0, .int .i64 0, .int .i64 0, .int .i64 0, .bool false, .slice none 0 0, .complex .f64 0 0, .complex .f64 0 0, .complex .f64 0 0, .complex .f64 0 0] 30) (Obj.cells #[.int .i64 0, .int .i64 0, .int .i64 0, .int .i64 0, .int .i64 0, .int .i64 0, .bool false, .slice none 0 0, .complex .f64 0 0, .complex .f64 0 0, .complex .f64 0 0, .complex .f64 0 0] 30)
  have hb := below3 w (Obj.cells #[.int .i64 0, .int .i64 pg, .int .i64 ob, .int .i64 tx, .int .i64 cp, .int .i64 ow, .bool wr, .slice none 0 0, .complex .f64 a0 b0, .complex .f64 a1 b1, .complex .f64 a2 b2, .complex .f64 a3 b3] 30) (Obj.cells #[.int .i64 0, .int .i64 0, .int .i64 0, .int .i64 0, .int .i64 0, .int .i64 0, .bool false, .slice none 0 0, .complex .f64 0 0, .complex .f64 0 0, .complex .f64 0 0, .complex .f64 0 0] 30) (Obj.cells #[.int .i64 0, .int .i64 0, .int .i64 0, .int .i64 0, .int .i64 0, .int .i64 0, .bool false, .slice none 0 0, .complex .f64 0 0, .complex .f64 0 0, .complex .f64 0 0, .complex .f64 0 0] 30)
  generalize ((w.alloc (Obj.cells #[.int .i64 0, .int .i64 pg, .int .i64 ob, .int .i64 tx, .int .i64 cp, .int .i64 ow, .bool wr, .slice none 0 0, .complex .f64 a0 b0, .complex .f64 a1 b1, .complex .f64 a2 b2, .complex .f64 a3 b3] 30)).alloc (Obj.cells #[.int .i64 0, .int .i64 0, .int .i64 0, .int .i64 0, .int .i64 0, .int .i64 0, .bool false, .slice none 0 0, .complex .f64 0 0, .complex .f64 0 0, .complex .f64 0 0, .complex .f64 0 0] 30)).alloc (Obj.cells #[.int .i64 0, .int .i64 0, .int .i64 0, .int .i64 0, .int .i64 0, .int .i64 0, .bool false, .slice none 0 0, .complex .f64 0 0, .complex .f64 0 0, .complex .f64 0 0, .complex .f64 0 0] 30) = W3 at *
  have HB := Lib.hid hb
  obtain ⟨x0, x1, x2, x3, x4, x5, x6, x7, x8, x9, x10, x11, xz⟩ := row12 h1
  obtain ⟨z0, z1, z2, z3, z4, z5, z6, z7, z8, z9, z10, z11, zz⟩ := row12 h3
  have H2 := Lib.hid h2
  have H3 := Lib.hid h3
  clear h1 h2 h3 hb
  have hn2 : w.heap.size + 1 + 1 ≠ w.heap.size := by omega
  have hn12 : w.heap.size + 1 ≠ w.heap.size + 1 + 1 := by omega
  have hlt1 : w.heap.size + 1 < W3.heap.size := lt_of_row (Nat.le_succ _) H3.out
  have hl2 : w.heap.size ≤ w.heap.size + 1 + 1 := by omega
  rw [show w.heap.size + 2 = w.heap.size + 1 + 1 from rfl] at *
  generalize w.heap.size + 1 + 1 = B2 at *
  go_region_held_law (fun W => W.cell? ⟨w.heap.size, 1, none⟩ = some (.int .i64 pg) ∧ W.cell? ⟨w.heap.size, 2, none⟩ = some (.int .i64 ob)) (go_keep) (fail)
  all_goals
    rename_i hh
    clear hh
    obtain ⟨W4, hw4⟩ : ∃ W4, W4 = ((W3.setCell ⟨B2, 1, none⟩ (.int .i64 pg)).setCell ⟨B2, 2, none⟩ (.int .i64 ob)).drew := ⟨_, rfl⟩
    have hu : Upto (fun j => j = B2) W3 W4 := by rw [hw4]; exact (((Upto.refl (fun j => j = B2) W3).setCell (p := ⟨B2, 1, none⟩) rfl _).setCell (p := ⟨B2, 2, none⟩) rfl _).drew
    have h4 : W4.heap[B2]? = some (.cells #[.int .i64 0, .int .i64 pg, .int .i64 ob, .int .i64 0, .int .i64 0, .int .i64 0, .bool false, .slice none 0 0, .complex .f64 0 0, .complex .f64 0 0, .complex .f64 0 0, .complex .f64 0 0] 30 (0, 0)) := by
      rw [hw4, heapDrew]
      exact sets2_row H3.out _ _
    rw [← hw4]
    clear hw4 x0 x1 x2 x3 x4 x5 x6 x7 x8 x9 x10 x11 xz z0 z1 z2 z3 z4 z5 z6 z7 z8 z9 z10 z11 zz
    have h5 : W4.heap[w.heap.size + 1]? = some (.cells #[.int .i64 0, .int .i64 0, .int .i64 0, .int .i64 0, .int .i64 0, .int .i64 0, .bool false, .slice none 0 0, .complex .f64 0 0, .complex .f64 0 0, .complex .f64 0 0, .complex .f64 0 0] 30 (0, 0)) := (hu.block _ hlt1 (by omega)).trans H2.out
    have HB4 := Lib.hid (HB.out.trans (hu.below (B := w.heap.size) HB.out.size (fun k hk e => by omega)))
    obtain ⟨z0, z1, z2, z3, z4, z5, z6, z7, z8, z9, z10, z11, zz⟩ := row12 h4
    obtain ⟨x0, x1, x2, x3, x4, x5, x6, x7, x8, x9, x10, x11, xz⟩ := row12 h5
    have H5 := Lib.hid h5
    clear h4 h5 hu
    go_wp2_with fail
    obtain ⟨W5, hw5⟩ : ∃ W5, W5 = ((((((((((((W4.setCell ⟨w.heap.size + 1, 0, none⟩ (.int .i64 0)).setCell ⟨w.heap.size + 1, 1, none⟩ (.int .i64 pg)).setCell ⟨w.heap.size + 1, 2, none⟩ (.int .i64 ob)).setCell ⟨w.heap.size + 1, 3, none⟩ (.int .i64 0)).setCell ⟨w.heap.size + 1, 4, none⟩ (.int .i64 0)).setCell ⟨w.heap.size + 1, 5, none⟩ (.int .i64 0)).setCell ⟨w.heap.size + 1, 6, none⟩ (.bool false)).setCell ⟨w.heap.size + 1, 7, none⟩ (.slice none 0 0)).setCell ⟨w.heap.size + 1, 8, none⟩ (.complex .f64 0 0)).setCell ⟨w.heap.size + 1, 9, none⟩ (.complex .f64 0 0)).setCell ⟨w.heap.size + 1, 10, none⟩ (.complex .f64 0 0)).setCell ⟨w.heap.size + 1, 11, none⟩ (.complex .f64 0 0)) := ⟨_, rfl⟩
    have hu : Upto (fun j => j = w.heap.size + 1) W4 W5 := by rw [hw5]; exact upto12 _ _ _ _ _ _ _ _ _ _ _ _ _ _
    have h6 := sets12_row H5.out (.int .i64 0) (.int .i64 pg) (.int .i64 ob) (.int .i64 0) (.int .i64 0) (.int .i64 0) (.bool false) (.slice none 0 0) (.complex .f64 0 0) (.complex .f64 0 0) (.complex .f64 0 0) (.complex .f64 0 0)
    rw [← hw5] at h6 ⊢
    clear hw5 x0 x1 x2 x3 x4 x5 x6 x7 x8 x9 x10 x11 xz z0 z1 z2 z3 z4 z5 z6 z7 z8 z9 z10 z11 zz
    obtain ⟨x0, x1, x2, x3, x4, x5, x6, x7, x8, x9, x10, x11, xz⟩ := row12 h6
    clear h6
    refine bodyPost_ret (by simp [results, Try.results38, go_sem, x0, x1, x2, x3, x4, x5, x6, x7, x8, x9, x10, x11]; try rfl) rfl ?_
    exact ⟨rfl, HB4.out.trans (hu.below (B := w.heap.size) HB4.out.size (fun k hk e => by omega))⟩

end Go.Proofs.Ytbhjdapkhcgmlaa

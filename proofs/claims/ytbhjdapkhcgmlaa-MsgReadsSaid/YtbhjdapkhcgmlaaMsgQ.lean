import Derived.Test.YtbhjdapkhcgmlaaMsgO
import Derived.Handy
import Derived.Deep.Cut

set_option linter.unusedSimpArgs false
set_option linter.unusedVariables false
set_option linter.unnecessarySimpa false

namespace Go.Proofs.Ytbhjdapkhcgmlaa
open Go.RowKit

attribute [local go_sem] run_store_complex

/-! msg.bare of any message, by kind. -/

set_option maxRecDepth 100000 in
set_option maxHeartbeats 8000000 in
theorem bare7_g (pg ob tx cp ow : Int) (wr : Bool) (A : Option Addr) (n c : Nat) (a0 b0 a1 b1 a2 b2 a3 b3 : Nat) (w : World) : Calls Try.prog 38 #[.agg #[.int .i64 7, .int .i64 pg, .int .i64 ob, .int .i64 tx, .int .i64 cp, .int .i64 ow, .bool wr, .slice A n c, .complex .f64 a0 b0, .complex .f64 a1 b1, .complex .f64 a2 b2, .complex .f64 a3 b3]] w fun e w' => e = .returned (.agg #[.int .i64 7, .int .i64 0, .int .i64 0, .int .i64 tx, .int .i64 0, .int .i64 0, .bool false, .slice none 0 0, .complex .f64 0 0, .complex .f64 0 0, .complex .f64 0 0, .complex .f64 0 0]) ∧ Below w.heap.size w w' := by
  go_enter Try.func38, Try.ntmps38
  go_wp2_with fail
  obtain ⟨h1, h2, h3⟩ := heap3 w (Obj.cells #[.int .i64 7, .int .i64 pg, .int .i64 ob, .int .i64 tx, .int .i64 cp, .int .i64 ow, .bool wr, .slice A n c, .complex .f64 a0 b0, .complex .f64 a1 b1, .complex .f64 a2 b2, .complex .f64 a3 b3] 30) (Obj.cells #[.int .i64 7, .int .i64 0, .int .i64 0, .int .i64 tx, .int .i64 0, .int .i64 0, .bool false, .slice none 0 0, .complex .f64 0 0, .complex .f64 0 0, .complex .f64 0 0, .complex .f64 0 0] 30) (Obj.cells #[.int .i64 7, .int .i64 0, .int .i64 0, .int .i64 tx, .int .i64 0, .int .i64 0, .bool false, .slice none 0 0, .complex .f64 0 0, .complex .f64 0 0, .complex .f64 0 0, .complex .f64 0 0] 30)
  have hb := below3 w (Obj.cells #[.int .i64 7, .int .i64 pg, .int .i64 ob, .int .i64 tx, .int .i64 cp, .int .i64 ow, .bool wr, .slice A n c, .complex .f64 a0 b0, .complex .f64 a1 b1, .complex .f64 a2 b2, .complex .f64 a3 b3] 30) (Obj.cells #[.int .i64 7, .int .i64 0, .int .i64 0, .int .i64 tx, .int .i64 0, .int .i64 0, .bool false, .slice none 0 0, .complex .f64 0 0, .complex .f64 0 0, .complex .f64 0 0, .complex .f64 0 0] 30) (Obj.cells #[.int .i64 7, .int .i64 0, .int .i64 0, .int .i64 tx, .int .i64 0, .int .i64 0, .bool false, .slice none 0 0, .complex .f64 0 0, .complex .f64 0 0, .complex .f64 0 0, .complex .f64 0 0] 30)
  generalize ((w.alloc (Obj.cells #[.int .i64 7, .int .i64 pg, .int .i64 ob, .int .i64 tx, .int .i64 cp, .int .i64 ow, .bool wr, .slice A n c, .complex .f64 a0 b0, .complex .f64 a1 b1, .complex .f64 a2 b2, .complex .f64 a3 b3] 30)).alloc (Obj.cells #[.int .i64 7, .int .i64 0, .int .i64 0, .int .i64 tx, .int .i64 0, .int .i64 0, .bool false, .slice none 0 0, .complex .f64 0 0, .complex .f64 0 0, .complex .f64 0 0, .complex .f64 0 0] 30)).alloc (Obj.cells #[.int .i64 7, .int .i64 0, .int .i64 0, .int .i64 tx, .int .i64 0, .int .i64 0, .bool false, .slice none 0 0, .complex .f64 0 0, .complex .f64 0 0, .complex .f64 0 0, .complex .f64 0 0] 30) = W3 at *
  obtain ⟨x0, x1, x2, x3, x4, x5, x6, x7, x8, x9, x10, x11, xz⟩ := row12 h2
  clear h1 h2 h3
  refine bodyPost_ret (by simp [results, Try.results38, go_sem, x0, x1, x2, x3, x4, x5, x6, x7, x8, x9, x10, x11]; try rfl) rfl ?_
  exact ⟨rfl, hb⟩

set_option maxRecDepth 100000 in
set_option maxHeartbeats 8000000 in
theorem bare8_g (pg ob tx cp ow : Int) (wr : Bool) (A : Option Addr) (n c : Nat) (a0 b0 a1 b1 a2 b2 a3 b3 : Nat) (w : World) : Calls Try.prog 38 #[.agg #[.int .i64 8, .int .i64 pg, .int .i64 ob, .int .i64 tx, .int .i64 cp, .int .i64 ow, .bool wr, .slice A n c, .complex .f64 a0 b0, .complex .f64 a1 b1, .complex .f64 a2 b2, .complex .f64 a3 b3]] w fun e w' => e = .returned (.agg #[.int .i64 8, .int .i64 0, .int .i64 0, .int .i64 tx, .int .i64 cp, .int .i64 0, .bool false, .slice none 0 0, .complex .f64 0 0, .complex .f64 0 0, .complex .f64 0 0, .complex .f64 0 0]) ∧ Below w.heap.size w w' := by
  go_enter Try.func38, Try.ntmps38
  go_wp2_with fail
  obtain ⟨h1, h2, h3⟩ := heap3 w (Obj.cells #[.int .i64 8, .int .i64 pg, .int .i64 ob, .int .i64 tx, .int .i64 cp, .int .i64 ow, .bool wr, .slice A n c, .complex .f64 a0 b0, .complex .f64 a1 b1, .complex .f64 a2 b2, .complex .f64 a3 b3] 30) (Obj.cells #[.int .i64 8, .int .i64 0, .int .i64 0, .int .i64 tx, .int .i64 cp, .int .i64 0, .bool false, .slice none 0 0, .complex .f64 0 0, .complex .f64 0 0, .complex .f64 0 0, .complex .f64 0 0] 30) (Obj.cells #[.int .i64 8, .int .i64 0, .int .i64 0, .int .i64 tx, .int .i64 cp, .int .i64 0, .bool false, .slice none 0 0, .complex .f64 0 0, .complex .f64 0 0, .complex .f64 0 0, .complex .f64 0 0] 30)
  have hb := below3 w (Obj.cells #[.int .i64 8, .int .i64 pg, .int .i64 ob, .int .i64 tx, .int .i64 cp, .int .i64 ow, .bool wr, .slice A n c, .complex .f64 a0 b0, .complex .f64 a1 b1, .complex .f64 a2 b2, .complex .f64 a3 b3] 30) (Obj.cells #[.int .i64 8, .int .i64 0, .int .i64 0, .int .i64 tx, .int .i64 cp, .int .i64 0, .bool false, .slice none 0 0, .complex .f64 0 0, .complex .f64 0 0, .complex .f64 0 0, .complex .f64 0 0] 30) (Obj.cells #[.int .i64 8, .int .i64 0, .int .i64 0, .int .i64 tx, .int .i64 cp, .int .i64 0, .bool false, .slice none 0 0, .complex .f64 0 0, .complex .f64 0 0, .complex .f64 0 0, .complex .f64 0 0] 30)
  generalize ((w.alloc (Obj.cells #[.int .i64 8, .int .i64 pg, .int .i64 ob, .int .i64 tx, .int .i64 cp, .int .i64 ow, .bool wr, .slice A n c, .complex .f64 a0 b0, .complex .f64 a1 b1, .complex .f64 a2 b2, .complex .f64 a3 b3] 30)).alloc (Obj.cells #[.int .i64 8, .int .i64 0, .int .i64 0, .int .i64 tx, .int .i64 cp, .int .i64 0, .bool false, .slice none 0 0, .complex .f64 0 0, .complex .f64 0 0, .complex .f64 0 0, .complex .f64 0 0] 30)).alloc (Obj.cells #[.int .i64 8, .int .i64 0, .int .i64 0, .int .i64 tx, .int .i64 cp, .int .i64 0, .bool false, .slice none 0 0, .complex .f64 0 0, .complex .f64 0 0, .complex .f64 0 0, .complex .f64 0 0] 30) = W3 at *
  obtain ⟨x0, x1, x2, x3, x4, x5, x6, x7, x8, x9, x10, x11, xz⟩ := row12 h2
  clear h1 h2 h3
  refine bodyPost_ret (by simp [results, Try.results38, go_sem, x0, x1, x2, x3, x4, x5, x6, x7, x8, x9, x10, x11]; try rfl) rfl ?_
  exact ⟨rfl, hb⟩

set_option maxRecDepth 100000 in
set_option maxHeartbeats 8000000 in
theorem bare0_g (pg ob tx cp ow : Int) (wr : Bool) (A : Option Addr) (n c : Nat) (a0 b0 a1 b1 a2 b2 a3 b3 : Nat) (w : World) : Calls Try.prog 38 #[.agg #[.int .i64 0, .int .i64 pg, .int .i64 ob, .int .i64 tx, .int .i64 cp, .int .i64 ow, .bool wr, .slice A n c, .complex .f64 a0 b0, .complex .f64 a1 b1, .complex .f64 a2 b2, .complex .f64 a3 b3]] w fun e w' => e = .returned (.agg #[.int .i64 0, .int .i64 pg, .int .i64 ob, .int .i64 0, .int .i64 0, .int .i64 0, .bool false, .slice none 0 0, .complex .f64 0 0, .complex .f64 0 0, .complex .f64 0 0, .complex .f64 0 0]) ∧ Below w.heap.size w w' := by
  go_enter Try.func38, Try.ntmps38
  go_wp2_with fail
  obtain ⟨h1, h2, h3⟩ := heap3 w (Obj.cells #[.int .i64 0, .int .i64 pg, .int .i64 ob, .int .i64 tx, .int .i64 cp, .int .i64 ow, .bool wr, .slice A n c, .complex .f64 a0 b0, .complex .f64 a1 b1, .complex .f64 a2 b2, .complex .f64 a3 b3] 30) (Obj.cells #[.int .i64 0, .int .i64 0, .int .i64 0, .int .i64 0, .int .i64 0, .int .i64 0, .bool false, .slice none 0 0, .complex .f64 0 0, .complex .f64 0 0, .complex .f64 0 0, .complex .f64 0 0] 30) (Obj.cells #[.int .i64 0, .int .i64 0, .int .i64 0, .int .i64 0, .int .i64 0, .int .i64 0, .bool false, .slice none 0 0, .complex .f64 0 0, .complex .f64 0 0, .complex .f64 0 0, .complex .f64 0 0] 30)
  have hb := below3 w (Obj.cells #[.int .i64 0, .int .i64 pg, .int .i64 ob, .int .i64 tx, .int .i64 cp, .int .i64 ow, .bool wr, .slice A n c, .complex .f64 a0 b0, .complex .f64 a1 b1, .complex .f64 a2 b2, .complex .f64 a3 b3] 30) (Obj.cells #[.int .i64 0, .int .i64 0, .int .i64 0, .int .i64 0, .int .i64 0, .int .i64 0, .bool false, .slice none 0 0, .complex .f64 0 0, .complex .f64 0 0, .complex .f64 0 0, .complex .f64 0 0] 30) (Obj.cells #[.int .i64 0, .int .i64 0, .int .i64 0, .int .i64 0, .int .i64 0, .int .i64 0, .bool false, .slice none 0 0, .complex .f64 0 0, .complex .f64 0 0, .complex .f64 0 0, .complex .f64 0 0] 30)
  generalize ((w.alloc (Obj.cells #[.int .i64 0, .int .i64 pg, .int .i64 ob, .int .i64 tx, .int .i64 cp, .int .i64 ow, .bool wr, .slice A n c, .complex .f64 a0 b0, .complex .f64 a1 b1, .complex .f64 a2 b2, .complex .f64 a3 b3] 30)).alloc (Obj.cells #[.int .i64 0, .int .i64 0, .int .i64 0, .int .i64 0, .int .i64 0, .int .i64 0, .bool false, .slice none 0 0, .complex .f64 0 0, .complex .f64 0 0, .complex .f64 0 0, .complex .f64 0 0] 30)).alloc (Obj.cells #[.int .i64 0, .int .i64 0, .int .i64 0, .int .i64 0, .int .i64 0, .int .i64 0, .bool false, .slice none 0 0, .complex .f64 0 0, .complex .f64 0 0, .complex .f64 0 0, .complex .f64 0 0] 30) = W3 at *
  have HB := Lib.hid hb
  obtain ⟨x0, x1, x2, x3, x4, x5, x6, x7, x8, x9, x10, x11, xz⟩ := row12 h1
  obtain ⟨z0, z1, z2, z3, z4, z5, z6, z7, z8, z9, z10, z11, zz⟩ := row12 h3
  have H2 := Lib.hid h2
  have H3 := Lib.hid h3
  clear h1 h2 h3 hb
  have hn2 : w.heap.size + 1 + 1 ≠ w.heap.size := by omega
  have hn12 : w.heap.size + 1 ≠ w.heap.size + 1 + 1 := by omega
  have hlt1 : w.heap.size + 1 < W3.heap.size := lt_of_row (Nat.le_succ _) H3.out
  have hl2 : w.heap.size ≤ w.heap.size + 1 + 1 := by omega
  rw [show w.heap.size + 2 = w.heap.size + 1 + 1 from rfl] at *
  generalize w.heap.size + 1 + 1 = B2 at *
  go_region_held_law (fun W => W.cell? ⟨w.heap.size, 1, none⟩ = some (.int .i64 pg) ∧ W.cell? ⟨w.heap.size, 2, none⟩ = some (.int .i64 ob)) (go_keep) (fail)
  all_goals
    rename_i hh
    clear hh
    obtain ⟨W4, hw4⟩ : ∃ W4, W4 = ((W3.setCell ⟨B2, 1, none⟩ (.int .i64 pg)).setCell ⟨B2, 2, none⟩ (.int .i64 ob)).drew := ⟨_, rfl⟩
    have hu : Upto (fun j => j = B2) W3 W4 := by rw [hw4]; exact (((Upto.refl (fun j => j = B2) W3).setCell (p := ⟨B2, 1, none⟩) rfl _).setCell (p := ⟨B2, 2, none⟩) rfl _).drew
    have h4 : W4.heap[B2]? = some (.cells #[.int .i64 0, .int .i64 pg, .int .i64 ob, .int .i64 0, .int .i64 0, .int .i64 0, .bool false, .slice none 0 0, .complex .f64 0 0, .complex .f64 0 0, .complex .f64 0 0, .complex .f64 0 0] 30 (0, 0)) := by
      rw [hw4, heapDrew]
      have := (row_set (row_set H3.out 1 (.int .i64 pg)) 2 (.int .i64 ob))
      simpa using this
    rw [← hw4]
    clear hw4 x0 x1 x2 x3 x4 x5 x6 x7 x8 x9 x10 x11 xz z0 z1 z2 z3 z4 z5 z6 z7 z8 z9 z10 z11 zz
    have h5 : W4.heap[w.heap.size + 1]? = some (.cells #[.int .i64 0, .int .i64 0, .int .i64 0, .int .i64 0, .int .i64 0, .int .i64 0, .bool false, .slice none 0 0, .complex .f64 0 0, .complex .f64 0 0, .complex .f64 0 0, .complex .f64 0 0] 30 (0, 0)) := (hu.block _ hlt1 (by omega)).trans H2.out
    have HB4 := Lib.hid (HB.out.trans (hu.below (B := w.heap.size) HB.out.size (fun k hk e => by omega)))
    obtain ⟨z0, z1, z2, z3, z4, z5, z6, z7, z8, z9, z10, z11, zz⟩ := row12 h4
    obtain ⟨x0, x1, x2, x3, x4, x5, x6, x7, x8, x9, x10, x11, xz⟩ := row12 h5
    have H5 := Lib.hid h5
    clear h4 h5 hu
    go_wp2_with fail
    obtain ⟨W5, hw5⟩ : ∃ W5, W5 = ((((((((((((W4.setCell ⟨w.heap.size + 1, 0, none⟩ (.int .i64 0)).setCell ⟨w.heap.size + 1, 1, none⟩ (.int .i64 pg)).setCell ⟨w.heap.size + 1, 2, none⟩ (.int .i64 ob)).setCell ⟨w.heap.size + 1, 3, none⟩ (.int .i64 0)).setCell ⟨w.heap.size + 1, 4, none⟩ (.int .i64 0)).setCell ⟨w.heap.size + 1, 5, none⟩ (.int .i64 0)).setCell ⟨w.heap.size + 1, 6, none⟩ (.bool false)).setCell ⟨w.heap.size + 1, 7, none⟩ (.slice none 0 0)).setCell ⟨w.heap.size + 1, 8, none⟩ (.complex .f64 0 0)).setCell ⟨w.heap.size + 1, 9, none⟩ (.complex .f64 0 0)).setCell ⟨w.heap.size + 1, 10, none⟩ (.complex .f64 0 0)).setCell ⟨w.heap.size + 1, 11, none⟩ (.complex .f64 0 0)) := ⟨_, rfl⟩
    have hu : Upto (fun j => j = w.heap.size + 1) W4 W5 := by rw [hw5]; exact upto12 _ _ _ _ _ _ _ _ _ _ _ _ _ _
    have h6 := sets12_row H5.out (.int .i64 0) (.int .i64 pg) (.int .i64 ob) (.int .i64 0) (.int .i64 0) (.int .i64 0) (.bool false) (.slice none 0 0) (.complex .f64 0 0) (.complex .f64 0 0) (.complex .f64 0 0) (.complex .f64 0 0)
    rw [← hw5] at h6 ⊢
    clear hw5 x0 x1 x2 x3 x4 x5 x6 x7 x8 x9 x10 x11 xz z0 z1 z2 z3 z4 z5 z6 z7 z8 z9 z10 z11 zz
    obtain ⟨x0, x1, x2, x3, x4, x5, x6, x7, x8, x9, x10, x11, xz⟩ := row12 h6
    clear h6
    refine bodyPost_ret (by simp [results, Try.results38, go_sem, x0, x1, x2, x3, x4, x5, x6, x7, x8, x9, x10, x11]; try rfl) rfl ?_
    exact ⟨rfl, HB4.out.trans (hu.below (B := w.heap.size) HB4.out.size (fun k hk e => by omega))⟩

set_option maxRecDepth 100000 in
set_option maxHeartbeats 8000000 in
theorem bare1_g (pg ob tx cp ow : Int) (wr : Bool) (A : Option Addr) (n c : Nat) (a0 b0 a1 b1 a2 b2 a3 b3 : Nat) (w : World) : Calls Try.prog 38 #[.agg #[.int .i64 1, .int .i64 pg, .int .i64 ob, .int .i64 tx, .int .i64 cp, .int .i64 ow, .bool wr, .slice A n c, .complex .f64 a0 b0, .complex .f64 a1 b1, .complex .f64 a2 b2, .complex .f64 a3 b3]] w fun e w' => e = .returned (.agg #[.int .i64 1, .int .i64 pg, .int .i64 ob, .int .i64 0, .int .i64 0, .int .i64 0, .bool false, .slice none 0 0, .complex .f64 0 0, .complex .f64 0 0, .complex .f64 0 0, .complex .f64 0 0]) ∧ Below w.heap.size w w' := by
  go_enter Try.func38, Try.ntmps38
  go_wp2_with fail
  obtain ⟨h1, h2, h3⟩ := heap3 w (Obj.cells #[.int .i64 1, .int .i64 pg, .int .i64 ob, .int .i64 tx, .int .i64 cp, .int .i64 ow, .bool wr, .slice A n c, .complex .f64 a0 b0, .complex .f64 a1 b1, .complex .f64 a2 b2, .complex .f64 a3 b3] 30) (Obj.cells #[.int .i64 0, .int .i64 0, .int .i64 0, .int .i64 0, .int .i64 0, .int .i64 0, .bool false, .slice none 0 0, .complex .f64 0 0, .complex .f64 0 0, .complex .f64 0 0, .complex .f64 0 0] 30) (Obj.cells #[.int .i64 1, .int .i64 0, .int .i64 0, .int .i64 0, .int .i64 0, .int .i64 0, .bool false, .slice none 0 0, .complex .f64 0 0, .complex .f64 0 0, .complex .f64 0 0, .complex .f64 0 0] 30)
  have hb := below3 w (Obj.cells #[.int .i64 1, .int .i64 pg, .int .i64 ob, .int .i64 tx, .int .i64 cp, .int .i64 ow, .bool wr, .slice A n c, .complex .f64 a0 b0, .complex .f64 a1 b1, .complex .f64 a2 b2, .complex .f64 a3 b3] 30) (Obj.cells #[.int .i64 0, .int .i64 0, .int .i64 0, .int .i64 0, .int .i64 0, .int .i64 0, .bool false, .slice none 0 0, .complex .f64 0 0, .complex .f64 0 0, .complex .f64 0 0, .complex .f64 0 0] 30) (Obj.cells #[.int .i64 1, .int .i64 0, .int .i64 0, .int .i64 0, .int .i64 0, .int .i64 0, .bool false, .slice none 0 0, .complex .f64 0 0, .complex .f64 0 0, .complex .f64 0 0, .complex .f64 0 0] 30)
  generalize ((w.alloc (Obj.cells #[.int .i64 1, .int .i64 pg, .int .i64 ob, .int .i64 tx, .int .i64 cp, .int .i64 ow, .bool wr, .slice A n c, .complex .f64 a0 b0, .complex .f64 a1 b1, .complex .f64 a2 b2, .complex .f64 a3 b3] 30)).alloc (Obj.cells #[.int .i64 0, .int .i64 0, .int .i64 0, .int .i64 0, .int .i64 0, .int .i64 0, .bool false, .slice none 0 0, .complex .f64 0 0, .complex .f64 0 0, .complex .f64 0 0, .complex .f64 0 0] 30)).alloc (Obj.cells #[.int .i64 1, .int .i64 0, .int .i64 0, .int .i64 0, .int .i64 0, .int .i64 0, .bool false, .slice none 0 0, .complex .f64 0 0, .complex .f64 0 0, .complex .f64 0 0, .complex .f64 0 0] 30) = W3 at *
  have HB := Lib.hid hb
  obtain ⟨x0, x1, x2, x3, x4, x5, x6, x7, x8, x9, x10, x11, xz⟩ := row12 h1
  obtain ⟨z0, z1, z2, z3, z4, z5, z6, z7, z8, z9, z10, z11, zz⟩ := row12 h3
  have H2 := Lib.hid h2
  have H3 := Lib.hid h3
  clear h1 h2 h3 hb
  have hn2 : w.heap.size + 1 + 1 ≠ w.heap.size := by omega
  have hn12 : w.heap.size + 1 ≠ w.heap.size + 1 + 1 := by omega
  have hlt1 : w.heap.size + 1 < W3.heap.size := lt_of_row (Nat.le_succ _) H3.out
  have hl2 : w.heap.size ≤ w.heap.size + 1 + 1 := by omega
  rw [show w.heap.size + 2 = w.heap.size + 1 + 1 from rfl] at *
  generalize w.heap.size + 1 + 1 = B2 at *
  go_region_held_law (fun W => W.cell? ⟨w.heap.size, 1, none⟩ = some (.int .i64 pg) ∧ W.cell? ⟨w.heap.size, 2, none⟩ = some (.int .i64 ob)) (go_keep) (fail)
  all_goals
    rename_i hh
    clear hh
    obtain ⟨W4, hw4⟩ : ∃ W4, W4 = ((W3.setCell ⟨B2, 1, none⟩ (.int .i64 pg)).setCell ⟨B2, 2, none⟩ (.int .i64 ob)).drew := ⟨_, rfl⟩
    have hu : Upto (fun j => j = B2) W3 W4 := by rw [hw4]; exact (((Upto.refl (fun j => j = B2) W3).setCell (p := ⟨B2, 1, none⟩) rfl _).setCell (p := ⟨B2, 2, none⟩) rfl _).drew
    have h4 : W4.heap[B2]? = some (.cells #[.int .i64 1, .int .i64 pg, .int .i64 ob, .int .i64 0, .int .i64 0, .int .i64 0, .bool false, .slice none 0 0, .complex .f64 0 0, .complex .f64 0 0, .complex .f64 0 0, .complex .f64 0 0] 30 (0, 0)) := by
      rw [hw4, heapDrew]
      have := (row_set (row_set H3.out 1 (.int .i64 pg)) 2 (.int .i64 ob))
      simpa using this
    rw [← hw4]
    clear hw4 x0 x1 x2 x3 x4 x5 x6 x7 x8 x9 x10 x11 xz z0 z1 z2 z3 z4 z5 z6 z7 z8 z9 z10 z11 zz
    have h5 : W4.heap[w.heap.size + 1]? = some (.cells #[.int .i64 0, .int .i64 0, .int .i64 0, .int .i64 0, .int .i64 0, .int .i64 0, .bool false, .slice none 0 0, .complex .f64 0 0, .complex .f64 0 0, .complex .f64 0 0, .complex .f64 0 0] 30 (0, 0)) := (hu.block _ hlt1 (by omega)).trans H2.out
    have HB4 := Lib.hid (HB.out.trans (hu.below (B := w.heap.size) HB.out.size (fun k hk e => by omega)))
    obtain ⟨z0, z1, z2, z3, z4, z5, z6, z7, z8, z9, z10, z11, zz⟩ := row12 h4
    obtain ⟨x0, x1, x2, x3, x4, x5, x6, x7, x8, x9, x10, x11, xz⟩ := row12 h5
    have H5 := Lib.hid h5
    clear h4 h5 hu
    go_wp2_with fail
    obtain ⟨W5, hw5⟩ : ∃ W5, W5 = ((((((((((((W4.setCell ⟨w.heap.size + 1, 0, none⟩ (.int .i64 1)).setCell ⟨w.heap.size + 1, 1, none⟩ (.int .i64 pg)).setCell ⟨w.heap.size + 1, 2, none⟩ (.int .i64 ob)).setCell ⟨w.heap.size + 1, 3, none⟩ (.int .i64 0)).setCell ⟨w.heap.size + 1, 4, none⟩ (.int .i64 0)).setCell ⟨w.heap.size + 1, 5, none⟩ (.int .i64 0)).setCell ⟨w.heap.size + 1, 6, none⟩ (.bool false)).setCell ⟨w.heap.size + 1, 7, none⟩ (.slice none 0 0)).setCell ⟨w.heap.size + 1, 8, none⟩ (.complex .f64 0 0)).setCell ⟨w.heap.size + 1, 9, none⟩ (.complex .f64 0 0)).setCell ⟨w.heap.size + 1, 10, none⟩ (.complex .f64 0 0)).setCell ⟨w.heap.size + 1, 11, none⟩ (.complex .f64 0 0)) := ⟨_, rfl⟩
    have hu : Upto (fun j => j = w.heap.size + 1) W4 W5 := by rw [hw5]; exact upto12 _ _ _ _ _ _ _ _ _ _ _ _ _ _
    have h6 := sets12_row H5.out (.int .i64 1) (.int .i64 pg) (.int .i64 ob) (.int .i64 0) (.int .i64 0) (.int .i64 0) (.bool false) (.slice none 0 0) (.complex .f64 0 0) (.complex .f64 0 0) (.complex .f64 0 0) (.complex .f64 0 0)
    rw [← hw5] at h6 ⊢
    clear hw5 x0 x1 x2 x3 x4 x5 x6 x7 x8 x9 x10 x11 xz z0 z1 z2 z3 z4 z5 z6 z7 z8 z9 z10 z11 zz
    obtain ⟨x0, x1, x2, x3, x4, x5, x6, x7, x8, x9, x10, x11, xz⟩ := row12 h6
    clear h6
    refine bodyPost_ret (by simp [results, Try.results38, go_sem, x0, x1, x2, x3, x4, x5, x6, x7, x8, x9, x10, x11]; try rfl) rfl ?_
    exact ⟨rfl, HB4.out.trans (hu.below (B := w.heap.size) HB4.out.size (fun k hk e => by omega))⟩

set_option maxRecDepth 100000 in
set_option maxHeartbeats 8000000 in
theorem bare2_g (pg ob tx cp ow : Int) (wr : Bool) (A : Option Addr) (n c : Nat) (a0 b0 a1 b1 a2 b2 a3 b3 : Nat) (w : World) : Calls Try.prog 38 #[.agg #[.int .i64 2, .int .i64 pg, .int .i64 ob, .int .i64 tx, .int .i64 cp, .int .i64 ow, .bool wr, .slice A n c, .complex .f64 a0 b0, .complex .f64 a1 b1, .complex .f64 a2 b2, .complex .f64 a3 b3]] w fun e w' => e = .returned (.agg #[.int .i64 2, .int .i64 0, .int .i64 0, .int .i64 tx, .int .i64 0, .int .i64 0, .bool false, .slice A n c, .complex .f64 0 0, .complex .f64 0 0, .complex .f64 0 0, .complex .f64 0 0]) ∧ Below w.heap.size w w' := by
  go_enter Try.func38, Try.ntmps38
  go_wp2_with fail
  obtain ⟨h1, h2, h3⟩ := heap3 w (Obj.cells #[.int .i64 2, .int .i64 pg, .int .i64 ob, .int .i64 tx, .int .i64 cp, .int .i64 ow, .bool wr, .slice A n c, .complex .f64 a0 b0, .complex .f64 a1 b1, .complex .f64 a2 b2, .complex .f64 a3 b3] 30) (Obj.cells #[.int .i64 0, .int .i64 0, .int .i64 0, .int .i64 0, .int .i64 0, .int .i64 0, .bool false, .slice none 0 0, .complex .f64 0 0, .complex .f64 0 0, .complex .f64 0 0, .complex .f64 0 0] 30) (Obj.cells #[.int .i64 2, .int .i64 0, .int .i64 0, .int .i64 0, .int .i64 0, .int .i64 0, .bool false, .slice none 0 0, .complex .f64 0 0, .complex .f64 0 0, .complex .f64 0 0, .complex .f64 0 0] 30)
  have hb := below3 w (Obj.cells #[.int .i64 2, .int .i64 pg, .int .i64 ob, .int .i64 tx, .int .i64 cp, .int .i64 ow, .bool wr, .slice A n c, .complex .f64 a0 b0, .complex .f64 a1 b1, .complex .f64 a2 b2, .complex .f64 a3 b3] 30) (Obj.cells #[.int .i64 0, .int .i64 0, .int .i64 0, .int .i64 0, .int .i64 0, .int .i64 0, .bool false, .slice none 0 0, .complex .f64 0 0, .complex .f64 0 0, .complex .f64 0 0, .complex .f64 0 0] 30) (Obj.cells #[.int .i64 2, .int .i64 0, .int .i64 0, .int .i64 0, .int .i64 0, .int .i64 0, .bool false, .slice none 0 0, .complex .f64 0 0, .complex .f64 0 0, .complex .f64 0 0, .complex .f64 0 0] 30)
  generalize ((w.alloc (Obj.cells #[.int .i64 2, .int .i64 pg, .int .i64 ob, .int .i64 tx, .int .i64 cp, .int .i64 ow, .bool wr, .slice A n c, .complex .f64 a0 b0, .complex .f64 a1 b1, .complex .f64 a2 b2, .complex .f64 a3 b3] 30)).alloc (Obj.cells #[.int .i64 0, .int .i64 0, .int .i64 0, .int .i64 0, .int .i64 0, .int .i64 0, .bool false, .slice none 0 0, .complex .f64 0 0, .complex .f64 0 0, .complex .f64 0 0, .complex .f64 0 0] 30)).alloc (Obj.cells #[.int .i64 2, .int .i64 0, .int .i64 0, .int .i64 0, .int .i64 0, .int .i64 0, .bool false, .slice none 0 0, .complex .f64 0 0, .complex .f64 0 0, .complex .f64 0 0, .complex .f64 0 0] 30) = W3 at *
  have HB := Lib.hid hb
  obtain ⟨x0, x1, x2, x3, x4, x5, x6, x7, x8, x9, x10, x11, xz⟩ := row12 h1
  obtain ⟨z0, z1, z2, z3, z4, z5, z6, z7, z8, z9, z10, z11, zz⟩ := row12 h3
  have H2 := Lib.hid h2
  have H3 := Lib.hid h3
  clear h1 h2 h3 hb
  have hn2 : w.heap.size + 1 + 1 ≠ w.heap.size := by omega
  have hn12 : w.heap.size + 1 ≠ w.heap.size + 1 + 1 := by omega
  have hlt1 : w.heap.size + 1 < W3.heap.size := lt_of_row (Nat.le_succ _) H3.out
  have hl2 : w.heap.size ≤ w.heap.size + 1 + 1 := by omega
  rw [show w.heap.size + 2 = w.heap.size + 1 + 1 from rfl] at *
  generalize w.heap.size + 1 + 1 = B2 at *
  go_region_held_law (fun W => W.cell? ⟨w.heap.size, 3, none⟩ = some (.int .i64 tx) ∧ W.cell? ⟨w.heap.size, 7, none⟩ = some (.slice A n c)) (go_keep) (fail)
  all_goals
    rename_i hh
    clear hh
    obtain ⟨W4, hw4⟩ : ∃ W4, W4 = ((W3.setCell ⟨B2, 3, none⟩ (.int .i64 tx)).setCell ⟨B2, 7, none⟩ (.slice A n c)).drew := ⟨_, rfl⟩
    have hu : Upto (fun j => j = B2) W3 W4 := by rw [hw4]; exact (((Upto.refl (fun j => j = B2) W3).setCell (p := ⟨B2, 3, none⟩) rfl _).setCell (p := ⟨B2, 7, none⟩) rfl _).drew
    have h4 : W4.heap[B2]? = some (.cells #[.int .i64 2, .int .i64 0, .int .i64 0, .int .i64 tx, .int .i64 0, .int .i64 0, .bool false, .slice A n c, .complex .f64 0 0, .complex .f64 0 0, .complex .f64 0 0, .complex .f64 0 0] 30 (0, 0)) := by
      rw [hw4, heapDrew]
      have := (row_set (row_set H3.out 3 (.int .i64 tx)) 7 (.slice A n c))
      simpa using this
    rw [← hw4]
    clear hw4 x0 x1 x2 x3 x4 x5 x6 x7 x8 x9 x10 x11 xz z0 z1 z2 z3 z4 z5 z6 z7 z8 z9 z10 z11 zz
    have h5 : W4.heap[w.heap.size + 1]? = some (.cells #[.int .i64 0, .int .i64 0, .int .i64 0, .int .i64 0, .int .i64 0, .int .i64 0, .bool false, .slice none 0 0, .complex .f64 0 0, .complex .f64 0 0, .complex .f64 0 0, .complex .f64 0 0] 30 (0, 0)) := (hu.block _ hlt1 (by omega)).trans H2.out
    have HB4 := Lib.hid (HB.out.trans (hu.below (B := w.heap.size) HB.out.size (fun k hk e => by omega)))
    obtain ⟨z0, z1, z2, z3, z4, z5, z6, z7, z8, z9, z10, z11, zz⟩ := row12 h4
    obtain ⟨x0, x1, x2, x3, x4, x5, x6, x7, x8, x9, x10, x11, xz⟩ := row12 h5
    have H5 := Lib.hid h5
    clear h4 h5 hu
    go_wp2_with fail
    obtain ⟨W5, hw5⟩ : ∃ W5, W5 = ((((((((((((W4.setCell ⟨w.heap.size + 1, 0, none⟩ (.int .i64 2)).setCell ⟨w.heap.size + 1, 1, none⟩ (.int .i64 0)).setCell ⟨w.heap.size + 1, 2, none⟩ (.int .i64 0)).setCell ⟨w.heap.size + 1, 3, none⟩ (.int .i64 tx)).setCell ⟨w.heap.size + 1, 4, none⟩ (.int .i64 0)).setCell ⟨w.heap.size + 1, 5, none⟩ (.int .i64 0)).setCell ⟨w.heap.size + 1, 6, none⟩ (.bool false)).setCell ⟨w.heap.size + 1, 7, none⟩ (.slice A n c)).setCell ⟨w.heap.size + 1, 8, none⟩ (.complex .f64 0 0)).setCell ⟨w.heap.size + 1, 9, none⟩ (.complex .f64 0 0)).setCell ⟨w.heap.size + 1, 10, none⟩ (.complex .f64 0 0)).setCell ⟨w.heap.size + 1, 11, none⟩ (.complex .f64 0 0)) := ⟨_, rfl⟩
    have hu : Upto (fun j => j = w.heap.size + 1) W4 W5 := by rw [hw5]; exact upto12 _ _ _ _ _ _ _ _ _ _ _ _ _ _
    have h6 := sets12_row H5.out (.int .i64 2) (.int .i64 0) (.int .i64 0) (.int .i64 tx) (.int .i64 0) (.int .i64 0) (.bool false) (.slice A n c) (.complex .f64 0 0) (.complex .f64 0 0) (.complex .f64 0 0) (.complex .f64 0 0)
    rw [← hw5] at h6 ⊢
    clear hw5 x0 x1 x2 x3 x4 x5 x6 x7 x8 x9 x10 x11 xz z0 z1 z2 z3 z4 z5 z6 z7 z8 z9 z10 z11 zz
    obtain ⟨x0, x1, x2, x3, x4, x5, x6, x7, x8, x9, x10, x11, xz⟩ := row12 h6
    clear h6
    refine bodyPost_ret (by simp [results, Try.results38, go_sem, x0, x1, x2, x3, x4, x5, x6, x7, x8, x9, x10, x11]; try rfl) rfl ?_
    exact ⟨rfl, HB4.out.trans (hu.below (B := w.heap.size) HB4.out.size (fun k hk e => by omega))⟩

set_option maxRecDepth 100000 in
set_option maxHeartbeats 8000000 in
theorem bare3_g (pg ob tx cp ow : Int) (wr : Bool) (A : Option Addr) (n c : Nat) (a0 b0 a1 b1 a2 b2 a3 b3 : Nat) (w : World) : Calls Try.prog 38 #[.agg #[.int .i64 3, .int .i64 pg, .int .i64 ob, .int .i64 tx, .int .i64 cp, .int .i64 ow, .bool wr, .slice A n c, .complex .f64 a0 b0, .complex .f64 a1 b1, .complex .f64 a2 b2, .complex .f64 a3 b3]] w fun e w' => e = .returned (.agg #[.int .i64 3, .int .i64 pg, .int .i64 0, .int .i64 0, .int .i64 cp, .int .i64 ow, .bool false, .slice none 0 0, .complex .f64 0 0, .complex .f64 0 0, .complex .f64 0 0, .complex .f64 0 0]) ∧ Below w.heap.size w w' := by
  go_enter Try.func38, Try.ntmps38
  go_wp2_with fail
  obtain ⟨h1, h2, h3⟩ := heap3 w (Obj.cells #[.int .i64 3, .int .i64 pg, .int .i64 ob, .int .i64 tx, .int .i64 cp, .int .i64 ow, .bool wr, .slice A n c, .complex .f64 a0 b0, .complex .f64 a1 b1, .complex .f64 a2 b2, .complex .f64 a3 b3] 30) (Obj.cells #[.int .i64 0, .int .i64 0, .int .i64 0, .int .i64 0, .int .i64 0, .int .i64 0, .bool false, .slice none 0 0, .complex .f64 0 0, .complex .f64 0 0, .complex .f64 0 0, .complex .f64 0 0] 30) (Obj.cells #[.int .i64 3, .int .i64 0, .int .i64 0, .int .i64 0, .int .i64 0, .int .i64 0, .bool false, .slice none 0 0, .complex .f64 0 0, .complex .f64 0 0, .complex .f64 0 0, .complex .f64 0 0] 30)
  have hb := below3 w (Obj.cells #[.int .i64 3, .int .i64 pg, .int .i64 ob, .int .i64 tx, .int .i64 cp, .int .i64 ow, .bool wr, .slice A n c, .complex .f64 a0 b0, .complex .f64 a1 b1, .complex .f64 a2 b2, .complex .f64 a3 b3] 30) (Obj.cells #[.int .i64 0, .int .i64 0, .int .i64 0, .int .i64 0, .int .i64 0, .int .i64 0, .bool false, .slice none 0 0, .complex .f64 0 0, .complex .f64 0 0, .complex .f64 0 0, .complex .f64 0 0] 30) (Obj.cells #[.int .i64 3, .int .i64 0, .int .i64 0, .int .i64 0, .int .i64 0, .int .i64 0, .bool false, .slice none 0 0, .complex .f64 0 0, .complex .f64 0 0, .complex .f64 0 0, .complex .f64 0 0] 30)
  generalize ((w.alloc (Obj.cells #[.int .i64 3, .int .i64 pg, .int .i64 ob, .int .i64 tx, .int .i64 cp, .int .i64 ow, .bool wr, .slice A n c, .complex .f64 a0 b0, .complex .f64 a1 b1, .complex .f64 a2 b2, .complex .f64 a3 b3] 30)).alloc (Obj.cells #[.int .i64 0, .int .i64 0, .int .i64 0, .int .i64 0, .int .i64 0, .int .i64 0, .bool false, .slice none 0 0, .complex .f64 0 0, .complex .f64 0 0, .complex .f64 0 0, .complex .f64 0 0] 30)).alloc (Obj.cells #[.int .i64 3, .int .i64 0, .int .i64 0, .int .i64 0, .int .i64 0, .int .i64 0, .bool false, .slice none 0 0, .complex .f64 0 0, .complex .f64 0 0, .complex .f64 0 0, .complex .f64 0 0] 30) = W3 at *
  have HB := Lib.hid hb
  obtain ⟨x0, x1, x2, x3, x4, x5, x6, x7, x8, x9, x10, x11, xz⟩ := row12 h1
  obtain ⟨z0, z1, z2, z3, z4, z5, z6, z7, z8, z9, z10, z11, zz⟩ := row12 h3
  have H2 := Lib.hid h2
  have H3 := Lib.hid h3
  clear h1 h2 h3 hb
  have hn2 : w.heap.size + 1 + 1 ≠ w.heap.size := by omega
  have hn12 : w.heap.size + 1 ≠ w.heap.size + 1 + 1 := by omega
  have hlt1 : w.heap.size + 1 < W3.heap.size := lt_of_row (Nat.le_succ _) H3.out
  have hl2 : w.heap.size ≤ w.heap.size + 1 + 1 := by omega
  rw [show w.heap.size + 2 = w.heap.size + 1 + 1 from rfl] at *
  generalize w.heap.size + 1 + 1 = B2 at *
  go_region_held_law (fun W => W.cell? ⟨w.heap.size, 1, none⟩ = some (.int .i64 pg) ∧ W.cell? ⟨w.heap.size, 4, none⟩ = some (.int .i64 cp) ∧ W.cell? ⟨w.heap.size, 5, none⟩ = some (.int .i64 ow)) (go_keep) (fail)
  all_goals
    rename_i hh
    clear hh
    obtain ⟨W4, hw4⟩ : ∃ W4, W4 = (((W3.setCell ⟨B2, 1, none⟩ (.int .i64 pg)).setCell ⟨B2, 4, none⟩ (.int .i64 cp)).setCell ⟨B2, 5, none⟩ (.int .i64 ow)).drew := ⟨_, rfl⟩
    have hu : Upto (fun j => j = B2) W3 W4 := by rw [hw4]; exact ((((Upto.refl (fun j => j = B2) W3).setCell (p := ⟨B2, 1, none⟩) rfl _).setCell (p := ⟨B2, 4, none⟩) rfl _).setCell (p := ⟨B2, 5, none⟩) rfl _).drew
    have h4 : W4.heap[B2]? = some (.cells #[.int .i64 3, .int .i64 pg, .int .i64 0, .int .i64 0, .int .i64 cp, .int .i64 ow, .bool false, .slice none 0 0, .complex .f64 0 0, .complex .f64 0 0, .complex .f64 0 0, .complex .f64 0 0] 30 (0, 0)) := by
      rw [hw4, heapDrew]
      have := (row_set (row_set (row_set H3.out 1 (.int .i64 pg)) 4 (.int .i64 cp)) 5 (.int .i64 ow))
      simpa using this
    rw [← hw4]
    clear hw4 x0 x1 x2 x3 x4 x5 x6 x7 x8 x9 x10 x11 xz z0 z1 z2 z3 z4 z5 z6 z7 z8 z9 z10 z11 zz
    have h5 : W4.heap[w.heap.size + 1]? = some (.cells #[.int .i64 0, .int .i64 0, .int .i64 0, .int .i64 0, .int .i64 0, .int .i64 0, .bool false, .slice none 0 0, .complex .f64 0 0, .complex .f64 0 0, .complex .f64 0 0, .complex .f64 0 0] 30 (0, 0)) := (hu.block _ hlt1 (by omega)).trans H2.out
    have HB4 := Lib.hid (HB.out.trans (hu.below (B := w.heap.size) HB.out.size (fun k hk e => by omega)))
    obtain ⟨z0, z1, z2, z3, z4, z5, z6, z7, z8, z9, z10, z11, zz⟩ := row12 h4
    obtain ⟨x0, x1, x2, x3, x4, x5, x6, x7, x8, x9, x10, x11, xz⟩ := row12 h5
    have H5 := Lib.hid h5
    clear h4 h5 hu
    go_wp2_with fail
    obtain ⟨W5, hw5⟩ : ∃ W5, W5 = ((((((((((((W4.setCell ⟨w.heap.size + 1, 0, none⟩ (.int .i64 3)).setCell ⟨w.heap.size + 1, 1, none⟩ (.int .i64 pg)).setCell ⟨w.heap.size + 1, 2, none⟩ (.int .i64 0)).setCell ⟨w.heap.size + 1, 3, none⟩ (.int .i64 0)).setCell ⟨w.heap.size + 1, 4, none⟩ (.int .i64 cp)).setCell ⟨w.heap.size + 1, 5, none⟩ (.int .i64 ow)).setCell ⟨w.heap.size + 1, 6, none⟩ (.bool false)).setCell ⟨w.heap.size + 1, 7, none⟩ (.slice none 0 0)).setCell ⟨w.heap.size + 1, 8, none⟩ (.complex .f64 0 0)).setCell ⟨w.heap.size + 1, 9, none⟩ (.complex .f64 0 0)).setCell ⟨w.heap.size + 1, 10, none⟩ (.complex .f64 0 0)).setCell ⟨w.heap.size + 1, 11, none⟩ (.complex .f64 0 0)) := ⟨_, rfl⟩
    have hu : Upto (fun j => j = w.heap.size + 1) W4 W5 := by rw [hw5]; exact upto12 _ _ _ _ _ _ _ _ _ _ _ _ _ _
    have h6 := sets12_row H5.out (.int .i64 3) (.int .i64 pg) (.int .i64 0) (.int .i64 0) (.int .i64 cp) (.int .i64 ow) (.bool false) (.slice none 0 0) (.complex .f64 0 0) (.complex .f64 0 0) (.complex .f64 0 0) (.complex .f64 0 0)
    rw [← hw5] at h6 ⊢
    clear hw5 x0 x1 x2 x3 x4 x5 x6 x7 x8 x9 x10 x11 xz z0 z1 z2 z3 z4 z5 z6 z7 z8 z9 z10 z11 zz
    obtain ⟨x0, x1, x2, x3, x4, x5, x6, x7, x8, x9, x10, x11, xz⟩ := row12 h6
    clear h6
    refine bodyPost_ret (by simp [results, Try.results38, go_sem, x0, x1, x2, x3, x4, x5, x6, x7, x8, x9, x10, x11]; try rfl) rfl ?_
    exact ⟨rfl, HB4.out.trans (hu.below (B := w.heap.size) HB4.out.size (fun k hk e => by omega))⟩

set_option maxRecDepth 100000 in
set_option maxHeartbeats 8000000 in
theorem bare4_g (pg ob tx cp ow : Int) (wr : Bool) (A : Option Addr) (n c : Nat) (a0 b0 a1 b1 a2 b2 a3 b3 : Nat) (w : World) : Calls Try.prog 38 #[.agg #[.int .i64 4, .int .i64 pg, .int .i64 ob, .int .i64 tx, .int .i64 cp, .int .i64 ow, .bool wr, .slice A n c, .complex .f64 a0 b0, .complex .f64 a1 b1, .complex .f64 a2 b2, .complex .f64 a3 b3]] w fun e w' => e = .returned (.agg #[.int .i64 4, .int .i64 pg, .int .i64 ob, .int .i64 0, .int .i64 0, .int .i64 0, .bool wr, .slice none 0 0, .complex .f64 0 0, .complex .f64 0 0, .complex .f64 0 0, .complex .f64 0 0]) ∧ Below w.heap.size w w' := by
  go_enter Try.func38, Try.ntmps38
  go_wp2_with fail
  obtain ⟨h1, h2, h3⟩ := heap3 w (Obj.cells #[.int .i64 4, .int .i64 pg, .int .i64 ob, .int .i64 tx, .int .i64 cp, .int .i64 ow, .bool wr, .slice A n c, .complex .f64 a0 b0, .complex .f64 a1 b1, .complex .f64 a2 b2, .complex .f64 a3 b3] 30) (Obj.cells #[.int .i64 0, .int .i64 0, .int .i64 0, .int .i64 0, .int .i64 0, .int .i64 0, .bool false, .slice none 0 0, .complex .f64 0 0, .complex .f64 0 0, .complex .f64 0 0, .complex .f64 0 0] 30) (Obj.cells #[.int .i64 4, .int .i64 0, .int .i64 0, .int .i64 0, .int .i64 0, .int .i64 0, .bool wr, .slice none 0 0, .complex .f64 0 0, .complex .f64 0 0, .complex .f64 0 0, .complex .f64 0 0] 30)
  have hb := below3 w (Obj.cells #[.int .i64 4, .int .i64 pg, .int .i64 ob, .int .i64 tx, .int .i64 cp, .int .i64 ow, .bool wr, .slice A n c, .complex .f64 a0 b0, .complex .f64 a1 b1, .complex .f64 a2 b2, .complex .f64 a3 b3] 30) (Obj.cells #[.int .i64 0, .int .i64 0, .int .i64 0, .int .i64 0, .int .i64 0, .int .i64 0, .bool false, .slice none 0 0, .complex .f64 0 0, .complex .f64 0 0, .complex .f64 0 0, .complex .f64 0 0] 30) (Obj.cells #[.int .i64 4, .int .i64 0, .int .i64 0, .int .i64 0, .int .i64 0, .int .i64 0, .bool wr, .slice none 0 0, .complex .f64 0 0, .complex .f64 0 0, .complex .f64 0 0, .complex .f64 0 0] 30)
  generalize ((w.alloc (Obj.cells #[.int .i64 4, .int .i64 pg, .int .i64 ob, .int .i64 tx, .int .i64 cp, .int .i64 ow, .bool wr, .slice A n c, .complex .f64 a0 b0, .complex .f64 a1 b1, .complex .f64 a2 b2, .complex .f64 a3 b3] 30)).alloc (Obj.cells #[.int .i64 0, .int .i64 0, .int .i64 0, .int .i64 0, .int .i64 0, .int .i64 0, .bool false, .slice none 0 0, .complex .f64 0 0, .complex .f64 0 0, .complex .f64 0 0, .complex .f64 0 0] 30)).alloc (Obj.cells #[.int .i64 4, .int .i64 0, .int .i64 0, .int .i64 0, .int .i64 0, .int .i64 0, .bool wr, .slice none 0 0, .complex .f64 0 0, .complex .f64 0 0, .complex .f64 0 0, .complex .f64 0 0] 30) = W3 at *
  have HB := Lib.hid hb
  obtain ⟨x0, x1, x2, x3, x4, x5, x6, x7, x8, x9, x10, x11, xz⟩ := row12 h1
  obtain ⟨z0, z1, z2, z3, z4, z5, z6, z7, z8, z9, z10, z11, zz⟩ := row12 h3
  have H2 := Lib.hid h2
  have H3 := Lib.hid h3
  clear h1 h2 h3 hb
  have hn2 : w.heap.size + 1 + 1 ≠ w.heap.size := by omega
  have hn12 : w.heap.size + 1 ≠ w.heap.size + 1 + 1 := by omega
  have hlt1 : w.heap.size + 1 < W3.heap.size := lt_of_row (Nat.le_succ _) H3.out
  have hl2 : w.heap.size ≤ w.heap.size + 1 + 1 := by omega
  rw [show w.heap.size + 2 = w.heap.size + 1 + 1 from rfl] at *
  generalize w.heap.size + 1 + 1 = B2 at *
  go_region_held_law (fun W => W.cell? ⟨w.heap.size, 1, none⟩ = some (.int .i64 pg) ∧ W.cell? ⟨w.heap.size, 2, none⟩ = some (.int .i64 ob)) (go_keep) (fail)
  all_goals
    rename_i hh
    clear hh
    obtain ⟨W4, hw4⟩ : ∃ W4, W4 = ((W3.setCell ⟨B2, 1, none⟩ (.int .i64 pg)).setCell ⟨B2, 2, none⟩ (.int .i64 ob)).drew := ⟨_, rfl⟩
    have hu : Upto (fun j => j = B2) W3 W4 := by rw [hw4]; exact (((Upto.refl (fun j => j = B2) W3).setCell (p := ⟨B2, 1, none⟩) rfl _).setCell (p := ⟨B2, 2, none⟩) rfl _).drew
    have h4 : W4.heap[B2]? = some (.cells #[.int .i64 4, .int .i64 pg, .int .i64 ob, .int .i64 0, .int .i64 0, .int .i64 0, .bool wr, .slice none 0 0, .complex .f64 0 0, .complex .f64 0 0, .complex .f64 0 0, .complex .f64 0 0] 30 (0, 0)) := by
      rw [hw4, heapDrew]
      have := (row_set (row_set H3.out 1 (.int .i64 pg)) 2 (.int .i64 ob))
      simpa using this
    rw [← hw4]
    clear hw4 x0 x1 x2 x3 x4 x5 x6 x7 x8 x9 x10 x11 xz z0 z1 z2 z3 z4 z5 z6 z7 z8 z9 z10 z11 zz
    have h5 : W4.heap[w.heap.size + 1]? = some (.cells #[.int .i64 0, .int .i64 0, .int .i64 0, .int .i64 0, .int .i64 0, .int .i64 0, .bool false, .slice none 0 0, .complex .f64 0 0, .complex .f64 0 0, .complex .f64 0 0, .complex .f64 0 0] 30 (0, 0)) := (hu.block _ hlt1 (by omega)).trans H2.out
    have HB4 := Lib.hid (HB.out.trans (hu.below (B := w.heap.size) HB.out.size (fun k hk e => by omega)))
    obtain ⟨z0, z1, z2, z3, z4, z5, z6, z7, z8, z9, z10, z11, zz⟩ := row12 h4
    obtain ⟨x0, x1, x2, x3, x4, x5, x6, x7, x8, x9, x10, x11, xz⟩ := row12 h5
    have H5 := Lib.hid h5
    clear h4 h5 hu
    go_wp2_with fail
    obtain ⟨W5, hw5⟩ : ∃ W5, W5 = ((((((((((((W4.setCell ⟨w.heap.size + 1, 0, none⟩ (.int .i64 4)).setCell ⟨w.heap.size + 1, 1, none⟩ (.int .i64 pg)).setCell ⟨w.heap.size + 1, 2, none⟩ (.int .i64 ob)).setCell ⟨w.heap.size + 1, 3, none⟩ (.int .i64 0)).setCell ⟨w.heap.size + 1, 4, none⟩ (.int .i64 0)).setCell ⟨w.heap.size + 1, 5, none⟩ (.int .i64 0)).setCell ⟨w.heap.size + 1, 6, none⟩ (.bool wr)).setCell ⟨w.heap.size + 1, 7, none⟩ (.slice none 0 0)).setCell ⟨w.heap.size + 1, 8, none⟩ (.complex .f64 0 0)).setCell ⟨w.heap.size + 1, 9, none⟩ (.complex .f64 0 0)).setCell ⟨w.heap.size + 1, 10, none⟩ (.complex .f64 0 0)).setCell ⟨w.heap.size + 1, 11, none⟩ (.complex .f64 0 0)) := ⟨_, rfl⟩
    have hu : Upto (fun j => j = w.heap.size + 1) W4 W5 := by rw [hw5]; exact upto12 _ _ _ _ _ _ _ _ _ _ _ _ _ _
    have h6 := sets12_row H5.out (.int .i64 4) (.int .i64 pg) (.int .i64 ob) (.int .i64 0) (.int .i64 0) (.int .i64 0) (.bool wr) (.slice none 0 0) (.complex .f64 0 0) (.complex .f64 0 0) (.complex .f64 0 0) (.complex .f64 0 0)
    rw [← hw5] at h6 ⊢
    clear hw5 x0 x1 x2 x3 x4 x5 x6 x7 x8 x9 x10 x11 xz z0 z1 z2 z3 z4 z5 z6 z7 z8 z9 z10 z11 zz
    obtain ⟨x0, x1, x2, x3, x4, x5, x6, x7, x8, x9, x10, x11, xz⟩ := row12 h6
    clear h6
    refine bodyPost_ret (by simp [results, Try.results38, go_sem, x0, x1, x2, x3, x4, x5, x6, x7, x8, x9, x10, x11]; try rfl) rfl ?_
    exact ⟨rfl, HB4.out.trans (hu.below (B := w.heap.size) HB4.out.size (fun k hk e => by omega))⟩

set_option maxRecDepth 100000 in
set_option maxHeartbeats 8000000 in
theorem bare6_g (pg ob tx cp ow : Int) (wr : Bool) (A : Option Addr) (n c : Nat) (a0 b0 a1 b1 a2 b2 a3 b3 : Nat) (w : World) : Calls Try.prog 38 #[.agg #[.int .i64 6, .int .i64 pg, .int .i64 ob, .int .i64 tx, .int .i64 cp, .int .i64 ow, .bool wr, .slice A n c, .complex .f64 a0 b0, .complex .f64 a1 b1, .complex .f64 a2 b2, .complex .f64 a3 b3]] w fun e w' => e = .returned (.agg #[.int .i64 6, .int .i64 pg, .int .i64 ob, .int .i64 0, .int .i64 0, .int .i64 0, .bool wr, .slice none 0 0, .complex .f64 0 0, .complex .f64 0 0, .complex .f64 0 0, .complex .f64 0 0]) ∧ Below w.heap.size w w' := by
  go_enter Try.func38, Try.ntmps38
  go_wp2_with fail
  obtain ⟨h1, h2, h3⟩ := heap3 w (Obj.cells #[.int .i64 6, .int .i64 pg, .int .i64 ob, .int .i64 tx, .int .i64 cp, .int .i64 ow, .bool wr, .slice A n c, .complex .f64 a0 b0, .complex .f64 a1 b1, .complex .f64 a2 b2, .complex .f64 a3 b3] 30) (Obj.cells #[.int .i64 0, .int .i64 0, .int .i64 0, .int .i64 0, .int .i64 0, .int .i64 0, .bool false, .slice none 0 0, .complex .f64 0 0, .complex .f64 0 0, .complex .f64 0 0, .complex .f64 0 0] 30) (Obj.cells #[.int .i64 6, .int .i64 0, .int .i64 0, .int .i64 0, .int .i64 0, .int .i64 0, .bool wr, .slice none 0 0, .complex .f64 0 0, .complex .f64 0 0, .complex .f64 0 0, .complex .f64 0 0] 30)
  have hb := below3 w (Obj.cells #[.int .i64 6, .int .i64 pg, .int .i64 ob, .int .i64 tx, .int .i64 cp, .int .i64 ow, .bool wr, .slice A n c, .complex .f64 a0 b0, .complex .f64 a1 b1, .complex .f64 a2 b2, .complex .f64 a3 b3] 30) (Obj.cells #[.int .i64 0, .int .i64 0, .int .i64 0, .int .i64 0, .int .i64 0, .int .i64 0, .bool false, .slice none 0 0, .complex .f64 0 0, .complex .f64 0 0, .complex .f64 0 0, .complex .f64 0 0] 30) (Obj.cells #[.int .i64 6, .int .i64 0, .int .i64 0, .int .i64 0, .int .i64 0, .int .i64 0, .bool wr, .slice none 0 0, .complex .f64 0 0, .complex .f64 0 0, .complex .f64 0 0, .complex .f64 0 0] 30)
  generalize ((w.alloc (Obj.cells #[.int .i64 6, .int .i64 pg, .int .i64 ob, .int .i64 tx, .int .i64 cp, .int .i64 ow, .bool wr, .slice A n c, .complex .f64 a0 b0, .complex .f64 a1 b1, .complex .f64 a2 b2, .complex .f64 a3 b3] 30)).alloc (Obj.cells #[.int .i64 0, .int .i64 0, .int .i64 0, .int .i64 0, .int .i64 0, .int .i64 0, .bool false, .slice none 0 0, .complex .f64 0 0, .complex .f64 0 0, .complex .f64 0 0, .complex .f64 0 0] 30)).alloc (Obj.cells #[.int .i64 6, .int .i64 0, .int .i64 0, .int .i64 0, .int .i64 0, .int .i64 0, .bool wr, .slice none 0 0, .complex .f64 0 0, .complex .f64 0 0, .complex .f64 0 0, .complex .f64 0 0] 30) = W3 at *
  have HB := Lib.hid hb
  obtain ⟨x0, x1, x2, x3, x4, x5, x6, x7, x8, x9, x10, x11, xz⟩ := row12 h1
  obtain ⟨z0, z1, z2, z3, z4, z5, z6, z7, z8, z9, z10, z11, zz⟩ := row12 h3
  have H2 := Lib.hid h2
  have H3 := Lib.hid h3
  clear h1 h2 h3 hb
  have hn2 : w.heap.size + 1 + 1 ≠ w.heap.size := by omega
  have hn12 : w.heap.size + 1 ≠ w.heap.size + 1 + 1 := by omega
  have hlt1 : w.heap.size + 1 < W3.heap.size := lt_of_row (Nat.le_succ _) H3.out
  have hl2 : w.heap.size ≤ w.heap.size + 1 + 1 := by omega
  rw [show w.heap.size + 2 = w.heap.size + 1 + 1 from rfl] at *
  generalize w.heap.size + 1 + 1 = B2 at *
  go_region_held_law (fun W => W.cell? ⟨w.heap.size, 1, none⟩ = some (.int .i64 pg) ∧ W.cell? ⟨w.heap.size, 2, none⟩ = some (.int .i64 ob)) (go_keep) (fail)
  all_goals
    rename_i hh
    clear hh
    obtain ⟨W4, hw4⟩ : ∃ W4, W4 = ((W3.setCell ⟨B2, 1, none⟩ (.int .i64 pg)).setCell ⟨B2, 2, none⟩ (.int .i64 ob)).drew := ⟨_, rfl⟩
    have hu : Upto (fun j => j = B2) W3 W4 := by rw [hw4]; exact (((Upto.refl (fun j => j = B2) W3).setCell (p := ⟨B2, 1, none⟩) rfl _).setCell (p := ⟨B2, 2, none⟩) rfl _).drew
    have h4 : W4.heap[B2]? = some (.cells #[.int .i64 6, .int .i64 pg, .int .i64 ob, .int .i64 0, .int .i64 0, .int .i64 0, .bool wr, .slice none 0 0, .complex .f64 0 0, .complex .f64 0 0, .complex .f64 0 0, .complex .f64 0 0] 30 (0, 0)) := by
      rw [hw4, heapDrew]
      have := (row_set (row_set H3.out 1 (.int .i64 pg)) 2 (.int .i64 ob))
      simpa using this
    rw [← hw4]
    clear hw4 x0 x1 x2 x3 x4 x5 x6 x7 x8 x9 x10 x11 xz z0 z1 z2 z3 z4 z5 z6 z7 z8 z9 z10 z11 zz
    have h5 : W4.heap[w.heap.size + 1]? = some (.cells #[.int .i64 0, .int .i64 0, .int .i64 0, .int .i64 0, .int .i64 0, .int .i64 0, .bool false, .slice none 0 0, .complex .f64 0 0, .complex .f64 0 0, .complex .f64 0 0, .complex .f64 0 0] 30 (0, 0)) := (hu.block _ hlt1 (by omega)).trans H2.out
    have HB4 := Lib.hid (HB.out.trans (hu.below (B := w.heap.size) HB.out.size (fun k hk e => by omega)))
    obtain ⟨z0, z1, z2, z3, z4, z5, z6, z7, z8, z9, z10, z11, zz⟩ := row12 h4
    obtain ⟨x0, x1, x2, x3, x4, x5, x6, x7, x8, x9, x10, x11, xz⟩ := row12 h5
    have H5 := Lib.hid h5
    clear h4 h5 hu
    go_wp2_with fail
    obtain ⟨W5, hw5⟩ : ∃ W5, W5 = ((((((((((((W4.setCell ⟨w.heap.size + 1, 0, none⟩ (.int .i64 6)).setCell ⟨w.heap.size + 1, 1, none⟩ (.int .i64 pg)).setCell ⟨w.heap.size + 1, 2, none⟩ (.int .i64 ob)).setCell ⟨w.heap.size + 1, 3, none⟩ (.int .i64 0)).setCell ⟨w.heap.size + 1, 4, none⟩ (.int .i64 0)).setCell ⟨w.heap.size + 1, 5, none⟩ (.int .i64 0)).setCell ⟨w.heap.size + 1, 6, none⟩ (.bool wr)).setCell ⟨w.heap.size + 1, 7, none⟩ (.slice none 0 0)).setCell ⟨w.heap.size + 1, 8, none⟩ (.complex .f64 0 0)).setCell ⟨w.heap.size + 1, 9, none⟩ (.complex .f64 0 0)).setCell ⟨w.heap.size + 1, 10, none⟩ (.complex .f64 0 0)).setCell ⟨w.heap.size + 1, 11, none⟩ (.complex .f64 0 0)) := ⟨_, rfl⟩
    have hu : Upto (fun j => j = w.heap.size + 1) W4 W5 := by rw [hw5]; exact upto12 _ _ _ _ _ _ _ _ _ _ _ _ _ _
    have h6 := sets12_row H5.out (.int .i64 6) (.int .i64 pg) (.int .i64 ob) (.int .i64 0) (.int .i64 0) (.int .i64 0) (.bool wr) (.slice none 0 0) (.complex .f64 0 0) (.complex .f64 0 0) (.complex .f64 0 0) (.complex .f64 0 0)
    rw [← hw5] at h6 ⊢
    clear hw5 x0 x1 x2 x3 x4 x5 x6 x7 x8 x9 x10 x11 xz z0 z1 z2 z3 z4 z5 z6 z7 z8 z9 z10 z11 zz
    obtain ⟨x0, x1, x2, x3, x4, x5, x6, x7, x8, x9, x10, x11, xz⟩ := row12 h6
    clear h6
    refine bodyPost_ret (by simp [results, Try.results38, go_sem, x0, x1, x2, x3, x4, x5, x6, x7, x8, x9, x10, x11]; try rfl) rfl ?_
    exact ⟨rfl, HB4.out.trans (hu.below (B := w.heap.size) HB4.out.size (fun k hk e => by omega))⟩

set_option maxRecDepth 100000 in
set_option maxHeartbeats 8000000 in
theorem bare5_g (pg ob tx cp ow : Int) (wr : Bool) (A : Option Addr) (n c : Nat) (a0 b0 a1 b1 a2 b2 a3 b3 : Nat) (w : World) : Calls Try.prog 38 #[.agg #[.int .i64 5, .int .i64 pg, .int .i64 ob, .int .i64 tx, .int .i64 cp, .int .i64 ow, .bool wr, .slice A n c, .complex .f64 a0 b0, .complex .f64 a1 b1, .complex .f64 a2 b2, .complex .f64 a3 b3]] w fun e w' => e = .returned (.agg #[.int .i64 5, .int .i64 pg, .int .i64 0, .int .i64 0, .int .i64 cp, .int .i64 ow, .bool false, .slice none 0 0, .complex .f64 a0 b0, .complex .f64 a1 b1, .complex .f64 a2 b2, .complex .f64 a3 b3]) ∧ Below w.heap.size w w' := by
  go_enter Try.func38, Try.ntmps38
  go_wp2_with fail
  obtain ⟨h1, h2, h3⟩ := heap3 w (Obj.cells #[.int .i64 5, .int .i64 pg, .int .i64 ob, .int .i64 tx, .int .i64 cp, .int .i64 ow, .bool wr, .slice A n c, .complex .f64 a0 b0, .complex .f64 a1 b1, .complex .f64 a2 b2, .complex .f64 a3 b3] 30) (Obj.cells #[.int .i64 0, .int .i64 0, .int .i64 0, .int .i64 0, .int .i64 0, .int .i64 0, .bool false, .slice none 0 0, .complex .f64 0 0, .complex .f64 0 0, .complex .f64 0 0, .complex .f64 0 0] 30) (Obj.cells #[.int .i64 5, .int .i64 0, .int .i64 0, .int .i64 0, .int .i64 0, .int .i64 0, .bool false, .slice none 0 0, .complex .f64 a0 b0, .complex .f64 a1 b1, .complex .f64 a2 b2, .complex .f64 a3 b3] 30)
  have hb := below3 w (Obj.cells #[.int .i64 5, .int .i64 pg, .int .i64 ob, .int .i64 tx, .int .i64 cp, .int .i64 ow, .bool wr, .slice A n c, .complex .f64 a0 b0, .complex .f64 a1 b1, .complex .f64 a2 b2, .complex .f64 a3 b3] 30) (Obj.cells #[.int .i64 0, .int .i64 0, .int .i64 0, .int .i64 0, .int .i64 0, .int .i64 0, .bool false, .slice none 0 0, .complex .f64 0 0, .complex .f64 0 0, .complex .f64 0 0, .complex .f64 0 0] 30) (Obj.cells #[.int .i64 5, .int .i64 0, .int .i64 0, .int .i64 0, .int .i64 0, .int .i64 0, .bool false, .slice none 0 0, .complex .f64 a0 b0, .complex .f64 a1 b1, .complex .f64 a2 b2, .complex .f64 a3 b3] 30)
  generalize ((w.alloc (Obj.cells #[.int .i64 5, .int .i64 pg, .int .i64 ob, .int .i64 tx, .int .i64 cp, .int .i64 ow, .bool wr, .slice A n c, .complex .f64 a0 b0, .complex .f64 a1 b1, .complex .f64 a2 b2, .complex .f64 a3 b3] 30)).alloc (Obj.cells #[.int .i64 0, .int .i64 0, .int .i64 0, .int .i64 0, .int .i64 0, .int .i64 0, .bool false, .slice none 0 0, .complex .f64 0 0, .complex .f64 0 0, .complex .f64 0 0, .complex .f64 0 0] 30)).alloc (Obj.cells #[.int .i64 5, .int .i64 0, .int .i64 0, .int .i64 0, .int .i64 0, .int .i64 0, .bool false, .slice none 0 0, .complex .f64 a0 b0, .complex .f64 a1 b1, .complex .f64 a2 b2, .complex .f64 a3 b3] 30) = W3 at *
  have HB := Lib.hid hb
  obtain ⟨x0, x1, x2, x3, x4, x5, x6, x7, x8, x9, x10, x11, xz⟩ := row12 h1
  obtain ⟨z0, z1, z2, z3, z4, z5, z6, z7, z8, z9, z10, z11, zz⟩ := row12 h3
  have H2 := Lib.hid h2
  have H3 := Lib.hid h3
  clear h1 h2 h3 hb
  have hn2 : w.heap.size + 1 + 1 ≠ w.heap.size := by omega
  have hn12 : w.heap.size + 1 ≠ w.heap.size + 1 + 1 := by omega
  have hlt1 : w.heap.size + 1 < W3.heap.size := lt_of_row (Nat.le_succ _) H3.out
  have hl2 : w.heap.size ≤ w.heap.size + 1 + 1 := by omega
  rw [show w.heap.size + 2 = w.heap.size + 1 + 1 from rfl] at *
  generalize w.heap.size + 1 + 1 = B2 at *
  go_region_held_law (fun W => W.cell? ⟨w.heap.size, 1, none⟩ = some (.int .i64 pg) ∧ W.cell? ⟨w.heap.size, 4, none⟩ = some (.int .i64 cp) ∧ W.cell? ⟨w.heap.size, 5, none⟩ = some (.int .i64 ow)) (go_keep) (fail)
  all_goals
    rename_i hh
    clear hh
    obtain ⟨W4, hw4⟩ : ∃ W4, W4 = (((W3.setCell ⟨B2, 1, none⟩ (.int .i64 pg)).setCell ⟨B2, 4, none⟩ (.int .i64 cp)).setCell ⟨B2, 5, none⟩ (.int .i64 ow)).drew := ⟨_, rfl⟩
    have hu : Upto (fun j => j = B2) W3 W4 := by rw [hw4]; exact ((((Upto.refl (fun j => j = B2) W3).setCell (p := ⟨B2, 1, none⟩) rfl _).setCell (p := ⟨B2, 4, none⟩) rfl _).setCell (p := ⟨B2, 5, none⟩) rfl _).drew
    have h4 : W4.heap[B2]? = some (.cells #[.int .i64 5, .int .i64 pg, .int .i64 0, .int .i64 0, .int .i64 cp, .int .i64 ow, .bool false, .slice none 0 0, .complex .f64 a0 b0, .complex .f64 a1 b1, .complex .f64 a2 b2, .complex .f64 a3 b3] 30 (0, 0)) := by
      rw [hw4, heapDrew]
      have := (row_set (row_set (row_set H3.out 1 (.int .i64 pg)) 4 (.int .i64 cp)) 5 (.int .i64 ow))
      simpa using this
    rw [← hw4]
    clear hw4 x0 x1 x2 x3 x4 x5 x6 x7 x8 x9 x10 x11 xz z0 z1 z2 z3 z4 z5 z6 z7 z8 z9 z10 z11 zz
    have h5 : W4.heap[w.heap.size + 1]? = some (.cells #[.int .i64 0, .int .i64 0, .int .i64 0, .int .i64 0, .int .i64 0, .int .i64 0, .bool false, .slice none 0 0, .complex .f64 0 0, .complex .f64 0 0, .complex .f64 0 0, .complex .f64 0 0] 30 (0, 0)) := (hu.block _ hlt1 (by omega)).trans H2.out
    have HB4 := Lib.hid (HB.out.trans (hu.below (B := w.heap.size) HB.out.size (fun k hk e => by omega)))
    obtain ⟨z0, z1, z2, z3, z4, z5, z6, z7, z8, z9, z10, z11, zz⟩ := row12 h4
    obtain ⟨x0, x1, x2, x3, x4, x5, x6, x7, x8, x9, x10, x11, xz⟩ := row12 h5
    have H5 := Lib.hid h5
    clear h4 h5 hu
    go_wp2_with fail
    obtain ⟨W5, hw5⟩ : ∃ W5, W5 = ((((((((((((W4.setCell ⟨w.heap.size + 1, 0, none⟩ (.int .i64 5)).setCell ⟨w.heap.size + 1, 1, none⟩ (.int .i64 pg)).setCell ⟨w.heap.size + 1, 2, none⟩ (.int .i64 0)).setCell ⟨w.heap.size + 1, 3, none⟩ (.int .i64 0)).setCell ⟨w.heap.size + 1, 4, none⟩ (.int .i64 cp)).setCell ⟨w.heap.size + 1, 5, none⟩ (.int .i64 ow)).setCell ⟨w.heap.size + 1, 6, none⟩ (.bool false)).setCell ⟨w.heap.size + 1, 7, none⟩ (.slice none 0 0)).setCell ⟨w.heap.size + 1, 8, none⟩ (.complex .f64 a0 b0)).setCell ⟨w.heap.size + 1, 9, none⟩ (.complex .f64 a1 b1)).setCell ⟨w.heap.size + 1, 10, none⟩ (.complex .f64 a2 b2)).setCell ⟨w.heap.size + 1, 11, none⟩ (.complex .f64 a3 b3)) := ⟨_, rfl⟩
    have hu : Upto (fun j => j = w.heap.size + 1) W4 W5 := by rw [hw5]; exact upto12 _ _ _ _ _ _ _ _ _ _ _ _ _ _
    have h6 := sets12_row H5.out (.int .i64 5) (.int .i64 pg) (.int .i64 0) (.int .i64 0) (.int .i64 cp) (.int .i64 ow) (.bool false) (.slice none 0 0) (.complex .f64 a0 b0) (.complex .f64 a1 b1) (.complex .f64 a2 b2) (.complex .f64 a3 b3)
    rw [← hw5] at h6 ⊢
    clear hw5 x0 x1 x2 x3 x4 x5 x6 x7 x8 x9 x10 x11 xz z0 z1 z2 z3 z4 z5 z6 z7 z8 z9 z10 z11 zz
    obtain ⟨x0, x1, x2, x3, x4, x5, x6, x7, x8, x9, x10, x11, xz⟩ := row12 h6
    clear h6
    refine bodyPost_ret (by simp [results, Try.results38, go_sem, x0, x1, x2, x3, x4, x5, x6, x7, x8, x9, x10, x11]; try rfl) rfl ?_
    exact ⟨rfl, HB4.out.trans (hu.below (B := w.heap.size) HB4.out.size (fun k hk e => by omega))⟩

end Go.Proofs.Ytbhjdapkhcgmlaa

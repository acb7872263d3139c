import Derived.Test.YtepmdplafnemhaaPageA
import Derived.Test.YtepmdplafnemhaaUpto
import Derived.Handy
namespace Go.Proofs.Ytepmdplafnemhaa
open Go.RowKit

/-! page.Set, page.Same, page.Right, page.there; cnum.Same. -/

theorem below2 (w : World) (a b : Obj) : Below w.heap.size w ((w.alloc a).alloc b) := ((Below.refl _ _).alloc (Nat.le_refl _) _).alloc (by simp) _

theorem csame_c (a b : Nat) (w : World) : Calls Try.prog 21 #[.complex .f64 a b, .complex .f64 a b] w fun e w' => e = .returned (.bool true) ∧ w = w' := by
  go_enter Try.func21, Try.ntmps21
  go_wp2_with (go_at_call 24; refine (cbits_c _ _ _).mono ?_; rintro e w' ⟨rfl, rfl⟩)
  go_ret
  exact ⟨ret_bool (by simp), rfl⟩

set_option maxHeartbeats 2000000 in
theorem right_c (w : World) : Calls Try.prog 6 #[.agg #[.int .i64 (-1), .complex .f64 0 0, .complex .f64 0 0, .complex .f64 0 0, .complex .f64 0 0]] w fun e w' => e = .returned (.bool false) ∧ Below w.heap.size w w' := by
  go_enter Try.func6, Try.ntmps6
  go_wp2_with fail
  go_ret
  exact ⟨ret_bool (by simp), (Below.refl _ _).alloc (Nat.le_refl _) _⟩

theorem there_c (w : World) : Calls Try.prog 20 #[.int .i64 2] w fun e w' => e = .returned (.bool true) ∧ w = w' := by
  go_enter Try.func20, Try.ntmps20
  go_wp2_with fail
  go_ret
  exact ⟨ret_bool (by simp), rfl⟩

theorem row5 {w : World} {b : Nat} {T : TypeId} {v0 v1 v2 v3 v4 : Value} (h : w.heap[b]? = some (.cells #[v0, v1, v2, v3, v4] T (0, 0))) : w.cell? ⟨b, 0, none⟩ = some v0 ∧ w.cell? ⟨b, 1, none⟩ = some v1 ∧ w.cell? ⟨b, 2, none⟩ = some v2 ∧ w.cell? ⟨b, 3, none⟩ = some v3 ∧ w.cell? ⟨b, 4, none⟩ = some v4 ∧ ∀ j, w.frozen? ⟨b, j, none⟩ = false :=
  ⟨(cell_of_row w b 0 _ _ _ h).trans rfl, (cell_of_row w b 1 _ _ _ h).trans rfl, (cell_of_row w b 2 _ _ _ h).trans rfl, (cell_of_row w b 3 _ _ _ h).trans rfl, (cell_of_row w b 4 _ _ _ h).trans rfl, row_thawed h⟩

@[local go_sem] theorem run_store_complex {P : Program} {w : World} {a : Addr} {m : Mode} (k : FloatKind) (x y : Nat) : (store a (.complex k x y) m).run P w = stored P w a (.complex k x y) m := run_store P w a _ m rfl

set_option maxRecDepth 1000000 in
set_option maxHeartbeats 4000000 in
theorem set_c (a b : Nat) (w : World) : Calls Try.prog 11 #[.agg #[.int .i64 0, .complex .f64 0 0, .complex .f64 0 0, .complex .f64 0 0, .complex .f64 0 0], .int .i64 2, .complex .f64 a b, .int .i64 5] w fun e w' =>
    e = .returned (.tuple #[.agg #[.int .i64 5, .complex .f64 0 0, .complex .f64 0 0, .complex .f64 a b, .complex .f64 0 0], .int .i64 0]) ∧ Below w.heap.size w w' := by
  have hb := below2 w (.cells #[.int .i64 0, .complex .f64 0 0, .complex .f64 0 0, .complex .f64 0 0, .complex .f64 0 0] 25) (.cells #[.int .i64 0, .complex .f64 0 0, .complex .f64 0 0, .complex .f64 0 0, .complex .f64 0 0] 25)
  have p1 := heap_alloc2_old w (.cells #[.int .i64 0, .complex .f64 0 0, .complex .f64 0 0, .complex .f64 0 0, .complex .f64 0 0] 25) (.cells #[.int .i64 0, .complex .f64 0 0, .complex .f64 0 0, .complex .f64 0 0, .complex .f64 0 0] 25)
  have p2 := heap_alloc2_new w (.cells #[.int .i64 0, .complex .f64 0 0, .complex .f64 0 0, .complex .f64 0 0, .complex .f64 0 0] 25) (.cells #[.int .i64 0, .complex .f64 0 0, .complex .f64 0 0, .complex .f64 0 0, .complex .f64 0 0] 25)
  go_enter Try.func11, Try.ntmps11
  go_wp2_with fail
  generalize (w.alloc (.cells #[.int .i64 0, .complex .f64 0 0, .complex .f64 0 0, .complex .f64 0 0, .complex .f64 0 0] 25)).alloc (.cells #[.int .i64 0, .complex .f64 0 0, .complex .f64 0 0, .complex .f64 0 0, .complex .f64 0 0] 25) = W0 at *
  have HB := Lib.hid hb
  obtain ⟨b0, b1, b2, b3, b4, bz⟩ := row5 p1
  obtain ⟨r0, r1, r2, r3, r4, rz⟩ := row5 p2
  clear hb p1 p2
  refine (there_c _).mono ?_; rintro e w1 ⟨rfl, rfl⟩
  have s0 := fun v => World.cell?_setCell_same W0 ⟨w.heap.size, 0, none⟩ v b0
  have s3 := fun v => World.cell?_setCell_same W0 ⟨w.heap.size, 3, none⟩ v b3
  have t0 := fun v => World.cell?_setCell_same W0 ⟨w.heap.size + 1, 0, none⟩ v r0
  have t1 := fun v => World.cell?_setCell_same W0 ⟨w.heap.size + 1, 1, none⟩ v r1
  have t2 := fun v => World.cell?_setCell_same W0 ⟨w.heap.size + 1, 2, none⟩ v r2
  have t3 := fun v => World.cell?_setCell_same W0 ⟨w.heap.size + 1, 3, none⟩ v r3
  have t4 := fun v => World.cell?_setCell_same W0 ⟨w.heap.size + 1, 4, none⟩ v r4
  go_wp2_with fail
  refine bodyPost_ret (by simp [results, Try.results11, go_sem, b0, b1, b2, b3, b4, r0, r1, r2, r3, r4]; try rfl) rfl ?_
  exact ⟨rfl, ((((((HB.out.setCell (p := ⟨w.heap.size, 3, none⟩) (Nat.le_refl _) _).setCell (p := ⟨w.heap.size, 0, none⟩) (Nat.le_refl _) _).setCell (p := ⟨w.heap.size + 1, 0, none⟩) (Nat.le_succ _) _).setCell (p := ⟨w.heap.size + 1, 1, none⟩) (Nat.le_succ _) _).setCell (p := ⟨w.heap.size + 1, 2, none⟩) (Nat.le_succ _) _).setCell (p := ⟨w.heap.size + 1, 3, none⟩) (Nat.le_succ _) _).setCell (p := ⟨w.heap.size + 1, 4, none⟩) (Nat.le_succ _) _⟩

end Go.Proofs.Ytepmdplafnemhaa

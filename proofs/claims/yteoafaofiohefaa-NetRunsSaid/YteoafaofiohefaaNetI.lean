import Derived.Test.YteoafaofiohefaaNetH
namespace Go.Proofs.Yteoafaofiohefaa
open Go.RowKit

/-! net.take: the walk. -/

theorem row2 {w : World} {b : Nat} {T : TypeId} {v0 v1 : Value} (h : w.heap[b]? = some (.cells #[v0, v1] T (0, 0))) : w.cell? ⟨b, 0, none⟩ = some v0 ∧ w.cell? ⟨b, 1, none⟩ = some v1 ∧ ∀ j, w.frozen? ⟨b, j, none⟩ = false :=
  ⟨(cell_of_row w b 0 _ _ _ h).trans rfl, (cell_of_row w b 1 _ _ _ h).trans rfl, row_thawed h⟩

set_option maxRecDepth 100000 in
set_option maxHeartbeats 8000000 in
theorem take_bad (n : Addr) (k i : Int) (hk : k < 0 ∨ 8 ≤ k) (w : World) :
    Calls Try.prog 26 #[.pointer (some n), .int .i64 k, .int .i64 i] w fun e w' => e = .returned (.tuple #[.pointer none, .agg #[.slice none 0 0, .bool false], .bool false]) ∧ Below w.heap.size w w' := by
  have hb1 : Below w.heap.size w (w.alloc (.cells #[.slice none 0 0, .bool false] 65)) := (Below.refl _ _).alloc (Nat.le_refl _) _
  have hrow := heap_alloc_new w (.cells #[.slice none 0 0, .bool false] 65)
  go_enter Try.func26, Try.ntmps26
  go_wp2_with fail
  generalize w.alloc (.cells #[.slice none 0 0, .bool false] 65) = w1 at *
  obtain ⟨x0, x1, xz⟩ := row2 hrow
  have HB := Lib.hid hb1
  clear hb1 hrow
  (with_reducible refine (at_no n k i hk w1).mono ?_); rintro e w2 ⟨rfl, rfl⟩
  have t0 := fun v => World.cell?_setCell_same w1 ⟨w.heap.size, 0, none⟩ v x0
  have t1 := fun v => World.cell?_setCell_same w1 ⟨w.heap.size, 1, none⟩ v x1
  go_wp2_with fail
  refine bodyPost_ret (by simp [results, Try.results26, go_sem, x0, x1]; try rfl) rfl ?_
  exact ⟨rfl, (HB.out.setCell (p := ⟨w.heap.size, 0, none⟩) (Nat.le_refl _) _).setCell (p := ⟨w.heap.size, 1, none⟩) (Nat.le_refl _) _⟩

end Go.Proofs.Yteoafaofiohefaa

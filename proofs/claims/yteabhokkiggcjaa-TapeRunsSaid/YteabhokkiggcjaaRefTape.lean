import Derived.Test.YteabhokkiggcjaaNames06
import Derived.Handy
namespace Go.Proofs.Yteabhokkiggcjaa
open Go.RowKit

/-! cloakroomref06. -/

theorem below2 (w : World) (a b : Obj) : Below w.heap.size w ((w.alloc a).alloc b) := ((Below.refl _ _).alloc (Nat.le_refl _) _).alloc (by simp) _

theorem ret_eq {a b : Value} (h : a = b) : Ending.returned a = .returned b := by rw [h]

set_option maxHeartbeats 2000000 in
theorem refLimit_c (D : Option Addr) (n c : Nat) (s r : Int) (m : Int) (w : World) :
    Calls Try.prog 21 #[.agg #[.slice D n c, .int .i64 s, .int .i64 r], .int .i64 m] w fun e w' => e = .returned (.agg #[.slice D n c, .int .i64 s, .int .i64 (max 0 (min m 20000))]) ∧ Below w.heap.size w w' := by
  by_cases h1 : m < 0
  · have e : max 0 (min m 20000) = 0 := by omega
    rw [e]
    clear e
    have h2 : ¬ (20000 < m) := by omega
    go_enter Try.func21, Try.ntmps21
    go_wp2_with fail
    go_returns
    exact ⟨rfl, below2 _ _ _⟩
  · by_cases h2 : 20000 < m
    · have e : max 0 (min m 20000) = 20000 := by omega
      rw [e]
      clear e
      go_enter Try.func21, Try.ntmps21
      go_wp2_with fail
      go_returns
      exact ⟨rfl, below2 _ _ _⟩
    · have e : max 0 (min m 20000) = m := by omega
      rw [e]
      clear e
      go_enter Try.func21, Try.ntmps21
      go_wp2_with fail
      go_returns
      exact ⟨rfl, below2 _ _ _⟩

set_option maxHeartbeats 2000000 in
theorem refNew_c (m : Int) (w : World) :
    Calls Try.prog 16 #[.int .i64 m] w fun e w' => e = .returned (.agg #[.slice none 0 0, .int .i64 0, .int .i64 (max 0 (min m 20000))]) ∧ Below w.heap.size w w' := by
  have hb : Below w.heap.size w (w.alloc (.cells #[.slice none 0 0, .int .i64 0, .int .i64 0] 40)) := (Below.refl _ _).alloc (Nat.le_refl _) _
  have HB := Lib.hid hb
  clear hb
  go_enter Try.func16, Try.ntmps16
  go_wp2_with fail
  refine (refLimit_c none 0 0 0 0 m _).mono ?_; rintro e w1 ⟨rfl, hb1⟩
  have hc := fun (j : Nat) => (hb1.cell (p := ⟨w.heap.size, j, none⟩) (by simp)).trans (cell_of_row _ w.heap.size j _ _ (0, 0) (heap_alloc_new w _))
  have hz := (hb1.block w.heap.size (by simp)).trans (heap_alloc_new w (.cells #[.slice none 0 0, .int .i64 0, .int .i64 0] 40))
  have z0 := row_thawed hz 0
  have z1 := row_thawed hz 1
  have z2 := row_thawed hz 2
  have c0 := hc 0
  have c1 := hc 1
  have c2 := hc 2
  simp at c0 c1 c2
  have HB1 := Lib.hid (HB.out.trans (hb1.mono HB.out.size))
  clear hb1 hc hz
  go_wp2_with fail
  have s0 := fun v => World.cell?_setCell_same w1 ⟨w.heap.size, 0, none⟩ v c0
  have s1 := fun v => World.cell?_setCell_same w1 ⟨w.heap.size, 1, none⟩ v c1
  have s2 := fun v => World.cell?_setCell_same w1 ⟨w.heap.size, 2, none⟩ v c2
  refine bodyPost_ret (by simp [results, Try.results16, go_sem, c0, c1, c2]; try rfl) rfl ?_
  exact ⟨rfl, ((HB1.out.setCell (p := ⟨w.heap.size, 0, none⟩) (Nat.le_refl _) _).setCell (p := ⟨w.heap.size, 1, none⟩) (Nat.le_refl _) _).setCell (p := ⟨w.heap.size, 2, none⟩) (Nat.le_refl _) _⟩

set_option maxHeartbeats 2000000 in
theorem refSync_c (D : Option Addr) (n c : Nat) (s r : Int) (w : World) :
    Calls Try.prog 18 #[.agg #[.slice D n c, .int .i64 s, .int .i64 r]] w fun e w' => e = .returned (.agg #[.slice D n c, .int .i64 n, .int .i64 r]) ∧ Below w.heap.size w w' := by
  go_enter Try.func18, Try.ntmps18
  go_wp2_with fail
  go_returns
  exact ⟨rfl, below2 _ _ _⟩

theorem row3 {w : World} {b : Nat} {T : TypeId} {x y z : Value} (h : w.heap[b]? = some (.cells #[x, y, z] T (0, 0))) : w.cell? ⟨b, 0, none⟩ = some x ∧ w.cell? ⟨b, 1, none⟩ = some y ∧ w.cell? ⟨b, 2, none⟩ = some z ∧ ∀ j, w.frozen? ⟨b, j, none⟩ = false :=
  ⟨(cell_of_row w b 0 _ _ _ h).trans rfl, (cell_of_row w b 1 _ _ _ h).trans rfl, (cell_of_row w b 2 _ _ _ h).trans rfl, row_thawed h⟩

set_option maxHeartbeats 2000000 in
theorem refAppend_no (D : Option Addr) (n c m cx : Nat) (s r : Int) (X : Option Addr) (w : World) (h1 : 0 < m) (h2 : r < (n : Int) + m) (hn : n ≤ 140737488351232) (hm : m ≤ 140737488351232) :
    Calls Try.prog 17 #[.agg #[.slice D n c, .int .i64 s, .int .i64 r], .slice X m cx] w fun e w' => e = .returned (.tuple #[.agg #[.slice D n c, .int .i64 s, .int .i64 r], .int .i64 61]) ∧ Below w.heap.size w w' := by
  have hw : IntKind.i64.wrap ((n : Int) + m) = (n : Int) + m := by rw [IntKind.wrap_i64]; omega
  go_enter Try.func17, Try.ntmps17
  go_wp2_with fail
  go_returns
  exact ⟨rfl, below2 _ _ _⟩

end Go.Proofs.Yteabhokkiggcjaa

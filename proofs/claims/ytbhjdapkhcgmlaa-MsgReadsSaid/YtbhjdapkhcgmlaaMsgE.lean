import Derived.Test.YtbhjdapkhcgmlaaMsgD
import Derived.Handy
import Derived.Deep.Cut

set_option linter.unusedSimpArgs false
set_option linter.unusedVariables false
set_option linter.unnecessarySimpa false

namespace Go.Proofs.Ytbhjdapkhcgmlaa
open Go.RowKit

attribute [local go_sem] run_store_complex

/-! msg.Same of a message without puts and itself; msg.bare; msg.Right. -/

theorem row5 {w : World} {b : Nat} {T : TypeId} {v0 v1 v2 v3 v4 : Value} (h : w.heap[b]? = some (.cells #[v0, v1, v2, v3, v4] T (0, 0))) : w.cell? ⟨b, 0, none⟩ = some v0 ∧ w.cell? ⟨b, 1, none⟩ = some v1 ∧ w.cell? ⟨b, 2, none⟩ = some v2 ∧ w.cell? ⟨b, 3, none⟩ = some v3 ∧ w.cell? ⟨b, 4, none⟩ = some v4 ∧ ∀ j, w.frozen? ⟨b, j, none⟩ = false :=
  ⟨(cell_of_row w b 0 _ _ _ h).trans rfl, (cell_of_row w b 1 _ _ _ h).trans rfl, (cell_of_row w b 2 _ _ _ h).trans rfl, (cell_of_row w b 3 _ _ _ h).trans rfl, (cell_of_row w b 4 _ _ _ h).trans rfl, row_thawed h⟩

theorem row12 {w : World} {b : Nat} {T : TypeId} {v0 v1 v2 v3 v4 v5 v6 v7 v8 v9 v10 v11 : Value} (h : w.heap[b]? = some (.cells #[v0, v1, v2, v3, v4, v5, v6, v7, v8, v9, v10, v11] T (0, 0))) :
    w.cell? ⟨b, 0, none⟩ = some v0 ∧ w.cell? ⟨b, 1, none⟩ = some v1 ∧ w.cell? ⟨b, 2, none⟩ = some v2 ∧ w.cell? ⟨b, 3, none⟩ = some v3 ∧ w.cell? ⟨b, 4, none⟩ = some v4 ∧ w.cell? ⟨b, 5, none⟩ = some v5 ∧ w.cell? ⟨b, 6, none⟩ = some v6 ∧ w.cell? ⟨b, 7, none⟩ = some v7 ∧ w.cell? ⟨b, 8, none⟩ = some v8 ∧ w.cell? ⟨b, 9, none⟩ = some v9 ∧ w.cell? ⟨b, 10, none⟩ = some v10 ∧ w.cell? ⟨b, 11, none⟩ = some v11 ∧ ∀ j, w.frozen? ⟨b, j, none⟩ = false :=
  ⟨(cell_of_row w b 0 _ _ _ h).trans rfl, (cell_of_row w b 1 _ _ _ h).trans rfl, (cell_of_row w b 2 _ _ _ h).trans rfl, (cell_of_row w b 3 _ _ _ h).trans rfl, (cell_of_row w b 4 _ _ _ h).trans rfl, (cell_of_row w b 5 _ _ _ h).trans rfl, (cell_of_row w b 6 _ _ _ h).trans rfl, (cell_of_row w b 7 _ _ _ h).trans rfl, (cell_of_row w b 8 _ _ _ h).trans rfl, (cell_of_row w b 9 _ _ _ h).trans rfl, (cell_of_row w b 10 _ _ _ h).trans rfl, (cell_of_row w b 11 _ _ _ h).trans rfl, row_thawed h⟩

theorem lt_of_row {w : World} {b n : Nat} {o : Obj} (hn : n ≤ b) (h : w.heap[b]? = some o) : n < w.heap.size := by
  obtain ⟨h1, _⟩ := Array.getElem?_eq_some_iff.1 h
  omega

theorem cell_alloc {w : World} {a : Addr} {u : Value} (o : Obj) (h : w.cell? a = some u) : (w.alloc o).cell? a = some u := by
  rw [World.cell?_alloc_some w a o (by rw [h]; rfl), h]

theorem eqf_bb (p q : Nat) (w : World) (hp : w.heap[p]? = some (Obj.cells #[.int .i64 0, .int .i64 0, .int .i64 0, .int .i64 0, .slice none 0 0] 80)) (hq : w.heap[q]? = some (Obj.cells #[.int .i64 0, .int .i64 0, .int .i64 0, .int .i64 0, .slice none 0 0] 80)) :
    Calls Try.prog 63 #[.slice (some ⟨p, 0, none⟩) 1 1, .slice (some ⟨q, 0, none⟩) 1 1, .func (.func 64) #[] #[]] w fun e w' => e = .returned (.bool true) ∧ Below w.heap.size w w' := by
  obtain ⟨x0, x1, x2, x3, x4, xz⟩ := row5 hp
  obtain ⟨y0, y1, y2, y3, y4, yz⟩ := row5 hq
  clear hp hq
  go_enter Try.func63, Try.ntmps63
  go_wp2_with fail
  go_loopw [17] (fun i wr => ∃ k : Nat, k ≤ 1 ∧ i = .int .i64 k ∧ Hid (Below w.heap.size w wr) ∧ (k = 0 → wr = w)) (fun i _ => 1 - (intOf i).toNat)
  case atStart => exact ⟨0, Nat.zero_le _, rfl, Below.refl _ _, fun _ => rfl⟩
  case round =>
    obtain ⟨k, hk, rfl, hb, hz⟩ := hrel
    by_cases h0 : k = 0
    · subst h0
      obtain rfl := hz rfl
      clear hb hz hk
      have y0a := fun o => cell_alloc o y0
      have y1a := fun o => cell_alloc o y1
      have y2a := fun o => cell_alloc o y2
      have y3a := fun o => cell_alloc o y3
      have y4a := fun o => cell_alloc o y4
      go_wp2_with fail
      have hw := below2 wr (Obj.cells #[.int .i64 0, .int .i64 0, .int .i64 0, .int .i64 0, .slice none 0 0] 80) (Obj.cells #[.int .i64 0, .int .i64 0, .int .i64 0, .int .i64 0, .slice none 0 0] 80)
      generalize (wr.alloc (Obj.cells #[.int .i64 0, .int .i64 0, .int .i64 0, .int .i64 0, .slice none 0 0] 80)).alloc (Obj.cells #[.int .i64 0, .int .i64 0, .int .i64 0, .int .i64 0, .slice none 0 0] 80) = W2 at *
      refine (wsame_c 0 0 0 0 _).mono ?_; rintro e w3 ⟨rfl, hb3⟩
      have HB3 := Lib.hid (hw.trans (hb3.mono hw.size))
      clear hw hb3 x0 x1 x2 x3 x4 y0 y1 y2 y3 y4 y0a y1a y2a y3a y4a
      go_wp2_with fail
      go_roundw
      case rel => exact ⟨0 + 1, by omega, rfl, HB3, fun e => absurd e (by omega)⟩
      case measure => simp [intOf]
    · have h1 : k = 1 := by omega
      subst h1
      clear hz
      go_wp2_with fail
      go_ret
      exact ⟨ret_bool (by simp), hb.out⟩

theorem wsames_c (p q : Nat) (w : World) (hp : w.heap[p]? = some (Obj.cells #[.int .i64 0, .int .i64 0, .int .i64 0, .int .i64 0, .slice none 0 0] 80)) (hq : w.heap[q]? = some (Obj.cells #[.int .i64 0, .int .i64 0, .int .i64 0, .int .i64 0, .slice none 0 0] 80)) :
    Calls Try.prog 46 #[.slice (some ⟨p, 0, none⟩) 1 1, .slice (some ⟨q, 0, none⟩) 1 1] w fun e w' => e = .returned (.bool true) ∧ Below w.heap.size w w' := by
  go_enter Try.func46, Try.ntmps46
  go_wp2_with fail
  refine (eqf_bb p q w hp hq).mono ?_; rintro e w1 ⟨rfl, hb⟩
  go_wp2_with fail
  go_ret
  exact ⟨ret_bool (by simp), hb⟩

/-- A message without puts. -/
def msgC (k pg ob tx cp ow : Int) (wr : Bool) (a0 b0 a1 b1 a2 b2 a3 b3 : Nat) : Array Value := #[.int .i64 k, .int .i64 pg, .int .i64 ob, .int .i64 tx, .int .i64 cp, .int .i64 ow, .bool wr, .slice none 0 0, .complex .f64 a0 b0, .complex .f64 a1 b1, .complex .f64 a2 b2, .complex .f64 a3 b3]

theorem msame_c (k pg ob tx cp ow : Int) (wr : Bool) (a0 b0 a1 b1 a2 b2 a3 b3 : Nat) (w : World) : Calls Try.prog 22 #[.agg (msgC k pg ob tx cp ow wr a0 b0 a1 b1 a2 b2 a3 b3), .agg (msgC k pg ob tx cp ow wr a0 b0 a1 b1 a2 b2 a3 b3)] w fun e w' => e = .returned (.bool true) ∧ Below w.heap.size w w' := by
  have hb := below2 w (.cells (msgC k pg ob tx cp ow wr a0 b0 a1 b1 a2 b2 a3 b3) 30) (.cells (msgC k pg ob tx cp ow wr a0 b0 a1 b1 a2 b2 a3 b3) 30)
  have p1 := heap_alloc2_old w (.cells (msgC k pg ob tx cp ow wr a0 b0 a1 b1 a2 b2 a3 b3) 30) (.cells (msgC k pg ob tx cp ow wr a0 b0 a1 b1 a2 b2 a3 b3) 30)
  have p2 := heap_alloc2_new w (.cells (msgC k pg ob tx cp ow wr a0 b0 a1 b1 a2 b2 a3 b3) 30) (.cells (msgC k pg ob tx cp ow wr a0 b0 a1 b1 a2 b2 a3 b3) 30)
  unfold msgC at *
  go_enter Try.func22, Try.ntmps22
  go_wp2_with fail
  generalize (w.alloc (.cells #[.int .i64 k, .int .i64 pg, .int .i64 ob, .int .i64 tx, .int .i64 cp, .int .i64 ow, .bool wr, .slice none 0 0, .complex .f64 a0 b0, .complex .f64 a1 b1, .complex .f64 a2 b2, .complex .f64 a3 b3] 30)).alloc (.cells #[.int .i64 k, .int .i64 pg, .int .i64 ob, .int .i64 tx, .int .i64 cp, .int .i64 ow, .bool wr, .slice none 0 0, .complex .f64 a0 b0, .complex .f64 a1 b1, .complex .f64 a2 b2, .complex .f64 a3 b3] 30) = W0 at *
  refine (values_c a0 b0 a1 b1 a2 b2 a3 b3 W0).mono ?_; rintro e w1 ⟨rfl, hb1⟩
  have z1 : w.heap.size < W0.heap.size := lt_of_row (by omega) p2
  have z2 : w.heap.size + 1 < W0.heap.size := lt_of_row (by omega) p2
  have r1 := (hb1.block w.heap.size z1).trans p1
  have r2 := (hb1.block (w.heap.size + 1) z2).trans p2
  have HB1 := Lib.hid (hb.trans (hb1.mono hb.size))
  clear hb hb1 p1 p2
  obtain ⟨x0, x1, x2, x3, x4, x5, x6, x7, x8, x9, x10, x11, xz⟩ := row12 r1
  obtain ⟨y0, y1, y2, y3, y4, y5, y6, y7, y8, y9, y10, y11, yz⟩ := row12 r2
  clear r1 r2
  have x7a := fun o => cell_alloc o x7
  have y7a := fun o => cell_alloc o y7
  go_wp2_with fail
  have hw := below2 w1 (Obj.cells #[.int .i64 0, .int .i64 0, .int .i64 0, .int .i64 0, .slice none 0 0] 80) (Obj.cells #[.int .i64 0, .int .i64 0, .int .i64 0, .int .i64 0, .slice none 0 0] 80)
  have e1 := heap_alloc2_old w1 (Obj.cells #[.int .i64 0, .int .i64 0, .int .i64 0, .int .i64 0, .slice none 0 0] 80) (Obj.cells #[.int .i64 0, .int .i64 0, .int .i64 0, .int .i64 0, .slice none 0 0] 80)
  have e2 := heap_alloc2_new w1 (Obj.cells #[.int .i64 0, .int .i64 0, .int .i64 0, .int .i64 0, .slice none 0 0] 80) (Obj.cells #[.int .i64 0, .int .i64 0, .int .i64 0, .int .i64 0, .slice none 0 0] 80)
  generalize (w1.alloc (Obj.cells #[.int .i64 0, .int .i64 0, .int .i64 0, .int .i64 0, .slice none 0 0] 80)).alloc (Obj.cells #[.int .i64 0, .int .i64 0, .int .i64 0, .int .i64 0, .slice none 0 0] 80) = W2 at *
  have HB2 := Lib.hid (HB1.out.trans (hw.mono HB1.out.size))
  clear hw HB1 x7a y7a
  refine (wsames_c _ _ _ e1 e2).mono ?_; rintro e w3 ⟨rfl, hb3⟩
  have HB3 := Lib.hid (HB2.out.trans (hb3.mono HB2.out.size))
  clear HB2 hb3 e1 e2 x0 x1 x2 x3 x4 x5 x6 x7 x8 x9 x10 x11 xz y0 y1 y2 y3 y4 y5 y6 y7 y8 y9 y10 y11 yz
  go_wp2_with fail
  go_ret
  exact ⟨ret_bool (by simp), HB3.out⟩

end Go.Proofs.Ytbhjdapkhcgmlaa

namespace Go.Proofs.Ytbhjdapkhcgmlaa
open Go.RowKit

attribute [local go_sem] run_store_complex

/-! msg.bare, msg.Right. -/

theorem sets12_row {w : World} {b : Nat} {T : TypeId} {z0 z1 z2 z3 z4 z5 z6 z7 z8 z9 z10 z11 : Value} (h : w.heap[b]? = some (.cells #[z0, z1, z2, z3, z4, z5, z6, z7, z8, z9, z10, z11] T (0, 0))) (v0 v1 v2 v3 v4 v5 v6 v7 v8 v9 v10 v11 : Value) :
    ((((((((((((w.setCell ⟨b, 0, none⟩ v0).setCell ⟨b, 1, none⟩ v1).setCell ⟨b, 2, none⟩ v2).setCell ⟨b, 3, none⟩ v3).setCell ⟨b, 4, none⟩ v4).setCell ⟨b, 5, none⟩ v5).setCell ⟨b, 6, none⟩ v6).setCell ⟨b, 7, none⟩ v7).setCell ⟨b, 8, none⟩ v8).setCell ⟨b, 9, none⟩ v9).setCell ⟨b, 10, none⟩ v10).setCell ⟨b, 11, none⟩ v11).heap[b]? = some (.cells #[v0, v1, v2, v3, v4, v5, v6, v7, v8, v9, v10, v11] T (0, 0)) := by
  have := (row_set (row_set (row_set (row_set (row_set (row_set (row_set (row_set (row_set (row_set (row_set (row_set h 0 v0) 1 v1) 2 v2) 3 v3) 4 v4) 5 v5) 6 v6) 7 v7) 8 v8) 9 v9) 10 v10) 11 v11)
  simpa using this

theorem sets3_row {w : World} {b : Nat} {T : TypeId} {z0 z1 z2 z3 z4 z5 z6 z7 z8 z9 z10 z11 : Value} (h : w.heap[b]? = some (.cells #[z0, z1, z2, z3, z4, z5, z6, z7, z8, z9, z10, z11] T (0, 0))) (v1 v4 v5 : Value) :
    (((w.setCell ⟨b, 1, none⟩ v1).setCell ⟨b, 4, none⟩ v4).setCell ⟨b, 5, none⟩ v5).heap[b]? = some (.cells #[z0, v1, z2, z3, v4, v5, z6, z7, z8, z9, z10, z11] T (0, 0)) := by
  have := row_set (row_set (row_set h 1 v1) 4 v4) 5 v5
  simpa using this

theorem sets2_row {w : World} {b : Nat} {T : TypeId} {z0 z1 z2 z3 z4 z5 z6 z7 z8 z9 z10 z11 : Value} (h : w.heap[b]? = some (.cells #[z0, z1, z2, z3, z4, z5, z6, z7, z8, z9, z10, z11] T (0, 0))) (v1 v2 : Value) :
    ((w.setCell ⟨b, 1, none⟩ v1).setCell ⟨b, 2, none⟩ v2).heap[b]? = some (.cells #[z0, v1, v2, z3, z4, z5, z6, z7, z8, z9, z10, z11] T (0, 0)) := by
  have := row_set (row_set h 1 v1) 2 v2
  simpa using this

theorem upto12 (w : World) (b : Nat) (v0 v1 v2 v3 v4 v5 v6 v7 v8 v9 v10 v11 : Value) : Upto (fun j => j = b) w ((((((((((((w.setCell ⟨b, 0, none⟩ v0).setCell ⟨b, 1, none⟩ v1).setCell ⟨b, 2, none⟩ v2).setCell ⟨b, 3, none⟩ v3).setCell ⟨b, 4, none⟩ v4).setCell ⟨b, 5, none⟩ v5).setCell ⟨b, 6, none⟩ v6).setCell ⟨b, 7, none⟩ v7).setCell ⟨b, 8, none⟩ v8).setCell ⟨b, 9, none⟩ v9).setCell ⟨b, 10, none⟩ v10).setCell ⟨b, 11, none⟩ v11) :=
  (((((((((((((Upto.refl (fun j => j = b) w).setCell (p := ⟨b, 0, none⟩) rfl v0).setCell (p := ⟨b, 1, none⟩) rfl v1).setCell (p := ⟨b, 2, none⟩) rfl v2).setCell (p := ⟨b, 3, none⟩) rfl v3).setCell (p := ⟨b, 4, none⟩) rfl v4).setCell (p := ⟨b, 5, none⟩) rfl v5).setCell (p := ⟨b, 6, none⟩) rfl v6).setCell (p := ⟨b, 7, none⟩) rfl v7).setCell (p := ⟨b, 8, none⟩) rfl v8).setCell (p := ⟨b, 9, none⟩) rfl v9).setCell (p := ⟨b, 10, none⟩) rfl v10).setCell (p := ⟨b, 11, none⟩) rfl v11)

theorem heap3 (w : World) (a b c : Obj) : (((w.alloc a).alloc b).alloc c).heap[w.heap.size]? = some a ∧ (((w.alloc a).alloc b).alloc c).heap[w.heap.size + 1]? = some b ∧ (((w.alloc a).alloc b).alloc c).heap[w.heap.size + 2]? = some c := by
  have e2 : (((w.alloc a).alloc b).alloc c).heap[w.heap.size + 1 + 1]? = some c := by simpa using heap_alloc_new ((w.alloc a).alloc b) c
  have hk := ((Below.refl ((w.alloc a).alloc b).heap.size ((w.alloc a).alloc b)).alloc (Nat.le_refl _) c)
  have e0 := heap_alloc2_old w a b
  have e1 := heap_alloc2_new w a b
  exact ⟨(hk.block _ (lt_of_row (Nat.le_refl _) e0)).trans e0, (hk.block _ (lt_of_row (Nat.le_refl _) e1)).trans e1, e2⟩

theorem below3 (w : World) (a b c : Obj) : Below w.heap.size w (((w.alloc a).alloc b).alloc c) := (below2 w a b).alloc (by simp; omega) _

set_option maxRecDepth 100000 in
set_option maxHeartbeats 8000000 in
theorem bare5_c (pg ob tx cp ow : Int) (wr : Bool) (a0 b0 a1 b1 a2 b2 a3 b3 : Nat) (w : World) : Calls Try.prog 38 #[.agg (msgC 5 pg ob tx cp ow wr a0 b0 a1 b1 a2 b2 a3 b3)] w fun e w' => e = .returned (.agg (msgC 5 pg 0 0 cp ow false a0 b0 a1 b1 a2 b2 a3 b3)) ∧ Below w.heap.size w w' := by
  unfold msgC
  go_enter Try.func38, Try.ntmps38
  go_wp2_with fail
  obtain ⟨h1, h2, h3⟩ := heap3 w (Obj.cells #[.int .i64 5, .int .i64 pg, .int .i64 ob, .int .i64 tx, .int .i64 cp, .int .i64 ow, .bool wr, .slice none 0 0, .complex .f64 a0 b0, .complex .f64 a1 b1, .complex .f64 a2 b2, .complex .f64 a3 b3] 30) (Obj.cells #[.int .i64 0, .int .i64 0, .int .i64 0, .int .i64 0, .int .i64 0, .int .i64 0, .bool false, .slice none 0 0, .complex .f64 0 0, .complex .f64 0 0, .complex .f64 0 0, .complex .f64 0 0] 30) (Obj.cells #[.int .i64 5, .int .i64 0, .int .i64 0, .int .i64 0, .int .i64 0, .int .i64 0, .bool false, .slice none 0 0, .complex .f64 a0 b0, .complex .f64 a1 b1, .complex .f64 a2 b2, .complex .f64 a3 b3] 30)
  have hb := below3 w (Obj.cells #[.int .i64 5, .int .i64 pg, .int .i64 ob, .int .i64 tx, .int .i64 cp, .int .i64 ow, .bool wr, .slice none 0 0, .complex .f64 a0 b0, .complex .f64 a1 b1, .complex .f64 a2 b2, .complex .f64 a3 b3] 30) (Obj.cells #[.int .i64 0, .int .i64 0, .int .i64 0, .int .i64 0, .int .i64 0, .int .i64 0, .bool false, .slice none 0 0, .complex .f64 0 0, .complex .f64 0 0, .complex .f64 0 0, .complex .f64 0 0] 30) (Obj.cells #[.int .i64 5, .int .i64 0, .int .i64 0, .int .i64 0, .int .i64 0, .int .i64 0, .bool false, .slice none 0 0, .complex .f64 a0 b0, .complex .f64 a1 b1, .complex .f64 a2 b2, .complex .f64 a3 b3] 30)
  generalize ((w.alloc (Obj.cells #[.int .i64 5, .int .i64 pg, .int .i64 ob, .int .i64 tx, .int .i64 cp, .int .i64 ow, .bool wr, .slice none 0 0, .complex .f64 a0 b0, .complex .f64 a1 b1, .complex .f64 a2 b2, .complex .f64 a3 b3] 30)).alloc (Obj.cells #[.int .i64 0, .int .i64 0, .int .i64 0, .int .i64 0, .int .i64 0, .int .i64 0, .bool false, .slice none 0 0, .complex .f64 0 0, .complex .f64 0 0, .complex .f64 0 0, .complex .f64 0 0] 30)).alloc (Obj.cells #[.int .i64 5, .int .i64 0, .int .i64 0, .int .i64 0, .int .i64 0, .int .i64 0, .bool false, .slice none 0 0, .complex .f64 a0 b0, .complex .f64 a1 b1, .complex .f64 a2 b2, .complex .f64 a3 b3] 30) = W3 at *
  have HB := Lib.hid hb
  obtain ⟨x0, x1, x2, x3, x4, x5, x6, x7, x8, x9, x10, x11, xz⟩ := row12 h1
  obtain ⟨z0, z1, z2, z3, z4, z5, z6, z7, z8, z9, z10, z11, zz⟩ := row12 h3
  have H2 := Lib.hid h2
  have H3 := Lib.hid h3
  clear h1 h2 h3 hb
  have hn2 : w.heap.size + 1 + 1 ≠ w.heap.size := by omega
  have hn12 : w.heap.size + 1 ≠ w.heap.size + 1 + 1 := by omega
  have hlt1 : w.heap.size + 1 < W3.heap.size := lt_of_row (Nat.le_succ _) H3.out
  have hl2 : w.heap.size ≤ w.heap.size + 1 + 1 := by omega
  rw [show w.heap.size + 2 = w.heap.size + 1 + 1 from rfl] at *
  generalize w.heap.size + 1 + 1 = B2 at *
  go_region_held_law (fun W => W.cell? ⟨w.heap.size, 1, none⟩ = some (.int .i64 pg) ∧ W.cell? ⟨w.heap.size, 4, none⟩ = some (.int .i64 cp) ∧ W.cell? ⟨w.heap.size, 5, none⟩ = some (.int .i64 ow)) (go_keep) (fail)
  all_goals
    rename_i hh
    clear hh
    obtain ⟨W4, hw4⟩ : ∃ W4, W4 = (((W3.setCell ⟨B2, 1, none⟩ (.int .i64 pg)).setCell ⟨B2, 4, none⟩ (.int .i64 cp)).setCell ⟨B2, 5, none⟩ (.int .i64 ow)).drew := ⟨_, rfl⟩
    have hu : Upto (fun j => j = B2) W3 W4 := by rw [hw4]; exact ((((Upto.refl (fun j => j = B2) W3).setCell (p := ⟨B2, 1, none⟩) rfl _).setCell (p := ⟨B2, 4, none⟩) rfl _).setCell (p := ⟨B2, 5, none⟩) rfl _).drew
    have h4 : W4.heap[B2]? = some (.cells #[.int .i64 5, .int .i64 pg, .int .i64 0, .int .i64 0, .int .i64 cp, .int .i64 ow, .bool false, .slice none 0 0, .complex .f64 a0 b0, .complex .f64 a1 b1, .complex .f64 a2 b2, .complex .f64 a3 b3] 30 (0, 0)) := by
      rw [hw4, heapDrew]
      exact sets3_row H3.out _ _ _
    rw [← hw4]
    clear hw4 x0 x1 x2 x3 x4 x5 x6 x7 x8 x9 x10 x11 xz z0 z1 z2 z3 z4 z5 z6 z7 z8 z9 z10 z11 zz
    have h5 : W4.heap[w.heap.size + 1]? = some (.cells #[.int .i64 0, .int .i64 0, .int .i64 0, .int .i64 0, .int .i64 0, .int .i64 0, .bool false, .slice none 0 0, .complex .f64 0 0, .complex .f64 0 0, .complex .f64 0 0, .complex .f64 0 0] 30 (0, 0)) := (hu.block _ hlt1 (by omega)).trans H2.out
    have HB4 := Lib.hid (HB.out.trans (hu.below (B := w.heap.size) HB.out.size (fun k hk e => by omega)))
    obtain ⟨z0, z1, z2, z3, z4, z5, z6, z7, z8, z9, z10, z11, zz⟩ := row12 h4
    obtain ⟨x0, x1, x2, x3, x4, x5, x6, x7, x8, x9, x10, x11, xz⟩ := row12 h5
    have H5 := Lib.hid h5
    clear h4 h5 hu
    go_wp2_with fail
    obtain ⟨W5, hw5⟩ : ∃ W5, W5 = ((((((((((((W4.setCell ⟨w.heap.size + 1, 0, none⟩ (.int .i64 5)).setCell ⟨w.heap.size + 1, 1, none⟩ (.int .i64 pg)).setCell ⟨w.heap.size + 1, 2, none⟩ (.int .i64 0)).setCell ⟨w.heap.size + 1, 3, none⟩ (.int .i64 0)).setCell ⟨w.heap.size + 1, 4, none⟩ (.int .i64 cp)).setCell ⟨w.heap.size + 1, 5, none⟩ (.int .i64 ow)).setCell ⟨w.heap.size + 1, 6, none⟩ (.bool false)).setCell ⟨w.heap.size + 1, 7, none⟩ (.slice none 0 0)).setCell ⟨w.heap.size + 1, 8, none⟩ (.complex .f64 a0 b0)).setCell ⟨w.heap.size + 1, 9, none⟩ (.complex .f64 a1 b1)).setCell ⟨w.heap.size + 1, 10, none⟩ (.complex .f64 a2 b2)).setCell ⟨w.heap.size + 1, 11, none⟩ (.complex .f64 a3 b3)) := ⟨_, rfl⟩
    have hu : Upto (fun j => j = w.heap.size + 1) W4 W5 := by rw [hw5]; exact upto12 _ _ _ _ _ _ _ _ _ _ _ _ _ _
    have h6 := sets12_row H5.out (.int .i64 5) (.int .i64 pg) (.int .i64 0) (.int .i64 0) (.int .i64 cp) (.int .i64 ow) (.bool false) (.slice none 0 0) (.complex .f64 a0 b0) (.complex .f64 a1 b1) (.complex .f64 a2 b2) (.complex .f64 a3 b3)
    rw [← hw5] at h6 ⊢
    clear hw5 x0 x1 x2 x3 x4 x5 x6 x7 x8 x9 x10 x11 xz z0 z1 z2 z3 z4 z5 z6 z7 z8 z9 z10 z11 zz
    obtain ⟨x0, x1, x2, x3, x4, x5, x6, x7, x8, x9, x10, x11, xz⟩ := row12 h6
    clear h6
    refine bodyPost_ret (by simp [results, Try.results38, go_sem, x0, x1, x2, x3, x4, x5, x6, x7, x8, x9, x10, x11]; try rfl) rfl ?_
    exact ⟨rfl, HB4.out.trans (hu.below (B := w.heap.size) HB4.out.size (fun k hk e => by omega))⟩

set_option maxRecDepth 100000 in
set_option maxHeartbeats 8000000 in
theorem bare0_c (pg ob tx cp ow : Int) (wr : Bool) (a0 b0 a1 b1 a2 b2 a3 b3 : Nat) (w : World) : Calls Try.prog 38 #[.agg (msgC 0 pg ob tx cp ow wr a0 b0 a1 b1 a2 b2 a3 b3)] w fun e w' => e = .returned (.agg (msgC 0 pg ob 0 0 0 false 0 0 0 0 0 0 0 0)) ∧ Below w.heap.size w w' := by
  unfold msgC
  go_enter Try.func38, Try.ntmps38
  go_wp2_with fail
  obtain ⟨h1, h2, h3⟩ := heap3 w (Obj.cells #[.int .i64 0, .int .i64 pg, .int .i64 ob, .int .i64 tx, .int .i64 cp, .int .i64 ow, .bool wr, .slice none 0 0, .complex .f64 a0 b0, .complex .f64 a1 b1, .complex .f64 a2 b2, .complex .f64 a3 b3] 30) (Obj.cells #[.int .i64 0, .int .i64 0, .int .i64 0, .int .i64 0, .int .i64 0, .int .i64 0, .bool false, .slice none 0 0, .complex .f64 0 0, .complex .f64 0 0, .complex .f64 0 0, .complex .f64 0 0] 30) (Obj.cells #[.int .i64 0, .int .i64 0, .int .i64 0, .int .i64 0, .int .i64 0, .int .i64 0, .bool false, .slice none 0 0, .complex .f64 0 0, .complex .f64 0 0, .complex .f64 0 0, .complex .f64 0 0] 30)
  have hb := below3 w (Obj.cells #[.int .i64 0, .int .i64 pg, .int .i64 ob, .int .i64 tx, .int .i64 cp, .int .i64 ow, .bool wr, .slice none 0 0, .complex .f64 a0 b0, .complex .f64 a1 b1, .complex .f64 a2 b2, .complex .f64 a3 b3] 30) (Obj.cells #[.int .i64 0, .int .i64 0, .int .i64 0, .int .i64 0, .int .i64 0, .int .i64 0, .bool false, .slice none 0 0, .complex .f64 0 0, .complex .f64 0 0, .complex .f64 0 0, .complex .f64 0 0] 30) (Obj.cells #[.int .i64 0, .int .i64 0, .int .i64 0, .int .i64 0, .int .i64 0, .int .i64 0, .bool false, .slice none 0 0, .complex .f64 0 0, .complex .f64 0 0, .complex .f64 0 0, .complex .f64 0 0] 30)
  generalize ((w.alloc (Obj.cells #[.int .i64 0, .int .i64 pg, .int .i64 ob, .int .i64 tx, .int .i64 cp, .int .i64 ow, .bool wr, .slice none 0 0, .complex .f64 a0 b0, .complex .f64 a1 b1, .complex .f64 a2 b2, .complex .f64 a3 b3] 30)).alloc (Obj.cells #[.int .i64 0, .int .i64 0, .int .i64 0, .int .i64 0, .int .i64 0, .int .i64 0, .bool false, .slice none 0 0, .complex .f64 0 0, .complex .f64 0 0, .complex .f64 0 0, .complex .f64 0 0] 30)).alloc (Obj.cells #[.int .i64 0, .int .i64 0, .int .i64 0, .int .i64 0, .int .i64 0, .int .i64 0, .bool false, .slice none 0 0, .complex .f64 0 0, .complex .f64 0 0, .complex .f64 0 0, .complex .f64 0 0] 30) = W3 at *
  have HB := Lib.hid hb
  obtain ⟨x0, x1, x2, x3, x4, x5, x6, x7, x8, x9, x10, x11, xz⟩ := row12 h1
  obtain ⟨z0, z1, z2, z3, z4, z5, z6, z7, z8, z9, z10, z11, zz⟩ := row12 h3
  have H2 := Lib.hid h2
  have H3 := Lib.hid h3
  clear h1 h2 h3 hb
  have hn2 : w.heap.size + 1 + 1 ≠ w.heap.size := by omega
  have hn12 : w.heap.size + 1 ≠ w.heap.size + 1 + 1 := by omega
  have hlt1 : w.heap.size + 1 < W3.heap.size := lt_of_row (Nat.le_succ _) H3.out
  have hl2 : w.heap.size ≤ w.heap.size + 1 + 1 := by omega
  rw [show w.heap.size + 2 = w.heap.size + 1 + 1 from rfl] at *
  generalize w.heap.size + 1 + 1 = B2 at *
  go_region_held_law (fun W => W.cell? ⟨w.heap.size, 1, none⟩ = some (.int .i64 pg) ∧ W.cell? ⟨w.heap.size, 2, none⟩ = some (.int .i64 ob)) (go_keep) (fail)
  all_goals
    rename_i hh
    clear hh
    obtain ⟨W4, hw4⟩ : ∃ W4, W4 = ((W3.setCell ⟨B2, 1, none⟩ (.int .i64 pg)).setCell ⟨B2, 2, none⟩ (.int .i64 ob)).drew := ⟨_, rfl⟩
    have hu : Upto (fun j => j = B2) W3 W4 := by rw [hw4]; exact (((Upto.refl (fun j => j = B2) W3).setCell (p := ⟨B2, 1, none⟩) rfl _).setCell (p := ⟨B2, 2, none⟩) rfl _).drew
    have h4 : W4.heap[B2]? = some (.cells #[.int .i64 0, .int .i64 pg, .int .i64 ob, .int .i64 0, .int .i64 0, .int .i64 0, .bool false, .slice none 0 0, .complex .f64 0 0, .complex .f64 0 0, .complex .f64 0 0, .complex .f64 0 0] 30 (0, 0)) := by
      rw [hw4, heapDrew]
      exact sets2_row H3.out _ _
    rw [← hw4]
    clear hw4 x0 x1 x2 x3 x4 x5 x6 x7 x8 x9 x10 x11 xz z0 z1 z2 z3 z4 z5 z6 z7 z8 z9 z10 z11 zz
    have h5 : W4.heap[w.heap.size + 1]? = some (.cells #[.int .i64 0, .int .i64 0, .int .i64 0, .int .i64 0, .int .i64 0, .int .i64 0, .bool false, .slice none 0 0, .complex .f64 0 0, .complex .f64 0 0, .complex .f64 0 0, .complex .f64 0 0] 30 (0, 0)) := (hu.block _ hlt1 (by omega)).trans H2.out
    have HB4 := Lib.hid (HB.out.trans (hu.below (B := w.heap.size) HB.out.size (fun k hk e => by omega)))
    obtain ⟨z0, z1, z2, z3, z4, z5, z6, z7, z8, z9, z10, z11, zz⟩ := row12 h4
    obtain ⟨x0, x1, x2, x3, x4, x5, x6, x7, x8, x9, x10, x11, xz⟩ := row12 h5
    have H5 := Lib.hid h5
    clear h4 h5 hu
    go_wp2_with fail
    obtain ⟨W5, hw5⟩ : ∃ W5, W5 = ((((((((((((W4.setCell ⟨w.heap.size + 1, 0, none⟩ (.int .i64 0)).setCell ⟨w.heap.size + 1, 1, none⟩ (.int .i64 pg)).setCell ⟨w.heap.size + 1, 2, none⟩ (.int .i64 ob)).setCell ⟨w.heap.size + 1, 3, none⟩ (.int .i64 0)).setCell ⟨w.heap.size + 1, 4, none⟩ (.int .i64 0)).setCell ⟨w.heap.size + 1, 5, none⟩ (.int .i64 0)).setCell ⟨w.heap.size + 1, 6, none⟩ (.bool false)).setCell ⟨w.heap.size + 1, 7, none⟩ (.slice none 0 0)).setCell ⟨w.heap.size + 1, 8, none⟩ (.complex .f64 0 0)).setCell ⟨w.heap.size + 1, 9, none⟩ (.complex .f64 0 0)).setCell ⟨w.heap.size + 1, 10, none⟩ (.complex .f64 0 0)).setCell ⟨w.heap.size + 1, 11, none⟩ (.complex .f64 0 0)) := ⟨_, rfl⟩
    have hu : Upto (fun j => j = w.heap.size + 1) W4 W5 := by rw [hw5]; exact upto12 _ _ _ _ _ _ _ _ _ _ _ _ _ _
    have h6 := sets12_row H5.out (.int .i64 0) (.int .i64 pg) (.int .i64 ob) (.int .i64 0) (.int .i64 0) (.int .i64 0) (.bool false) (.slice none 0 0) (.complex .f64 0 0) (.complex .f64 0 0) (.complex .f64 0 0) (.complex .f64 0 0)
    rw [← hw5] at h6 ⊢
    clear hw5 x0 x1 x2 x3 x4 x5 x6 x7 x8 x9 x10 x11 xz z0 z1 z2 z3 z4 z5 z6 z7 z8 z9 z10 z11 zz
    obtain ⟨x0, x1, x2, x3, x4, x5, x6, x7, x8, x9, x10, x11, xz⟩ := row12 h6
    clear h6
    refine bodyPost_ret (by simp [results, Try.results38, go_sem, x0, x1, x2, x3, x4, x5, x6, x7, x8, x9, x10, x11]; try rfl) rfl ?_
    exact ⟨rfl, HB4.out.trans (hu.below (B := w.heap.size) HB4.out.size (fun k hk e => by omega))⟩

end Go.Proofs.Ytbhjdapkhcgmlaa

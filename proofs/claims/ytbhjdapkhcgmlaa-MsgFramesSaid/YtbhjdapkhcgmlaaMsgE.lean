import Derived.Test.YtbhjdapkhcgmlaaMsgD
import Derived.Handy
import Derived.Deep.Cut
namespace Go.Proofs.Ytbhjdapkhcgmlaa
open Go.RowKit

attribute [local go_sem] run_store_complex

/-! msg.Same of a message without puts and itself; msg.bare; msg.Right. -/

theorem row5 {w : World} {b : Nat} {T : TypeId} {v0 v1 v2 v3 v4 : Value} (h : w.heap[b]? = some (.cells #[v0, v1, v2, v3, v4] T (0, 0))) : w.cell? ⟨b, 0, none⟩ = some v0 ∧ w.cell? ⟨b, 1, none⟩ = some v1 ∧ w.cell? ⟨b, 2, none⟩ = some v2 ∧ w.cell? ⟨b, 3, none⟩ = some v3 ∧ w.cell? ⟨b, 4, none⟩ = some v4 ∧ ∀ j, w.frozen? ⟨b, j, none⟩ = false :=
  ⟨(cell_of_row w b 0 _ _ _ h).trans rfl, (cell_of_row w b 1 _ _ _ h).trans rfl, (cell_of_row w b 2 _ _ _ h).trans rfl, (cell_of_row w b 3 _ _ _ h).trans rfl, (cell_of_row w b 4 _ _ _ h).trans rfl, row_thawed h⟩

theorem row12 {w : World} {b : Nat} {T : TypeId} {v0 v1 v2 v3 v4 v5 v6 v7 v8 v9 v10 v11 : Value} (h : w.heap[b]? = some (.cells #[v0, v1, v2, v3, v4, v5, v6, v7, v8, v9, v10, v11] T (0, 0))) :
    w.cell? ⟨b, 0, none⟩ = some v0 ∧ w.cell? ⟨b, 1, none⟩ = some v1 ∧ w.cell? ⟨b, 2, none⟩ = some v2 ∧ w.cell? ⟨b, 3, none⟩ = some v3 ∧ w.cell? ⟨b, 4, none⟩ = some v4 ∧ w.cell? ⟨b, 5, none⟩ = some v5 ∧ w.cell? ⟨b, 6, none⟩ = some v6 ∧ w.cell? ⟨b, 7, none⟩ = some v7 ∧ w.cell? ⟨b, 8, none⟩ = some v8 ∧ w.cell? ⟨b, 9, none⟩ = some v9 ∧ w.cell? ⟨b, 10, none⟩ = some v10 ∧ w.cell? ⟨b, 11, none⟩ = some v11 ∧ ∀ j, w.frozen? ⟨b, j, none⟩ = false :=
  ⟨(cell_of_row w b 0 _ _ _ h).trans rfl, (cell_of_row w b 1 _ _ _ h).trans rfl, (cell_of_row w b 2 _ _ _ h).trans rfl, (cell_of_row w b 3 _ _ _ h).trans rfl, (cell_of_row w b 4 _ _ _ h).trans rfl, (cell_of_row w b 5 _ _ _ h).trans rfl, (cell_of_row w b 6 _ _ _ h).trans rfl, (cell_of_row w b 7 _ _ _ h).trans rfl, (cell_of_row w b 8 _ _ _ h).trans rfl, (cell_of_row w b 9 _ _ _ h).trans rfl, (cell_of_row w b 10 _ _ _ h).trans rfl, (cell_of_row w b 11 _ _ _ h).trans rfl, row_thawed h⟩

theorem lt_of_row {w : World} {b n : Nat} {o : Obj} (hn : n ≤ b) (h : w.heap[b]? = some o) : n < w.heap.size := by
  obtain ⟨h1, _⟩ := Array.getElem?_eq_some_iff.1 h
  omega

theorem cell_alloc {w : World} {a : Addr} {u : Value} (o : Obj) (h : w.cell? a = some u) : (w.alloc o).cell? a = some u := by
  rw [World.cell?_alloc_some w a o (by rw [h]; rfl), h]

theorem eqf_bb (p q : Nat) (w : World) (hp : w.heap[p]? = some (Obj.cells #[.int .i64 0, .int .i64 0, .int .i64 0, .int .i64 0, .slice none 0 0] 80)) (hq : w.heap[q]? = some (Obj.cells #[.int .i64 0, .int .i64 0, .int .i64 0, .int .i64 0, .slice none 0 0] 80)) :
    Calls Try.prog 63 #[.slice (some ⟨p, 0, none⟩) 1 1, .slice (some ⟨q, 0, none⟩) 1 1, .func (.func 64) #[] #[]] w fun e w' => e = .returned (.bool true) ∧ Below w.heap.size w w' := by
  obtain ⟨x0, x1, x2, x3, x4, xz⟩ := row5 hp
  obtain ⟨y0, y1, y2, y3, y4, yz⟩ := row5 hq
  clear hp hq
  go_enter Try.func63, Try.ntmps63
  go_wp2_with fail
  go_loopw [17] (fun i wr => ∃ k : Nat, k ≤ 1 ∧ i = .int .i64 k ∧ Hid (Below w.heap.size w wr) ∧ (k = 0 → wr = w)) (fun i _ => 1 - (intOf i).toNat)
  case atStart => exact ⟨0, Nat.zero_le _, rfl, Below.refl _ _, fun _ => rfl⟩
  case round =>
    obtain ⟨k, hk, rfl, hb, hz⟩ := hrel
    by_cases h0 : k = 0
    · subst h0
      obtain rfl := hz rfl
      clear hb hz hk
      have y0a := fun o => cell_alloc o y0
      have y1a := fun o => cell_alloc o y1
      have y2a := fun o => cell_alloc o y2
      have y3a := fun o => cell_alloc o y3
      have y4a := fun o => cell_alloc o y4
      go_wp2_with fail
      have hw := below2 wr (Obj.cells #[.int .i64 0, .int .i64 0, .int .i64 0, .int .i64 0, .slice none 0 0] 80) (Obj.cells #[.int .i64 0, .int .i64 0, .int .i64 0, .int .i64 0, .slice none 0 0] 80)
      generalize (wr.alloc (Obj.cells #[.int .i64 0, .int .i64 0, .int .i64 0, .int .i64 0, .slice none 0 0] 80)).alloc (Obj.cells #[.int .i64 0, .int .i64 0, .int .i64 0, .int .i64 0, .slice none 0 0] 80) = W2 at *
      refine (wsame_c 0 0 0 0 _).mono ?_; rintro e w3 ⟨rfl, hb3⟩
      have HB3 := Lib.hid (hw.trans (hb3.mono hw.size))
      clear hw hb3 x0 x1 x2 x3 x4 y0 y1 y2 y3 y4 y0a y1a y2a y3a y4a
      go_wp2_with fail
      go_roundw
      case rel => exact ⟨0 + 1, by omega, rfl, HB3, fun e => absurd e (by omega)⟩
      case measure => simp [intOf]
    · have h1 : k = 1 := by omega
      subst h1
      clear hz
      go_wp2_with fail
      go_ret
      exact ⟨ret_bool (by simp), hb.out⟩

theorem wsames_c (p q : Nat) (w : World) (hp : w.heap[p]? = some (Obj.cells #[.int .i64 0, .int .i64 0, .int .i64 0, .int .i64 0, .slice none 0 0] 80)) (hq : w.heap[q]? = some (Obj.cells #[.int .i64 0, .int .i64 0, .int .i64 0, .int .i64 0, .slice none 0 0] 80)) :
    Calls Try.prog 46 #[.slice (some ⟨p, 0, none⟩) 1 1, .slice (some ⟨q, 0, none⟩) 1 1] w fun e w' => e = .returned (.bool true) ∧ Below w.heap.size w w' := by
  go_enter Try.func46, Try.ntmps46
  go_wp2_with fail
  refine (eqf_bb p q w hp hq).mono ?_; rintro e w1 ⟨rfl, hb⟩
  go_wp2_with fail
  go_ret
  exact ⟨ret_bool (by simp), hb⟩

/-- A message without puts. -/
def msgC (k pg ob tx cp ow : Int) (wr : Bool) (a0 b0 a1 b1 a2 b2 a3 b3 : Nat) : Array Value := #[.int .i64 k, .int .i64 pg, .int .i64 ob, .int .i64 tx, .int .i64 cp, .int .i64 ow, .bool wr, .slice none 0 0, .complex .f64 a0 b0, .complex .f64 a1 b1, .complex .f64 a2 b2, .complex .f64 a3 b3]

theorem msame_c (k pg ob tx cp ow : Int) (wr : Bool) (a0 b0 a1 b1 a2 b2 a3 b3 : Nat) (w : World) : Calls Try.prog 22 #[.agg (msgC k pg ob tx cp ow wr a0 b0 a1 b1 a2 b2 a3 b3), .agg (msgC k pg ob tx cp ow wr a0 b0 a1 b1 a2 b2 a3 b3)] w fun e w' => e = .returned (.bool true) ∧ Below w.heap.size w w' := by
  have hb := below2 w (.cells (msgC k pg ob tx cp ow wr a0 b0 a1 b1 a2 b2 a3 b3) 30) (.cells (msgC k pg ob tx cp ow wr a0 b0 a1 b1 a2 b2 a3 b3) 30)
  have p1 := heap_alloc2_old w (.cells (msgC k pg ob tx cp ow wr a0 b0 a1 b1 a2 b2 a3 b3) 30) (.cells (msgC k pg ob tx cp ow wr a0 b0 a1 b1 a2 b2 a3 b3) 30)
  have p2 := heap_alloc2_new w (.cells (msgC k pg ob tx cp ow wr a0 b0 a1 b1 a2 b2 a3 b3) 30) (.cells (msgC k pg ob tx cp ow wr a0 b0 a1 b1 a2 b2 a3 b3) 30)
  unfold msgC at *
  go_enter Try.func22, Try.ntmps22
  go_wp2_with fail
  generalize (w.alloc (.cells #[.int .i64 k, .int .i64 pg, .int .i64 ob, .int .i64 tx, .int .i64 cp, .int .i64 ow, .bool wr, .slice none 0 0, .complex .f64 a0 b0, .complex .f64 a1 b1, .complex .f64 a2 b2, .complex .f64 a3 b3] 30)).alloc (.cells #[.int .i64 k, .int .i64 pg, .int .i64 ob, .int .i64 tx, .int .i64 cp, .int .i64 ow, .bool wr, .slice none 0 0, .complex .f64 a0 b0, .complex .f64 a1 b1, .complex .f64 a2 b2, .complex .f64 a3 b3] 30) = W0 at *
  refine (values_c a0 b0 a1 b1 a2 b2 a3 b3 W0).mono ?_; rintro e w1 ⟨rfl, hb1⟩
  have z1 : w.heap.size < W0.heap.size := lt_of_row (by omega) p2
  have z2 : w.heap.size + 1 < W0.heap.size := lt_of_row (by omega) p2
  have r1 := (hb1.block w.heap.size z1).trans p1
  have r2 := (hb1.block (w.heap.size + 1) z2).trans p2
  have HB1 := Lib.hid (hb.trans (hb1.mono hb.size))
  clear hb hb1 p1 p2
  obtain ⟨x0, x1, x2, x3, x4, x5, x6, x7, x8, x9, x10, x11, xz⟩ := row12 r1
  obtain ⟨y0, y1, y2, y3, y4, y5, y6, y7, y8, y9, y10, y11, yz⟩ := row12 r2
  clear r1 r2
  have x7a := fun o => cell_alloc o x7
  have y7a := fun o => cell_alloc o y7
  go_wp2_with fail
  have hw := below2 w1 (Obj.cells #[.int .i64 0, .int .i64 0, .int .i64 0, .int .i64 0, .slice none 0 0] 80) (Obj.cells #[.int .i64 0, .int .i64 0, .int .i64 0, .int .i64 0, .slice none 0 0] 80)
  have e1 := heap_alloc2_old w1 (Obj.cells #[.int .i64 0, .int .i64 0, .int .i64 0, .int .i64 0, .slice none 0 0] 80) (Obj.cells #[.int .i64 0, .int .i64 0, .int .i64 0, .int .i64 0, .slice none 0 0] 80)
  have e2 := heap_alloc2_new w1 (Obj.cells #[.int .i64 0, .int .i64 0, .int .i64 0, .int .i64 0, .slice none 0 0] 80) (Obj.cells #[.int .i64 0, .int .i64 0, .int .i64 0, .int .i64 0, .slice none 0 0] 80)
  generalize (w1.alloc (Obj.cells #[.int .i64 0, .int .i64 0, .int .i64 0, .int .i64 0, .slice none 0 0] 80)).alloc (Obj.cells #[.int .i64 0, .int .i64 0, .int .i64 0, .int .i64 0, .slice none 0 0] 80) = W2 at *
  have HB2 := Lib.hid (HB1.out.trans (hw.mono HB1.out.size))
  clear hw HB1 x7a y7a
  refine (wsames_c _ _ _ e1 e2).mono ?_; rintro e w3 ⟨rfl, hb3⟩
  have HB3 := Lib.hid (HB2.out.trans (hb3.mono HB2.out.size))
  clear HB2 hb3 e1 e2 x0 x1 x2 x3 x4 x5 x6 x7 x8 x9 x10 x11 xz y0 y1 y2 y3 y4 y5 y6 y7 y8 y9 y10 y11 yz
  go_wp2_with fail
  go_ret
  exact ⟨ret_bool (by simp), HB3.out⟩

end Go.Proofs.Ytbhjdapkhcgmlaa

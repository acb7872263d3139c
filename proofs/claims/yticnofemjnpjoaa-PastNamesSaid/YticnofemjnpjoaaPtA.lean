import Derived.Test.YticnofemjnpjoaaProg
import Derived.Test.YticnofemjnpjoaaFl
import Derived.Test.YticnofemjnpjoaaAid
import Derived.Below
import Derived.OwnWalk
import Derived.Laws.AppendOwn
import Derived.Laws.AppendOwnNone
import Derived.Laws.OwnMore
import Derived.Deep.AppendLies
import Derived.Handy
import Derived.Deep.Cut
import Derived.Deep.RegionHeldLaw
import Derived.Deep.RegionLaw
import Derived.Deep.OwnRows

set_option linter.unusedSimpArgs false
set_option linter.unusedVariables false
set_option linter.unnecessarySimpa false

namespace Go.Proofs.Yticnofemjnpjoaa
open Go.RowKit

/-! Of other layers' texts, what past needs: cnum, rows and cells, lists of puts, wal.Same. -/

theorem bits_run (b : Nat) (w : World) : (callFunc 31 #[.float .f64 b]).run Try.prog w = .ok (.value (.int .u64 b)) w := by
  rw [run_callFunc_extern (fn := Try.f31) (e := Extern.MathFloatBits.float64bits) rfl (by kernel_rfl) (by kernel_rfl) (by kernel_rfl) (by kernel_rfl)]
  rfl

theorem isNaN_c (b : Nat) (w : World) : Calls Try.prog 30 #[.float .f64 b] w fun e w' => e = .returned (.bool (nanB b)) ∧ w = w' := by
  have h0 := ord_self b
  go_enter Try.func30, Try.ntmps30
  go_wp2
  go_ret
  exact ⟨rfl, rfl⟩

theorem cform_c (b : Nat) (w : World) : Calls Try.prog 29 #[.float .f64 b] w fun e w' => e = .returned (.int .u64 (formF b : Nat)) ∧ w = w' := by
  have h1 := fun b => bits_run b w
  by_cases hn : nanB b = true
  · have hf : formF b = 9221120237041090561 := by unfold formF; rw [if_pos hn]
    have H := Lib.hid hf; clear hf
    go_enter Try.func29, Try.ntmps29
    go_wp2_with (go_at_call 30; refine (isNaN_c _ _).mono ?_; rintro e w' ⟨rfl, rfl⟩)
    go_ret
    exact ⟨by rw [H.out]; rfl, rfl⟩
  · have hn' : nanB b = false := by simpa using hn
    have hf : formF b = b := by unfold formF; rw [if_neg hn]
    have H := Lib.hid hf; clear hf hn
    go_enter Try.func29, Try.ntmps29
    go_wp2_with (go_at_call 30; refine (isNaN_c _ _).mono ?_; rintro e w' ⟨rfl, rfl⟩)
    go_ret
    exact ⟨by rw [H.out]; rfl, rfl⟩

theorem cbits_c (a b : Nat) (w : World) : Calls Try.prog 28 #[.complex .f64 a b] w fun e w' => e = .returned (.tuple #[.int .u64 (formF a : Nat), .int .u64 (formF b : Nat)]) ∧ w = w' := by
  go_enter Try.func28, Try.ntmps28
  go_wp2_with (go_at_call 29; refine (cform_c _ _).mono ?_; rintro e w' ⟨rfl, rfl⟩)
  go_ret2
  exact ⟨rfl, rfl⟩

@[local go_sem] theorem run_store_complex {P : Program} {w : World} {a : Addr} {m : Mode} (k : FloatKind) (x y : Nat) : (store a (.complex k x y) m).run P w = stored P w a (.complex k x y) m := run_store P w a _ m rfl

section
variable {K K' : Nat → Prop} {a b c w w' : World} {B : Nat}
structure Upto (K : Nat → Prop) (w w' : World) : Prop where
  os : w'.os = w.os
  tape : w'.tape = w.tape
  output : w'.output = w.output
  size : w.heap.size ≤ w'.heap.size
  block : ∀ k, k < w.heap.size → ¬ K k → w'.heap[k]? = w.heap[k]?

theorem Upto.refl (K : Nat → Prop) (w : World) : Upto K w w := ⟨rfl, rfl, rfl, Nat.le_refl _, fun _ _ _ => rfl⟩

theorem Upto.trans (h : Upto K a b) (k : Upto K' b c) (hK : ∀ i, i < a.heap.size → K' i → K i) : Upto K a c :=
  ⟨k.os.trans h.os, k.tape.trans h.tape, k.output.trans h.output, Nat.le_trans h.size k.size, fun i hi hn => (k.block i (Nat.lt_of_lt_of_le hi h.size) (fun e => hn (hK i hi e))).trans (h.block i hi hn)⟩

theorem Upto.of_below (h : Below w.heap.size w w') : Upto K w w' := ⟨h.os, h.tape, h.output, h.size, fun k hk _ => h.block k hk⟩

theorem Upto.then (h : Upto K a b) (k : Below b.heap.size b c) : Upto K a c := h.trans (K' := fun _ => False) (Upto.of_below k) (fun _ _ e => e.elim)

theorem Upto.below (h : Upto K w w') (hB : B ≤ w.heap.size) (hK : ∀ k, k < B → ¬ K k) : Below B w w' := ⟨h.os, h.tape, h.output, h.size, fun k hk => h.block k (by omega) (hK k hk)⟩

theorem Upto.mono (h : Upto K w w') (hK : ∀ k, k < w.heap.size → K k → K' k) : Upto K' w w' := ⟨h.os, h.tape, h.output, h.size, fun k hk hn => h.block k hk (fun e => hn (hK k hk e))⟩

theorem Upto.drew (h : Upto K a w) : Upto K a w.drew := ⟨h.os, h.tape, h.output, h.size, h.block⟩

theorem Upto.setCell (h : Upto K a w) {p : Addr} (hp : K p.block) (u : Value) : Upto K a (w.setCell p u) :=
  h.trans (K' := K) ⟨rfl, rfl, rfl, by simp [World.setCell], fun k _ hn => Below.heap_setCell _ _ _ _ (fun e => hn (e ▸ hp))⟩ (fun _ _ e => e)

theorem Upto.grown (h : Upto K a w) {row : Option Nat} (hg : w.grownBy w' row) (hr : ∀ k, row = some k → k < a.heap.size → K k) : Upto K a w' :=
  h.trans (K' := fun k => row = some k) ⟨hg.os, hg.tape, hg.output, hg.size, fun k hk hn => hg.block k hk (fun e => hn e.symm)⟩ (fun i hi e => hr i e hi)

theorem Upto.cell (h : Upto K w w') {p : Addr} (hp : p.block < w.heap.size) (hn : ¬ K p.block) : w'.cell? p = w.cell? p := World.cell?_of_block (w := w) (h.block p.block hp hn)

end

/-- A row of cells, one of them set. -/
theorem row_set {w : World} {b : Nat} {cs : Array Value} {T : TypeId} {m : Nat × Nat} (h : w.heap[b]? = some (.cells cs T m)) (j : Nat) (v : Value) : (w.setCell ⟨b, j, none⟩ v).heap[b]? = some (.cells (cs.setIfInBounds j v) T m) := by
  simp [World.setCell, Array.getElem?_modify, h]

theorem row_thawed {w : World} {b : Nat} {cs : Array Value} {T : TypeId} (h : w.heap[b]? = some (.cells cs T (0, 0))) (j : Nat) : w.frozen? ⟨b, j, none⟩ = false := by
  simp [World.frozen?, h]

theorem take_snoc {α : Type} {l : List α} {k : Nat} {x : α} (h : l[k]? = some x) : l.take (k + 1) = l.take k ++ [x] := by
  rw [List.take_add_one, h]; rfl

theorem get_some {α : Type} (l : List α) (k : Nat) (h : k < l.length) : ∃ x, l[k]? = some x := ⟨_, List.getElem?_eq_getElem h⟩

theorem below2 (w : World) (a b : Obj) : Below w.heap.size w ((w.alloc a).alloc b) := ((Below.refl _ _).alloc (Nat.le_refl _) _).alloc (by simp) _

theorem row4 {w : World} {b : Nat} {T : TypeId} {v0 v1 v2 v3 : Value} (h : w.heap[b]? = some (.cells #[v0, v1, v2, v3] T (0, 0))) : w.cell? ⟨b, 0, none⟩ = some v0 ∧ w.cell? ⟨b, 1, none⟩ = some v1 ∧ w.cell? ⟨b, 2, none⟩ = some v2 ∧ w.cell? ⟨b, 3, none⟩ = some v3 ∧ ∀ j, w.frozen? ⟨b, j, none⟩ = false :=
  ⟨(cell_of_row w b 0 _ _ _ h).trans rfl, (cell_of_row w b 1 _ _ _ h).trans rfl, (cell_of_row w b 2 _ _ _ h).trans rfl, (cell_of_row w b 3 _ _ _ h).trans rfl, row_thawed h⟩

theorem row5 {w : World} {b : Nat} {T : TypeId} {v0 v1 v2 v3 v4 : Value} (h : w.heap[b]? = some (.cells #[v0, v1, v2, v3, v4] T (0, 0))) : w.cell? ⟨b, 0, none⟩ = some v0 ∧ w.cell? ⟨b, 1, none⟩ = some v1 ∧ w.cell? ⟨b, 2, none⟩ = some v2 ∧ w.cell? ⟨b, 3, none⟩ = some v3 ∧ w.cell? ⟨b, 4, none⟩ = some v4 ∧ ∀ j, w.frozen? ⟨b, j, none⟩ = false :=
  ⟨(cell_of_row w b 0 _ _ _ h).trans rfl, (cell_of_row w b 1 _ _ _ h).trans rfl, (cell_of_row w b 2 _ _ _ h).trans rfl, (cell_of_row w b 3 _ _ _ h).trans rfl, (cell_of_row w b 4 _ _ _ h).trans rfl, row_thawed h⟩

theorem lt_of_row {w : World} {b n : Nat} {o : Obj} (hn : n ≤ b) (h : w.heap[b]? = some o) : n < w.heap.size := by
  obtain ⟨h1, _⟩ := Array.getElem?_eq_some_iff.1 h
  omega

theorem cell_alloc {w : World} {a : Addr} {u : Value} (o : Obj) (h : w.cell? a = some u) : (w.alloc o).cell? a = some u := by
  rw [World.cell?_alloc_some w a o (by rw [h]; rfl), h]

theorem cell_below {w w' : World} {a : Addr} {u : Value} (h : Below w.heap.size w w') (hc : w.cell? a = some u) : w'.cell? a = some u := by
  have h1 := World.block_lt_of_cell? w a hc
  rw [← hc]
  unfold World.cell?
  rw [h.block _ h1]

theorem row_drewI {w : World} {b : Nat} {o : Option Obj} (h : w.heap[b]? = o) : w.drew.heap[b]? = o := h

/-- Two numbers alike. -/
def sameV (x y : Nat × Nat) : Bool := decide (formF x.1 = formF y.1) && decide (formF x.2 = formF y.2)

theorem csame_g (a b c d : Nat) (w : World) : Calls Try.prog 24 #[.complex .f64 a b, .complex .f64 c d] w fun e w' => e = .returned (.bool (sameV (a, b) (c, d))) ∧ w = w' := by
  have hs : sameV (a, b) (c, d) = (decide (formF a = formF c) && decide (formF b = formF d)) := rfl
  rw [hs]
  have ha := cbits_c a b
  have hc := cbits_c c d
  generalize formF a = x at *
  generalize formF b = y at *
  generalize formF c = z at *
  generalize formF d = u at *
  by_cases h1 : x = z
  · by_cases h2 : y = u
    · subst h1 h2
      go_enter Try.func24, Try.ntmps24
      go_wp2_with fail
      refine (ha _).mono ?_; rintro e w1 ⟨rfl, rfl⟩
      go_wp2_with fail
      refine (hc _).mono ?_; rintro e w1 ⟨rfl, rfl⟩
      go_wp2_with fail
      go_ret
      exact ⟨ret_bool (by simp), rfl⟩
    · have h3 : ((y : Int) == (u : Int)) = false := by simp; omega
      subst h1
      go_enter Try.func24, Try.ntmps24
      go_wp2_with fail
      refine (ha _).mono ?_; rintro e w1 ⟨rfl, rfl⟩
      go_wp2_with fail
      refine (hc _).mono ?_; rintro e w1 ⟨rfl, rfl⟩
      go_wp2_with fail
      go_ret
      exact ⟨ret_bool (by simp [h2]), rfl⟩
  · have h3 : ((x : Int) == (z : Int)) = false := by simp; omega
    go_enter Try.func24, Try.ntmps24
    go_wp2_with fail
    refine (ha _).mono ?_; rintro e w1 ⟨rfl, rfl⟩
    go_wp2_with fail
    refine (hc _).mono ?_; rintro e w1 ⟨rfl, rfl⟩
    go_wp2_with fail
    go_ret
    exact ⟨ret_bool (by simp [h1]), rfl⟩

theorem csame_r (a b : Nat) (w : World) : Calls Try.prog 24 #[.complex .f64 a b, .complex .f64 a b] w fun e w' => e = .returned (.bool true) ∧ w = w' := by
  have h := csame_g a b a b w
  have e : sameV (a, b) (a, b) = true := by unfold sameV; simp
  rw [e] at h
  exact h

/-- A put: its page, its object, its value's parts. -/
structure PutV where
  pg : Int
  ob : Int
  re : Nat
  im : Nat
deriving DecidableEq

/-- The puts in the row b. -/
def RdP (w : World) (b : Nat) (ps : List PutV) : Prop := ∀ (i : Nat) (p : PutV), ps[i]? = some p → w.cell? ⟨b, i * 3, none⟩ = some (.int .i64 p.pg) ∧ w.cell? ⟨b, i * 3 + 1, none⟩ = some (.int .i64 p.ob) ∧ w.cell? ⟨b, i * 3 + 2, none⟩ = some (.complex .f64 p.re p.im)

theorem RdP.below {w w' : World} {b : Nat} {ps : List PutV} (h : RdP w b ps) (hb : Below w.heap.size w w') : RdP w' b ps := fun i p hp => by
  obtain ⟨h0, h1, h2⟩ := h i p hp
  exact ⟨cell_below hb h0, cell_below hb h1, cell_below hb h2⟩

theorem row3 {w : World} {b : Nat} {T : TypeId} {v0 v1 v2 : Value} (h : w.heap[b]? = some (.cells #[v0, v1, v2] T (0, 0))) : w.cell? ⟨b, 0, none⟩ = some v0 ∧ w.cell? ⟨b, 1, none⟩ = some v1 ∧ w.cell? ⟨b, 2, none⟩ = some v2 ∧ ∀ j, w.frozen? ⟨b, j, none⟩ = false :=
  ⟨(cell_of_row w b 0 _ _ _ h).trans rfl, (cell_of_row w b 1 _ _ _ h).trans rfl, (cell_of_row w b 2 _ _ _ h).trans rfl, row_thawed h⟩

theorem place_c (pg ob : Int) (a b : Nat) (h1 : 0 ≤ pg) (h2 : pg ≤ 16777215) (h3 : 0 ≤ ob) (h4 : ob ≤ 16777215) (w : World) : Calls Try.prog 27 #[.agg #[.int .i64 pg, .int .i64 ob, .complex .f64 a b]] w fun e w' => e = .returned (.int .i64 (pg * 4 + ob)) ∧ Below w.heap.size w w' := by
  have hb := (Below.refl w.heap.size w).alloc (Nat.le_refl _) (.cells #[.int .i64 pg, .int .i64 ob, .complex .f64 a b] 62)
  go_enter Try.func27, Try.ntmps27
  go_wp2_with fail
  go_ret
  refine ⟨ret_int ?_, hb⟩
  first | rfl | omega | (simp; omega)


theorem box2 {w : World} {b c : Nat} {p : PutV} (h1 : w.heap[b]? = some (.cells #[.int .i64 p.pg, .int .i64 p.ob, .complex .f64 p.re p.im] 62 (0, 0))) (h2 : w.heap[c]? = some (.cells #[.int .i64 p.pg, .int .i64 p.ob, .complex .f64 p.re p.im] 62 (0, 0))) :
    Hid (w.cell? ⟨b, 0, none⟩ = some (.int .i64 p.pg) ∧ w.cell? ⟨b, 1, none⟩ = some (.int .i64 p.ob) ∧ w.cell? ⟨b, 2, none⟩ = some (.complex .f64 p.re p.im) ∧ w.cell? ⟨c, 0, none⟩ = some (.int .i64 p.pg) ∧ w.cell? ⟨c, 1, none⟩ = some (.int .i64 p.ob) ∧ w.cell? ⟨c, 2, none⟩ = some (.complex .f64 p.re p.im)) := by
  obtain ⟨x0, x1, x2, -⟩ := row3 h1
  obtain ⟨y0, y1, y2, -⟩ := row3 h2
  exact ⟨x0, x1, x2, y0, y1, y2⟩

theorem wsame1_c (p : PutV) (h1 : 0 ≤ p.pg) (h2 : p.pg ≤ 16777215) (h3 : 0 ≤ p.ob) (h4 : p.ob ≤ 16777215) (w : World) :
    Calls Try.prog 26 #[.agg #[.int .i64 p.pg, .int .i64 p.ob, .complex .f64 p.re p.im], .agg #[.int .i64 p.pg, .int .i64 p.ob, .complex .f64 p.re p.im]] w fun e w' => e = .returned (.bool true) ∧ Below w.heap.size w w' := by
  have HP : Hid (∀ W : World, Calls Try.prog 27 #[.agg #[.int .i64 p.pg, .int .i64 p.ob, .complex .f64 p.re p.im]] W fun e w' => e = .returned (.int .i64 (p.pg * 4 + p.ob)) ∧ Below W.heap.size W w') := fun W => place_c _ _ _ _ h1 h2 h3 h4 W
  have hb := below2 w (.cells #[.int .i64 p.pg, .int .i64 p.ob, .complex .f64 p.re p.im] 62) (.cells #[.int .i64 p.pg, .int .i64 p.ob, .complex .f64 p.re p.im] 62)
  have p1 := heap_alloc2_old w (.cells #[.int .i64 p.pg, .int .i64 p.ob, .complex .f64 p.re p.im] 62) (.cells #[.int .i64 p.pg, .int .i64 p.ob, .complex .f64 p.re p.im] 62)
  have p2 := heap_alloc2_new w (.cells #[.int .i64 p.pg, .int .i64 p.ob, .complex .f64 p.re p.im] 62) (.cells #[.int .i64 p.pg, .int .i64 p.ob, .complex .f64 p.re p.im] 62)
  clear h1 h2 h3 h4
  go_enter Try.func26, Try.ntmps26
  go_wp2_with fail
  generalize (w.alloc (.cells #[.int .i64 p.pg, .int .i64 p.ob, .complex .f64 p.re p.im] 62)).alloc (.cells #[.int .i64 p.pg, .int .i64 p.ob, .complex .f64 p.re p.im] 62) = W0 at *
  have HB0 := Lib.hid hb.drew
  have HR1 := Lib.hid (row_drewI p1)
  have HR2 := Lib.hid (row_drewI p2)
  obtain ⟨x0, x1, x2, xz⟩ := row3 p1
  obtain ⟨y0, y1, y2, yz⟩ := row3 p2
  have HBOX : Hid True := trivial
  clear hb p1 p2
  go_region_held_law (fun W => W.cell? ⟨w.heap.size, 0, none⟩ = some (.int .i64 p.pg) ∧ W.cell? ⟨w.heap.size, 1, none⟩ = some (.int .i64 p.ob) ∧ W.cell? ⟨w.heap.size, 2, none⟩ = some (.complex .f64 p.re p.im) ∧ W.cell? ⟨w.heap.size + 1, 0, none⟩ = some (.int .i64 p.pg) ∧ W.cell? ⟨w.heap.size + 1, 1, none⟩ = some (.int .i64 p.ob) ∧ W.cell? ⟨w.heap.size + 1, 2, none⟩ = some (.complex .f64 p.re p.im)) (first | go_keep | exact HBOX.out)
    (first
      | (go_at_call 27; clear HBOX; refine (HP.out _).mono ?_; rintro e w1 ⟨rfl, hb1⟩; have HQ1 := Lib.hid ((hb1.block w.heap.size (lt_of_row (Nat.le_refl _) HR1.out)).trans HR1.out); have HQ2 := Lib.hid ((hb1.block (w.heap.size + 1) (lt_of_row (Nat.le_refl _) HR2.out)).trans HR2.out); have HB1 := Lib.hid (HB0.out.trans (hb1.mono HB0.out.size)); clear HR1 HR2 HB0; have HR1 := HQ1; have HR2 := HQ2; have HB0 := HB1; clear HQ1 HQ2 HB1; have HBOX := box2 HR1.out HR2.out; clear hb1)
      | (go_at_call 24; refine (csame_r _ _ _).mono ?_; rintro e w' ⟨rfl, rfl⟩))
  all_goals
    go_wp2_with fail
    go_ret
    exact ⟨ret_bool (by simp), HB0.out⟩

theorem eqf_puts_same (b : Nat) (ps : List PutV) (n c d : Nat) (hn : ps.length = n) (hl : n ≤ 1000) (w : World) (h : RdP w b ps) (hr : ∀ p ∈ ps, 0 ≤ p.pg ∧ p.pg ≤ 16777215 ∧ 0 ≤ p.ob ∧ p.ob ≤ 16777215) :
    Calls Try.prog 25 #[.slice (some ⟨b, 0, none⟩) n c, .slice (some ⟨b, 0, none⟩) n d, .func (.func 26) #[] #[]] w fun e w' => e = .returned (.bool true) ∧ Below w.heap.size w w' := by
  go_enter Try.func25, Try.ntmps25
  go_wp2_with fail
  go_loopw [17] (fun i wr => ∃ k : Nat, k ≤ n ∧ i = .int .i64 k ∧ Hid (Below w.heap.size w wr)) (fun i _ => n - (intOf i).toNat)
  case atStart => exact ⟨0, Nat.zero_le _, rfl, Below.refl _ _⟩
  case round =>
    obtain ⟨k, hk, rfl, hb⟩ := hrel
    by_cases hlt : k < n
    · obtain ⟨p, hp⟩ := get_some ps k (by omega)
      obtain ⟨y0, y1, y2⟩ := h.below hb.out k p hp
      obtain ⟨q1, q2, q3, q4⟩ := hr p (List.mem_of_getElem? hp)
      have HS := Lib.hid (wsame1_c p q1 q2 q3 q4)
      have y0a := fun o => cell_alloc o y0
      have y1a := fun o => cell_alloc o y1
      have y2a := fun o => cell_alloc o y2
      clear h hr q1 q2 q3 q4
      go_wp2_with fail
      have hw := below2 wr (.cells #[.int .i64 p.pg, .int .i64 p.ob, .complex .f64 p.re p.im] 62) (.cells #[.int .i64 p.pg, .int .i64 p.ob, .complex .f64 p.re p.im] 62)
      generalize (wr.alloc (.cells #[.int .i64 p.pg, .int .i64 p.ob, .complex .f64 p.re p.im] 62)).alloc (.cells #[.int .i64 p.pg, .int .i64 p.ob, .complex .f64 p.re p.im] 62) = W2 at *
      refine (HS.out _).mono ?_; rintro e w3 ⟨rfl, hb3⟩
      have HB3 := Lib.hid (hb.out.trans ((hw.trans (hb3.mono hw.size)).mono hb.out.size))
      clear hw hb3 y0 y1 y2 y0a y1a y2a
      go_wp2_with fail
      go_roundw
      case rel => exact ⟨k + 1, by omega, by simp, HB3⟩
      case measure => simp [intOf]; omega
    · have he : k = n := by omega
      subst he
      go_wp2_with fail
      go_ret
      exact ⟨ret_bool (by simp), hb.out⟩

theorem eqf_puts_diff (A B : Option Addr) (n m c d : Nat) (hn : n ≠ m) (v : Value) (w : World) :
    Calls Try.prog 25 #[.slice A n c, .slice B m d, v] w fun e w' => e = .returned (.bool false) ∧ w = w' := by
  have h : ((n : Int) == (m : Int)) = false := by simp; omega
  go_enter Try.func25, Try.ntmps25
  go_wp2_with fail
  go_ret
  exact ⟨ret_bool (by simp), rfl⟩

theorem eqf_put (v : Value) (w : World) : Calls Try.prog 25 #[.slice none 0 0, .slice none 0 0, v] w fun e w' => e = .returned (.bool true) ∧ w = w' := by
  go_enter Try.func25, Try.ntmps25
  go_wp2_with fail
  go_loop [17] (fun i => i = .int .i64 0) (fun _ => 0)
  case atStart => rfl
  case round =>
    subst hrel
    go_wp2_with fail
    go_ret
    exact ⟨ret_bool (by simp), rfl⟩

/-- From w on the call answers v, and leaves all that there was. -/
def From (w : World) (f : FuncId) (args : Array Value) (v : Value) : Prop := ∀ W, Below w.heap.size w W → Calls Try.prog f args W fun e w' => e = .returned v ∧ Below W.heap.size W w'

theorem From.on {w W : World} {f : FuncId} {args : Array Value} {v : Value} (h : From w f args v) (hb : Below w.heap.size w W) : From W f args v := fun W' h' => h W' (hb.trans (h'.mono hb.size))
theorem From.here {w : World} {f : FuncId} {args : Array Value} {v : Value} (h : From w f args v) : Calls Try.prog f args w fun e w' => e = .returned v ∧ Below w.heap.size w w' := h w (Below.refl _ _)

theorem wsame_h (A B : Option Addr) (n m c d : Nat) (r : Bool) (w : World) (hq : From w 25 #[.slice A n c, .slice B m d, .func (.func 26) #[] #[]] (.bool r)) :
    From w 22 #[.agg #[.int .i64 0, .int .i64 0, .int .i64 0, .int .i64 0, .slice A n c], .agg #[.int .i64 0, .int .i64 0, .int .i64 0, .int .i64 0, .slice B m d]] (.bool r) := by
  intro W hW
  replace hq := hq.on hW
  clear hW
  have hb := below2 W (.cells #[.int .i64 0, .int .i64 0, .int .i64 0, .int .i64 0, .slice A n c] 27) (.cells #[.int .i64 0, .int .i64 0, .int .i64 0, .int .i64 0, .slice B m d] 27)
  go_enter Try.func22, Try.ntmps22
  go_wp2_with fail
  have HQ := Lib.hid (hq.on hb)
  have HB := Lib.hid hb
  clear hq hb
  refine HQ.out.here.mono ?_; rintro e w1 ⟨rfl, hb1⟩
  have HB1 := Lib.hid (HB.out.trans (hb1.mono HB.out.size))
  clear hb1
  go_wp2_with fail
  go_ret
  exact ⟨ret_bool (by simp), HB1.out⟩

theorem eqf_bb_h (p q : Nat) (A B : Option Addr) (n m c d : Nat) (r : Bool) (w : World) (hq : From w 22 #[.agg #[.int .i64 0, .int .i64 0, .int .i64 0, .int .i64 0, .slice A n c], .agg #[.int .i64 0, .int .i64 0, .int .i64 0, .int .i64 0, .slice B m d]] (.bool r))
    (hp : w.heap[p]? = some (Obj.cells #[.int .i64 0, .int .i64 0, .int .i64 0, .int .i64 0, .slice A n c] 27)) (hqr : w.heap[q]? = some (Obj.cells #[.int .i64 0, .int .i64 0, .int .i64 0, .int .i64 0, .slice B m d] 27)) :
    Calls Try.prog 21 #[.slice (some ⟨p, 0, none⟩) 1 1, .slice (some ⟨q, 0, none⟩) 1 1, .func (.func 22) #[] #[]] w fun e w' => e = .returned (.bool r) ∧ Below w.heap.size w w' := by
  obtain ⟨x0, x1, x2, x3, x4, xz⟩ := row5 hp
  obtain ⟨y0, y1, y2, y3, y4, yz⟩ := row5 hqr
  clear hp hqr
  have HQ := Lib.hid hq
  clear hq
  cases r
  · go_enter Try.func21, Try.ntmps21
    go_wp2_with fail
    go_loopw [17] (fun i wr => ∃ k : Nat, k ≤ 1 ∧ i = .int .i64 k ∧ Hid (Below w.heap.size w wr) ∧ (k = 0 → wr = w) ∧ (k = 1 → false = true)) (fun i _ => 1 - (intOf i).toNat)
    case atStart => exact ⟨0, Nat.zero_le _, rfl, Below.refl _ _, fun _ => rfl, fun e => absurd e (by omega)⟩
    case round =>
      obtain ⟨k, hk, rfl, hb, hz, ht⟩ := hrel
      by_cases h0 : k = 0
      · subst h0
        obtain rfl := hz rfl
        clear hb hz hk ht
        have y0a := fun o => cell_alloc o y0
        have y1a := fun o => cell_alloc o y1
        have y2a := fun o => cell_alloc o y2
        have y3a := fun o => cell_alloc o y3
        have y4a := fun o => cell_alloc o y4
        go_wp2_with fail
        have hw := below2 wr (Obj.cells #[.int .i64 0, .int .i64 0, .int .i64 0, .int .i64 0, .slice A n c] 27) (Obj.cells #[.int .i64 0, .int .i64 0, .int .i64 0, .int .i64 0, .slice B m d] 27)
        generalize (wr.alloc (Obj.cells #[.int .i64 0, .int .i64 0, .int .i64 0, .int .i64 0, .slice A n c] 27)).alloc (Obj.cells #[.int .i64 0, .int .i64 0, .int .i64 0, .int .i64 0, .slice B m d] 27) = W2 at *
        refine (HQ.out W2 hw).mono ?_; rintro e w3 ⟨rfl, hb3⟩
        have HB3 := Lib.hid (hw.trans (hb3.mono hw.size))
        clear hw hb3 x0 x1 x2 x3 x4 y0 y1 y2 y3 y4 y0a y1a y2a y3a y4a
        go_wp2_with fail
        first
          | (go_ret
             exact ⟨ret_bool (by simp), HB3.out⟩)
          | (go_roundw
             case rel => exact ⟨0 + 1, by omega, rfl, HB3, fun e => absurd e (by omega), fun _ => (by first | trivial | rfl)⟩
             case measure => simp [intOf])
      · have h1 : k = 1 := by omega
        subst h1
        clear hz
        first
          | exact absurd (ht rfl) (by decide)
          | (clear ht
             go_wp2_with fail
             go_ret
             exact ⟨ret_bool (by simp), hb.out⟩)
  · go_enter Try.func21, Try.ntmps21
    go_wp2_with fail
    go_loopw [17] (fun i wr => ∃ k : Nat, k ≤ 1 ∧ i = .int .i64 k ∧ Hid (Below w.heap.size w wr) ∧ (k = 0 → wr = w) ∧ (k = 1 → true = true)) (fun i _ => 1 - (intOf i).toNat)
    case atStart => exact ⟨0, Nat.zero_le _, rfl, Below.refl _ _, fun _ => rfl, fun e => absurd e (by omega)⟩
    case round =>
      obtain ⟨k, hk, rfl, hb, hz, ht⟩ := hrel
      by_cases h0 : k = 0
      · subst h0
        obtain rfl := hz rfl
        clear hb hz hk ht
        have y0a := fun o => cell_alloc o y0
        have y1a := fun o => cell_alloc o y1
        have y2a := fun o => cell_alloc o y2
        have y3a := fun o => cell_alloc o y3
        have y4a := fun o => cell_alloc o y4
        go_wp2_with fail
        have hw := below2 wr (Obj.cells #[.int .i64 0, .int .i64 0, .int .i64 0, .int .i64 0, .slice A n c] 27) (Obj.cells #[.int .i64 0, .int .i64 0, .int .i64 0, .int .i64 0, .slice B m d] 27)
        generalize (wr.alloc (Obj.cells #[.int .i64 0, .int .i64 0, .int .i64 0, .int .i64 0, .slice A n c] 27)).alloc (Obj.cells #[.int .i64 0, .int .i64 0, .int .i64 0, .int .i64 0, .slice B m d] 27) = W2 at *
        refine (HQ.out W2 hw).mono ?_; rintro e w3 ⟨rfl, hb3⟩
        have HB3 := Lib.hid (hw.trans (hb3.mono hw.size))
        clear hw hb3 x0 x1 x2 x3 x4 y0 y1 y2 y3 y4 y0a y1a y2a y3a y4a
        go_wp2_with fail
        first
          | (go_ret
             exact ⟨ret_bool (by simp), HB3.out⟩)
          | (go_roundw
             case rel => exact ⟨0 + 1, by omega, rfl, HB3, fun e => absurd e (by omega), fun _ => (by first | trivial | rfl)⟩
             case measure => simp [intOf])
      · have h1 : k = 1 := by omega
        subst h1
        clear hz
        first
          | exact absurd (ht rfl) (by decide)
          | (clear ht
             go_wp2_with fail
             go_ret
             exact ⟨ret_bool (by simp), hb.out⟩)

theorem wsames_h (p q : Nat) (A B : Option Addr) (n m c d : Nat) (r : Bool) (w : World) (hq : From w 25 #[.slice A n c, .slice B m d, .func (.func 26) #[] #[]] (.bool r))
    (hp : w.heap[p]? = some (Obj.cells #[.int .i64 0, .int .i64 0, .int .i64 0, .int .i64 0, .slice A n c] 27)) (hqr : w.heap[q]? = some (Obj.cells #[.int .i64 0, .int .i64 0, .int .i64 0, .int .i64 0, .slice B m d] 27)) :
    Calls Try.prog 13 #[.slice (some ⟨p, 0, none⟩) 1 1, .slice (some ⟨q, 0, none⟩) 1 1] w fun e w' => e = .returned (.bool r) ∧ Below w.heap.size w w' := by
  have H := eqf_bb_h p q A B n m c d r w (wsame_h A B n m c d r w hq) hp hqr
  clear hq hp hqr
  go_enter Try.func13, Try.ntmps13
  go_wp2_with fail
  refine H.mono ?_; rintro e w1 ⟨rfl, hb⟩
  go_wp2_with fail
  go_ret
  exact ⟨ret_bool (by simp), hb⟩

end Go.Proofs.Yticnofemjnpjoaa

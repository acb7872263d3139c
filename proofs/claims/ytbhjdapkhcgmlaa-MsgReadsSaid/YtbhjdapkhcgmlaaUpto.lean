import Derived.Test.YtbhjdapkhcgmlaaByt

set_option linter.unusedSimpArgs false
set_option linter.unusedVariables false
set_option linter.unnecessarySimpa false

namespace Go.Proofs.Ytbhjdapkhcgmlaa
open Go.RowKit

/-! What a method may turn: the blocks of K alone. -/

structure Upto (K : Nat → Prop) (w w' : World) : Prop where
  os : w'.os = w.os
  tape : w'.tape = w.tape
  output : w'.output = w.output
  size : w.heap.size ≤ w'.heap.size
  block : ∀ k, k < w.heap.size → ¬ K k → w'.heap[k]? = w.heap[k]?

variable {K K' : Nat → Prop} {w w' a b c : World} {B : Nat}

theorem Upto.refl (K : Nat → Prop) (w : World) : Upto K w w := ⟨rfl, rfl, rfl, Nat.le_refl _, fun _ _ _ => rfl⟩

theorem Upto.trans (h : Upto K a b) (k : Upto K' b c) (hK : ∀ i, i < a.heap.size → K' i → K i) : Upto K a c :=
  ⟨k.os.trans h.os, k.tape.trans h.tape, k.output.trans h.output, Nat.le_trans h.size k.size, fun i hi hn => (k.block i (Nat.lt_of_lt_of_le hi h.size) (fun e => hn (hK i hi e))).trans (h.block i hi hn)⟩

theorem Upto.of_below (h : Below w.heap.size w w') : Upto K w w' := ⟨h.os, h.tape, h.output, h.size, fun k hk _ => h.block k hk⟩

theorem Upto.then (h : Upto K a b) (k : Below b.heap.size b c) : Upto K a c := h.trans (K' := fun _ => False) (Upto.of_below k) (fun _ _ e => e.elim)

theorem Upto.below (h : Upto K w w') (hB : B ≤ w.heap.size) (hK : ∀ k, k < B → ¬ K k) : Below B w w' := ⟨h.os, h.tape, h.output, h.size, fun k hk => h.block k (by omega) (hK k hk)⟩

theorem Upto.mono (h : Upto K w w') (hK : ∀ k, k < w.heap.size → K k → K' k) : Upto K' w w' := ⟨h.os, h.tape, h.output, h.size, fun k hk hn => h.block k hk (fun e => hn (hK k hk e))⟩

theorem Upto.drew (h : Upto K a w) : Upto K a w.drew := ⟨h.os, h.tape, h.output, h.size, h.block⟩

theorem Upto.setCell (h : Upto K a w) {p : Addr} (hp : K p.block) (u : Value) : Upto K a (w.setCell p u) :=
  h.trans (K' := K) ⟨rfl, rfl, rfl, by simp [World.setCell], fun k _ hn => Below.heap_setCell _ _ _ _ (fun e => hn (e ▸ hp))⟩ (fun _ _ e => e)

theorem Upto.grown (h : Upto K a w) {row : Option Nat} (hg : w.grownBy w' row) (hr : ∀ k, row = some k → k < a.heap.size → K k) : Upto K a w' :=
  h.trans (K' := fun k => row = some k) ⟨hg.os, hg.tape, hg.output, hg.size, fun k hk hn => hg.block k hk (fun e => hn e.symm)⟩ (fun i hi e => hr i e hi)

theorem Upto.cell (h : Upto K w w') {p : Addr} (hp : p.block < w.heap.size) (hn : ¬ K p.block) : w'.cell? p = w.cell? p := World.cell?_of_block (w := w) (h.block p.block hp hn)

theorem Rd.upto {α : Type} {g : α → Value} {A : Option Addr} {l : List α} (h : Rd g w A l) (u : Upto K w w') (hn : ∀ a, A = some a → ¬ K a.block) : Rd g w' A l := fun i x hx => by
  obtain ⟨a, e, hc⟩ := h i x hx
  exact ⟨a, e, (u.cell (World.block_lt_of_cell? w _ hc) (by have := hn a e; unfold Addr.add; split <;> simpa using this)).trans hc⟩

theorem Ow.upto {α : Type} {g : α → Value} {E : TypeId} {A : Option Addr} {l : List α} {c : Nat} (h : Ow E g w B A l c) (u : Upto K w w') (hn : ∀ a, A = some a → ¬ K a.block) : Ow E g w' B A l c := by
  refine ⟨h.1, ?_⟩
  rcases h.2 with hn | ⟨b, cap, cur, hv, hbg, hgg, rest⟩
  · exact .inl hn
  · exact .inr ⟨b, cap, cur, hv, hbg, by rw [u.block b (Array.getElem?_eq_some_iff.1 hgg).1 (by injection hv with e1; exact hn _ e1)]; exact hgg, rest⟩

theorem Ow.lt {α : Type} {g : α → Value} {E : TypeId} {A : Option Addr} {l : List α} {c : Nat} (h : Ow E g w B A l c) : ∀ a, A = some a → B ≤ a.block ∧ a.block < w.heap.size ∧ a = ⟨a.block, 0, none⟩ := fun a e => by
  subst e
  rcases h.2 with ⟨e, _⟩ | ⟨b, cap, cur, e, hb, hg, _⟩
  · injection e with e1; cases e1
  · injection e with e1 _ _
    cases e1
    exact ⟨hb, (Array.getElem?_eq_some_iff.1 hg).1, rfl⟩

/-- The first of an own slice's elements. -/
theorem Ow.take {α : Type} {g : α → Value} {E : TypeId} {A : Option Addr} {l : List α} {c : Nat} (h : Ow E g w B A l c) (k : Nat) : Ow E g w B A (l.take k) c := by
  by_cases hk : l.length ≤ k
  · rwa [List.take_of_length_le hk]
  · have hlen : (l.take k).length = k := by simp; omega
    unfold Ow
    rw [hlen]
    refine ⟨by simp; omega, ?_⟩
    rcases h.2 with ⟨e, hn⟩ | ⟨b, cap, cur, e, hb, hg, h1, h2, h3, h4⟩
    · omega
    · injection e with e1 e2 e3
      refine .inr ⟨b, cap, cur, by rw [e1, e3], hb, hg, by omega, h2, h3, ?_⟩
      rw [List.map_take, ← h4, List.take_take]
      congr 1; omega

/-- A row of cells, one of them set. -/
theorem row_set {w : World} {b : Nat} {cs : Array Value} {T : TypeId} {m : Nat × Nat} (h : w.heap[b]? = some (.cells cs T m)) (j : Nat) (v : Value) : (w.setCell ⟨b, j, none⟩ v).heap[b]? = some (.cells (cs.setIfInBounds j v) T m) := by
  simp [World.setCell, Array.getElem?_modify, h]

theorem row_thawed {w : World} {b : Nat} {cs : Array Value} {T : TypeId} (h : w.heap[b]? = some (.cells cs T (0, 0))) (j : Nat) : w.frozen? ⟨b, j, none⟩ = false := by
  simp [World.frozen?, h]

end Go.Proofs.Ytbhjdapkhcgmlaa

import Derived.Test.YteoafaofiohefaaRnJ
import Derived.Test.YteoafaofiohefaaActs20
namespace Go.Proofs.Yteoafaofiohefaa
open Go.RowKit

/-! A net and the reference's, side by side. -/

variable {w w' : World} {B nb : Nat} {F : Nat → Prop} {P P' : Nat → Sh} {I : Nat → List It} {S S' : Nat → List Fr}

theorem Stp.on' {W W1 w w' : World} (h : Stp W1.heap.size w w') (h1 : W1.heap.size ≤ w.heap.size) (hw : Below W.heap.size W W1) (hb : Below W.heap.size W w) : Below W.heap.size W w' := hb.trans ((h.below h1).mono hw.size)

/-- A row of another type stays. -/
theorem Stp.row {b : Nat} {cur : Array Value} {T : TypeId} {m : Nat × Nat} (u : Stp B w w') (h : w.heap[b]? = some (.cells cur T m)) (h1 : T ≠ 59) (h2 : T ≠ 65) : w'.heap[b]? = some (.cells cur T m) :=
  (Upto.block u b (Array.getElem?_eq_some_iff.1 h).1 (fun hK => by
    obtain ⟨-, cur2, T2, hc, hT⟩ := hK
    rw [h] at hc
    injection hc with hc; injection hc with _ e1 _
    rcases hT with e2 | e2
    · exact h1 (e1.trans e2)
    · exact h2 (e1.trans e2))).trans h

/-- A block of another type may be written. -/
theorem NetS.other {b : Nat} {cur : Array Value} {T : TypeId} {m : Nat × Nat} (h : NetS B w nb S) (u : Upto (fun j => j = b) w w') (hr : w.heap[b]? = some (.cells cur T m)) (h0 : 59 ≠ T) (h1 : 65 ≠ T) (h2 : 5 ≠ T) : NetS B w' nb S := by
  obtain ⟨V, I, h3, h4⟩ := h
  refine ⟨V, I, h3.upto u (fun e => ?_) (fun k hk b' e e2 => ?_) (fun k hk x hx a e e2 => ?_), h4⟩
  · have := h3.row
    rw [e, hr] at this
    injection this with hc; injection hc with _ e1 _
    exact h0 e1.symm
  · obtain ⟨-, cur2, hc⟩ := (h3.lane k hk).typed b' e
    rw [e2, hr] at hc
    injection hc with hc; injection hc with _ e1 _
    exact h1 e1.symm
  · obtain ⟨cur2, hc⟩ := (h3.frame k hk x hx).typed a e
    rw [e2, hr] at hc
    injection hc with hc; injection hc with _ e1 _
    exact h2 e1.symm

structure RunAt (w0 w1 : World) (Wb : Nat) (wr : World) (S : Nat → List Fr) (P : Nat → Sh) : Prop where
  net : NetS w1.heap.size wr w1.heap.size S
  ref : RefS w1.heap.size (fun _ => False) wr (vS P) S
  box : wr.heap[Wb]? = some (.cells (arr8 (vS P)) 37 (0, 0))
  below : Below w0.heap.size w0 wr
  size : w1.heap.size ≤ wr.heap.size

variable {w0 w1 wr wa wc : World} {Wb : Nat}

theorem RunAt.later (h : RunAt w0 w1 Wb wr S P) (u : Below wr.heap.size wr w') : RunAt w0 w1 Wb w' S P :=
  ⟨h.net.below u, h.ref.below u, (u.block Wb (Array.getElem?_eq_some_iff.1 h.box).1).trans h.box, h.below.trans (u.mono h.below.size), Nat.le_trans h.size u.size⟩

/-- The net's turn, then the reference's: how the box stands. -/
theorem RunAt.boxed (h : RunAt w0 w1 Wb wr S P) (u1 : Stp w1.heap.size wr wa) (u2 : Below wa.heap.size wa wc) : wc.heap[Wb]? = some (.cells (arr8 (vS P)) 37 (0, 0)) := by
  have h1 := u1.row h.box (by decide) (by decide)
  exact (u2.block Wb (Array.getElem?_eq_some_iff.1 h1).1).trans h1

/-- The box's eight stores. -/
def set8 (w : World) (b : Nat) (P : Nat → Sh) : World :=
  (((((((w.setCell ⟨b, 0, none⟩ (.slice (P 0).a (P 0).n (P 0).c)).setCell ⟨b, 1, none⟩ (.slice (P 1).a (P 1).n (P 1).c)).setCell ⟨b, 2, none⟩ (.slice (P 2).a (P 2).n (P 2).c)).setCell ⟨b, 3, none⟩ (.slice (P 3).a (P 3).n (P 3).c)).setCell ⟨b, 4, none⟩ (.slice (P 4).a (P 4).n (P 4).c)).setCell ⟨b, 5, none⟩ (.slice (P 5).a (P 5).n (P 5).c)).setCell ⟨b, 6, none⟩ (.slice (P 6).a (P 6).n (P 6).c)).setCell ⟨b, 7, none⟩ (.slice (P 7).a (P 7).n (P 7).c)

theorem set8_upto (w : World) (b : Nat) (P : Nat → Sh) : Upto (fun j => j = b) w (set8 w b P) := upto8 w b _ _ _ _ _ _ _ _

theorem RunAt.step (h : RunAt w0 w1 Wb wr S P) (hB1 : Below w0.heap.size w0 w1) (hW : w1.heap.size ≤ Wb) (u1 : Stp w1.heap.size wr wa) (hn : NetS w1.heap.size wa w1.heap.size S') (u2 : Below wa.heap.size wa wc) (hr : RefS w1.heap.size (fun _ => False) wc (vS P') S') : RunAt w0 w1 Wb (set8 wc Wb P') S' P' := by
  have hbox := h.boxed u1 u2
  have hu := set8_upto wc Wb P'
  have hba := u1.on' h.size hB1 h.below
  have hs : w1.heap.size ≤ wc.heap.size := Nat.le_trans h.size (Nat.le_trans u1.size u2.size)
  have hbc := hba.trans (u2.mono hba.size)
  exact ⟨(hn.below u2).other hu hbox (by decide) (by decide) (by decide), hr.other hu hbox (by decide) (by decide), sets8_row hbox _ _ _ _ _ _ _ _,
    hbc.trans (hu.below hbc.size (fun k hk e => by have := hB1.size; omega)), Nat.le_trans hs hu.size⟩

/-- An act's box. -/
theorem row6 {b : Nat} {T : TypeId} {v0 v1 v2 v3 v4 v5 : Value} (h : w.heap[b]? = some (.cells #[v0, v1, v2, v3, v4, v5] T (0, 0))) :
    w.cell? ⟨b, 0, none⟩ = some v0 ∧ w.cell? ⟨b, 1, none⟩ = some v1 ∧ w.cell? ⟨b, 2, none⟩ = some v2 ∧ w.cell? ⟨b, 3, none⟩ = some v3 ∧ w.cell? ⟨b, 4, none⟩ = some v4 ∧ w.cell? ⟨b, 5, none⟩ = some v5 :=
  ⟨(cell_of_row w b 0 _ _ _ h).trans rfl, (cell_of_row w b 1 _ _ _ h).trans rfl, (cell_of_row w b 2 _ _ _ h).trans rfl, (cell_of_row w b 3 _ _ _ h).trans rfl, (cell_of_row w b 4 _ _ _ h).trans rfl, (cell_of_row w b 5 _ _ _ h).trans rfl⟩

/-- The item at a place of a lane of the reference. -/
theorem RefS.item (h : RefS B F w (vS P) S) {k i : Nat} (hk : k < 8) {x : Fr} (hx : (S k)[i]? = some x) :
    ∃ (g : Nat) (y : It), (P k).a = some ⟨g, 0, none⟩ ∧ w.cell? ⟨g, i * 2, none⟩ = some (.slice y.A y.l.length y.c) ∧ w.cell? ⟨g, i * 2 + 1, none⟩ = some (.bool y.s) ∧ y.fr = x ∧ Ow 5 g8 w B y.A y.l y.c := by
  obtain ⟨I, h1, rfl⟩ := h
  obtain ⟨y, hy, e1, e2⟩ := map_get hx
  have hl : RLane w B (.slice (P k).a (P k).n (P k).c) (I k) := h1.lane k hk
  obtain ⟨hn, -⟩ := hl.sh
  rw [← hn] at hl
  obtain ⟨g, hg, _, _, y0, y1⟩ := hl.item hy
  exact ⟨g, y, hg, y0, y1, by unfold It.fr; rw [e1, e2], h1.frame k hk y (List.mem_of_getElem? hy)⟩

theorem RefS.length (h : RefS B F w (vS P) S) {k : Nat} (hk : k < 8) : (P k).n = (S k).length ∧ (S k).length ≤ 200 := by
  obtain ⟨I, h1, rfl⟩ := h
  have hl : RLane w B (.slice (P k).a (P k).n (P k).c) (I k) := h1.lane k hk
  obtain ⟨hn, -⟩ := hl.sh
  simp only [List.length_map]
  exact ⟨hn.symm, h1.many k hk⟩

theorem Ow.other {α : Type} {g : α → Value} {E : TypeId} {C : Nat} {A : Option Addr} {l : List α} {c : Nat} {b : Nat} {cur : Array Value} {T : TypeId} {m : Nat × Nat} (h : Ow E g w C A l c) (u : Upto (fun j => j = b) w w') (hr : w.heap[b]? = some (.cells cur T m)) (h1 : E ≠ T) : Ow E g w' C A l c :=
  Ow.upto h u fun a e e2 => by
    obtain ⟨cur2, hc2⟩ := h.typed a e
    rw [e2, hr] at hc2
    injection hc2 with hc2; injection hc2 with _ e1 _
    exact h1 e1.symm

/-- The blocks of a slice. -/
def Of (A : Option Addr) (j : Nat) : Prop := ∃ a, A = some a ∧ a.block = j

/-- The same, where a block of the caller's is none of theirs. -/
structure RunF (w0 w1 : World) (Wb : Nat) (F : Nat → Prop) (wr : World) (S : Nat → List Fr) (P : Nat → Sh) : Prop where
  net : NetF w1.heap.size F wr w1.heap.size S
  ref : RefS w1.heap.size F wr (vS P) S
  box : wr.heap[Wb]? = some (.cells (arr8 (vS P)) 37 (0, 0))
  below : Below w0.heap.size w0 wr
  size : w1.heap.size ≤ wr.heap.size
  far : ¬ F Wb
  own : ∀ b, F b → w0.heap.size ≤ b

theorem RunF.run (h : RunF w0 w1 Wb F wr S P) : RunAt w0 w1 Wb wr S P := ⟨h.net.net, h.ref.later _ (fun _ e => e.elim), h.box, h.below, h.size⟩

theorem RunF.write (h : RunF w0 w1 Wb F wr S P) (u : Upto F wr w') : RunF w0 w1 Wb F w' S P :=
  ⟨h.net.upto u, h.ref.upto u, (u.block Wb (Array.getElem?_eq_some_iff.1 h.box).1 h.far).trans h.box, h.below.trans (u.below h.below.size (fun k hk e => by have := h.own k e; omega)), Nat.le_trans h.size u.size, h.far, h.own⟩

theorem NetF.other {b : Nat} {cur : Array Value} {T : TypeId} {m : Nat × Nat} (h : NetF B F w nb S) (u : Upto (fun j => j = b) w w') (hr : w.heap[b]? = some (.cells cur T m)) (h0 : 59 ≠ T) (h1 : 65 ≠ T) (h2 : 5 ≠ T) : NetF B F w' nb S := by
  obtain ⟨V, I, h3, h4, h5, h6, h7⟩ := h
  refine ⟨V, I, h3.upto u (fun e => ?_) (fun k hk b' e e2 => ?_) (fun k hk x hx a e e2 => ?_), h4, h5, h6, h7⟩
  · have := h3.row
    rw [e, hr] at this
    injection this with hc; injection hc with _ e1 _
    exact h0 e1.symm
  · obtain ⟨-, cur2, hc⟩ := (h3.lane k hk).typed b' e
    rw [e2, hr] at hc
    injection hc with hc; injection hc with _ e1 _
    exact h1 e1.symm
  · obtain ⟨cur2, hc⟩ := (h3.frame k hk x hx).typed a e
    rw [e2, hr] at hc
    injection hc with hc; injection hc with _ e1 _
    exact h2 e1.symm

theorem RunAt.stepF (h : RunAt w0 w1 Wb wr S P) (hB1 : Below w0.heap.size w0 w1) (hW : w1.heap.size ≤ Wb) (hF : ¬ F Wb) (hF0 : ∀ b, F b → w0.heap.size ≤ b) (u1 : Stp w1.heap.size wr wa) (hn : NetF w1.heap.size F wa w1.heap.size S') (u2 : Below wa.heap.size wa wc) (hr : RefS w1.heap.size F wc (vS P') S') : RunF w0 w1 Wb F (set8 wc Wb P') S' P' := by
  have hbox := h.boxed u1 u2
  have hu := set8_upto wc Wb P'
  have hba := u1.on' h.size hB1 h.below
  have hs : w1.heap.size ≤ wc.heap.size := Nat.le_trans h.size (Nat.le_trans u1.size u2.size)
  have hbc := hba.trans (u2.mono hba.size)
  exact ⟨(hn.below u2).other hu hbox (by decide) (by decide) (by decide), hr.other hu hbox (by decide) (by decide), sets8_row hbox _ _ _ _ _ _ _ _,
    hbc.trans (hu.below hbc.size (fun k hk e => by have := hB1.size; omega)), Nat.le_trans hs hu.size, hF, hF0⟩

theorem quiet_more {P : Program} {f : FuncId} {args : Array Value} {w : World} {n : Nat} {v : Value} (h : Calls P f args (w.drewN n) fun e w' => e = .returned v ∧ ∃ m, w' = (w.drewN n).drewN m) :
    Calls P f args (w.drewN n) fun e w'' => e = .returned v ∧ ∃ m, w'' = w.drewN m :=
  h.mono fun _ _ ⟨he, m, hm⟩ => ⟨he, n + m, by rw [hm, World.drewN_drewN]⟩

end Go.Proofs.Yteoafaofiohefaa

import Derived.Test.YteabhokkiggcjaaRefTapeD
import Derived.Test.YteabhokkiggcjaaOpen06
namespace Go.Proofs.Yteabhokkiggcjaa
open Go.RowKit

/-! A tape and, in a block beside it, the reference's. -/

/-- The reference's tape in block Wb: its bytes (at D), how many are safe, its room; apart from the tape in block T whose slices lie in fb, lb. -/
structure Side (T Wb : Nat) (d : List UInt8) (s r : Nat) (fb lb : Option Nat) (w : World) (D : Option Addr) (c : Nat) : Prop where
  row : w.heap[Wb]? = some (.cells #[.slice D d.length c, .int .i64 s, .int .i64 r] 40 (0, 0))
  own : Ow 5 g8 w T D d c
  apart : ∀ a, D = some a → a.block ≠ T ∧ a.block ≠ Wb ∧ fb ≠ some a.block ∧ lb ≠ some a.block
  fb_W : fb ≠ some Wb
  lb_W : lb ≠ some Wb
  above : T < Wb

theorem Side.lt {T Wb : Nat} {d : List UInt8} {s r : Nat} {fb lb : Option Nat} {w : World} {D : Option Addr} {c : Nat} (h : Side T Wb d s r fb lb w D c) : Wb < w.heap.size := (Array.getElem?_eq_some_iff.1 h.row).1

theorem next_far {w : World} {o o' : Option Nat} {b : Nat} (hn : Next w o o') (hb : b < w.heap.size) (ho : o ≠ some b) : o' ≠ some b := fun e => by
  rcases hn with hn | hn
  · rw [hn] at e; exact ho e
  · have := hn _ e; omega

theorem Side.upto {T Wb : Nat} {d : List UInt8} {s r : Nat} {fb lb fb' lb' : Option Nat} {w w' : World} {D : Option Addr} {c : Nat} {K : Nat → Prop} (h : Side T Wb d s r fb lb w D c) (u : Upto K w w') (h1 : ¬ K Wb) (h2 : ∀ a, D = some a → ¬ K a.block) (hf : Next w fb fb') (hl : Next w lb lb') : Side T Wb d s r fb' lb' w' D c :=
  ⟨(u.block Wb h.lt h1).trans h.row, h.own.upto u h2, fun a e => by
    obtain ⟨q1, q2, q3, q4⟩ := h.apart a e
    have hal := (h.own.lt a e).2.1
    exact ⟨q1, q2, next_far hf hal q3, next_far hl hal q4⟩, next_far hf h.lt h.fb_W, next_far hl h.lt h.lb_W, h.above⟩

/-- Behind a tape's method. -/
theorem Side.tape {T Wb : Nat} {d : List UInt8} {s r : Nat} {fb lb fb' lb' : Option Nat} {w w' : World} {D : Option Addr} {c : Nat} (h : Side T Wb d s r fb lb w D c) (u : Upto (Own T lb) w w') (hf : Next w fb fb') (hl : Next w lb lb') : Side T Wb d s r fb' lb' w' D c :=
  h.upto u (fun e => by rcases e with e | e; exact absurd e (by have := h.above; omega); exact h.lb_W e) (fun a e e2 => by
    obtain ⟨q1, _, _, q4⟩ := h.apart a e
    rcases e2 with e2 | e2
    · exact q1 e2
    · exact q4 e2) hf hl

theorem Side.below {T Wb : Nat} {d : List UInt8} {s r : Nat} {fb lb : Option Nat} {w w' : World} {D : Option Addr} {c : Nat} (h : Side T Wb d s r fb lb w D c) (b : Below w.heap.size w w') : Side T Wb d s r fb lb w' D c :=
  h.upto (K := fun _ => False) (Upto.of_below b) id (fun _ _ => id) (.inl rfl) (.inl rfl)

/-- The reference's tape is another one: its three cells are set. -/
theorem Side.set {T Wb : Nat} {d d' : List UInt8} {s r s' r' : Nat} {fb lb : Option Nat} {w : World} {D D' : Option Addr} {c c' : Nat} (h : Side T Wb d s r fb lb w D c) (ho : Ow 5 g8 w T D' d' c') (ha : ∀ a, D' = some a → a.block ≠ T ∧ a.block ≠ Wb ∧ fb ≠ some a.block ∧ lb ≠ some a.block)
    {n : Nat} (hn : d'.length = n) {si ri : Int} (hs : si = s') (hr : ri = r') :
    Side T Wb d' s' r' fb lb (((w.setCell ⟨Wb, 0, none⟩ (.slice D' n c')).setCell ⟨Wb, 1, none⟩ (.int .i64 si)).setCell ⟨Wb, 2, none⟩ (.int .i64 ri)) D' c' ∧
      Upto (fun k => k = Wb) w (((w.setCell ⟨Wb, 0, none⟩ (.slice D' n c')).setCell ⟨Wb, 1, none⟩ (.int .i64 si)).setCell ⟨Wb, 2, none⟩ (.int .i64 ri)) := by
  subst hn hs hr
  have u := (((Upto.refl (fun k => k = Wb) w).setCell (p := ⟨Wb, 0, none⟩) rfl (.slice D' d'.length c')).setCell (p := ⟨Wb, 1, none⟩) rfl (.int .i64 (s' : Int))).setCell (p := ⟨Wb, 2, none⟩) rfl (.int .i64 (r' : Int))
  refine ⟨⟨?_, ho.upto u (fun a e => (ha a e).2.1), ha, h.fb_W, h.lb_W, h.above⟩, u⟩
  simpa using row_set (row_set (row_set h.row 0 (.slice D' d'.length c')) 1 (.int .i64 (s' : Int))) 2 (.int .i64 (r' : Int))

/-- A new slice lies apart. -/
theorem new_apart {T Wb N : Nat} {d d' : List UInt8} {s r : Nat} {fb lb : Option Nat} {w w' : World} {D D' : Option Addr} {c c' : Nat} {f l : List UInt8} {r0 B : Nat} (h : Side T Wb d s r fb lb w D c) (ht : TapeAt w B T f l r0 fb lb) (ho : Ow 5 g8 w' N D' d' c') (hN : w.heap.size ≤ N) :
    ∀ a, D' = some a → a.block ≠ T ∧ a.block ≠ Wb ∧ fb ≠ some a.block ∧ lb ≠ some a.block := fun a e => by
  have h1 := (ho.lt a e).1
  have h2 := ht.lt
  have h3 := h.lt
  exact ⟨by omega, by omega, fun e2 => by have := (ht.fb_lt _ e2).2; omega, fun e2 => by have := (ht.lb_lt _ e2).2; omega⟩

theorem Side.tapeAt {T Wb : Nat} {d : List UInt8} {s r : Nat} {fb lb : Option Nat} {w w' : World} {D : Option Addr} {c : Nat} {f l : List UInt8} {r0 B : Nat} (h : Side T Wb d s r fb lb w D c) (ht : TapeAt w B T f l r0 fb lb) (u : Upto (fun k => k = Wb) w w') : TapeAt w' B T f l r0 fb lb :=
  ht.upto u (by have := h.above; omega) (fun b e e2 => h.fb_W (by rw [e, e2])) (fun b e e2 => h.lb_W (by rw [e, e2]))

/-- Its cells, as they are read. -/
theorem Side.cells {T Wb : Nat} {d : List UInt8} {s r : Nat} {fb lb : Option Nat} {w : World} {D : Option Addr} {c : Nat} (h : Side T Wb d s r fb lb w D c) :
    w.cell? ⟨Wb, 0, none⟩ = some (.slice D d.length c) ∧ w.cell? ⟨Wb, 1, none⟩ = some (.int .i64 s) ∧ w.cell? ⟨Wb, 2, none⟩ = some (.int .i64 r) ∧ ∀ j, w.frozen? ⟨Wb, j, none⟩ = false := row3 h.row

theorem far_T {T : Nat} {lb : Option Nat} {w w' w0 : World} (h : Below w0.heap.size w0 w) (u : Upto (Own T lb) w w') (hT : w0.heap.size ≤ T) (hl : ∀ b, lb = some b → T ≤ b) : Below w0.heap.size w0 w' :=
  h.trans (u.below h.size (fun k hk e => by rcases e with e | e; omega; have := hl k e; omega))

end Go.Proofs.Yteabhokkiggcjaa

import Derived.Test.YticnofemjnpjoaaPtA
import Derived.Laws.StructEq

set_option linter.unusedSimpArgs false
set_option linter.unusedVariables false
set_option linter.unnecessarySimpa false

namespace Go.Proofs.Yticnofemjnpjoaa
open Go.RowKit

/-! past.named, past.Find. -/

/-- A deal: its name, its times, its state; where its deeds lie. -/
structure DealV where
  cl : Int
  ep : Int
  tx : Int
  bg : Int
  en : Int
  st : Int
  A : Option Addr
  n : Nat
  c : Nat

def dealC (d : DealV) : Array Value := #[.int .i64 d.cl, .int .i64 d.ep, .int .i64 d.tx, .int .i64 d.bg, .int .i64 d.en, .int .i64 d.st, .slice d.A d.n d.c]

/-- The deals in the row b. -/
def RdD (w : World) (b : Nat) (l : List DealV) : Prop := ∀ (i : Nat) (d : DealV), l[i]? = some d → w.cell? ⟨b, i * 7, none⟩ = some (.int .i64 d.cl) ∧ w.cell? ⟨b, i * 7 + 1, none⟩ = some (.int .i64 d.ep) ∧ w.cell? ⟨b, i * 7 + 2, none⟩ = some (.int .i64 d.tx) ∧ w.cell? ⟨b, i * 7 + 3, none⟩ = some (.int .i64 d.bg) ∧ w.cell? ⟨b, i * 7 + 4, none⟩ = some (.int .i64 d.en) ∧ w.cell? ⟨b, i * 7 + 5, none⟩ = some (.int .i64 d.st) ∧ w.cell? ⟨b, i * 7 + 6, none⟩ = some (.slice d.A d.n d.c)

theorem RdD.below {w w' : World} {b : Nat} {l : List DealV} (h : RdD w b l) (hb : Below w.heap.size w w') : RdD w' b l := fun i d hd => by
  obtain ⟨h0, h1, h2, h3, h4, h5, h6⟩ := h i d hd
  exact ⟨cell_below hb h0, cell_below hb h1, cell_below hb h2, cell_below hb h3, cell_below hb h4, cell_below hb h5, cell_below hb h6⟩

theorem row7' {w : World} {b : Nat} {T : TypeId} {v0 v1 v2 v3 v4 v5 v6 : Value} (h : w.heap[b]? = some (.cells #[v0, v1, v2, v3, v4, v5, v6] T (0, 0))) :
    w.cell? ⟨b, 0, none⟩ = some v0 ∧ w.cell? ⟨b, 1, none⟩ = some v1 ∧ w.cell? ⟨b, 2, none⟩ = some v2 ∧ w.cell? ⟨b, 3, none⟩ = some v3 ∧ w.cell? ⟨b, 4, none⟩ = some v4 ∧ w.cell? ⟨b, 5, none⟩ = some v5 ∧ w.cell? ⟨b, 6, none⟩ = some v6 ∧ ∀ j, w.frozen? ⟨b, j, none⟩ = false :=
  ⟨(cell_of_row w b 0 _ _ _ h).trans rfl, (cell_of_row w b 1 _ _ _ h).trans rfl, (cell_of_row w b 2 _ _ _ h).trans rfl, (cell_of_row w b 3 _ _ _ h).trans rfl, (cell_of_row w b 4 _ _ _ h).trans rfl, (cell_of_row w b 5 _ _ _ h).trans rfl, (cell_of_row w b 6 _ _ _ h).trans rfl, row_thawed h⟩

theorem named_c (cl ep tx bg en st : Int) (A : Option Addr) (n c : Nat) (w : World) : Calls Try.prog 17 #[.agg #[.int .i64 cl, .int .i64 ep, .int .i64 tx, .int .i64 bg, .int .i64 en, .int .i64 st, .slice A n c]] w fun e w' => e = .returned (.agg #[.int .i64 cl, .int .i64 ep, .int .i64 tx]) ∧ Below w.heap.size w w' := by
  have hb := below2 w (.cells #[.int .i64 cl, .int .i64 ep, .int .i64 tx, .int .i64 bg, .int .i64 en, .int .i64 st, .slice A n c] 33) (.cells #[.int .i64 cl, .int .i64 ep, .int .i64 tx] 51)
  have hr := heap_alloc2_new w (.cells #[.int .i64 cl, .int .i64 ep, .int .i64 tx, .int .i64 bg, .int .i64 en, .int .i64 st, .slice A n c] 33) (.cells #[.int .i64 cl, .int .i64 ep, .int .i64 tx] 51)
  go_enter Try.func17, Try.ntmps17
  go_wp2_with fail
  generalize (w.alloc (.cells #[.int .i64 cl, .int .i64 ep, .int .i64 tx, .int .i64 bg, .int .i64 en, .int .i64 st, .slice A n c] 33)).alloc (.cells #[.int .i64 cl, .int .i64 ep, .int .i64 tx] 51) = W0 at *
  obtain ⟨x0, x1, x2, xz⟩ := row3 hr
  refine bodyPost_ret (by simp [results, Try.results17, go_sem, x0, x1, x2]; try rfl) rfl ?_
  exact ⟨rfl, hb⟩

/-- A batch's name, held against a deal's. -/
def ofB (d : DealV) (cl ep tx : Int) : Bool := decide (d.cl = cl) && (decide (d.ep = ep) && decide (d.tx = tx))

set_option maxHeartbeats 4000000 in
theorem find1_c (cl ep tx bg en st : Int) (A : Option Addr) (n c : Nat) (ls bcl bep btx : Int) (pv : Value) (q : Nat) (w : World) (hq : w.heap[q]? = some (.cells #[.int .i64 ls, .int .i64 bcl, .int .i64 bep, .int .i64 btx, pv] 27 (0, 0))) :
    Calls Try.prog 19 #[.agg #[.int .i64 cl, .int .i64 ep, .int .i64 tx, .int .i64 bg, .int .i64 en, .int .i64 st, .slice A n c], .pointer (some ⟨q, 0, none⟩)] w fun e w' => e = .returned (.bool (decide (cl = bcl) && (decide (ep = bep) && decide (tx = btx)))) ∧ Below w.heap.size w w' := by
  have hb := (Below.refl w.heap.size w).alloc (Nat.le_refl _) (.cells #[.int .i64 cl, .int .i64 ep, .int .i64 tx, .int .i64 bg, .int .i64 en, .int .i64 st, .slice A n c] 33)
  have hr := heap_alloc_new w (.cells #[.int .i64 cl, .int .i64 ep, .int .i64 tx, .int .i64 bg, .int .i64 en, .int .i64 st, .slice A n c] 33)
  have hq1 := (hb.block q (Array.getElem?_eq_some_iff.1 hq).1).trans hq
  clear hq
  go_enter Try.func19, Try.ntmps19
  go_wp2_with fail
  generalize w.alloc (.cells #[.int .i64 cl, .int .i64 ep, .int .i64 tx, .int .i64 bg, .int .i64 en, .int .i64 st, .slice A n c] 33) = W0 at *
  obtain ⟨x0, x1, x2, x3, x4, x5, x6, xz⟩ := row7' hr
  obtain ⟨y0, y1, y2, y3, y4, yz⟩ := row5 hq1
  have HR := Lib.hid (row_drewI hr)
  have HQ := Lib.hid (row_drewI hq1)
  have HB := Lib.hid hb.drew
  have HBOX : Hid True := trivial
  clear hb hr hq1
  by_cases h1 : cl = bcl <;> by_cases h2 : ep = bep <;> by_cases h3 : tx = btx
  all_goals
    have HE : Hid ((decide (cl = bcl) && (decide (ep = bep) && decide (tx = btx))) = decide (cl = bcl ∧ ep = bep ∧ tx = btx)) := by unfold Hid; simp
    first | (have g1 : ((cl : Int) == bcl) = true := by rw [h1]; simp) | (have g1 : ((cl : Int) == bcl) = false := by simp; omega)
    have H1 := Lib.hid h1
    clear h1
    first | (have g2 : ((ep : Int) == bep) = true := by rw [h2]; simp) | (have g2 : ((ep : Int) == bep) = false := by simp; omega)
    have H2 := Lib.hid h2
    clear h2
    first | (have g3 : ((tx : Int) == btx) = true := by rw [h3]; simp) | (have g3 : ((tx : Int) == btx) = false := by simp; omega)
    have H3 := Lib.hid h3
    clear h3
    go_region_held_law (fun W => W.cell? ⟨w.heap.size, 0, none⟩ = some (.int .i64 cl) ∧ W.cell? ⟨w.heap.size, 1, none⟩ = some (.int .i64 ep) ∧ W.cell? ⟨w.heap.size, 2, none⟩ = some (.int .i64 tx) ∧ W.cell? ⟨w.heap.size, 3, none⟩ = some (.int .i64 bg) ∧ W.cell? ⟨w.heap.size, 4, none⟩ = some (.int .i64 en) ∧ W.cell? ⟨w.heap.size, 5, none⟩ = some (.int .i64 st) ∧ W.cell? ⟨w.heap.size, 6, none⟩ = some (.slice A n c) ∧ W.cell? ⟨q, 1, none⟩ = some (.int .i64 bcl) ∧ W.cell? ⟨q, 2, none⟩ = some (.int .i64 bep) ∧ W.cell? ⟨q, 3, none⟩ = some (.int .i64 btx)) (first | exact HBOX.out | go_keep)
      (first
        | (go_at_call 17; clear HBOX; refine (named_c cl ep tx bg en st A n c _).mono ?_; rintro e w1 ⟨rfl, hb1⟩; have HR1 := Lib.hid ((hb1.block w.heap.size (lt_of_row (Nat.le_refl _) HR.out)).trans HR.out); have HQ1 := Lib.hid ((hb1.block q (lt_of_row (Nat.le_refl _) HQ.out)).trans HQ.out); have HB1 := Lib.hid (HB.out.trans (hb1.mono HB.out.size)); have HBOX : Hid (w1.cell? ⟨w.heap.size, 0, none⟩ = some (.int .i64 cl) ∧ w1.cell? ⟨w.heap.size, 1, none⟩ = some (.int .i64 ep) ∧ w1.cell? ⟨w.heap.size, 2, none⟩ = some (.int .i64 tx) ∧ w1.cell? ⟨w.heap.size, 3, none⟩ = some (.int .i64 bg) ∧ w1.cell? ⟨w.heap.size, 4, none⟩ = some (.int .i64 en) ∧ w1.cell? ⟨w.heap.size, 5, none⟩ = some (.int .i64 st) ∧ w1.cell? ⟨w.heap.size, 6, none⟩ = some (.slice A n c) ∧ w1.cell? ⟨q, 1, none⟩ = some (.int .i64 bcl) ∧ w1.cell? ⟨q, 2, none⟩ = some (.int .i64 bep) ∧ w1.cell? ⟨q, 3, none⟩ = some (.int .i64 btx)) := (by obtain ⟨x0, x1, x2, x3, x4, x5, x6, -⟩ := row7' HR1.out; obtain ⟨-, y1, y2, y3, -, -⟩ := row5 HQ1.out; exact ⟨x0, x1, x2, x3, x4, x5, x6, y1, y2, y3⟩); clear hb1))
    all_goals
      go_wp2_with fail
      go_ret
      exact ⟨ret_bool (by rw [HE.out]; simp [H1.out, H2.out, H3.out]), HB1.out⟩

end Go.Proofs.Yticnofemjnpjoaa

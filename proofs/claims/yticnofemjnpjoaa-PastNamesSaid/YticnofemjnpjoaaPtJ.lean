import Derived.Test.YticnofemjnpjoaaPtI

set_option linter.unusedSimpArgs false
set_option linter.unusedVariables false
set_option linter.unnecessarySimpa false

namespace Go.Proofs.Yticnofemjnpjoaa
open Go.RowKit

attribute [local go_sem] run_store_complex

/-! past.apply of a put into the first object. -/

/-- Six pages of which the first alone has something. -/
def pg6 (s : Int) (re im : Nat) : Array Value := #[.int .i64 s, .complex .f64 re im, .complex .f64 0 0, .complex .f64 0 0, .complex .f64 0 0,
  .int .i64 0, .complex .f64 0 0, .complex .f64 0 0, .complex .f64 0 0, .complex .f64 0 0,
  .int .i64 0, .complex .f64 0 0, .complex .f64 0 0, .complex .f64 0 0, .complex .f64 0 0,
  .int .i64 0, .complex .f64 0 0, .complex .f64 0 0, .complex .f64 0 0, .complex .f64 0 0,
  .int .i64 0, .complex .f64 0 0, .complex .f64 0 0, .complex .f64 0 0, .complex .f64 0 0,
  .int .i64 0, .complex .f64 0 0, .complex .f64 0 0, .complex .f64 0 0, .complex .f64 0 0]

theorem pg6_set (s s' : Int) (re im re' im' : Nat) : ((pg6 s re im).setIfInBounds 1 (.complex .f64 re' im')).setIfInBounds 0 (.int .i64 s') = pg6 s' re' im' := rfl

def Pgs (w : World) (g : Nat) (s : Int) (re im : Nat) : Prop := w.heap[g]? = some (.cells (pg6 s re im) 43 (0, 0))

theorem Pgs.at {w : World} {g : Nat} {s : Int} {re im : Nat} (h : Pgs w g s re im) : w.cell? ⟨g, 0, none⟩ = some (.int .i64 s) ∧ w.cell? ⟨g, 1, none⟩ = some (.complex .f64 re im) ∧ ∀ j, w.frozen? ⟨g, j, none⟩ = false :=
  ⟨(cell_of_row w g 0 _ _ _ h).trans rfl, (cell_of_row w g 1 _ _ _ h).trans rfl, row_thawed h⟩

theorem Pgs.set1 {w : World} {g : Nat} {s : Int} {re im re' im' : Nat} (h : Pgs w g s re im) : Pgs (w.setCell ⟨g, 1, none⟩ (.complex .f64 re' im')) g s re' im' := row_set h 1 _
theorem Pgs.set0 {w : World} {g : Nat} {s s' : Int} {re im : Nat} (h : Pgs w g s re im) : Pgs (w.setCell ⟨g, 0, none⟩ (.int .i64 s')) g s' re im := row_set h 0 _
theorem Pgs.drew {w : World} {g : Nat} {s : Int} {re im : Nat} (h : Pgs w g s re im) : Pgs w.drew g s re im := h

theorem Pgs.lt {w : World} {g : Nat} {s : Int} {re im : Nat} (h : Pgs w g s re im) : g < w.heap.size := (Array.getElem?_eq_some_iff.1 h).1

theorem keep3 {w : World} {q g j : Nat} {v x0 x1 x2 : Value} (h : q ≠ g) (h0 : w.cell? ⟨q, 0, none⟩ = some x0) (h1 : w.cell? ⟨q, 1, none⟩ = some x1) (h2 : w.cell? ⟨q, 2, none⟩ = some x2) :
    (w.setCell ⟨g, j, none⟩ v).drew.cell? ⟨q, 0, none⟩ = some x0 ∧ (w.setCell ⟨g, j, none⟩ v).drew.cell? ⟨q, 1, none⟩ = some x1 ∧ (w.setCell ⟨g, j, none⟩ v).drew.cell? ⟨q, 2, none⟩ = some x2 := by
  have hne : ∀ k : Nat, (⟨g, j, none⟩ : Addr) ≠ ⟨q, k, none⟩ := fun k e => by injection e with e1; exact h e1.symm
  exact ⟨(World.cell?_setCell_other w _ _ v (hne 0)).trans h0, (World.cell?_setCell_other w _ _ v (hne 1)).trans h1, (World.cell?_setCell_other w _ _ v (hne 2)).trans h2⟩

set_option maxHeartbeats 4000000 in
theorem apply_c (g c : Nat) (s : Int) (re0 im0 : Nat) (ls cl ep tx : Int) (B c2 re im : Nat) (w : World) (hg : Pgs w g s re0 im0) (hB : RdP w B [⟨0, 0, re, im⟩]) :
    Calls Try.prog 15 #[.slice (some ⟨g, 0, none⟩) 6 c, .agg #[.int .i64 ls, .int .i64 cl, .int .i64 ep, .int .i64 tx, .slice (some ⟨B, 0, none⟩) 1 c2]] w fun e w' => e = .returned (.tuple #[]) ∧ Pgs w' g ls re im ∧ Upto (fun k => k = g) w w' := by
  have hb := (Below.refl w.heap.size w).alloc (Nat.le_refl _) (.cells #[.int .i64 ls, .int .i64 cl, .int .i64 ep, .int .i64 tx, .slice (some ⟨B, 0, none⟩) 1 c2] 27)
  have hr := heap_alloc_new w (.cells #[.int .i64 ls, .int .i64 cl, .int .i64 ep, .int .i64 tx, .slice (some ⟨B, 0, none⟩) 1 c2] 27)
  have hB1 := hB.below hb
  have hg1 : Pgs _ g s re0 im0 := (hb.block g hg.lt).trans hg
  have hsz := hb.size
  have HGL := Lib.hid hg.lt
  have HL : Hid (w.heap.size < (w.alloc (.cells #[.int .i64 ls, .int .i64 cl, .int .i64 ep, .int .i64 tx, .slice (some ⟨B, 0, none⟩) 1 c2] 27)).heap.size) := by unfold Hid; simp
  clear hB hg
  go_enter Try.func15, Try.ntmps15
  go_wp2_with fail
  generalize w.alloc (.cells #[.int .i64 ls, .int .i64 cl, .int .i64 ep, .int .i64 tx, .slice (some ⟨B, 0, none⟩) 1 c2] 27) = W0 at *
  obtain ⟨x0, x1, x2, x3, x4, xz⟩ := row5 hr
  go_wp2_with fail
  clear x0 x1 x2 x3 x4 xz
  go_loopw [9] (fun i wr => (i = .int .i64 0 ∧ Hid (wr = W0)) ∨ (i = .int .i64 1 ∧ Hid (Pgs wr g ls re im) ∧ Hid (Upto (fun k => k = g) w wr))) (fun i _ => 1 - (intOf i).toNat)
  case atStart => exact .inl ⟨rfl, rfl⟩
  case round =>
    rcases hrel with ⟨rfl, hw⟩ | ⟨rfl, hp, hu⟩
    · obtain ⟨rfl⟩ := hw.out
      obtain ⟨x0, x1, x2, x3, x4, xz⟩ := row5 hr
      obtain ⟨y0, y1, y2⟩ := hB1 0 _ rfl
      dsimp only at y0 y1 y2
      clear x0 x1 x2 x3 x4 xz
      have hr1 := (Below.heap_alloc W0 (.cells #[.int .i64 0, .int .i64 0, .complex .f64 re im] 62) w.heap.size (lt_of_row (Nat.le_refl _) hr)).trans hr
      have hq1 := heap_alloc_new W0 (.cells #[.int .i64 0, .int .i64 0, .complex .f64 re im] 62)
      have hp1 : Pgs _ g s re0 im0 := (Below.heap_alloc W0 (.cells #[.int .i64 0, .int .i64 0, .complex .f64 re im] 62) g hg1.lt).trans hg1
      have HNE : W0.heap.size ≠ g := by have := hg1.lt; omega
      have HNE2 : w.heap.size ≠ g := by have := HGL.out; omega
      have HU := Lib.hid (Upto.of_below (K := fun k => k = g) (hb.alloc hb.size (.cells #[.int .i64 0, .int .i64 0, .complex .f64 re im] 62)))
      go_upto_region 5 with fail
      generalize W0.alloc (.cells #[.int .i64 0, .int .i64 0, .complex .f64 re im] 62) = W1 at *
      obtain ⟨x0, x1, x2, x3, x4, xz⟩ := row5 hr1
      obtain ⟨z0, z1, z2, zz⟩ := row3 hq1
      obtain ⟨g0, g1, gz⟩ := hp1.at
      clear y0 y1 y2 hb hr hB1 hg1 hsz
      generalize W0.heap.size = q at *
      go_region_held_law (fun W => W.cell? ⟨q, 0, none⟩ = some (.int .i64 0) ∧ W.cell? ⟨q, 1, none⟩ = some (.int .i64 0) ∧ W.cell? ⟨q, 2, none⟩ = some (.complex .f64 re im)) (first | exact keep3 HNE z0 z1 z2 | go_keep) (fail)
      all_goals
        have hp2 : Pgs _ g s re im := (hp1.set1 (re' := re) (im' := im)).drew
        have HU2 := Lib.hid (HU.out.setCell (p := ⟨g, 1, none⟩) rfl (.complex .f64 re im)).drew
        have hx0 : (W1.setCell ⟨g, 1, none⟩ (.complex .f64 re im)).drew.cell? ⟨w.heap.size, 0, none⟩ = some (.int .i64 ls) := (World.cell?_setCell_other W1 _ _ _ (fun e => by injection e with e1; exact HNE2 e1.symm)).trans x0
        obtain ⟨k0, k1, k2⟩ := keep3 (j := 1) (v := .complex .f64 re im) HNE z0 z1 z2
        clear hp1 HU x0 x1 x2 x3 x4 xz g0 g1 gz z0 z1 z2 zz hq1 hr1
        generalize (W1.setCell ⟨g, 1, none⟩ (.complex .f64 re im)).drew = W2 at *
        obtain ⟨g0, g1, gz⟩ := hp2.at
        have hp3 : Pgs _ g ls re im := hp2.set0 (s' := ls)
        have HU3 := Lib.hid (HU2.out.setCell (p := ⟨g, 0, none⟩) rfl (.int .i64 ls))
        have HP3 := Lib.hid hp3
        clear hp3 HU2 hp2
        go_wp2_with fail
        go_roundw
        case rel => exact .inr ⟨by simp, HP3, HU3⟩
        case measure => simp [intOf]
    · go_wp2_with fail
      go_end0
      exact ⟨rfl, hp.out, hu.out⟩

end Go.Proofs.Yticnofemjnpjoaa

import Derived.Test.YticnofemjnpjoaaPtE

set_option linter.unusedSimpArgs false
set_option linter.unusedVariables false
set_option linter.unnecessarySimpa false

namespace Go.Proofs.Yticnofemjnpjoaa
open Go.RowKit
open Go.ChangeMaps (setBlock)

attribute [local go_sem] run_store_complex

/-! past.wrote. -/

structure DeedV where
  wr : Bool
  pg : Int
  ob : Int
  re : Nat
  im : Nat

/-- The deeds in the row b. -/
def RdE (w : World) (b : Nat) (l : List DeedV) : Prop := ∀ (i : Nat) (d : DeedV), l[i]? = some d → w.cell? ⟨b, i * 4, none⟩ = some (.bool d.wr) ∧ w.cell? ⟨b, i * 4 + 1, none⟩ = some (.int .i64 d.pg) ∧ w.cell? ⟨b, i * 4 + 2, none⟩ = some (.int .i64 d.ob) ∧ w.cell? ⟨b, i * 4 + 3, none⟩ = some (.complex .f64 d.re d.im)

theorem RdE.below {w w' : World} {b : Nat} {l : List DeedV} (h : RdE w b l) (hb : Below w.heap.size w w') : RdE w' b l := fun i d hd => by
  obtain ⟨h0, h1, h2, h3⟩ := h i d hd
  exact ⟨cell_below hb h0, cell_below hb h1, cell_below hb h2, cell_below hb h3⟩

/-- What a deal wrote, where it writes once at most, and into the first object. -/
def wrE : List DeedV → Array MapEntry × Nat
  | [] => (#[], 0)
  | d :: r => if d.wr = true then (#[⟨.agg #[.int .i64 0, .int .i64 0], .complex .f64 d.re d.im, 0⟩], 1) else wrE r

theorem wrE_snoc_no (l : List DeedV) (d : DeedV) (h : d.wr = false) : wrE (l ++ [d]) = wrE l := by
  induction l with
  | nil => simp [wrE, h]
  | cons x r ih => simp only [List.cons_append, wrE, ih]

theorem wrE_none (l : List DeedV) (h : ∀ d ∈ l, d.wr = false) : wrE l = (#[], 0) := by
  induction l with
  | nil => rfl
  | cons x r ih => simp only [wrE]; rw [if_neg (by rw [h x (by simp)]; decide), ih (fun d hd => h d (by simp [hd]))]

theorem wrE_snoc_yes (l : List DeedV) (d : DeedV) (h : d.wr = true) (hl : ∀ d ∈ l, d.wr = false) : wrE (l ++ [d]) = (#[⟨.agg #[.int .i64 0, .int .i64 0], .complex .f64 d.re d.im, 0⟩], 1) := by
  induction l with
  | nil => simp [wrE, h]
  | cons x r ih => simp only [List.cons_append, wrE]; rw [if_neg (by rw [hl x (by simp)]; decide), ih (fun d hd => hl d (by simp [hd]))]

/-- Deeds that write once at most, and into the first object. -/
def Simple (l : List DeedV) : Prop := ∀ (k : Nat) (d : DeedV), l[k]? = some d → d.wr = true → d.pg = 0 ∧ d.ob = 0 ∧ ∀ x ∈ l.take k, x.wr = false

theorem below_setBlock {B b clk : Nat} {w W : World} {es : Array MapEntry} (h : Below B w W) (hb : W.heap[b]? = some (.map es clk)) (hB : B ≤ b) (o : Obj) : Below B w (setBlock W b o) :=
  ⟨h.os, h.tape, h.output, by have := h.size; simpa [setBlock] using this, fun i hi => (Go.ChangeMaps.heap_setBlock_other hb o (by omega)).trans (h.block i hi)⟩

set_option maxHeartbeats 4000000 in
theorem wrote_c (cl ep tx bg en st : Int) (A n c : Nat) (l : List DeedV) (hn : l.length = n) (hl : n ≤ 1000) (hs : Simple l) (w : World) (h : RdE w A l) : Calls Try.prog 20 #[.agg #[.int .i64 cl, .int .i64 ep, .int .i64 tx, .int .i64 bg, .int .i64 en, .int .i64 st, .slice (some ⟨A, 0, none⟩) n c]] w fun e w' => ∃ B, e = .returned (.map (some B)) ∧ w'.heap[B]? = some (.map (wrE l).1 (wrE l).2) ∧ w.heap.size ≤ B ∧ Below w.heap.size w w' := by
  have hmm := @run_makeMap Try.prog
  have hb := below2 w (.cells #[.int .i64 cl, .int .i64 ep, .int .i64 tx, .int .i64 bg, .int .i64 en, .int .i64 st, .slice (some ⟨A, 0, none⟩) n c] 33) (.map #[] 0)
  have hr := heap_alloc2_new w (.cells #[.int .i64 cl, .int .i64 ep, .int .i64 tx, .int .i64 bg, .int .i64 en, .int .i64 st, .slice (some ⟨A, 0, none⟩) n c] 33) (.map #[] 0)
  go_enter Try.func20, Try.ntmps20
  go_wp2_with fail
  generalize (w.alloc (.cells #[.int .i64 cl, .int .i64 ep, .int .i64 tx, .int .i64 bg, .int .i64 en, .int .i64 st, .slice (some ⟨A, 0, none⟩) n c] 33)).alloc (.map #[] 0) = W0 at *
  go_loopw [10] (fun i wr => ∃ k : Nat, k ≤ n ∧ i = .int .i64 k ∧ Hid (wr.heap[w.heap.size + 1]? = some (.map (wrE (l.take k)).1 (wrE (l.take k)).2)) ∧ Hid (Below w.heap.size w wr)) (fun i _ => n - (intOf i).toNat)
  case atStart => exact ⟨0, Nat.zero_le _, rfl, hr, hb⟩
  case round =>
    obtain ⟨k, hk, rfl, hm, hbr⟩ := hrel
    by_cases hlt : k < n
    · obtain ⟨⟨wb, pg, ob, re, im⟩, hd⟩ := get_some l k (by omega)
      obtain ⟨y0, y1, y2, y3⟩ := h.below hbr.out k _ hd
      have HS := Lib.hid (hs k _ hd)
      have HT := Lib.hid (take_snoc hd)
      dsimp only at y0 y1 y2 y3 HS
      cases wb with
      | false =>
        have HB1 := Lib.hid (hbr.out.alloc hbr.out.size (.cells #[.bool false, .int .i64 pg, .int .i64 ob, .complex .f64 re im] 37))
        have HM1 : Hid ((wr.alloc (.cells #[.bool false, .int .i64 pg, .int .i64 ob, .complex .f64 re im] 37)).heap[w.heap.size + 1]? = some (.map (wrE (l.take (k + 1))).1 (wrE (l.take (k + 1))).2)) := by
          unfold Hid; rw [HT.out, wrE_snoc_no _ _ rfl]
          exact (Below.heap_alloc wr _ (w.heap.size + 1) (Array.getElem?_eq_some_iff.1 hm.out).1).trans hm.out
        clear h hs hd hb hr hm HS HT
        go_wp2_with fail
        go_roundw
        case rel => exact ⟨k + 1, by omega, by simp, HM1, HB1⟩
        case measure => simp [intOf]; omega
      | true =>
        obtain ⟨rfl, rfl, ht⟩ := HS.out rfl
        have HB1 := Lib.hid (hbr.out.alloc hbr.out.size (.cells #[.bool true, .int .i64 0, .int .i64 0, .complex .f64 re im] 37))
        have hm0 : (wr.alloc (.cells #[.bool true, .int .i64 0, .int .i64 0, .complex .f64 re im] 37)).heap[w.heap.size + 1]? = some (.map #[] 0) := by
          rw [wrE_none _ ht] at hm
          exact (Below.heap_alloc wr _ (w.heap.size + 1) (Array.getElem?_eq_some_iff.1 hm.out).1).trans hm.out
        have hB2 := Lib.hid (below_setBlock HB1.out hm0 (by omega) (.map (#[].push ⟨.agg #[.int .i64 0, .int .i64 0], .complex .f64 re im, 0⟩) (0 + 1)))
        have HM1 : Hid ((setBlock (wr.alloc (.cells #[.bool true, .int .i64 0, .int .i64 0, .complex .f64 re im] 37)) (w.heap.size + 1) (.map (#[].push ⟨.agg #[.int .i64 0, .int .i64 0], .complex .f64 re im, 0⟩) (0 + 1))).heap[w.heap.size + 1]? = some (.map (wrE (l.take (k + 1))).1 (wrE (l.take (k + 1))).2)) := by
          unfold Hid; rw [HT.out, wrE_snoc_yes _ _ rfl ht]
          exact Go.ChangeMaps.heap_setBlock_same hm0 _
        obtain ⟨W9, hW9⟩ : ∃ W9, W9 = setBlock (wr.alloc (.cells #[.bool true, .int .i64 0, .int .i64 0, .complex .f64 re im] 37)) (w.heap.size + 1) (.map (#[].push ⟨.agg #[.int .i64 0, .int .i64 0], .complex .f64 re im, 0⟩) (0 + 1)) := ⟨_, rfl⟩
        have hu : (Instr.mapUpdate 56 (.map (some (w.heap.size + 1))) (.agg #[.int .i64 0, .int .i64 0]) (.complex .f64 re im)).run Try.prog (wr.alloc (.cells #[.bool true, .int .i64 0, .int .i64 0, .complex .f64 re im] 37)) = .ok () W9 := by
          rw [hW9]
          exact upd_new place_law Try.underlying56 hm0 (place_key (p := 0) (o := 0) (by omega) (by omega)).choose_spec (by simp) (by simp) (.complex .f64 re im)
        rw [← hW9] at HM1 hB2
        clear h hs hd hb hr hm HS HT ht hm0 hW9 HB1
        go_wp2_with fail
        go_roundw
        case rel => exact ⟨k + 1, by omega, by simp, HM1, hB2⟩
        case measure => simp [intOf]; omega
    · have he : k = n := by omega
      subst he
      have HM : Hid (wr.heap[w.heap.size + 1]? = some (.map (wrE l).1 (wrE l).2)) := by
        have := hm.out
        rwa [← hn, List.take_length] at this
      clear h hs hb hr hm
      go_wp2_with fail
      go_ret
      exact ⟨_, rfl, HM.out, by omega, hbr.out⟩

end Go.Proofs.Yticnofemjnpjoaa

import Derived.Test.YticnofemjnpjoaaPtK

set_option linter.unusedSimpArgs false
set_option linter.unusedVariables false
set_option linter.unnecessarySimpa false

namespace Go.Proofs.Yticnofemjnpjoaa
open Go.RowKit
open Go.ChangeMaps (setBlock)

attribute [local go_sem] run_store_complex

/-! past.Replay. -/

/-- A batch of one put into the first object, of client 1 in epoch 1. -/
structure BatV where
  ls : Int
  tx : Int
  B : Nat
  c : Nat
  re : Nat
  im : Nat

/-- The batches in the row b, with their puts. -/
def RdB (w : World) (b : Nat) (l : List BatV) : Prop := ∀ (i : Nat) (d : BatV), l[i]? = some d → w.cell? ⟨b, i * 5, none⟩ = some (.int .i64 d.ls) ∧ w.cell? ⟨b, i * 5 + 1, none⟩ = some (.int .i64 1) ∧ w.cell? ⟨b, i * 5 + 2, none⟩ = some (.int .i64 1) ∧ w.cell? ⟨b, i * 5 + 3, none⟩ = some (.int .i64 d.tx) ∧ w.cell? ⟨b, i * 5 + 4, none⟩ = some (.slice (some ⟨d.B, 0, none⟩) 1 d.c) ∧ RdP w d.B [⟨0, 0, d.re, d.im⟩]

theorem RdB.below {w w' : World} {b : Nat} {l : List BatV} (h : RdB w b l) (hb : Below w.heap.size w w') : RdB w' b l := fun i d hd => by
  obtain ⟨h0, h1, h2, h3, h4, h5⟩ := h i d hd
  exact ⟨cell_below hb h0, cell_below hb h1, cell_below hb h2, cell_below hb h3, cell_below hb h4, h5.below hb⟩

/-- Where a log leads: the number and the value of the first object. -/
def lastB : Int × Nat × Nat → List BatV → Int × Nat × Nat
  | s, [] => s
  | _, d :: r => lastB (d.ls, d.re, d.im) r

theorem made6 : madeCells #[.int .i64 0, .complex .f64 0 0, .complex .f64 0 0, .complex .f64 0 0, .complex .f64 0 0] 30 = pg6 0 0 0 := by kernel_rfl

theorem makeP (W : World) : (Instr.makeSlice 28 (.int .i64 6) (.int .i64 6)).run Try.prog W = .ok (.slice (some ⟨W.heap.size, 0, none⟩) 6 6) (W.alloc (.cells (pg6 0 0 0) 43)) := by
  obtain ⟨t0, hti, hz0, hz1, hz2⟩ := info_parts infoPg
  have h := run_makeSlice (P := Try.prog) W 28 43 t0 _ Try.underlying28 hti hz0 .i64 .i64 6 6 (by omega) (by omega) (by rw [hz1]; decide) (by rw [hz2]; decide) (by omega)
  rw [hz1] at h
  exact h.trans (congrArg (fun cs => Result.ok (Value.slice (some ⟨W.heap.size, 0, none⟩) 6 6) (W.alloc (.cells cs 43))) made6)

set_option maxHeartbeats 4000000 in
theorem replay_c (b : Nat) (l : List BatV) (n c : Nat) (hn : l.length = n) (hl : n ≤ 1000) (w : World) (h : RdB w b l) :
    Calls Try.prog 9 #[.slice (some ⟨b, 0, none⟩) n c] w fun e w' => ∃ g, e = .returned (.slice (some ⟨g, 0, none⟩) 6 6) ∧ Pgs w' g (lastB (0, 0, 0) l).1 (lastB (0, 0, 0) l).2.1 (lastB (0, 0, 0) l).2.2 ∧ w.heap.size ≤ g ∧ Below w.heap.size w w' := by
  have hmk := makeP
  have hb := (Below.refl w.heap.size w).alloc (Nat.le_refl _) (.cells (pg6 0 0 0) 43)
  have hr : Pgs _ w.heap.size 0 0 0 := heap_alloc_new w (.cells (pg6 0 0 0) 43)
  have HD := Lib.hid h
  clear h
  go_enter Try.func9, Try.ntmps9
  go_wp2_with fail
  generalize w.alloc (.cells (pg6 0 0 0) 43) = W0 at *
  go_loopw [9] (fun i wr => ∃ (k : Nat) (s : Int) (re im : Nat), k ≤ n ∧ i = .int .i64 k ∧ Hid (lastB (0, 0, 0) l = lastB (s, re, im) (l.drop k)) ∧ Hid (Pgs wr w.heap.size s re im) ∧ Hid (Below w.heap.size w wr)) (fun i _ => n - (intOf i).toNat)
  case atStart => exact ⟨0, 0, 0, 0, Nat.zero_le _, rfl, rfl, hr, hb⟩
  case round =>
    clear hr hb
    obtain ⟨k, s, re, im, hk, rfl, hm, hp, hbr⟩ := hrel
    by_cases hlt : k < n
    · obtain ⟨⟨ls, tx, B, c2, dr, di⟩, hd⟩ := get_some l k (by omega)
      obtain ⟨y0, y1, y2, y3, y4, y5⟩ := HD.out.below hbr.out k _ hd
      dsimp only at y0 y1 y2 y3 y4 y5
      have hdr : l.drop k = ⟨ls, tx, B, c2, dr, di⟩ :: l.drop (k + 1) := by
        obtain ⟨hlt2, e⟩ := List.getElem?_eq_some_iff.1 hd
        rw [← e]; exact List.drop_eq_getElem_cons hlt2
      have HE : Hid (lastB (0, 0, 0) l = lastB (ls, dr, di) (l.drop (k + 1))) := by unfold Hid; rw [hm.out, hdr, lastB]
      have hal := (Below.refl wr.heap.size wr).alloc (Nat.le_refl _) (.cells #[.int .i64 ls, .int .i64 1, .int .i64 1, .int .i64 tx, .slice (some ⟨B, 0, none⟩) 1 c2] 27)
      have hq := heap_alloc_new wr (.cells #[.int .i64 ls, .int .i64 1, .int .i64 1, .int .i64 tx, .slice (some ⟨B, 0, none⟩) 1 c2] 27)
      have HP1 : Hid (Pgs _ w.heap.size s re im) := (hal.block _ hp.out.lt).trans hp.out
      have HP := Lib.hid (y5.below hal)
      have HB1 := Lib.hid (hbr.out.trans (hal.mono hbr.out.size))
      clear hdr hd hal hp hbr hm y5
      go_upto_region 5 with fail
      generalize wr.alloc (.cells #[.int .i64 ls, .int .i64 1, .int .i64 1, .int .i64 tx, .slice (some ⟨B, 0, none⟩) 1 c2] 27) = W1 at *
      generalize wr.heap.size = q at *
      clear y0 y1 y2 y3 y4
      obtain ⟨x0, x1, x2, x3, x4, xz⟩ := row5 hq
      go_wp2_with fail
      refine (apply_c w.heap.size 6 s re im ls 1 1 tx B c2 dr di W1 HP1.out HP.out).mono ?_; rintro e w3 ⟨rfl, hp3, hu3⟩
      have HP3 := Lib.hid hp3
      have HB3 := Lib.hid (HB1.out.trans (hu3.below HB1.out.size (fun k hk => by omega)))
      clear hp3 hu3 hq x0 x1 x2 x3 x4 xz HP1 HP HB1
      go_wp2_with fail
      go_roundw
      case rel => exact ⟨k + 1, ls, dr, di, by omega, by simp, HE, HP3, HB3⟩
      case measure => simp [intOf]; omega
    · have he : k = n := by omega
      subst he
      have HE : Hid (lastB (0, 0, 0) l = (s, re, im)) := by unfold Hid; rw [hm.out, ← hn, List.drop_length]; rfl
      clear hm
      go_wp2_with fail
      go_ret
      refine ⟨w.heap.size, rfl, ?_, Nat.le_refl _, hbr.out⟩
      rw [HE.out]
      exact hp.out

set_option maxHeartbeats 4000000 in
theorem replay_nil (w : World) :
    Calls Try.prog 9 #[.slice none 0 0] w fun e w' => ∃ g, e = .returned (.slice (some ⟨g, 0, none⟩) 6 6) ∧ Below w.heap.size w w' := by
  have hmk := makeP
  have hb := (Below.refl w.heap.size w).alloc (Nat.le_refl _) (.cells (pg6 0 0 0) 43)
  go_enter Try.func9, Try.ntmps9
  go_wp2_with fail
  generalize w.alloc (.cells (pg6 0 0 0) 43) = W0 at *
  go_loopw [9] (fun i wr => i = .int .i64 0 ∧ Hid (Below w.heap.size w wr)) (fun i _ => 0)
  case atStart => exact ⟨rfl, hb⟩
  case round =>
    obtain ⟨rfl, hbr⟩ := hrel
    clear hb
    go_wp2_with fail
    go_ret
    exact ⟨_, rfl, hbr.out⟩

end Go.Proofs.Yticnofemjnpjoaa

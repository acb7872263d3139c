import Derived.Test.YticnofemjnpjoaaPtJ
import Derived.BigQuiet

set_option linter.unusedSimpArgs false
set_option linter.unusedVariables false
set_option linter.unnecessarySimpa false

namespace Go.Proofs.Yticnofemjnpjoaa
open Go.RowKit

attribute [local go_sem] run_store_complex

/-! slices.Clone of the pages; past.Reads of deeds at the first object. -/

/-- The first object of the row's first page. -/
def At1 (w : World) (g : Nat) (re im : Nat) : Prop := ∃ cs : Array Value, w.heap[g]? = some (.cells cs 43 (0, 0)) ∧ cs[1]? = some (.complex .f64 re im)

theorem At1.drewN {w : World} {g re im : Nat} (h : At1 w g re im) (n : Nat) : At1 (w.drewN n) g re im := h
theorem At1.drew {w : World} {g re im : Nat} (h : At1 w g re im) : At1 w.drew g re im := h
theorem At1.lt {w : World} {g re im : Nat} (h : At1 w g re im) : g < w.heap.size := by obtain ⟨cs, h, -⟩ := h; exact (Array.getElem?_eq_some_iff.1 h).1
theorem At1.below {w w' : World} {g re im : Nat} (h : At1 w g re im) (hb : Below w.heap.size w w') : At1 w' g re im := by
  have hl := h.lt
  obtain ⟨cs, h1, h2⟩ := h
  exact ⟨cs, (hb.block g hl).trans h1, h2⟩
theorem At1.at {w : World} {g re im : Nat} (h : At1 w g re im) : w.cell? ⟨g, 1, none⟩ = some (.complex .f64 re im) ∧ ∀ j, w.frozen? ⟨g, j, none⟩ = false := by
  obtain ⟨cs, h1, h2⟩ := h
  exact ⟨(cell_of_row w g 1 _ _ _ h1).trans h2, row_thawed h1⟩
theorem At1.set {w : World} {g re im re' im' : Nat} (h : At1 w g re im) : At1 (w.setCell ⟨g, 1, none⟩ (.complex .f64 re' im')) g re' im' := by
  obtain ⟨cs, h1, h2⟩ := h
  obtain ⟨h3, -⟩ := Array.getElem?_eq_some_iff.1 h2
  exact ⟨_, row_set h1 1 _, by simp [h3]⟩

theorem infoPg : (Try.prog.info? 43).map (fun i => (i.zero, i.size, i.bytes)) = some (some (.agg #[.int .i64 0, .complex .f64 0 0, .complex .f64 0 0, .complex .f64 0 0, .complex .f64 0 0]), 5, 72) := by kernel_rfl

theorem one_pg6 (s : Int) (re im : Nat) : ∀ u ∈ (pg6 s re im).toList, u.oneCell' = true := by
  have h : (pg6 s re im).toList.all (fun u => u.oneCell') = true := rfl
  exact List.all_eq_true.1 h

set_option maxHeartbeats 4000000 in
theorem clonep_c (g c : Nat) (s : Int) (re im : Nat) (w : World) (h : Pgs w g s re im) :
    Calls Try.prog 23 #[.slice (some ⟨g, 0, none⟩) 6 c] w fun e w' => ∃ g' c', e = .returned (.slice (some ⟨g', 0, none⟩) 6 c') ∧ At1 w' g' re im ∧ w.heap.size ≤ g' ∧ Below w.heap.size w w' := by
  have hq := fun (a : Option Addr) (m k : Nat) (W : World) => Lib.run_eql_slice_nil (P := Try.prog) W 28 43 a m k 0 0 Try.underlying28
  have hb := (Below.refl w.heap.size w).alloc (Nat.le_refl _) (.cells #[] 43)
  have hx : (w.alloc (.cells #[] 43)).heap[g]? = some (.cells (pg6 s re im) 43 (0, 0)) := (hb.block g h.lt).trans h
  have hown := World.ownsRow_made (base := w.heap.size) (e := 43) (size := 5) w #[] 0 (Nat.le_refl _) (by decide) rfl
  obtain ⟨t0, hti, hz0, hz1, hz2⟩ := info_parts infoPg
  have HTI := Lib.hid hti
  have HX := Lib.hid hx
  have HO := Lib.hid hown
  have HB := Lib.hid hb
  have hsz := hb.size
  clear hti hx hown hb h
  go_enter Try.func23, Try.ntmps23
  go_wp2_with (at_builtin; go_loud (refine wpList_append_lies _ (by rfl) _ _ _ (by rfl) w.heap.size 43 t0 _ 5 72 Try.underlying28 HTI.out hz0 hz1 hz2 rfl (by decide) (.slice (some ⟨w.heap.size, 0, none⟩) 0 0) 0 [] (by rfl) HO.out ⟨g, 0, none⟩ 6 c (pg6 s re im).toList (by rfl) rfl (World.news_of_block HX.out) (one_pg6 s re im) (by decide) (by simp only [maxLen]; omega) (by omega) hsz _ rfl ?_; intro g' cap w7 ho7 hg7 hat7 hlt7))
  go_ret
  refine ⟨g', cap, rfl, ?_, ?_, ?_⟩
  · rcases ho7.2 with ⟨-, h0⟩ | ⟨g2, c2, cur, hv, hg2, hh, -, -, -, ht⟩
    · omega
    · have e : g2 = g' := by simp at hv; exact hv.1.symm
      subst e
      refine ⟨cur, hh, ?_⟩
      have h1 := congrArg (fun l => l[1]?) ht
      simp only [List.getElem?_take] at h1
      simpa [pg6] using h1
  · rcases ho7.2 with ⟨-, h0⟩ | ⟨g2, c2, cur, hv, hg2, hh, -, -, -, ht⟩
    · omega
    · have e : g2 = g' := by simp at hv; exact hv.1.symm
      subst e
      exact hg2
  · exact HB.out.grown hg7 hsz (fun k hk => by simp [Value.ownBlock] at hk; omega)

def readsM : Nat × Nat → List DeedV → Bool
  | _, [] => true
  | c, d :: r => if d.wr = true then readsM (d.re, d.im) r else if sameV c (d.re, d.im) = true then readsM c r else false

set_option maxHeartbeats 4000000 in
theorem reads_c (cl ep tx bg en st : Int) (A n c : Nat) (l : List DeedV) (hn : l.length = n) (hl : n ≤ 1000) (hz : ∀ d ∈ l, d.pg = 0 ∧ d.ob = 0) (g cg : Nat) (s : Int) (re0 im0 : Nat) (w : World) (h : RdE w A l) (hg : Pgs w g s re0 im0) :
    Calls Try.prog 14 #[.agg #[.int .i64 cl, .int .i64 ep, .int .i64 tx, .int .i64 bg, .int .i64 en, .int .i64 st, .slice (some ⟨A, 0, none⟩) n c], .slice (some ⟨g, 0, none⟩) 6 cg] w fun e w' => e = .returned (.bool (readsM (re0, im0) l)) ∧ Below w.heap.size w w' := by
  have hb := (Below.refl w.heap.size w).alloc (Nat.le_refl _) (.cells #[.int .i64 cl, .int .i64 ep, .int .i64 tx, .int .i64 bg, .int .i64 en, .int .i64 st, .slice (some ⟨A, 0, none⟩) n c] 33)
  have hr := heap_alloc_new w (.cells #[.int .i64 cl, .int .i64 ep, .int .i64 tx, .int .i64 bg, .int .i64 en, .int .i64 st, .slice (some ⟨A, 0, none⟩) n c] 33)
  have h1 := h.below hb
  have hg1 : Pgs _ g s re0 im0 := (hb.block g hg.lt).trans hg
  have hsz := hb.size
  clear hg
  go_enter Try.func14, Try.ntmps14
  go_wp2_with fail
  generalize w.alloc (.cells #[.int .i64 cl, .int .i64 ep, .int .i64 tx, .int .i64 bg, .int .i64 en, .int .i64 st, .slice (some ⟨A, 0, none⟩) n c] 33) = W0 at *
  refine (clonep_c g cg s re0 im0 W0 hg1).mono ?_; rintro e w1 ⟨g', cg', rfl, ha, hgg, hb1⟩
  have HB0 := Lib.hid (hb.trans (hb1.mono hsz))
  have hr1 := (hb1.block w.heap.size (lt_of_row (Nat.le_refl _) hr)).trans hr
  have HD := Lib.hid h
  have HGG := Lib.hid (Nat.le_trans hsz hgg)
  have HA := Lib.hid ha
  obtain ⟨x0, x1, x2, x3, x4, x5, x6, xz⟩ := row7' hr1
  clear hb hr h h1 hg1 hb1 hgg ha hsz
  go_wp2_with fail
  clear x0 x1 x2 x3 x4 x5 x6 xz
  have HZ := Lib.hid hz
  clear hz hr1
  go_loopw [14] (fun i wr => ∃ k re im : Nat, k ≤ n ∧ i = .int .i64 k ∧ Hid (readsM (re0, im0) l = readsM (re, im) (l.drop k)) ∧ Hid (At1 wr g' re im) ∧ Hid (Below w.heap.size w wr)) (fun i _ => n - (intOf i).toNat)
  case atStart => exact ⟨0, re0, im0, Nat.zero_le _, rfl, rfl, HA.out, HB0.out⟩
  case round =>
    obtain ⟨k, re, im, hk, rfl, hm, ha, hbr⟩ := hrel
    by_cases hlt : k < n
    · obtain ⟨⟨wb, pg, ob, dr, di⟩, hd⟩ := get_some l k (by omega)
      obtain ⟨rfl, rfl⟩ := HZ.out _ (List.mem_of_getElem? hd)
      obtain ⟨y0, y1, y2, y3⟩ := HD.out.below hbr.out k _ hd
      dsimp only at y0 y1 y2 y3
      have hdr : l.drop k = ⟨wb, 0, 0, dr, di⟩ :: l.drop (k + 1) := by
        obtain ⟨hlt2, e⟩ := List.getElem?_eq_some_iff.1 hd
        rw [← e]; exact List.drop_eq_getElem_cons hlt2
      have HDR := Lib.hid hdr
      have hal := (Below.refl wr.heap.size wr).alloc (Nat.le_refl _) (.cells #[.bool wb, .int .i64 0, .int .i64 0, .complex .f64 dr di] 37)
      have hq := heap_alloc_new wr (.cells #[.bool wb, .int .i64 0, .int .i64 0, .complex .f64 dr di] 37)
      have HA1 := Lib.hid (ha.out.below hal)
      have HB1 := Lib.hid (hbr.out.trans (hal.mono hbr.out.size))
      have HNE : wr.heap.size ≠ g' := by have := ha.out.lt; omega
      clear hdr hd hal ha hbr
      go_upto_region 7 with fail
      generalize wr.alloc (.cells #[.bool wb, .int .i64 0, .int .i64 0, .complex .f64 dr di] 37) = W1 at *
      generalize wr.heap.size = q at *
      clear y0 y1 y2 y3
      obtain ⟨x0, x1, x2, x3, xz⟩ := row4 hq
      obtain ⟨g1, gz⟩ := HA1.out.at
      go_quiet (fail)
      cases wb with
      | true =>
        have HE : Hid (readsM (re0, im0) l = readsM (dr, di) (l.drop (k + 1))) := by unfold Hid; rw [hm.out, HDR.out]; simp [readsM]
        have HA2 := Lib.hid ((HA1.out.drewN nq).set (re' := dr) (im' := di))
        have HB2 := Lib.hid ((below_drewN HB1.out nq).setCell (p := ⟨g', 1, none⟩) HGG.out (.complex .f64 dr di))
        go_wp2_with fail
        go_roundw
        case rel => exact ⟨k + 1, dr, di, by omega, by simp, HE, HA2, HB2⟩
        case measure => simp [intOf]; omega
      | false =>
        cases hs : sameV (re, im) (dr, di) with
        | true =>
          have HS : Hid (∀ W, Calls Try.prog 24 #[.complex .f64 re im, .complex .f64 dr di] W fun e w' => e = .returned (.bool true) ∧ W = w') := fun W => by rw [← hs]; exact csame_g re im dr di W
          have HE : Hid (readsM (re0, im0) l = readsM (re, im) (l.drop (k + 1))) := by unfold Hid; rw [hm.out, HDR.out]; simp [readsM, hs]
          have HA2 := fun m => Lib.hid ((HA1.out.drewN nq).drewN m)
          have HB2 := fun m => Lib.hid (below_drewN (below_drewN HB1.out nq) m)
          clear hs
          go_wp2_with fail
          go_quiet ((go_at_call 24; first | exact quiet_left (HS.out _) | exact quiet_add_left (HS.out _)))
          go_wp2_with fail
          go_roundw
          case rel => exact ⟨k + 1, re, im, by omega, by simp, HE, by rw [← World.drewN_drewN]; exact HA2 _, by rw [← World.drewN_drewN]; exact HB2 _⟩
          case measure => simp [intOf]; omega
        | false =>
          have HS : Hid (∀ W, Calls Try.prog 24 #[.complex .f64 re im, .complex .f64 dr di] W fun e w' => e = .returned (.bool false) ∧ W = w') := fun W => by rw [← hs]; exact csame_g re im dr di W
          have HE : Hid (readsM (re0, im0) l = false) := by unfold Hid; rw [hm.out, HDR.out]; simp [readsM, hs]
          have HB2 := fun m => Lib.hid (below_drewN (below_drewN HB1.out nq) m)
          clear hs
          go_wp2_with fail
          go_quiet ((go_at_call 24; first | exact quiet_left (HS.out _) | exact quiet_add_left (HS.out _)))
          go_wp2_with fail
          go_ret
          exact ⟨ret_bool (by rw [HE.out]), (HB2 _).out⟩
    · have he : k = n := by omega
      subst he
      have HE : Hid (readsM (re0, im0) l = true) := by unfold Hid; rw [hm.out, ← hn, List.drop_length]; rfl
      clear hm ha
      go_wp2_with fail
      go_ret
      exact ⟨ret_bool (by rw [HE.out]), hbr.out⟩

end Go.Proofs.Yticnofemjnpjoaa

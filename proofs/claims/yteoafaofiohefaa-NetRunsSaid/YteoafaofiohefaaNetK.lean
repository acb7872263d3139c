import Derived.Test.YteoafaofiohefaaNetJ
namespace Go.Proofs.Yteoafaofiohefaa
open Go.RowKit

/-! net.take: a frame is taken. -/

set_option maxRecDepth 100000 in
set_option maxHeartbeats 8000000 in
theorem take_yes (w : World) (B nb : Nat) (V : Nat → Value) (I : Nat → List It) (k : Nat) (h : NetAt w B nb V I) (hk : k < 8) (i : Nat) (x : It) (hx : (I k)[i]? = some x) :
    Calls Try.prog 26 #[.pointer (some ⟨nb, 0, none⟩), .int .i64 k, .int .i64 i] w fun e w' => e = .returned (.tuple #[.pointer (some ⟨nb, k, none⟩), .agg #[.slice x.A x.l.length x.c, .bool x.s], .bool true]) ∧
      ∃ N, N.ownBlock = (V k).ownBlock ∧ NetAt w' B nb (upd V k N) (upd I k ((I k).eraseIdx i)) ∧ Upto (Turn nb (V k)) w w' := by
  have hi := (List.getElem?_eq_some_iff.1 hx).1
  obtain ⟨g, c, cur, hv, hB, hr, hs, hc, hm, ht⟩ := h.form hk (by omega)
  obtain ⟨m, hm1⟩ : ∃ m, (I k).length = m + 1 := ⟨(I k).length - 1, by omega⟩
  have hmany := h.many k hk
  have hgown := h.own hk (b := g) (by rw [hv]; rfl)
  have hnbg : nb ≠ g := fun e => hgown.2.1 e.symm
  have hcell := h.cell k hk
  have hcell' := hcell
  rw [hv, hm1] at hcell
  have HIT : Hid (∀ w', Below w.heap.size w w' → w'.heap[g]? = some (.cells cur 65 (0, 0)) ∧ w'.cell? ⟨nb, k, none⟩ = some (.slice (some ⟨g, 0, none⟩) (m + 1) c) ∧ w'.frozen? ⟨nb, k, none⟩ = false ∧ w'.cell? ⟨g, i * 2, none⟩ = some (.slice x.A x.l.length x.c) ∧ w'.cell? ⟨g, i * 2 + 1, none⟩ = some (.bool x.s)) := fun w' hb => by
    have hr' := (hb.block g hgown.1).trans hr
    have := NetAt.item hr' ht hx
    exact ⟨hr', (hb.cell (p := ⟨nb, k, none⟩) h.lt).trans hcell, (World.frozen?_of_block (hb.block nb h.lt)).trans (row_thawed h.row k), this.1, this.2⟩
  have HDEL : Hid (∀ w', Below w.heap.size w w' → Calls Try.prog 35 #[.slice (some ⟨g, 0, none⟩) (m + 1) c, .int .i64 i, .int .i64 ((i : Int) + 1)] w' fun e w'' => e = .returned (.slice (some ⟨g, 0, none⟩) m c) ∧ Lane w'' B (.slice (some ⟨g, 0, none⟩) m c) ((I k).eraseIdx i) ∧ Upto (fun j => j = g) w' w'') := fun w' hb => del_c w' B g m c (I k) cur hB (HIT.out w' hb).1 hs hc hm ht i hm1 (by omega)
  have HOUT : Hid (∀ w2 w3 w4 : World, Below w.heap.size w w2 → Upto (fun j => j = g) w2 w3 → Lane w3 B (.slice (some ⟨g, 0, none⟩) m c) ((I k).eraseIdx i) → Upto (fun j => w.heap.size ≤ j) (w3.setCell ⟨nb, k, none⟩ (.slice (some ⟨g, 0, none⟩) m c)) w4 →
      ∃ N, N.ownBlock = (V k).ownBlock ∧ NetAt w4 B nb (upd V k N) (upd I k ((I k).eraseIdx i)) ∧ Upto (Turn nb (V k)) w w4) := fun w2 w3 w4 b2 u3 l3 u4 => by
    have e : (I k).length - 1 = m := by omega
    obtain ⟨t1, t2⟩ := h.out (w2 := w2) (w3 := w3) hk hv i b2 u3 (by rw [e]; exact l3) (w4 := w4) (by rw [e]; exact u4)
    exact ⟨_, by rw [hv]; rfl, t1, t2⟩
  have HLT : Hid (nb < w.heap.size) := h.lt
  have HGLT : Hid (g < w.heap.size) := hgown.1
  have hi0 : i < m + 1 := by omega
  have hi2 : i ≤ 199 := by omega
  have hm2 : m + 1 ≤ 200 := by omega
  have hb1 : Below w.heap.size w (w.alloc (.cells #[.slice none 0 0, .bool false] 65)) := (Below.refl _ _).alloc (Nat.le_refl _) _
  have hrow := heap_alloc_new w (.cells #[.slice none 0 0, .bool false] 65)
  have hsz : w.heap.size < (w.alloc (.cells #[.slice none 0 0, .bool false] 65)).heap.size := by simp
  clear hv hr hs hc hm ht hmany hgown hcell hcell' h hx hB hi hm1
  go_enter Try.func26, Try.ntmps26
  go_wp2_with fail
  generalize w.alloc (.cells #[.slice none 0 0, .bool false] 65) = w1 at *
  have HB := Lib.hid hb1
  have HSZ := Lib.hid hsz
  have hat := at_yes nb k (m + 1) c (some ⟨g, 0, none⟩) i hk w1 (HIT.out w1 hb1).2.1
  rw [decide_eq_true (by omega)] at hat
  have HAT := Lib.hid hat
  have HROW := Lib.hid hrow
  clear hb1 hrow hat hsz
  (with_reducible refine HAT.out.mono ?_); rintro e w2 ⟨rfl, q, rfl⟩
  have hb2 := HB.out.trans ((drewN_below w1 q).mono HB.out.size)
  have hrow2 := ((drewN_below w1 q).block w.heap.size HSZ.out).trans HROW.out
  have hz2 : w.heap.size < (w1.drewN q).heap.size := HSZ.out
  generalize w1.drewN q = w2 at *
  obtain ⟨-, f1, f2, f3, f4⟩ := HIT.out w2 hb2
  have hb3 := hb2.alloc hb2.size (.cells #[.slice x.A x.l.length x.c, .bool x.s] 65)
  obtain ⟨-, f5, f6, -, -⟩ := HIT.out _ hb3
  have hx3 := heap_alloc_new w2 (.cells #[.slice x.A x.l.length x.c, .bool x.s] 65)
  have hr3 := (((Below.refl w2.heap.size w2).alloc (Nat.le_refl _) (.cells #[.slice x.A x.l.length x.c, .bool x.s] 65)).block w.heap.size hz2).trans hrow2
  have hz3 : w2.heap.size < (w2.alloc (.cells #[.slice x.A x.l.length x.c, .bool x.s] 65)).heap.size := by simp
  have HX3 := Lib.hid hx3
  have HR3 := Lib.hid hr3
  have HZ2 := Lib.hid hz2
  have HZ3 := Lib.hid hz3
  have HB3 := Lib.hid hb3
  clear hb2 hrow2 hz2 hb3 hx3 hr3 hz3
  go_wp2_with fail
  generalize w2.alloc (.cells #[.slice x.A x.l.length x.c, .bool x.s] 65) = w3 at *
  (with_reducible refine (HDEL.out w3 HB3.out).mono ?_); rintro e w4 ⟨rfl, hl4, hu4⟩
  have n4 := (hu4.block nb (by have := HB3.out.size; have := HLT.out; omega) hnbg)
  have c4 : w4.cell? ⟨nb, k, none⟩ = some (.slice (some ⟨g, 0, none⟩) (m + 1) c) := (World.cell?_of_block n4).trans f5
  have z4 : w4.frozen? ⟨nb, k, none⟩ = false := (World.frozen?_of_block n4).trans f6
  have hgs := HGLT.out
  have hns := HLT.out
  have hx4 := (hu4.block w2.heap.size HZ3.out (fun e => by have := HZ2.out; omega)).trans HX3.out
  have hr4 := (hu4.block w.heap.size (by have := HZ3.out; have := HZ2.out; omega) (fun e => by omega)).trans HR3.out
  have uu := (Upto.refl (fun j => j = nb) w4).setCell (p := ⟨nb, k, none⟩) rfl (.slice (some ⟨g, 0, none⟩) m c)
  have hs4 := hu4.size
  have hx5 := (uu.block w2.heap.size (by have := HZ3.out; omega) (fun e => by have := HZ2.out; omega)).trans hx4
  have hr5 := (uu.block w.heap.size (by have := HZ3.out; have := HZ2.out; omega) (fun e => by omega)).trans hr4
  have HFIN : Hid (∀ w6, Upto (fun j => w.heap.size ≤ j) (w4.setCell ⟨nb, k, none⟩ (.slice (some ⟨g, 0, none⟩) m c)) w6 → ∃ N, N.ownBlock = (V k).ownBlock ∧ NetAt w6 B nb (upd V k N) (upd I k ((I k).eraseIdx i)) ∧ Upto (Turn nb (V k)) w w6) := fun w6 u6 => HOUT.out w3 w4 w6 HB3.out hu4 hl4 u6
  have HX5 := Lib.hid hx5
  have HR5 := Lib.hid hr5
  have HNE : Hid (w.heap.size ≠ w2.heap.size) := by have := HZ2.out; unfold Hid; omega
  clear n4 hgs hns hx4 hr4 uu hs4 hx5 hr5 hl4 hu4 f1 f2 f3 f4 f5 f6
  go_wp2_with fail
  generalize w4.setCell ⟨nb, k, none⟩ (.slice (some ⟨g, 0, none⟩) m c) = w5 at *
  obtain ⟨x0, x1, xz⟩ := row2 HX5.out
  obtain ⟨r0, r1, rz⟩ := row2 HR5.out
  have t0 := fun v => World.cell?_setCell_same w5 ⟨w.heap.size, 0, none⟩ v r0
  have t1 := fun v => World.cell?_setCell_same w5 ⟨w.heap.size, 1, none⟩ v r1
  clear c4 z4
  go_region
  all_goals
    go_wp2_with fail
    refine bodyPost_ret (by simp [results, Try.results26, go_sem, r0, r1]; try rfl) rfl ?_
    exact ⟨rfl, HFIN.out _ (((Upto.refl _ w5).drew.setCell (p := ⟨w.heap.size, 0, none⟩) (Nat.le_refl _) _).setCell (p := ⟨w.heap.size, 1, none⟩) (Nat.le_refl _) _)⟩

end Go.Proofs.Yteoafaofiohefaa

import Derived.Test.YteoafaofiohefaaRnF
namespace Go.Proofs.Yteoafaofiohefaa
open Go.RowKit

/-! The reference's Take, at any lane; Late. -/

variable {w w' : World} {B : Nat} {F : Nat → Prop} {P : Nat → Sh} {I : Nat → List It} {S : Nat → List Fr}

theorem RTake_u (h : RefS B F w (vS P) S) (hB : B ≤ w.heap.size) (hF : ∀ b, F b → b < w.heap.size) (k i : Int) :
    Calls Try.prog 16 #[.agg (arr8 (vS P)), .int .i64 k, .int .i64 i] w fun e w' => ∃ P' A n c l, e = .returned (.tuple #[.agg (arr8 (vS P')), .slice A n c, .bool (takeS S k i).2.isSome]) ∧ l.length = n ∧ l = ((takeS S k i).2.map Prod.fst).getD [] ∧ RefS B F w' (vS P') (takeS S k i).1 ∧ Ow 5 g8 w' B A l c ∧ Below w.heap.size w w' := by
  rcases lane_cases k with hk | ⟨k, rfl, hk⟩
  · have e0 : atS S k i = none := atS_bad hk
    have e : takeS S k i = (S, none) := by unfold takeS; rw [e0]
    rw [e]
    exact (RTake_none h k i e0).mono fun _ _ ⟨e1, h1, h2⟩ => ⟨P, none, 0, 0, [], e1, rfl, rfl, h1, Ow.nil, h2⟩
  · rcases atS_cases S k i hk with ⟨e0, hi⟩ | ⟨j, x, rfl, hx, e0⟩
    · have e : takeS S k i = (S, none) := by unfold takeS; rw [e0]
      rw [e]
      exact (RTake_none h k i e0).mono fun _ _ ⟨e1, h1, h2⟩ => ⟨P, none, 0, 0, [], e1, rfl, rfl, h1, Ow.nil, h2⟩
    · have e : takeS S k j = (upd S k ((S k).eraseIdx j), some x) := by unfold takeS; rw [e0]; rfl
      rw [e]
      obtain ⟨I, h1, rfl⟩ := h
      obtain ⟨y, hy, e1, e2⟩ := map_get hx
      have hm := List.mem_of_getElem? hy
      refine (RTake_yes h1 k j hk y hy).mono ?_
      rintro e w' ⟨a', n', c', rfl, h2, h3⟩
      refine ⟨_, y.A, _, y.c, y.l, rfl, rfl, e1, ⟨upd I k ((I k).eraseIdx j), ?_, ?_⟩, (h1.frame k hk y hm).below h3, h3⟩
      · rw [← vS_upd]
        refine (h1.below h3).upd (h2.low hB) ?_ (Nat.le_trans (List.length_eraseIdx_le _ _) (h1.many k hk)) (fun b hb hf => by have := (h2.typed b hb).1; have := hF b hf; omega)
        intro z hz
        have hz' := List.mem_of_mem_eraseIdx hz
        exact ⟨(h1.frame k hk z hz').below h3, h1.short k hk z hz', h1.frameF k hk z hz'⟩
      · rw [map_upd, map_del]

set_option maxRecDepth 100000 in
set_option maxHeartbeats 8000000 in
theorem RLate_u (h : RefS B F w (vS P) S) (hB : B ≤ w.heap.size) (hF : ∀ b, F b → b < w.heap.size) (k i : Int) :
    Calls Try.prog 19 #[.agg (arr8 (vS P)), .int .i64 k, .int .i64 i] w fun e w' => ∃ P', e = .returned (.tuple #[.agg (arr8 (vS P')), .bool (lateS S k i).2]) ∧ RefS B F w' (vS P') (lateS S k i).1 ∧ Below w.heap.size w w' := by
  have hb2 := dblW_below w P
  have h2 := h.below hb2
  have HNET := Lib.hid (dblW_net w P)
  have HRES := Lib.hid (dblW_res w P)
  have HSZ := Lib.hid (dblW_size w P)
  obtain ⟨W2, hW2⟩ : ∃ W2, dblW w P = W2 := ⟨_, rfl⟩
  rw [hW2] at hb2 h2 HNET HRES HSZ
  have H2 := Lib.hid h2
  have HB2 := Lib.hid hb2
  have HBB := Lib.hid hB
  have HFF := Lib.hid hF
  have HKC : Hid (∀ W, Below W2.heap.size W2 W → W.heap[w.heap.size]? = some (.cells (arr8 (vS P)) 37 (0, 0)) ∧ W.heap[w.heap.size + 1]? = some (.cells zero8 37 (0, 0))) := fun W hW =>
    ⟨(hW.block w.heap.size (by have := HSZ.out; omega)).trans HNET.out, (hW.block (w.heap.size + 1) (by have := HSZ.out; omega)).trans HRES.out⟩
  have hat := At_u h2 k i
  clear hb2 h h2 hB hF
  obtain ⟨n0, n1, n2, n3, n4, n5, n6, n7⟩ := row8c HNET.out
  simp only [vS] at n0 n1 n2 n3 n4 n5 n6 n7
  rcases hat with ⟨e0, hc⟩ | ⟨n, j, y, rfl, hn8, rfl, hx, e0, ho, hs, hf, hc⟩
  · have e : lateS S k i = (S, false) := by unfold lateS; rw [e0]
    rw [e]
    simp only [dblW, arr8, vS, zero8] at hc hW2 ⊢
    have HC := Lib.hid hc
    clear e0 hc e
    go_enter Try.func19, Try.ntmps19
    go_wp2_with fail
    (with_reducible refine HC.out.mono ?_); rintro e w3 ⟨rfl, hb3⟩
    have HB3 := Lib.hid (hb3.alloc hb3.size (.cells #[.slice none 0 0, .bool false] 44))
    clear hb3 n0 n1 n2 n3 n4 n5 n6 n7
    obtain ⟨n0, n1, n2, n3, n4, n5, n6, n7⟩ := row8c (HKC.out _ HB3.out).1
    simp only [vS] at n0 n1 n2 n3 n4 n5 n6 n7
    have hu := upto8 (w3.alloc (.cells #[.slice none 0 0, .bool false] 44)) (w.heap.size + 1) (.slice (P 0).a (P 0).n (P 0).c) (.slice (P 1).a (P 1).n (P 1).c) (.slice (P 2).a (P 2).n (P 2).c) (.slice (P 3).a (P 3).n (P 3).c) (.slice (P 4).a (P 4).n (P 4).c) (.slice (P 5).a (P 5).n (P 5).c) (.slice (P 6).a (P 6).n (P 6).c) (.slice (P 7).a (P 7).n (P 7).c)
    have HU := Lib.hid hu
    have hres := (HKC.out _ HB3.out).2
    have HRW := Lib.hid hres
    rw [zero8_arr] at hres
    obtain ⟨r0, r1, r2, r3, r4, r5, r6, r7⟩ := row8c hres
    have rz := fun j => row_thawed hres j
    clear hu hres
    go_wp2_with fail
    refine bodyPost_ret (by simp [results, Try.results19, go_sem, r0, r1, r2, r3, r4, r5, r6, r7]; try rfl) rfl ?_
    exact ⟨P, rfl, (H2.out.below HB3.out).other HU.out HRW.out (by decide) (by decide), (HB2.out.trans (HB3.out.mono HB2.out.size)).trans (HU.out.below (by have := HB2.out.size; have := HB3.out.size; omega) (fun k hk e => by omega))⟩
  · have hlen : ((S n).eraseIdx j).length < 200 := by
      have := H2.out
      obtain ⟨I, h1, rfl⟩ := this
      have h9 := h1.many n hn8
      have h8 := (List.getElem?_eq_some_iff.1 hx).1
      rw [List.length_eraseIdx, if_pos h8]
      simp at h8 ⊢; omega
    have et : takeS S n j = (upd S n ((S n).eraseIdx j), some y.fr) := by unfold takeS; rw [e0]; rfl
    have ep : putS (upd S n ((S n).eraseIdx j)) n y.fr = (upd S n ((S n).eraseIdx j ++ [y.fr]), true) := by
      unfold putS
      rw [Int.toNat_natCast, upd_same, if_pos ⟨by omega, by omega, hlen⟩, upd_upd]
    have e : lateS S n j = (upd S n ((S n).eraseIdx j ++ [y.fr]), true) := by unfold lateS; rw [e0]; rfl
    rw [e]
    have HO := Lib.hid ho
    have HS := Lib.hid hs
    have HTAKE : Hid (∀ w3, Below W2.heap.size W2 w3 → Calls Try.prog 16 #[.agg (arr8 (vS P)), .int .i64 n, .int .i64 j] w3 fun e w' => ∃ P' A m c l, e = .returned (.tuple #[.agg (arr8 (vS P')), .slice A m c, .bool true]) ∧ l.length = m ∧ l = y.l ∧ RefS B F w' (vS P') (upd S n ((S n).eraseIdx j)) ∧ Ow 5 g8 w' B A l c ∧ Below w3.heap.size w3 w') := fun w3 hb3 => by
      have := RTake_u (H2.out.below hb3) (by have := HBB.out; have := HB2.out.size; have := hb3.size; omega) (fun b hb => by have := HFF.out b hb; have := HB2.out.size; have := hb3.size; omega) n j
      rw [et] at this
      exact this
    have HPUT : Hid (∀ w3 P3, Below W2.heap.size W2 w3 ∨ (w.heap.size ≤ w3.heap.size ∧ Below w.heap.size w w3) → RefS B F w3 (vS P3) (upd S n ((S n).eraseIdx j)) → Ow 5 g8 w3 B y.A y.l y.c → Calls Try.prog 15 #[.agg (arr8 (vS P3)), .int .i64 n, .agg #[.slice y.A y.l.length y.c, .bool y.s]] w3 fun e w' => ∃ P', e = .returned (.tuple #[.agg (arr8 (vS P')), .bool true]) ∧ RefS B F w' (vS P') (upd S n ((S n).eraseIdx j ++ [y.fr])) ∧ Below w3.heap.size w3 w') := fun w3 P3 hb3 h3 ho3 => by
      have hsz : w.heap.size ≤ w3.heap.size := by
        rcases hb3 with hb3 | hb3
        · have := HB2.out.size; have := hb3.size; omega
        · exact hb3.1
      have := RPut_u h3 (by have := HBB.out; omega) (fun b hb => by have := HFF.out b hb; omega) n y.A y.l y.l.length y.c y.s ho3.rd ho3.nil_cap HS.out rfl
      rw [show (y.l, y.s) = y.fr from rfl, ep] at this
      exact this
    simp only [dblW, arr8, vS, zero8] at hc hW2 ⊢
    have HC := Lib.hid hc
    clear e0 hc e ho hs hf hx hlen et ep
    go_enter Try.func19, Try.ntmps19
    go_wp2_with fail
    (with_reducible refine HC.out.mono ?_); rintro e w3 ⟨rfl, hb3⟩
    have HS3 := Lib.hid hb3.size
    have HB3 := Lib.hid (hb3.alloc hb3.size (.cells #[.slice y.A y.l.length y.c, .bool y.s] 44))
    have HX3 := Lib.hid (heap_alloc_new w3 (.cells #[.slice y.A y.l.length y.c, .bool y.s] 44))
    obtain ⟨x0, x1, -⟩ := row2 HX3.out
    have HSZ3 : Hid (w3.heap.size < (w3.alloc (.cells #[.slice y.A y.l.length y.c, .bool y.s] 44)).heap.size) := by unfold Hid; simp
    clear hb3 n0 n1 n2 n3 n4 n5 n6 n7
    obtain ⟨n0, n1, n2, n3, n4, n5, n6, n7⟩ := row8c (HKC.out _ HB3.out).1
    simp only [vS] at n0 n1 n2 n3 n4 n5 n6 n7
    have htk := HTAKE.out _ HB3.out
    simp only [arr8, vS] at htk
    have HTK := Lib.hid htk
    clear htk
    go_wp2_with fail
    (with_reducible refine HTK.out.mono ?_); rintro e w5 ⟨P5, A5, m5, c5, l5, rfl, _, _, h5, _, hb5⟩
    have HX5 := Lib.hid ((hb5.block w3.heap.size HSZ3.out).trans HX3.out)
    have HB5 := Lib.hid (HB3.out.trans (hb5.mono HB3.out.size))
    have HZ5 := Lib.hid (Nat.lt_of_lt_of_le HSZ3.out hb5.size)
    have H5 := Lib.hid h5
    have hrow5 := (HKC.out _ HB5.out).1
    have HROW5 := Lib.hid hrow5
    clear h5 hb5 x0 x1 n0 n1 n2 n3 n4 n5 n6 n7 HTK HTAKE
    obtain ⟨n0, n1, n2, n3, n4, n5, n6, n7⟩ := row8c hrow5
    have nz := fun q => row_thawed hrow5 q
    clear hrow5
    go_upto_region 5 with fail
    have hu6 := upto8 w5 w.heap.size (.slice (P5 0).a (P5 0).n (P5 0).c) (.slice (P5 1).a (P5 1).n (P5 1).c) (.slice (P5 2).a (P5 2).n (P5 2).c) (.slice (P5 3).a (P5 3).n (P5 3).c) (.slice (P5 4).a (P5 4).n (P5 4).c) (.slice (P5 5).a (P5 5).n (P5 5).c) (.slice (P5 6).a (P5 6).n (P5 6).c) (.slice (P5 7).a (P5 7).n (P5 7).c)
    have hrow6 := sets8_row HROW5.out (.slice (P5 0).a (P5 0).n (P5 0).c) (.slice (P5 1).a (P5 1).n (P5 1).c) (.slice (P5 2).a (P5 2).n (P5 2).c) (.slice (P5 3).a (P5 3).n (P5 3).c) (.slice (P5 4).a (P5 4).n (P5 4).c) (.slice (P5 5).a (P5 5).n (P5 5).c) (.slice (P5 6).a (P5 6).n (P5 6).c) (.slice (P5 7).a (P5 7).n (P5 7).c)
    obtain ⟨m0, m1, m2, m3, m4, m5', m6, m7⟩ := row8c (V := vS P5) hrow6
    simp only [vS] at m0 m1 m2 m3 m4 m5' m6 m7
    have HW5 : Hid (w.heap.size + 1 + 1 ≤ w5.heap.size) := by have := HB5.out.size; have := HSZ.out; unfold Hid; omega
    have hh6 := H5.out.other hu6 HROW5.out (by decide) (by decide)
    have hO5 := HO.out.below HB5.out
    have hO6 := hO5.upto hu6 (fun a e e2 => by
      obtain ⟨cur2, hc2⟩ := hO5.typed a e
      rw [e2, HROW5.out] at hc2
      injection hc2 with hc2; injection hc2 with _ e3 _
      exact absurd e3 (by decide))
    have hres6 := (hu6.block (w.heap.size + 1) (by have := HW5.out; omega) (by omega)).trans (HKC.out _ HB5.out).2
    have hx6 := (hu6.block w3.heap.size HZ5.out (by have := HS3.out; have := HSZ.out; omega)).trans HX5.out
    have hb6 := hu6.below (B := w.heap.size) (by have := HW5.out; omega) (fun k hk e => by omega)
    have HB6 := Lib.hid ((HB2.out.trans (HB5.out.mono HB2.out.size)).trans hb6)
    have HRES6 := Lib.hid hres6
    have HPC := Lib.hid (HPUT.out _ P5 (.inr ⟨by have := HB6.out.size; exact this, HB6.out⟩) hh6 hO6)
    obtain ⟨x0, x1, -⟩ := row2 hx6
    clear hu6 hrow6 hh6 hO5 hO6 hres6 hx6 hb6 n0 n1 n2 n3 n4 n5 n6 n7 nz HPUT
    generalize World.setCell _ ⟨w.heap.size, 7, none⟩ _ = w6 at m0 m1 m2 m3 m4 m5' m6 m7 x0 x1 HB6 HRES6 HPC ⊢
    have hpc := HPC.out
    simp only [arr8, vS] at hpc
    have HPC2 := Lib.hid hpc
    clear hpc HPC
    go_wp2_with fail
    (with_reducible refine HPC2.out.mono ?_); rintro e w7 ⟨P7, rfl, h7, hb7⟩
    have H7 := Lib.hid h7
    have HB7 := Lib.hid hb7
    have HW6 : Hid (w.heap.size + 1 < w6.heap.size) := (Array.getElem?_eq_some_iff.1 HRES6.out).1
    clear h7 hb7 x0 x1 m0 m1 m2 m3 m4 m5' m6 m7 HPC2
    have hu := upto8 w7 (w.heap.size + 1) (.slice (P7 0).a (P7 0).n (P7 0).c) (.slice (P7 1).a (P7 1).n (P7 1).c) (.slice (P7 2).a (P7 2).n (P7 2).c) (.slice (P7 3).a (P7 3).n (P7 3).c) (.slice (P7 4).a (P7 4).n (P7 4).c) (.slice (P7 5).a (P7 5).n (P7 5).c) (.slice (P7 6).a (P7 6).n (P7 6).c) (.slice (P7 7).a (P7 7).n (P7 7).c)
    have HU := Lib.hid hu
    have hres := (HB7.out.block (w.heap.size + 1) HW6.out).trans HRES6.out
    have HRW := Lib.hid hres
    rw [zero8_arr] at hres
    obtain ⟨r0, r1, r2, r3, r4, r5, r6, r7⟩ := row8c hres
    have rz := fun j => row_thawed hres j
    clear hu hres
    go_wp2_with fail
    refine bodyPost_ret (by simp [results, Try.results19, go_sem, r0, r1, r2, r3, r4, r5, r6, r7]; try rfl) rfl ?_
    exact ⟨P7, rfl, H7.out.other HU.out HRW.out (by decide) (by decide), (HB6.out.trans (HB7.out.mono HB6.out.size)).trans (HU.out.below (Nat.le_trans HB6.out.size HB7.out.size) (fun k hk e => by omega))⟩

end Go.Proofs.Yteoafaofiohefaa

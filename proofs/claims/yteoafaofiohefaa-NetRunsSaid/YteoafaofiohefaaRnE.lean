import Derived.Test.YteoafaofiohefaaRnD
namespace Go.Proofs.Yteoafaofiohefaa
open Go.RowKit

/-! The reference's Double. -/

variable {w w' : World} {B : Nat} {F : Nat → Prop} {P : Nat → Sh} {I : Nat → List It} {S : Nat → List Fr}

/-- The two boxes of Double, Late: the net, the result. -/
def dblW (w : World) (P : Nat → Sh) : World := (w.alloc (.cells (arr8 (vS P)) 37)).alloc (.cells zero8 37)
theorem dblW_below (w : World) (P : Nat → Sh) : Below w.heap.size w (dblW w P) := ((Below.refl _ _).alloc (Nat.le_refl _) _).alloc (by simp) _
theorem dblW_size (w : World) (P : Nat → Sh) : (dblW w P).heap.size = w.heap.size + 1 + 1 := by simp [dblW]
theorem dblW_net (w : World) (P : Nat → Sh) : (dblW w P).heap[w.heap.size]? = some (.cells (arr8 (vS P)) 37 (0, 0)) :=
  (heap_alloc_old _ _ (by simp)).trans (heap_alloc_new w _)
theorem dblW_res (w : World) (P : Nat → Sh) : (dblW w P).heap[w.heap.size + 1]? = some (.cells zero8 37 (0, 0)) := by
  have := heap_alloc_new (w.alloc (.cells (arr8 (vS P)) 37)) (.cells zero8 37)
  rw [World.size_alloc] at this
  exact this

/-- Eight stores. -/
theorem upto8 (w : World) (b : Nat) (v0 v1 v2 v3 v4 v5 v6 v7 : Value) : Upto (fun j => j = b) w ((((((((w.setCell ⟨b, 0, none⟩ v0).setCell ⟨b, 1, none⟩ v1).setCell ⟨b, 2, none⟩ v2).setCell ⟨b, 3, none⟩ v3).setCell ⟨b, 4, none⟩ v4).setCell ⟨b, 5, none⟩ v5).setCell ⟨b, 6, none⟩ v6).setCell ⟨b, 7, none⟩ v7) :=
  ((((((((Upto.refl (fun j => j = b) w).setCell (p := ⟨b, 0, none⟩) rfl v0).setCell (p := ⟨b, 1, none⟩) rfl v1).setCell (p := ⟨b, 2, none⟩) rfl v2).setCell (p := ⟨b, 3, none⟩) rfl v3).setCell (p := ⟨b, 4, none⟩) rfl v4).setCell (p := ⟨b, 5, none⟩) rfl v5).setCell (p := ⟨b, 6, none⟩) rfl v6).setCell (p := ⟨b, 7, none⟩) rfl v7

theorem sets8_row {w : World} {b : Nat} {V : Nat → Value} {T : TypeId} {m : Nat × Nat} (h : w.heap[b]? = some (.cells (arr8 V) T m)) (v0 v1 v2 v3 v4 v5 v6 v7 : Value) :
    ((((((((w.setCell ⟨b, 0, none⟩ v0).setCell ⟨b, 1, none⟩ v1).setCell ⟨b, 2, none⟩ v2).setCell ⟨b, 3, none⟩ v3).setCell ⟨b, 4, none⟩ v4).setCell ⟨b, 5, none⟩ v5).setCell ⟨b, 6, none⟩ v6).setCell ⟨b, 7, none⟩ v7).heap[b]? = some (.cells #[v0, v1, v2, v3, v4, v5, v6, v7] T m) := by
  have := row_set (row_set (row_set (row_set (row_set (row_set (row_set (row_set h 0 v0) 1 v1) 2 v2) 3 v3) 4 v4) 5 v5) 6 v6) 7 v7
  simpa [arr8] using this

/-- A block of another type may be written. -/
theorem RefS.other {b : Nat} {cur : Array Value} {T : TypeId} {m : Nat × Nat} {V : Nat → Value} (h : RefS B F w V S) (u : Upto (fun j => j = b) w w') (hr : w.heap[b]? = some (.cells cur T m)) (h1 : 44 ≠ T) (h2 : 5 ≠ T) : RefS B F w' V S := by
  obtain ⟨I, h3, h4⟩ := h
  refine ⟨I, h3.upto u (fun k hk b' e e2 => ?_) (fun k hk x hx a e e2 => ?_), h4⟩
  · obtain ⟨-, -, cur2, hc⟩ := (h3.lane k hk).typed b' e
    rw [e2, hr] at hc
    injection hc with hc; injection hc with _ e1 _
    exact h1 e1.symm
  · obtain ⟨cur2, hc⟩ := (h3.frame k hk x hx).typed a e
    rw [e2, hr] at hc
    injection hc with hc; injection hc with _ e1 _
    exact h2 e1.symm

set_option maxRecDepth 100000 in
set_option maxHeartbeats 8000000 in
theorem RDouble_u (h : RefS B F w (vS P) S) (hB : B ≤ w.heap.size) (hF : ∀ b, F b → b < w.heap.size) (k i : Int) :
    Calls Try.prog 18 #[.agg (arr8 (vS P)), .int .i64 k, .int .i64 i] w fun e w' => ∃ P', e = .returned (.tuple #[.agg (arr8 (vS P')), .bool (doubleS S k i).2]) ∧ RefS B F w' (vS P') (doubleS S k i).1 ∧ Below w.heap.size w w' := by
  have hb2 := dblW_below w P
  have h2 := h.below hb2
  have HNET := Lib.hid (dblW_net w P)
  have HRES := Lib.hid (dblW_res w P)
  have HSZ := Lib.hid (dblW_size w P)
  obtain ⟨W2, hW2⟩ : ∃ W2, dblW w P = W2 := ⟨_, rfl⟩
  rw [hW2] at hb2 h2 HNET HRES HSZ
  have H2 := Lib.hid h2
  have HB2 := Lib.hid hb2
  have HBB := Lib.hid hB
  have HFF := Lib.hid hF
  have HKC : Hid (∀ W, Below W2.heap.size W2 W → W.heap[w.heap.size]? = some (.cells (arr8 (vS P)) 37 (0, 0)) ∧ W.heap[w.heap.size + 1]? = some (.cells zero8 37 (0, 0))) := fun W hW =>
    ⟨(hW.block w.heap.size (by have := HSZ.out; omega)).trans HNET.out, (hW.block (w.heap.size + 1) (by have := HSZ.out; omega)).trans HRES.out⟩
  have hat := At_u h2 k i
  clear hb2 h h2 hB hF
  obtain ⟨n0, n1, n2, n3, n4, n5, n6, n7⟩ := row8c HNET.out
  simp only [vS] at n0 n1 n2 n3 n4 n5 n6 n7
  rcases hat with ⟨e0, hc⟩ | ⟨n, j, y, rfl, hn8, rfl, hx, e0, ho, hs, hf, hc⟩
  · have e : doubleS S k i = (S, false) := by unfold doubleS; rw [e0]
    rw [e]
    simp only [dblW, arr8, vS, zero8] at hc hW2 ⊢
    have HC := Lib.hid hc
    clear e0 hc e
    go_enter Try.func18, Try.ntmps18
    go_wp2_with fail
    (with_reducible refine HC.out.mono ?_); rintro e w3 ⟨rfl, hb3⟩
    have HB3 := Lib.hid (hb3.alloc hb3.size (.cells #[.slice none 0 0, .bool false] 44))
    clear hb3 n0 n1 n2 n3 n4 n5 n6 n7
    obtain ⟨n0, n1, n2, n3, n4, n5, n6, n7⟩ := row8c (HKC.out _ HB3.out).1
    simp only [vS] at n0 n1 n2 n3 n4 n5 n6 n7
    have hu := upto8 (w3.alloc (.cells #[.slice none 0 0, .bool false] 44)) (w.heap.size + 1) (.slice (P 0).a (P 0).n (P 0).c) (.slice (P 1).a (P 1).n (P 1).c) (.slice (P 2).a (P 2).n (P 2).c) (.slice (P 3).a (P 3).n (P 3).c) (.slice (P 4).a (P 4).n (P 4).c) (.slice (P 5).a (P 5).n (P 5).c) (.slice (P 6).a (P 6).n (P 6).c) (.slice (P 7).a (P 7).n (P 7).c)
    have HU := Lib.hid hu
    have hres := (HKC.out _ HB3.out).2
    have HRW := Lib.hid hres
    rw [zero8_arr] at hres
    obtain ⟨r0, r1, r2, r3, r4, r5, r6, r7⟩ := row8c hres
    have rz := fun j => row_thawed hres j
    clear hu hres
    go_wp2_with fail
    refine bodyPost_ret (by simp [results, Try.results18, go_sem, r0, r1, r2, r3, r4, r5, r6, r7]; try rfl) rfl ?_
    exact ⟨P, rfl, (H2.out.below HB3.out).other HU.out HRW.out (by decide) (by decide), (HB2.out.trans (HB3.out.mono HB2.out.size)).trans (HU.out.below (by have := HB2.out.size; have := HB3.out.size; omega) (fun k hk e => by omega))⟩
  · have e : doubleS S n j = putS S n y.fr := by unfold doubleS; rw [e0]
    rw [e]
    have HO := Lib.hid ho
    have HS := Lib.hid hs
    have HPUT : Hid (∀ w3, Below W2.heap.size W2 w3 → Calls Try.prog 15 #[.agg (arr8 (vS P)), .int .i64 n, .agg #[.slice y.A y.l.length y.c, .bool y.s]] w3 fun e w' => ∃ P', e = .returned (.tuple #[.agg (arr8 (vS P')), .bool (putS S n y.fr).2]) ∧ RefS B F w' (vS P') (putS S n y.fr).1 ∧ Below w3.heap.size w3 w') := fun w3 hb3 =>
      RPut_u (H2.out.below hb3) (by have := HBB.out; have := HB2.out.size; have := hb3.size; omega) (fun b hb => by have := HFF.out b hb; have := HB2.out.size; have := hb3.size; omega) n y.A y.l y.l.length y.c y.s (HO.out.below hb3).rd HO.out.nil_cap HS.out rfl
    simp only [dblW, arr8, vS, zero8] at hc hW2 ⊢
    have HC := Lib.hid hc
    clear e0 hc e ho hs hf hx
    go_enter Try.func18, Try.ntmps18
    go_wp2_with fail
    (with_reducible refine HC.out.mono ?_); rintro e w3 ⟨rfl, hb3⟩
    have HB3 := Lib.hid (hb3.alloc hb3.size (.cells #[.slice y.A y.l.length y.c, .bool y.s] 44))
    obtain ⟨x0, x1, -⟩ := row2 (heap_alloc_new w3 (.cells #[.slice y.A y.l.length y.c, .bool y.s] 44))
    clear hb3 n0 n1 n2 n3 n4 n5 n6 n7
    obtain ⟨n0, n1, n2, n3, n4, n5, n6, n7⟩ := row8c (HKC.out _ HB3.out).1
    simp only [vS] at n0 n1 n2 n3 n4 n5 n6 n7
    have hput := HPUT.out _ HB3.out
    simp only [arr8, vS] at hput
    have HPC := Lib.hid hput
    clear hput
    go_wp2_with fail
    (with_reducible refine HPC.out.mono ?_); rintro e w5 ⟨P', rfl, h5, hb5⟩
    have H5 := Lib.hid h5
    have HB5 := Lib.hid (HB3.out.trans (hb5.mono HB3.out.size))
    clear h5 hb5 x0 x1 n0 n1 n2 n3 n4 n5 n6 n7 HPUT HPC
    have hu := upto8 w5 (w.heap.size + 1) (.slice (P' 0).a (P' 0).n (P' 0).c) (.slice (P' 1).a (P' 1).n (P' 1).c) (.slice (P' 2).a (P' 2).n (P' 2).c) (.slice (P' 3).a (P' 3).n (P' 3).c) (.slice (P' 4).a (P' 4).n (P' 4).c) (.slice (P' 5).a (P' 5).n (P' 5).c) (.slice (P' 6).a (P' 6).n (P' 6).c) (.slice (P' 7).a (P' 7).n (P' 7).c)
    have HU := Lib.hid hu
    have hres := (HKC.out _ HB5.out).2
    have HRW := Lib.hid hres
    rw [zero8_arr] at hres
    obtain ⟨r0, r1, r2, r3, r4, r5, r6, r7⟩ := row8c hres
    have rz := fun j => row_thawed hres j
    clear hu hres
    go_wp2_with fail
    refine bodyPost_ret (by simp [results, Try.results18, go_sem, r0, r1, r2, r3, r4, r5, r6, r7]; try rfl) rfl ?_
    exact ⟨P', rfl, H5.out.other HU.out HRW.out (by decide) (by decide), (HB2.out.trans (HB5.out.mono HB2.out.size)).trans (HU.out.below (by have := HB2.out.size; have := HB5.out.size; omega) (fun k hk e => by omega))⟩

end Go.Proofs.Yteoafaofiohefaa

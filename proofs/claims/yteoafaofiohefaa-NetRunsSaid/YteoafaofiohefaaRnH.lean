import Derived.Test.YteoafaofiohefaaRnG
namespace Go.Proofs.Yteoafaofiohefaa
open Go.RowKit

/-! The reference's Spoil. -/

variable {w w' : World} {B : Nat} {F : Nat → Prop} {P : Nat → Sh} {I : Nat → List It} {S : Nat → List Fr}

theorem RLane.set {g n c : Nat} {L : List It} (h : RLane w B (.slice (some ⟨g, 0, none⟩) n c) L) (i : Nat) (y : It) :
    RLane ((w.setCell ⟨g, i * 2, none⟩ (.slice y.A y.l.length y.c)).setCell ⟨g, i * 2 + 1, none⟩ (.bool y.s)) B (.slice (some ⟨g, 0, none⟩) n c) (L.set i y) := by
  refine ⟨lcells_length _, ?_⟩
  rcases h.2 with ⟨e, _⟩ | ⟨b, cap, cur, e, hB, hr, h1, h2, h3, h4⟩
  · injection e with e1; cases e1
  · injection e with e1 e2 e3
    injection e1 with e1
    injection e1 with e1
    subst e1 e2 e3
    refine .inr ⟨g, c, _, by rw [List.length_set], hB, row_set (row_set hr _ _) _ _, by rw [List.length_set]; exact h1, h2, by simpa using h3, ?_⟩
    rw [List.length_set, lcells_set, ← h4]
    simp [List.take_set]

theorem RefAt.other {b : Nat} {cur : Array Value} {T : TypeId} {m : Nat × Nat} {V : Nat → Value} (h : RefAt B F w V I) (u : Upto (fun j => j = b) w w') (hr : w.heap[b]? = some (.cells cur T m)) (h1 : 44 ≠ T) (h2 : 5 ≠ T) : RefAt B F w' V I := by
  refine h.upto u (fun k hk b' e e2 => ?_) (fun k hk x hx a e e2 => ?_)
  · obtain ⟨-, -, cur2, hc⟩ := (h.lane k hk).typed b' e
    rw [e2, hr] at hc
    injection hc with hc; injection hc with _ e1 _
    exact h1 e1.symm
  · obtain ⟨cur2, hc⟩ := (h.frame k hk x hx).typed a e
    rw [e2, hr] at hc
    injection hc with hc; injection hc with _ e1 _
    exact h2 e1.symm

set_option maxRecDepth 100000 in
set_option maxHeartbeats 8000000 in
theorem RSpoil_none (h : RefS B F w (vS P) S) (k i at_ : Int) (m : Nat) (e0 : atS S k i = none) :
    Calls Try.prog 21 #[.agg (arr8 (vS P)), .int .i64 k, .int .i64 i, .int .i64 at_, .int .u16 m] w fun e w' => e = .returned (.tuple #[.agg (arr8 (vS P)), .bool false]) ∧ RefS B F w' (vS P) S ∧ Below w.heap.size w w' := by
  have hb2 := dblW_below w P
  have h2 := h.below hb2
  have HNET := Lib.hid (dblW_net w P)
  have HRES := Lib.hid (dblW_res w P)
  have HSZ := Lib.hid (dblW_size w P)
  obtain ⟨W2, hW2⟩ : ∃ W2, dblW w P = W2 := ⟨_, rfl⟩
  rw [hW2] at hb2 h2 HNET HRES HSZ
  have H2 := Lib.hid h2
  have HB2 := Lib.hid hb2
  have HKC : Hid (∀ W, Below W2.heap.size W2 W → W.heap[w.heap.size]? = some (.cells (arr8 (vS P)) 37 (0, 0)) ∧ W.heap[w.heap.size + 1]? = some (.cells zero8 37 (0, 0))) := fun W hW =>
    ⟨(hW.block w.heap.size (by have := HSZ.out; omega)).trans HNET.out, (hW.block (w.heap.size + 1) (by have := HSZ.out; omega)).trans HRES.out⟩
  have hat := At_u h2 k i
  clear hb2 h h2
  obtain ⟨n0, n1, n2, n3, n4, n5, n6, n7⟩ := row8c HNET.out
  simp only [vS] at n0 n1 n2 n3 n4 n5 n6 n7
  rcases hat with ⟨_, hc⟩ | ⟨n, j, y, rfl, hn8, rfl, hx, e1, _⟩
  · simp only [dblW, arr8, vS, zero8] at hc hW2 ⊢
    have HC := Lib.hid hc
    clear e0 hc
    go_enter Try.func21, Try.ntmps21
    go_wp2_with fail
    (with_reducible refine HC.out.mono ?_); rintro e w3 ⟨rfl, hb3⟩
    have HB3 := Lib.hid (hb3.alloc hb3.size (.cells #[.slice none 0 0, .bool false] 44))
    clear hb3 n0 n1 n2 n3 n4 n5 n6 n7
    obtain ⟨n0, n1, n2, n3, n4, n5, n6, n7⟩ := row8c (HKC.out _ HB3.out).1
    simp only [vS] at n0 n1 n2 n3 n4 n5 n6 n7
    have hu := upto8 (w3.alloc (.cells #[.slice none 0 0, .bool false] 44)) (w.heap.size + 1) (.slice (P 0).a (P 0).n (P 0).c) (.slice (P 1).a (P 1).n (P 1).c) (.slice (P 2).a (P 2).n (P 2).c) (.slice (P 3).a (P 3).n (P 3).c) (.slice (P 4).a (P 4).n (P 4).c) (.slice (P 5).a (P 5).n (P 5).c) (.slice (P 6).a (P 6).n (P 6).c) (.slice (P 7).a (P 7).n (P 7).c)
    have HU := Lib.hid hu
    have hres := (HKC.out _ HB3.out).2
    have HRW := Lib.hid hres
    rw [zero8_arr] at hres
    obtain ⟨r0, r1, r2, r3, r4, r5, r6, r7⟩ := row8c hres
    have rz := fun j => row_thawed hres j
    clear hu hres
    go_wp2_with fail
    refine bodyPost_ret (by simp [results, Try.results21, go_sem, r0, r1, r2, r3, r4, r5, r6, r7]; try rfl) rfl ?_
    exact ⟨rfl, (H2.out.below HB3.out).other HU.out HRW.out (by decide) (by decide), (HB2.out.trans (HB3.out.mono HB2.out.size)).trans (HU.out.below (by have := HB2.out.size; have := HB3.out.size; omega) (fun k hk e => by omega))⟩
  · rw [e0] at e1; cases e1

set_option maxRecDepth 100000 in
set_option maxHeartbeats 8000000 in
theorem RSpoil_twice (h : RefAt B F w (vS P) I) (k i : Nat) (hk : k < 8) (x : It) (hx : (I k)[i]? = some x) (hs : x.s = true) (at_ : Int) (m : Nat) :
    Calls Try.prog 21 #[.agg (arr8 (vS P)), .int .i64 k, .int .i64 i, .int .i64 at_, .int .u16 m] w fun e w' => e = .returned (.tuple #[.agg (arr8 (vS P)), .bool false]) ∧ RefS B F w' (vS P) (fun k => (I k).map It.fr) ∧ Below w.heap.size w w' := by
  have hb2 := dblW_below w P
  have h2 := h.below hb2
  have HNET := Lib.hid (dblW_net w P)
  have HRES := Lib.hid (dblW_res w P)
  have HSZ := Lib.hid (dblW_size w P)
  obtain ⟨W2, hW2⟩ : ∃ W2, dblW w P = W2 := ⟨_, rfl⟩
  rw [hW2] at hb2 h2 HNET HRES HSZ
  have H2 : Hid (RefS B F W2 (vS P) (fun k => (I k).map It.fr)) := ⟨I, h2, rfl⟩
  have HB2 := Lib.hid hb2
  have HKC : Hid (∀ W, Below W2.heap.size W2 W → W.heap[w.heap.size]? = some (.cells (arr8 (vS P)) 37 (0, 0)) ∧ W.heap[w.heap.size + 1]? = some (.cells zero8 37 (0, 0))) := fun W hW =>
    ⟨(hW.block w.heap.size (by have := HSZ.out; omega)).trans HNET.out, (hW.block (w.heap.size + 1) (by have := HSZ.out; omega)).trans HRES.out⟩
  have hl2 := h2.lane k hk
  have hl2' : RLane W2 B (.slice (P k).a (P k).n (P k).c) (I k) := hl2
  obtain ⟨hLn, hcap⟩ := hl2'.sh
  have hmany := h2.many k hk
  have hi : i < (P k).n := by rw [← hLn]; exact (List.getElem?_eq_some_iff.1 hx).1
  have hc := At_yes (vS P) k i hk (P k).a (P k).n (P k).c B rfl W2 (I k) hLn hl2' x hx (by omega)
  rw [hs] at hc
  clear hb2 h h2 hl2 hl2' hLn hcap hmany hx hs hi
  obtain ⟨n0, n1, n2, n3, n4, n5, n6, n7⟩ := row8c HNET.out
  simp only [vS] at n0 n1 n2 n3 n4 n5 n6 n7
  simp only [dblW, arr8, vS, zero8] at hc hW2 ⊢
  have HC := Lib.hid hc
  clear hc
  go_enter Try.func21, Try.ntmps21
  go_wp2_with fail
  (with_reducible refine HC.out.mono ?_); rintro e w3 ⟨rfl, hb3⟩
  have HB3 := Lib.hid (hb3.alloc hb3.size (.cells #[.slice x.A x.l.length x.c, .bool true] 44))
  obtain ⟨x0, x1, -⟩ := row2 (heap_alloc_new w3 (.cells #[.slice x.A x.l.length x.c, .bool true] 44))
  clear hb3 n0 n1 n2 n3 n4 n5 n6 n7
  obtain ⟨n0, n1, n2, n3, n4, n5, n6, n7⟩ := row8c (HKC.out _ HB3.out).1
  simp only [vS] at n0 n1 n2 n3 n4 n5 n6 n7
  have hu := upto8 (w3.alloc (.cells #[.slice x.A x.l.length x.c, .bool true] 44)) (w.heap.size + 1) (.slice (P 0).a (P 0).n (P 0).c) (.slice (P 1).a (P 1).n (P 1).c) (.slice (P 2).a (P 2).n (P 2).c) (.slice (P 3).a (P 3).n (P 3).c) (.slice (P 4).a (P 4).n (P 4).c) (.slice (P 5).a (P 5).n (P 5).c) (.slice (P 6).a (P 6).n (P 6).c) (.slice (P 7).a (P 7).n (P 7).c)
  have HU := Lib.hid hu
  have hres := (HKC.out _ HB3.out).2
  have HRW := Lib.hid hres
  rw [zero8_arr] at hres
  obtain ⟨r0, r1, r2, r3, r4, r5, r6, r7⟩ := row8c hres
  have rz := fun j => row_thawed hres j
  clear hu hres
  go_wp2_with fail
  refine bodyPost_ret (by simp [results, Try.results21, go_sem, r0, r1, r2, r3, r4, r5, r6, r7]; try rfl) rfl ?_
  exact ⟨rfl, (H2.out.below HB3.out).other HU.out HRW.out (by decide) (by decide), (HB2.out.trans (HB3.out.mono HB2.out.size)).trans (HU.out.below (by have := HB2.out.size; have := HB3.out.size; omega) (fun k hk e => by omega))⟩

set_option maxRecDepth 100000 in
set_option maxHeartbeats 8000000 in
theorem RSpoil_yes (h : RefAt B F w (vS P) I) (hB : B ≤ w.heap.size) (hF : ∀ b, F b → b < w.heap.size) (k i : Nat) (hk : k < 8) (x : It) (hx : (I k)[i]? = some x) (hs : x.s = false) (at_ : Int) (m : Nat) (hm : m < 65536) (ha1 : -9223372036854775808 ≤ at_) (ha2 : at_ ≤ 9223372036854775807) :
    Calls Try.prog 21 #[.agg (arr8 (vS P)), .int .i64 k, .int .i64 i, .int .i64 at_, .int .u16 m] w fun e w' =>
      (burstN x.l at_ m = x.l ∧ e = .returned (.tuple #[.agg (arr8 (vS P)), .bool false]) ∧ RefS B F w' (vS P) (fun k => (I k).map It.fr) ∧ Below w.heap.size w w') ∨
      (burstN x.l at_ m ≠ x.l ∧ ∃ P', e = .returned (.tuple #[.agg (arr8 (vS P')), .bool true]) ∧ RefS B F w' (vS P') (fun j => (upd I k ((I k).set i ⟨none, 0, burstN x.l at_ m, true⟩) j).map It.fr) ∧ Below w.heap.size w w') := by
  have hb2 := dblW_below w P
  have h2 := h.below hb2
  have HNET := Lib.hid (dblW_net w P)
  have HRES := Lib.hid (dblW_res w P)
  have HSZ := Lib.hid (dblW_size w P)
  obtain ⟨W2, hW2⟩ : ∃ W2, dblW w P = W2 := ⟨_, rfl⟩
  rw [hW2] at hb2 h2 HNET HRES HSZ
  have HA2 := Lib.hid h2
  have H2 : Hid (RefS B F W2 (vS P) (fun k => (I k).map It.fr)) := ⟨I, h2, rfl⟩
  have HB2 := Lib.hid hb2
  have HKC : Hid (∀ W, Below W2.heap.size W2 W → W.heap[w.heap.size]? = some (.cells (arr8 (vS P)) 37 (0, 0)) ∧ W.heap[w.heap.size + 1]? = some (.cells zero8 37 (0, 0))) := fun W hW =>
    ⟨(hW.block w.heap.size (by have := HSZ.out; omega)).trans HNET.out, (hW.block (w.heap.size + 1) (by have := HSZ.out; omega)).trans HRES.out⟩
  have hl2 := h2.lane k hk
  have hl2' : RLane W2 B (.slice (P k).a (P k).n (P k).c) (I k) := hl2
  obtain ⟨hLn, hcap⟩ := hl2'.sh
  have hmany := h2.many k hk
  have hi : i < (P k).n := by rw [← hLn]; exact (List.getElem?_eq_some_iff.1 hx).1
  have hc := At_yes (vS P) k i hk (P k).a (P k).n (P k).c B rfl W2 (I k) hLn hl2' x hx (by omega)
  rw [hs] at hc
  have HBB := Lib.hid hB
  have HFF := Lib.hid hF
  have HMEM : Hid (x ∈ I k) := List.mem_of_getElem? hx
  have HI := Lib.hid hi
  have HXI := Lib.hid hx
  have HLN := Lib.hid hLn
  have HCAP := Lib.hid hcap
  have HMM := Lib.hid hm
  have HA1 := Lib.hid ha1
  have HAA := Lib.hid ha2
  have hn200 : (P k).n ≤ 200 := by omega
  clear hb2 h h2 hl2 hl2' hLn hcap hmany hx hs hB hF hm ha1 ha2
  obtain ⟨n0, n1, n2, n3, n4, n5, n6, n7⟩ := row8c HNET.out
  simp only [vS] at n0 n1 n2 n3 n4 n5 n6 n7
  simp only [dblW, arr8, vS, zero8] at hc hW2 ⊢
  have HC := Lib.hid hc
  clear hc
  go_enter Try.func21, Try.ntmps21
  go_wp2_with fail
  (with_reducible refine HC.out.mono ?_); rintro e w3 ⟨rfl, hb3⟩
  have HS3 := Lib.hid hb3.size
  have HB3 := Lib.hid (hb3.alloc hb3.size (.cells #[.slice x.A x.l.length x.c, .bool false] 44))
  have HX3 := Lib.hid (heap_alloc_new w3 (.cells #[.slice x.A x.l.length x.c, .bool false] 44))
  have HSZ3 : Hid (w3.heap.size < (w3.alloc (.cells #[.slice x.A x.l.length x.c, .bool false] 44)).heap.size) := by unfold Hid; simp
  obtain ⟨x0, x1, -⟩ := row2 HX3.out
  have ho := (HA2.out.frame k hk x HMEM.out).below HB3.out
  have HSH := Lib.hid (HA2.out.short k hk x HMEM.out)
  have HO := Lib.hid ho
  clear hb3 n0 n1 n2 n3 n4 n5 n6 n7 ho
  go_wp2_with fail
  (with_reducible refine (refBurst_c x.A x.l x.c at_ m _ HO.out.rd HO.out.nil_cap HSH.out HMM.out HA1.out HAA.out).mono ?_); rintro e w4 ⟨A4, c4, rfl, ho4, hb4⟩
  have HO4 := Lib.hid ho4
  have HOX := Lib.hid (HO.out.below hb4)
  have HX4 := Lib.hid ((hb4.block w3.heap.size HSZ3.out).trans HX3.out)
  have HSZ4 := Lib.hid (Nat.lt_of_lt_of_le HSZ3.out hb4.size)
  have HB4 := Lib.hid (HB3.out.trans (hb4.mono HB3.out.size))
  have HBL : Hid ((burstN x.l at_ m).length = x.l.length) := burstN_length _ _ _
  clear x0 x1 ho4 hb4
  obtain ⟨x0, x1, -⟩ := row2 HX4.out
  have y1 := str8 (n := x.l.length) (c := c4) HO4.out.rd HBL.out
  have y2 := str8 (n := x.l.length) (c := x.c) HOX.out.rd rfl
  generalize hbl : burstN x.l at_ m = bl at *
  have HBLE := Lib.hid hbl
  clear hbl
  by_cases hq : bl = x.l
  · subst hq
    obtain ⟨n0, n1, n2, n3, n4, n5, n6, n7⟩ := row8c (HKC.out _ HB4.out).1
    simp only [vS] at n0 n1 n2 n3 n4 n5 n6 n7
    have hu := upto8 w4 (w.heap.size + 1) (.slice (P 0).a (P 0).n (P 0).c) (.slice (P 1).a (P 1).n (P 1).c) (.slice (P 2).a (P 2).n (P 2).c) (.slice (P 3).a (P 3).n (P 3).c) (.slice (P 4).a (P 4).n (P 4).c) (.slice (P 5).a (P 5).n (P 5).c) (.slice (P 6).a (P 6).n (P 6).c) (.slice (P 7).a (P 7).n (P 7).c)
    have HU := Lib.hid hu
    have hres := (HKC.out _ HB4.out).2
    have HRW := Lib.hid hres
    rw [zero8_arr] at hres
    obtain ⟨r0, r1, r2, r3, r4, r5, r6, r7⟩ := row8c hres
    have rz := fun j => row_thawed hres j
    clear hu hres
    go_wp2_with fail
    refine bodyPost_ret (by simp [results, Try.results21, go_sem, r0, r1, r2, r3, r4, r5, r6, r7]; try rfl) rfl ?_
    exact .inl ⟨HBLE.out, rfl, (H2.out.below HB4.out).other HU.out HRW.out (by decide) (by decide), (HB2.out.trans (HB4.out.mono HB2.out.size)).trans (HU.out.below (by have := HB2.out.size; have := HB4.out.size; omega) (fun k hk e => by omega))⟩
  · have hq2 : (bl == x.l) = false := by simpa using hq
    have HQ := Lib.hid hq
    clear hq
    have hc4 := (((Below.refl w4.heap.size w4).alloc (Nat.le_refl _) (.cells #[] 44)).cell (p := ⟨w.heap.size, k, none⟩) (by have := HB4.out.size; have := HSZ.out; show w.heap.size < _; omega)).trans (box8 (HKC.out _ HB4.out).1 k hk).1
    unfold vS at hc4
    have hl4 : RLane w4 B (.slice (P k).a (P k).n (P k).c) (I k) := (HA2.out.lane k hk).below HB4.out
    have HRD : Hid (RdI w4 (P k).a (I k)) := by rw [← HLN.out] at hl4; exact hl4.rd
    clear hl4
    go_wp2_with (at_builtin; refine copy_it rfl _ _ rfl _ rfl (I k) (P k).n HLN.out (P k).a (P k).c HRD.out rfl rfl HCAP.out (by omega) ?_)
    intro A5 c5 w5 hr5 hb5
    have hr5' := hr5
    rw [← HLN.out] at hr5'
    obtain ⟨g, rfl, hg1, hg2, y0, y1'⟩ := hr5'.item HXI.out
    have yz := fun j => World.ownsRow.frozenAt hr5' j
    have HR5 := Lib.hid hr5
    have HB5 := Lib.hid hb5
    have HG1 := Lib.hid hg1
    have HG2 := Lib.hid hg2
    have HW2 : Hid (w.heap.size + 1 + 1 ≤ w4.heap.size) := by have := HB4.out.size; have := HSZ.out; unfold Hid; omega
    have hg3 : ¬ (g = w.heap.size) := by have := HW2.out; omega
    have hg4 : ¬ (w.heap.size = g) := fun e => hg3 e.symm
    have hb45 := HB4.out.trans (hb5.mono HB4.out.size)
    have HB45 := Lib.hid hb45
    obtain ⟨p1, z1⟩ := box8 (HKC.out _ hb45).1 k hk
    unfold vS at p1
    clear hr5 hb5 hr5' hg1 hg2 hb45 hc4 x0 x1
    go_upto_region 10 with fail
    have hlen : bl.length = x.l.length := HBL.out
    have u1 := ((Upto.refl (fun j => j = g) w5).setCell (p := ⟨g, i * 2, none⟩) rfl (.slice A4 x.l.length c4)).setCell (p := ⟨g, i * 2 + 1, none⟩) rfl (.bool true)
    have hs1 := HR5.out.set i ⟨A4, c4, bl, true⟩
    simp only [hlen] at hs1
    have hsz5 : w4.heap.size ≤ w5.heap.size := HB5.out.size
    have hw2 := HW2.out
    have hg1 := HG1.out
    have hg2 := HG2.out
    obtain ⟨q2, q3⟩ := HKC.out _ HB45.out
    have q2' := (u1.block w.heap.size (by omega) (by omega)).trans q2
    have q3' := (u1.block (w.heap.size + 1) (by omega) (by omega)).trans q3
    have h5 := HA2.out.below HB45.out
    have hltW : ∀ j, j < 8 → (∀ b, (vS P j).ownBlock = some b → b < w4.heap.size) ∧ ∀ z ∈ I j, ∀ a, z.A = some a → a.block < w4.heap.size := fun j hj => by
      have h4 := HA2.out.below HB4.out
      exact ⟨fun b e => ((h4.lane j hj).typed b e).2.1, fun z hz a e => ((h4.frame j hj z hz).lt a e).2.1⟩
    have h6 := h5.upto u1 (fun j hj b e e2 => by have := (hltW j hj).1 b e; omega) (fun j hj z hz a e e2 => by have := (hltW j hj).2 z hz a e; omega)
    have hO4 := HO4.out
    have hO4b : ∀ a, A4 = some a → w.heap.size + 1 + 1 ≤ a.block ∧ a.block < w4.heap.size := fun a e => by
      have q := hO4.lt a e
      have q1 := HS3.out
      have q2 := HSZ.out
      have q3 : w3.heap.size + 1 ≤ a.block := by simpa using q.1
      exact ⟨by omega, q.2.1⟩
    have hO5 := (hO4.below HB5.out).upto u1 (fun a e e2 => by have := (hO4b a e).2; omega)
    have u2 := (Upto.refl (fun j => j = w.heap.size) ((w5.setCell ⟨g, i * 2, none⟩ (.slice A4 x.l.length c4)).setCell ⟨g, i * 2 + 1, none⟩ (.bool true))).setCell (p := ⟨w.heap.size, k, none⟩) rfl (.slice (some ⟨g, 0, none⟩) (P k).n c5)
    have h7 := h6.other u2 q2' (by decide) (by decide)
    have hO7 := hO5.upto u2 (fun a e e2 => by have := (hO4b a e).1; omega)
    have hL7 := hs1.upto u2 (fun q hq e => by have hq' : some g = some q := hq; injection hq' with hq'; omega)
    have hnet := row_set q2' k (.slice (some ⟨g, 0, none⟩) (P k).n c5)
    rw [arr8_set _ _ hk, vS_upd] at hnet
    have hres := (u2.block (w.heap.size + 1) (by have := u1.size; omega) (by omega)).trans q3'
    have hbw := ((HB2.out.trans (HB45.out.mono HB2.out.size)).trans (u1.below (B := w.heap.size) (by omega) (fun q _ e => by omega))).setCell (p := ⟨w.heap.size, k, none⟩) (Nat.le_refl _) (.slice (some ⟨g, 0, none⟩) (P k).n c5)
    have h8 := h7.upd (k := k) (N := .slice (some ⟨g, 0, none⟩) (P k).n c5) (L := (I k).set i ⟨A4, c4, bl, true⟩) (hL7.low (by have := HBB.out; omega)) (fun z hz => by
      rcases List.mem_or_eq_of_mem_set hz with hz | rfl
      · exact ⟨h7.frame k hk z hz, h7.short k hk z hz, h7.frameF k hk z hz⟩
      · refine ⟨hO7.low (by have := HBB.out; have := HS3.out; have := HSZ.out; simp; omega), by show bl.length ≤ _; rw [hlen]; exact HSH.out, fun a e hf => by have := (hO4b a e).1; have := HFF.out _ hf; omega⟩)
      (by rw [List.length_set]; exact h7.many k hk) (fun b e hf => by have e' : some g = some b := e; injection e' with e'; have := HFF.out _ hf; omega)
    rw [vS_upd] at h8
    have h9 : RefS B F _ (vS (upd P k ⟨some ⟨g, 0, none⟩, (P k).n, c5⟩)) (fun j => (upd I k ((I k).set i ⟨none, 0, bl, true⟩) j).map It.fr) := ⟨_, h8, by
      rw [map_upd, map_upd, List.map_set, List.map_set]; rfl⟩
    have H9 := Lib.hid h9
    have HBW := Lib.hid hbw
    have HRES9 := Lib.hid hres
    obtain ⟨n0, n1, n2, n3, n4, n5, n6, n7⟩ := row8c hnet
    simp only [vS] at n0 n1 n2 n3 n4 n5 n6 n7
    clear u1 hs1 hsz5 hw2 hg1 hg2 q2 q3 q2' q3' h5 hltW h6 hO4 hO4b hO5 u2 h7 hO7 hL7 hnet hres hbw h8 h9 y0 y1' yz p1 z1
    generalize hP' : upd P k ⟨some ⟨g, 0, none⟩, (P k).n, c5⟩ = P' at *
    clear hP'
    generalize World.setCell _ ⟨w.heap.size, k, none⟩ _ = w7 at n0 n1 n2 n3 n4 n5 n6 n7 H9 HBW HRES9 ⊢
    have hu := upto8 w7 (w.heap.size + 1) (.slice (P' 0).a (P' 0).n (P' 0).c) (.slice (P' 1).a (P' 1).n (P' 1).c) (.slice (P' 2).a (P' 2).n (P' 2).c) (.slice (P' 3).a (P' 3).n (P' 3).c) (.slice (P' 4).a (P' 4).n (P' 4).c) (.slice (P' 5).a (P' 5).n (P' 5).c) (.slice (P' 6).a (P' 6).n (P' 6).c) (.slice (P' 7).a (P' 7).n (P' 7).c)
    have HU := Lib.hid hu
    have hres := HRES9.out
    have HRW := Lib.hid hres
    rw [zero8_arr] at hres
    obtain ⟨r0, r1, r2, r3, r4, r5, r6, r7⟩ := row8c hres
    have rz := fun j => row_thawed hres j
    clear hu hres
    go_wp2_with fail
    refine bodyPost_ret (by simp [results, Try.results21, go_sem, r0, r1, r2, r3, r4, r5, r6, r7]; try rfl) rfl ?_
    refine .inr ⟨by rw [HBLE.out]; exact HQ.out, P', rfl, ?_, HBW.out.trans (HU.out.below HBW.out.size (fun k hk e => by omega))⟩
    rw [HBLE.out]
    exact H9.out.other HU.out HRW.out (by decide) (by decide)

end Go.Proofs.Yteoafaofiohefaa

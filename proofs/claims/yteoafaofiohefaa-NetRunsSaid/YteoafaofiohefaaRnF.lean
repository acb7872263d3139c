import Derived.Test.YteoafaofiohefaaRnE
import Derived.Deep.RegionHeldLaw
namespace Go.Proofs.Yteoafaofiohefaa
open Go.RowKit

/-! The reference's Take. -/

variable {w w' : World} {B : Nat} {F : Nat → Prop} {P : Nat → Sh} {I : Nat → List It} {S : Nat → List Fr}

set_option maxRecDepth 100000 in
set_option maxHeartbeats 8000000 in
theorem RTake_none (h : RefS B F w (vS P) S) (k i : Int) (e0 : atS S k i = none) :
    Calls Try.prog 16 #[.agg (arr8 (vS P)), .int .i64 k, .int .i64 i] w fun e w' => e = .returned (.tuple #[.agg (arr8 (vS P)), .slice none 0 0, .bool false]) ∧ RefS B F w' (vS P) S ∧ Below w.heap.size w w' := by
  have hb2 := dblW_below w P
  have h2 := h.below hb2
  have HNET := Lib.hid (dblW_net w P)
  have HRES := Lib.hid (dblW_res w P)
  have HSZ := Lib.hid (dblW_size w P)
  obtain ⟨W2, hW2⟩ : ∃ W2, dblW w P = W2 := ⟨_, rfl⟩
  rw [hW2] at hb2 h2 HNET HRES HSZ
  have H2 := Lib.hid h2
  have HB2 := Lib.hid hb2
  have HKC : Hid (∀ W, Below W2.heap.size W2 W → W.heap[w.heap.size]? = some (.cells (arr8 (vS P)) 37 (0, 0)) ∧ W.heap[w.heap.size + 1]? = some (.cells zero8 37 (0, 0))) := fun W hW =>
    ⟨(hW.block w.heap.size (by have := HSZ.out; omega)).trans HNET.out, (hW.block (w.heap.size + 1) (by have := HSZ.out; omega)).trans HRES.out⟩
  have hat := At_u h2 k i
  clear hb2 h h2
  obtain ⟨n0, n1, n2, n3, n4, n5, n6, n7⟩ := row8c HNET.out
  simp only [vS] at n0 n1 n2 n3 n4 n5 n6 n7
  rcases hat with ⟨_, hc⟩ | ⟨n, j, y, rfl, hn8, rfl, hx, e1, _⟩
  · simp only [dblW, arr8, vS, zero8] at hc hW2 ⊢
    have HC := Lib.hid hc
    clear e0 hc
    go_enter Try.func16, Try.ntmps16
    go_wp2_with fail
    (with_reducible refine HC.out.mono ?_); rintro e w3 ⟨rfl, hb3⟩
    have HB3 := Lib.hid (hb3.alloc hb3.size (.cells #[.slice none 0 0, .bool false] 44))
    clear hb3 n0 n1 n2 n3 n4 n5 n6 n7
    obtain ⟨n0, n1, n2, n3, n4, n5, n6, n7⟩ := row8c (HKC.out _ HB3.out).1
    simp only [vS] at n0 n1 n2 n3 n4 n5 n6 n7
    have hu := upto8 (w3.alloc (.cells #[.slice none 0 0, .bool false] 44)) (w.heap.size + 1) (.slice (P 0).a (P 0).n (P 0).c) (.slice (P 1).a (P 1).n (P 1).c) (.slice (P 2).a (P 2).n (P 2).c) (.slice (P 3).a (P 3).n (P 3).c) (.slice (P 4).a (P 4).n (P 4).c) (.slice (P 5).a (P 5).n (P 5).c) (.slice (P 6).a (P 6).n (P 6).c) (.slice (P 7).a (P 7).n (P 7).c)
    have HU := Lib.hid hu
    have hres := (HKC.out _ HB3.out).2
    have HRW := Lib.hid hres
    rw [zero8_arr] at hres
    obtain ⟨r0, r1, r2, r3, r4, r5, r6, r7⟩ := row8c hres
    have rz := fun j => row_thawed hres j
    clear hu hres
    go_wp2_with fail
    refine bodyPost_ret (by simp [results, Try.results16, go_sem, r0, r1, r2, r3, r4, r5, r6, r7]; try rfl) rfl ?_
    exact ⟨rfl, (H2.out.below HB3.out).other HU.out HRW.out (by decide) (by decide), (HB2.out.trans (HB3.out.mono HB2.out.size)).trans (HU.out.below (by have := HB2.out.size; have := HB3.out.size; omega) (fun k hk e => by omega))⟩
  · rw [e0] at e1; cases e1

/-- Where 's[n:]' of items lies. -/
def tail2 (A : Option Addr) (c n : Nat) : Option Addr := if c = n then A else A.map (·.add (n * 2))

theorem run_tailI (w : World) (A : Option Addr) (len c n : Nat) (hn : n ≤ len) :
    (Instr.slice 35 (.slice A len c) (some (.int .i64 (n : Int))) none none).run Try.prog w = .ok (.slice (tail2 A c n) (len - n) (c - n)) w := by
  obtain ⟨i0, hi, hz0, hz1, hz2⟩ := info_parts infoR
  have h1 : Try.prog.underlying 35 = some (.slice (Try.prog.elem 35)) := by simp [Program.elem, Try.underlying35]
  have h2 : Try.prog.elem 35 = 44 := by simp [Program.elem, Try.underlying35]
  rw [run_slice_l w 35 _ _ _ h1 .i64 _ (by omega) (by omega), h2]
  simp [sizeOf, typeInfo, hi, hz1, sliced, tail2]

set_option maxRecDepth 100000 in
set_option maxHeartbeats 8000000 in
theorem RTake_yes (h : RefAt B F w (vS P) I) (k i : Nat) (hk : k < 8) (x : It) (hx : (I k)[i]? = some x) :
    Calls Try.prog 16 #[.agg (arr8 (vS P)), .int .i64 k, .int .i64 i] w fun e w' => ∃ a' n' c', e = .returned (.tuple #[.agg (arr8 (vS (upd P k ⟨a', n', c'⟩))), .slice x.A x.l.length x.c, .bool true]) ∧ RLane w' w.heap.size (.slice a' n' c') ((I k).eraseIdx i) ∧ Below w.heap.size w w' := by
  have hb2 := dblW_below w P
  have h2 := h.below hb2
  have HNET := Lib.hid (dblW_net w P)
  have HRES := Lib.hid (dblW_res w P)
  have HSZ := Lib.hid (dblW_size w P)
  obtain ⟨W2, hW2⟩ : ∃ W2, dblW w P = W2 := ⟨_, rfl⟩
  rw [hW2] at hb2 h2 HNET HRES HSZ
  have HB2 := Lib.hid hb2
  have HKC : Hid (∀ W, Below W2.heap.size W2 W → W.heap[w.heap.size]? = some (.cells (arr8 (vS P)) 37 (0, 0)) ∧ W.heap[w.heap.size + 1]? = some (.cells zero8 37 (0, 0))) := fun W hW =>
    ⟨(hW.block w.heap.size (by have := HSZ.out; omega)).trans HNET.out, (hW.block (w.heap.size + 1) (by have := HSZ.out; omega)).trans HRES.out⟩
  have hl2 := h2.lane k hk
  have hl2' : RLane W2 B (.slice (P k).a (P k).n (P k).c) (I k) := hl2
  obtain ⟨hLn, hcap⟩ := hl2'.sh
  have hmany := h2.many k hk
  have hle : (P k).n ≤ (P k).c := by
    obtain ⟨A, c, e, _, q⟩ := hl2'.slice
    injection e with e1 e2 e3; omega
  have hi : i < (P k).n := by rw [← hLn]; exact (List.getElem?_eq_some_iff.1 hx).1
  have hc := At_yes (vS P) k i hk (P k).a (P k).n (P k).c B rfl W2 (I k) hLn hl2' x hx (by omega)
  have HRD : Hid (RdI W2 (P k).a (I k)) := (by rw [← hLn] at hl2'; exact hl2'.rd)
  have HLN := Lib.hid hLn
  have HCAP := Lib.hid hcap
  have hn200 : (P k).n ≤ 200 := by omega
  clear hb2 h h2 hl2 hl2' hLn hcap hmany
  obtain ⟨n0, n1, n2, n3, n4, n5, n6, n7⟩ := row8c HNET.out
  simp only [vS] at n0 n1 n2 n3 n4 n5 n6 n7
  simp only [dblW, arr8, vS, zero8] at hc hW2 ⊢
  have HC := Lib.hid hc
  clear hc hx
  go_enter Try.func16, Try.ntmps16
  go_wp2_with fail
  (with_reducible refine HC.out.mono ?_); rintro e w3 ⟨rfl, hb3⟩
  have HS3 := Lib.hid hb3.size
  have HB3 := Lib.hid (hb3.alloc hb3.size (.cells #[.slice x.A x.l.length x.c, .bool x.s] 44))
  obtain ⟨x0, x1, -⟩ := row2 (heap_alloc_new w3 (.cells #[.slice x.A x.l.length x.c, .bool x.s] 44))
  have hsz3 : w3.heap.size < (w3.alloc (.cells #[.slice x.A x.l.length x.c, .bool x.s] 44)).heap.size := by simp
  have HX3 := Lib.hid (heap_alloc_new w3 (.cells #[.slice x.A x.l.length x.c, .bool x.s] 44))
  have HX0 := Lib.hid x0
  have HX1 := Lib.hid x1
  clear hb3 n0 n1 n2 n3 n4 n5 n6 n7
  obtain ⟨W4, hW4⟩ : ∃ W4, w3.alloc (.cells #[.slice x.A x.l.length x.c, .bool x.s] 44) = W4 := ⟨_, rfl⟩
  rw [hW4] at HB3 hsz3 HX3 x0 x1
  have HSZ3 := Lib.hid hsz3
  have HK2 : Hid (∀ W, Below W4.heap.size W4 W → W.cell? ⟨w.heap.size, k, none⟩ = some (.slice (P k).a (P k).n (P k).c) ∧ W.frozen? ⟨w.heap.size, k, none⟩ = false ∧ W.heap[w.heap.size]? = some (.cells (arr8 (vS P)) 37 (0, 0)) ∧ W.heap[w.heap.size + 1]? = some (.cells zero8 37 (0, 0)) ∧ W.cell? ⟨w3.heap.size, 0, none⟩ = some (.slice x.A x.l.length x.c)) := fun W hW => by
    have q := HKC.out W (HB3.out.trans (hW.mono HB3.out.size))
    obtain ⟨q1, q2⟩ := box8 q.1 k hk
    exact ⟨q1, q2, q.1, q.2, (cell_of_row W w3.heap.size 0 _ _ _ ((hW.block w3.heap.size HSZ3.out).trans HX3.out)).trans rfl⟩
  obtain ⟨p1, -⟩ := HK2.out (W4.alloc (.cells #[] 44)) ((Below.refl _ _).alloc (Nat.le_refl _) _)
  have hic : i ≤ (P k).c := by omega
  have H1 : Hid (((I k).take i).length = i) := by unfold Hid; rw [List.length_take]; have := HLN.out; omega
  have HR4 := Lib.hid ((HRD.out.below HB3.out).take i)
  have HCAP4 : Hid ((P k).a = none → i = 0 ∧ (P k).c = 0) := fun e => by have := HCAP.out e; omega
  clear hsz3
  go_wp2_with (at_builtin; refine copy_it rfl _ _ rfl _ rfl ((I k).take i) i H1.out (P k).a (P k).c HR4.out rfl rfl HCAP4.out (by omega) ?_)
  intro A5 c5 w5 hr5 hb5
  have HR5 := Lib.hid hr5
  have HB5 := Lib.hid hb5
  clear hr5 hb5 x0 x1 p1 hW4
  obtain ⟨p1, z1, -, -, x0⟩ := HK2.out w5 HB5.out
  have hB5s := HB5.out.size
  have HF5 : Hid (∀ (w6 : World) (A6 : Option Addr) (c6 : Nat), RLane w6 W4.heap.size (.slice A6 (i + ((P k).n - (i + 1))) c6) ((I k).take i ++ (I k).drop (i + 1)) → w5.grownBy w6 (Value.slice A5 i c5).ownBlock → RLane w6 W4.heap.size (.slice A6 ((P k).n - 1) c6) ((I k).eraseIdx i) ∧ Below W4.heap.size W4 w6) := fun w6 A6 c6 hr hg => by
    rw [List.eraseIdx_eq_take_drop_succ, show (P k).n - 1 = i + ((P k).n - (i + 1)) from by omega]
    exact ⟨hr, HB5.out.grown hg hB5s (fun q hq => (HR5.out.typed q hq).1)⟩
  have H2 : Hid (((I k).drop (i + 1)).length = (P k).n - (i + 1)) := by unfold Hid; rw [List.length_drop, HLN.out]
  have HR5D : Hid (RdI w5 (P k).a (I k)) := (HRD.out.below HB3.out).below HB5.out
  obtain ⟨ad, hA⟩ : ∃ ad, (P k).a = some ad := by
    have h0 : 0 < (lcells (I k)).length := by rw [lcells_length, HLN.out]; omega
    obtain ⟨a, e, _⟩ := HRD.out 0 _ (List.getElem?_eq_getElem h0)
    exact ⟨a, e⟩
  have HA := Lib.hid hA
  by_cases hci : (P k).c = i + 1
  · have hn1 : (P k).n - (i + 1) = 0 := by omega
    have HE : Hid ((I k).drop (i + 1) = []) := List.drop_eq_nil_of_le (by have := HLN.out; omega)
    have HEE : Hid (RdI w5 (some ad) ((I k).drop (i + 1))) := by unfold Hid; rw [HE.out]; intro j u hu; simp [lcells] at hu
    clear hB5s hn1
    go_wp2_with (at_builtin; refine app_it rfl _ _ rfl ((I k).take i) ((I k).drop (i + 1)) i ((P k).n - (i + 1)) HR5.out H1.out H2.out rfl (some ad) 0 HEE.out rfl (by intro h; cases h) (by omega) (by have := HB5.out.size; omega) ?_)
    intro A6 c6 w6 hr6 hg6
    obtain ⟨hr7, hb7⟩ := HF5.out w6 A6 c6 hr6 hg6
    have hlen : i + ((P k).n - (i + 1)) = (P k).n - 1 := by omega
    rw [hlen]
    have HR7 := Lib.hid hr7
    have HB7 := Lib.hid hb7
    obtain ⟨p6, z6, q2, q3, x6⟩ := HK2.out w6 hb7
    have hlt6 : w.heap.size + 1 + 1 ≤ w6.heap.size := by have := hb7.size; have := HB3.out.size; have := HSZ.out; omega
    have hw4 : w.heap.size + 1 + 1 ≤ W4.heap.size := by have := HB3.out.size; have := HSZ.out; omega
    have hw3 : w.heap.size + 1 + 1 ≤ w3.heap.size := by have := HS3.out; have := HSZ.out; omega
    have hnet := row_set q2 k (.slice A6 ((P k).n - 1) c6)
    rw [arr8_set _ _ hk, vS_upd] at hnet
    have u0 := (Upto.refl (fun j => j = w.heap.size) w6).setCell (p := ⟨w.heap.size, k, none⟩) rfl (.slice A6 ((P k).n - 1) c6)
    have hres := (u0.block (w.heap.size + 1) (by omega) (by omega)).trans q3
    have HRW := Lib.hid hres
    rw [zero8_arr] at hres
    obtain ⟨n0, n1, n2, n3, n4, n5, n6, n7⟩ := row8c hnet
    obtain ⟨r0, r1, r2, r3, r4, r5, r6, r7⟩ := row8c hres
    have rz := fun j => row_thawed hres j
    have x7 := (u0.cell (p := ⟨w3.heap.size, 0, none⟩) (by show w3.heap.size < _; have := hb7.size; have := HSZ3.out; omega) (by show ¬ (w3.heap.size = w.heap.size); omega)).trans x6
    have hl7 := hr7.upto u0 (fun q hq e => by have := (hr7.typed q hq).1; omega)
    have HLB : Hid (∀ q, (Value.slice A6 ((P k).n - 1) c6).ownBlock = some q → W4.heap.size ≤ q) := fun q hq => (hr7.typed q hq).1
    have hbw := (HB2.out.trans ((HB3.out.trans (hb7.mono HB3.out.size)).mono HB2.out.size)).setCell (p := ⟨w.heap.size, k, none⟩) (Nat.le_refl _) (.slice A6 ((P k).n - 1) c6)
    have HL7 := Lib.hid hl7
    have HBW := Lib.hid hbw
    have HW4 := Lib.hid hw4
    have HW3 := Lib.hid hw3
    clear hr6 hg6 hr7 hb7 u0 hnet hres hl7 hbw p1 z1 x0 hlen q2 q3 x6 hlt6 hw4 hw3
    go_wp2_with fail
    generalize w6.setCell ⟨w.heap.size, k, none⟩ (.slice A6 ((P k).n - 1) c6) = w7 at *
    unfold vS at n0 n1 n2 n3 n4 n5 n6 n7
    generalize hP' : upd P k ⟨A6, (P k).n - 1, c6⟩ = P' at *
    have HP := Lib.hid hP'
    have hne : ¬ (w3.heap.size = w.heap.size + 1) := by have := HW3.out; omega
    have hne2 : ¬ (w.heap.size + 1 = w3.heap.size) := by have := HW3.out; omega
    have HU := Lib.hid (upto8 w7 (w.heap.size + 1) (.slice (P' 0).a (P' 0).n (P' 0).c) (.slice (P' 1).a (P' 1).n (P' 1).c) (.slice (P' 2).a (P' 2).n (P' 2).c) (.slice (P' 3).a (P' 3).n (P' 3).c) (.slice (P' 4).a (P' 4).n (P' 4).c) (.slice (P' 5).a (P' 5).n (P' 5).c) (.slice (P' 6).a (P' 6).n (P' 6).c) (.slice (P' 7).a (P' 7).n (P' 7).c))
    clear hP'
    go_region_held_law (fun W => W.cell? ⟨w.heap.size, 0, none⟩ = some (.slice (P' 0).a (P' 0).n (P' 0).c) ∧ W.cell? ⟨w.heap.size, 1, none⟩ = some (.slice (P' 1).a (P' 1).n (P' 1).c) ∧ W.cell? ⟨w.heap.size, 2, none⟩ = some (.slice (P' 2).a (P' 2).n (P' 2).c) ∧ W.cell? ⟨w.heap.size, 3, none⟩ = some (.slice (P' 3).a (P' 3).n (P' 3).c) ∧ W.cell? ⟨w.heap.size, 4, none⟩ = some (.slice (P' 4).a (P' 4).n (P' 4).c) ∧ W.cell? ⟨w.heap.size, 5, none⟩ = some (.slice (P' 5).a (P' 5).n (P' 5).c) ∧ W.cell? ⟨w.heap.size, 6, none⟩ = some (.slice (P' 6).a (P' 6).n (P' 6).c) ∧ W.cell? ⟨w.heap.size, 7, none⟩ = some (.slice (P' 7).a (P' 7).n (P' 7).c) ∧ W.cell? ⟨w3.heap.size, 0, none⟩ = some (.slice x.A x.l.length x.c)) (go_keep) (fail)
    all_goals
      have hrow9 := sets8_row (zero8_arr ▸ HRW.out) (.slice (P' 0).a (P' 0).n (P' 0).c) (.slice (P' 1).a (P' 1).n (P' 1).c) (.slice (P' 2).a (P' 2).n (P' 2).c) (.slice (P' 3).a (P' 3).n (P' 3).c) (.slice (P' 4).a (P' 4).n (P' 4).c) (.slice (P' 5).a (P' 5).n (P' 5).c) (.slice (P' 6).a (P' 6).n (P' 6).c) (.slice (P' 7).a (P' 7).n (P' 7).c)
      obtain ⟨s0, s1, s2, s3, s4, s5, s6, s7⟩ := row8c (V := vS P') hrow9
      simp only [vS] at s0 s1 s2 s3 s4 s5 s6 s7
      clear hrow9 r0 r1 r2 r3 r4 r5 r6 r7 rz
      generalize World.setCell _ ⟨w.heap.size + 1, 7, none⟩ _ = w9 at s0 s1 s2 s3 s4 s5 s6 s7 HU ⊢
      have HU9 := Lib.hid HU.out.drew
      go_wp2_with fail
      refine bodyPost_ret (by simp [results, Try.results16, go_sem, s0, s1, s2, s3, s4, s5, s6, s7]; try rfl) rfl ?_
      exact ⟨A6, (P k).n - 1, c6, by rw [HP.out], (HL7.out.upto HU9.out (fun q hq e => by have := HLB.out q hq; have := HW4.out; omega)).low (by have := HW4.out; omega), HBW.out.trans (HU9.out.below HBW.out.size (fun k hk e => by omega))⟩
  · have HEE : Hid (RdI w5 (some (ad.add ((i + 1) * 2))) ((I k).drop (i + 1))) := by
      have q := HR5D.out
      rw [HA.out] at q
      exact q.drop (i + 1)
    clear hB5s
    go_wp2_with (at_builtin; refine app_it rfl _ _ rfl ((I k).take i) ((I k).drop (i + 1)) i ((P k).n - (i + 1)) HR5.out H1.out H2.out rfl (some (ad.add ((i + 1) * 2))) ((P k).c - (i + 1)) HEE.out rfl (by intro h; cases h) (by omega) (by have := HB5.out.size; omega) ?_)
    intro A6 c6 w6 hr6 hg6
    obtain ⟨hr7, hb7⟩ := HF5.out w6 A6 c6 hr6 hg6
    have hlen : i + ((P k).n - (i + 1)) = (P k).n - 1 := by omega
    rw [hlen]
    have HR7 := Lib.hid hr7
    have HB7 := Lib.hid hb7
    obtain ⟨p6, z6, q2, q3, x6⟩ := HK2.out w6 hb7
    have hlt6 : w.heap.size + 1 + 1 ≤ w6.heap.size := by have := hb7.size; have := HB3.out.size; have := HSZ.out; omega
    have hw4 : w.heap.size + 1 + 1 ≤ W4.heap.size := by have := HB3.out.size; have := HSZ.out; omega
    have hw3 : w.heap.size + 1 + 1 ≤ w3.heap.size := by have := HS3.out; have := HSZ.out; omega
    have hnet := row_set q2 k (.slice A6 ((P k).n - 1) c6)
    rw [arr8_set _ _ hk, vS_upd] at hnet
    have u0 := (Upto.refl (fun j => j = w.heap.size) w6).setCell (p := ⟨w.heap.size, k, none⟩) rfl (.slice A6 ((P k).n - 1) c6)
    have hres := (u0.block (w.heap.size + 1) (by omega) (by omega)).trans q3
    have HRW := Lib.hid hres
    rw [zero8_arr] at hres
    obtain ⟨n0, n1, n2, n3, n4, n5, n6, n7⟩ := row8c hnet
    obtain ⟨r0, r1, r2, r3, r4, r5, r6, r7⟩ := row8c hres
    have rz := fun j => row_thawed hres j
    have x7 := (u0.cell (p := ⟨w3.heap.size, 0, none⟩) (by show w3.heap.size < _; have := hb7.size; have := HSZ3.out; omega) (by show ¬ (w3.heap.size = w.heap.size); omega)).trans x6
    have hl7 := hr7.upto u0 (fun q hq e => by have := (hr7.typed q hq).1; omega)
    have HLB : Hid (∀ q, (Value.slice A6 ((P k).n - 1) c6).ownBlock = some q → W4.heap.size ≤ q) := fun q hq => (hr7.typed q hq).1
    have hbw := (HB2.out.trans ((HB3.out.trans (hb7.mono HB3.out.size)).mono HB2.out.size)).setCell (p := ⟨w.heap.size, k, none⟩) (Nat.le_refl _) (.slice A6 ((P k).n - 1) c6)
    have HL7 := Lib.hid hl7
    have HBW := Lib.hid hbw
    have HW4 := Lib.hid hw4
    have HW3 := Lib.hid hw3
    clear hr6 hg6 hr7 hb7 u0 hnet hres hl7 hbw p1 z1 x0 hlen q2 q3 x6 hlt6 hw4 hw3
    go_wp2_with fail
    generalize w6.setCell ⟨w.heap.size, k, none⟩ (.slice A6 ((P k).n - 1) c6) = w7 at *
    unfold vS at n0 n1 n2 n3 n4 n5 n6 n7
    generalize hP' : upd P k ⟨A6, (P k).n - 1, c6⟩ = P' at *
    have HP := Lib.hid hP'
    have hne : ¬ (w3.heap.size = w.heap.size + 1) := by have := HW3.out; omega
    have hne2 : ¬ (w.heap.size + 1 = w3.heap.size) := by have := HW3.out; omega
    have HU := Lib.hid (upto8 w7 (w.heap.size + 1) (.slice (P' 0).a (P' 0).n (P' 0).c) (.slice (P' 1).a (P' 1).n (P' 1).c) (.slice (P' 2).a (P' 2).n (P' 2).c) (.slice (P' 3).a (P' 3).n (P' 3).c) (.slice (P' 4).a (P' 4).n (P' 4).c) (.slice (P' 5).a (P' 5).n (P' 5).c) (.slice (P' 6).a (P' 6).n (P' 6).c) (.slice (P' 7).a (P' 7).n (P' 7).c))
    clear hP'
    go_region_held_law (fun W => W.cell? ⟨w.heap.size, 0, none⟩ = some (.slice (P' 0).a (P' 0).n (P' 0).c) ∧ W.cell? ⟨w.heap.size, 1, none⟩ = some (.slice (P' 1).a (P' 1).n (P' 1).c) ∧ W.cell? ⟨w.heap.size, 2, none⟩ = some (.slice (P' 2).a (P' 2).n (P' 2).c) ∧ W.cell? ⟨w.heap.size, 3, none⟩ = some (.slice (P' 3).a (P' 3).n (P' 3).c) ∧ W.cell? ⟨w.heap.size, 4, none⟩ = some (.slice (P' 4).a (P' 4).n (P' 4).c) ∧ W.cell? ⟨w.heap.size, 5, none⟩ = some (.slice (P' 5).a (P' 5).n (P' 5).c) ∧ W.cell? ⟨w.heap.size, 6, none⟩ = some (.slice (P' 6).a (P' 6).n (P' 6).c) ∧ W.cell? ⟨w.heap.size, 7, none⟩ = some (.slice (P' 7).a (P' 7).n (P' 7).c) ∧ W.cell? ⟨w3.heap.size, 0, none⟩ = some (.slice x.A x.l.length x.c)) (go_keep) (fail)
    all_goals
      have hrow9 := sets8_row (zero8_arr ▸ HRW.out) (.slice (P' 0).a (P' 0).n (P' 0).c) (.slice (P' 1).a (P' 1).n (P' 1).c) (.slice (P' 2).a (P' 2).n (P' 2).c) (.slice (P' 3).a (P' 3).n (P' 3).c) (.slice (P' 4).a (P' 4).n (P' 4).c) (.slice (P' 5).a (P' 5).n (P' 5).c) (.slice (P' 6).a (P' 6).n (P' 6).c) (.slice (P' 7).a (P' 7).n (P' 7).c)
      obtain ⟨s0, s1, s2, s3, s4, s5, s6, s7⟩ := row8c (V := vS P') hrow9
      simp only [vS] at s0 s1 s2 s3 s4 s5 s6 s7
      clear hrow9 r0 r1 r2 r3 r4 r5 r6 r7 rz
      generalize World.setCell _ ⟨w.heap.size + 1, 7, none⟩ _ = w9 at s0 s1 s2 s3 s4 s5 s6 s7 HU ⊢
      have HU9 := Lib.hid HU.out.drew
      go_wp2_with fail
      refine bodyPost_ret (by simp [results, Try.results16, go_sem, s0, s1, s2, s3, s4, s5, s6, s7]; try rfl) rfl ?_
      exact ⟨A6, (P k).n - 1, c6, by rw [HP.out], (HL7.out.upto HU9.out (fun q hq e => by have := HLB.out q hq; have := HW4.out; omega)).low (by have := HW4.out; omega), HBW.out.trans (HU9.out.below HBW.out.size (fun k hk e => by omega))⟩

end Go.Proofs.Yteoafaofiohefaa

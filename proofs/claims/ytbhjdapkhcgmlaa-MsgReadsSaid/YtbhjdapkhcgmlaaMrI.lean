import Derived.Test.YtbhjdapkhcgmlaaMrH
import Derived.Handy
import Derived.Deep.Cut
import Derived.Deep.RegionHeldLaw

set_option linter.unusedSimpArgs false
set_option linter.unusedVariables false
set_option linter.unnecessarySimpa false

namespace Go.Proofs.Ytbhjdapkhcgmlaa
open Go.RowKit

attribute [local go_sem] run_store_complex

/-! The reference's Bytes of a message that was read. -/

/-- A put's bytes. -/
def put1 (p : PutV) : List UInt8 := numsB [p.pg, p.ob] ++ valB p.re p.im
def putsB (ps : List PutV) : List UInt8 := (ps.map put1).flatten
theorem putsB_snoc (ps : List PutV) (p : PutV) : putsB (ps ++ [p]) = putsB ps ++ put1 p := by unfold putsB; simp
theorem put1_length (p : PutV) : (put1 p).length = 22 := by unfold put1; rw [List.length_append, numsB_length, valB_length]; rfl
theorem putsB_length (ps : List PutV) : (putsB ps).length = 22 * ps.length := by
  induction ps with
  | nil => rfl
  | cons p r ih => unfold putsB at *; simp [put1_length] at *; omega
/-- The numbers at the head of a message's bytes. -/
def headM (k pg ob tx cp ow : Int) (wr : Bool) (n : Nat) : List Int := [k, pg, ob, tx, cp, ow, numB wr, (n : Int)]
def tailV (k : Int) (v0 v1 v2 v3 : Nat × Nat) : List UInt8 := if k = 5 then flatV [v0, v1, v2, v3] else []
def bytesM (m : MsgM) : List UInt8 := numsB (headM m.k m.pg m.ob m.tx m.cp m.ow m.wr m.ps.length) ++ putsB m.ps ++ tailV m.k m.v0 m.v1 m.v2 m.v3

theorem own_any {α : Type} {g : α → Value} {E : TypeId} {w : World} {B : Nat} {A : Option Addr} {l : List α} {c : Nat} (h : Ow E g w B A l c) : ∀ m q, (Value.slice A m c).ownBlock = some q → B ≤ q ∧ q < w.heap.size := by
  intro m q e
  cases A with
  | none => cases e
  | some a =>
    have h1 := h.lt a rfl
    have e2 : some a.block = some q := e
    injection e2 with e2
    omega

theorem get_row {ps : List PutV} {k : Nat} {p : PutV} (h : ps[k]? = some p) : ps.take (k + 1) = ps.take k ++ [p] := take_snoc h

set_option maxRecDepth 1000000 in
set_option maxHeartbeats 16000000 in
theorem rbytes_c (k pg ob tx cp ow : Int) (wv : Bool) (A : Option Addr) (n c : Nat) (a0 b0 a1 b1 a2 b2 a3 b3 : Nat) (ps : List PutV) (w : World)
    (hok : okN (headM k pg ob tx cp ow wv n) = true) (h : PutsAt w A c ps) (hn : ps.length = n) (hl : n ≤ 1000) (hr : Small ps) (hw : ∀ p ∈ ps, W64 (p.re, p.im)) (g0 : W64 (a0, b0)) (g1 : W64 (a1, b1)) (g2 : W64 (a2, b2)) (g3 : W64 (a3, b3))
    (R : Bool) (hright : From w 52 #[.agg #[.int .i64 k, .int .i64 pg, .int .i64 ob, .int .i64 tx, .int .i64 cp, .int .i64 ow, .bool wv, .slice A n c, .complex .f64 a0 b0, .complex .f64 a1 b1, .complex .f64 a2 b2, .complex .f64 a3 b3]] (.bool R)) :
    Calls Try.prog 27 #[.agg #[.int .i64 k, .int .i64 pg, .int .i64 ob, .int .i64 tx, .int .i64 cp, .int .i64 ow, .bool wv, .slice A n c, .complex .f64 a0 b0, .complex .f64 a1 b1, .complex .f64 a2 b2, .complex .f64 a3 b3]] w fun e w' => ∃ A' c', e = .returned (cond R (.tuple #[.slice A' (bytesM ⟨k, pg, ob, tx, cp, ow, wv, ps, (a0, b0), (a1, b1), (a2, b2), (a3, b3)⟩).length c', .int .i64 0]) (.tuple #[.slice none 0 0, .int .i64 101])) ∧
      Ow 5 g8 w' w.heap.size A' (cond R (bytesM ⟨k, pg, ob, tx, cp, ow, wv, ps, (a0, b0), (a1, b1), (a2, b2), (a3, b3)⟩) []) c' ∧ Below w.heap.size w w' := by
  have h1 := heap_alloc_new w (.cells #[.int .i64 k, .int .i64 pg, .int .i64 ob, .int .i64 tx, .int .i64 cp, .int .i64 ow, .bool wv, .slice A n c, .complex .f64 a0 b0, .complex .f64 a1 b1, .complex .f64 a2 b2, .complex .f64 a3 b3] 30)
  have hb := (Below.refl w.heap.size w).alloc (Nat.le_refl _) (.cells #[.int .i64 k, .int .i64 pg, .int .i64 ob, .int .i64 tx, .int .i64 cp, .int .i64 ow, .bool wv, .slice A n c, .complex .f64 a0 b0, .complex .f64 a1 b1, .complex .f64 a2 b2, .complex .f64 a3 b3] 30)
  have HR := Lib.hid (hright.on hb)
  have HPT := Lib.hid h
  have HOKN := Lib.hid hok
  have HV0 := Lib.hid (rvalue_c a0 b0 g0.1 g0.2)
  have HV1 := Lib.hid (rvalue_c a1 b1 g1.1 g1.2)
  have HV2 := Lib.hid (rvalue_c a2 b2 g2.1 g2.2)
  have HV3 := Lib.hid (rvalue_c a3 b3 g3.1 g3.2)
  have HSM := Lib.hid hr
  have HW64 := Lib.hid hw
  have HN := Lib.hid hn
  obtain ⟨L, hL⟩ : ∃ L, bytesM ⟨k, pg, ob, tx, cp, ow, wv, ps, (a0, b0), (a1, b1), (a2, b2), (a3, b3)⟩ = L := ⟨_, rfl⟩
  have hL2 : L = numsB (headM k pg ob tx cp ow wv n) ++ putsB ps ++ tailV k (a0, b0) (a1, b1) (a2, b2) (a3, b3) := by rw [← hL, ← hn]; rfl
  rw [hL]
  have HL := Lib.hid hL2
  clear hright h hok g0 g1 g2 g3 hr hw hn hL hL2
  go_enter Try.func27, Try.ntmps27
  go_wp2_with fail
  generalize w.alloc (.cells #[.int .i64 k, .int .i64 pg, .int .i64 ob, .int .i64 tx, .int .i64 cp, .int .i64 ow, .bool wv, .slice A n c, .complex .f64 a0 b0, .complex .f64 a1 b1, .complex .f64 a2 b2, .complex .f64 a3 b3] 30) = W0 at *
  refine HR.out.here.mono ?_; rintro e w1 ⟨rfl, hb1⟩
  have hr1 := (hb1.block w.heap.size (lt_of_row (Nat.le_refl _) h1)).trans h1
  have HR1 := Lib.hid hr1
  have HB1 := Lib.hid (hb.trans (hb1.mono hb.size))
  have HL1 : Hid (w.heap.size < w1.heap.size) := lt_of_row (Nat.le_refl _) hr1
  obtain ⟨x0, x1, x2, x3, x4, x5, x6, x7, x8, x9, x10, x11, xz⟩ := row12 hr1
  clear h1 hb hb1 hr1 HR
  cases R
  · go_wp2_with fail
    go_ret2
    exact ⟨none, 0, rfl, Ow.nil, HB1.out⟩
  · go_upto_region 3 with fail
    have HBOX : Hid True := trivial
    go_region_held_law (fun W => W.cell? ⟨w.heap.size, 0, none⟩ = some (.int .i64 k) ∧ W.cell? ⟨w.heap.size, 1, none⟩ = some (.int .i64 pg) ∧ W.cell? ⟨w.heap.size, 2, none⟩ = some (.int .i64 ob) ∧ W.cell? ⟨w.heap.size, 3, none⟩ = some (.int .i64 tx) ∧ W.cell? ⟨w.heap.size, 4, none⟩ = some (.int .i64 cp) ∧ W.cell? ⟨w.heap.size, 5, none⟩ = some (.int .i64 ow) ∧ W.cell? ⟨w.heap.size, 6, none⟩ = some (.bool wv) ∧ W.cell? ⟨w.heap.size, 7, none⟩ = some (.slice A n c)) (first | exact HBOX.out | go_keep)
      (first
        | (go_at_call 33; (with_reducible refine (flag_c wv _).mono ?_); rintro e w' ⟨rfl, rfl⟩)
        | (go_at_call 32; refine (rnums8 _ k pg ob tx cp ow (numB wv) n HOKN.out _ rfl).mono ?_; rintro e w2 ⟨A2, c2, rfl, ho2, hb2⟩; clear HBOX; have HO2 := Lib.hid (ho2.low (B' := w.heap.size + 1) (by have := HL1.out; simp at *; omega)); have HB2 := Lib.hid (HB1.out.trans (hb2.mono HB1.out.size)); have HR2 := Lib.hid ((hb2.block w.heap.size HL1.out).trans HR1.out); have HBOX : Hid (w2.cell? ⟨w.heap.size, 0, none⟩ = some (.int .i64 k) ∧ w2.cell? ⟨w.heap.size, 1, none⟩ = some (.int .i64 pg) ∧ w2.cell? ⟨w.heap.size, 2, none⟩ = some (.int .i64 ob) ∧ w2.cell? ⟨w.heap.size, 3, none⟩ = some (.int .i64 tx) ∧ w2.cell? ⟨w.heap.size, 4, none⟩ = some (.int .i64 cp) ∧ w2.cell? ⟨w.heap.size, 5, none⟩ = some (.int .i64 ow) ∧ w2.cell? ⟨w.heap.size, 6, none⟩ = some (.bool wv) ∧ w2.cell? ⟨w.heap.size, 7, none⟩ = some (.slice A n c)) := (by obtain ⟨y0, y1, y2, y3, y4, y5, y6, y7, y8, y9, y10, y11, yz⟩ := row12 HR2.out; exact ⟨y0, y1, y2, y3, y4, y5, y6, y7⟩); clear ho2 hb2))
    all_goals
      rename_i hh
      clear hh HBOX x0 x1 x2 x3 x4 x5 x6 x7 x8 x9 x10 x11 xz
      obtain ⟨x0, x1, x2, x3, x4, x5, x6, x7, x8, x9, x10, x11, xz⟩ := row12 HR2.out
      go_wp2_with fail
      clear x0 x1 x2 x3 x4 x5 x6 x7 x8 x9 x10 x11 xz HR1 HB1 HL1
      obtain ⟨hd, hhd⟩ : ∃ hd, hd = numsB (headM k pg ob tx cp ow wv n) := ⟨_, rfl⟩
      have HHD := Lib.hid hhd
      have hP3 : hd.length = 24 := by rw [hhd, numsB_length]; rfl
      have HP3 := Lib.hid hP3
      replace HO2 : Hid (Ow 5 g8 w2 (w.heap.size + 1) A2 hd c2) := by rw [hhd]; exact HO2
      clear hhd hP3
      go_loopw [4, 40] (fun b i wr => ∃ (j : Nat) (A' : Option Addr) (c' : Nat), j ≤ n ∧ i = .int .i64 j ∧ b = .slice A' (24 + 22 * j) c' ∧ Hid (Ow 5 g8 wr (w.heap.size + 1) A' (hd ++ putsB (ps.take j)) c') ∧ Hid (Below w.heap.size w wr) ∧ Hid (wr.heap[w.heap.size]? = some (.cells #[.int .i64 k, .int .i64 pg, .int .i64 ob, .int .i64 tx, .int .i64 cp, .int .i64 ow, .bool wv, .slice A n c, .complex .f64 a0 b0, .complex .f64 a1 b1, .complex .f64 a2 b2, .complex .f64 a3 b3] 30))) (fun _ i _ => n - (intOf i).toNat)
      case atStart => exact ⟨0, A2, c2, Nat.zero_le _, rfl, rfl, by simpa [putsB] using HO2, HB2, HR2⟩
      case round =>
        obtain ⟨j, Aj, cj, hj, rfl, rfl, hoj, hbj, hrj⟩ := hrel
        clear HO2 HB2 HR2
        by_cases hlt : j < n
        · obtain ⟨p, hp⟩ := get_some ps j (by have := HN.out; omega)
          have HTK := Lib.hid (get_row hp)
          rcases HPT.out with ⟨-, -, e⟩ | ⟨bq, rfl, -, hrd⟩
          · exfalso; have := HN.out; subst e; simp at this; omega
          · obtain ⟨y0, y1, y2⟩ := hrd.below hbj.out j p hp
            obtain ⟨q1, q2, q3, q4⟩ := HSM.out p (List.mem_of_getElem? hp)
            have hw64 := HW64.out p (List.mem_of_getElem? hp)
            have HVP := Lib.hid (rvalue_c p.re p.im hw64.1 hw64.2)
            have HOK2 : Hid (okN [p.pg, p.ob] = true) := by unfold Hid okN; simp; omega
            have hlj : (putsB (ps.take j)).length = 22 * j := by rw [putsB_length, List.length_take]; have := HN.out; omega
            have HLJ := Lib.hid hlj
            have HPB := Lib.hid (put1_length p)
            have hpre : hd ++ putsB (ps.take (j + 1)) = hd ++ putsB (ps.take j) ++ numsB [p.pg, p.ob] ++ valB p.re p.im := by
              rw [get_row hp, putsB_snoc]; unfold put1; simp
            have HPRE := Lib.hid hpre
            clear q1 q2 q3 q4 hw64 hrd hp hlj hpre
            obtain ⟨l1, hl1⟩ : ∃ l1, hd ++ putsB (ps.take j) = l1 := ⟨_, rfl⟩
            rw [hl1] at hoj HPRE
            have hl1n : l1.length = 24 + 22 * j := by rw [← hl1, List.length_append, HP3.out, HLJ.out]
            have HL1N := Lib.hid hl1n
            clear hl1 hl1n
            have hw := (Below.refl wr.heap.size wr).alloc (Nat.le_refl _) (.cells #[.int .i64 p.pg, .int .i64 p.ob, .complex .f64 p.re p.im] 53)
            have hrow := heap_alloc_new wr (.cells #[.int .i64 p.pg, .int .i64 p.ob, .complex .f64 p.re p.im] 53)
            have HJL : Hid (∀ q, (Value.slice Aj l1.length cj).ownBlock = some q → w.heap.size + 1 ≤ q ∧ q < wr.heap.size) := hoj.out.block
            have HJS : Hid (w.heap.size < wr.heap.size) := lt_of_row (Nat.le_refl _) hrj.out
            go_upto_region 7 with fail
            generalize wr.alloc (.cells #[.int .i64 p.pg, .int .i64 p.ob, .complex .f64 p.re p.im] 53) = W3 at *
            obtain ⟨x0, x1, x2, xz⟩ := row3 hrow
            go_wp2_with fail
            refine (rnums2 _ p.pg p.ob HOK2.out W3 rfl).mono ?_; rintro e w4 ⟨A4, c4, rfl, ho4, hb4⟩
            have HX4 := Lib.hid ho4.rd
            have HN4 := Lib.hid ho4.nil_cap
            have hb34 : Below wr.heap.size wr w4 := hw.trans (hb4.mono hw.size)
            have HOJ4 := Lib.hid (hoj.out.below hb34)
            have HBJ4 := Lib.hid (hbj.out.trans (hb34.mono hbj.out.size))
            have HRJ4 := Lib.hid ((hb34.block w.heap.size HJS.out).trans hrj.out)
            have HROW4 := Lib.hid ((hb4.block wr.heap.size (lt_of_row (Nat.le_refl _) hrow)).trans hrow)
            have HS4 : Hid (wr.heap.size < w4.heap.size) := lt_of_row (Nat.le_refl _) HROW4.out
            have HNL : Hid ((numsB [p.pg, p.ob]).length = 6) := by unfold Hid; rw [numsB_length]; rfl
            have HVL := Lib.hid (valB_length p.re p.im)
            clear ho4 hb4 hb34 hw hrow x0 x1 x2 xz y0 y1 y2 hoj hbj hrj
            go_wp2_with (at_builtin; refine app8 rfl _ _ rfl l1 (numsB [p.pg, p.ob]) HOJ4.out (by rw [HL1N.out]; rfl) A4 c4 HX4.out (by rw [HNL.out]; rfl) HN4.out (by rw [HL1N.out, HNL.out]; omega) (by have := HS4.out; have := HJS.out; omega) ?_)
            intro A5 c5 w5 ho5 hg5
            have hrow5 := (hg5.block wr.heap.size HS4.out (fun e => by have := (HJL.out _ e.symm).2; omega)).trans HROW4.out
            have HRJ5 := Lib.hid ((hg5.block w.heap.size (by have := HS4.out; have := HJS.out; omega) (fun e => by have := (HJL.out _ e.symm).1; omega)).trans HRJ4.out)
            have HO5 := Lib.hid ho5
            have HB5 := Lib.hid (HBJ4.out.grown hg5 HBJ4.out.size (fun q hq => by have := (HJL.out q hq).1; omega))
            have HS5 : Hid (wr.heap.size < w5.heap.size) := lt_of_row (Nat.le_refl _) hrow5
            have HOL5 : Hid (∀ m q, (Value.slice A5 m c5).ownBlock = some q → w.heap.size + 1 ≤ q ∧ q < w5.heap.size) := own_any ho5
            have hlen : l1.length + (numsB [p.pg, p.ob]).length = 24 + 22 * j + 6 := by rw [HL1N.out, HNL.out]
            have HLA : Hid ((l1 ++ numsB [p.pg, p.ob]).length = 24 + 22 * j + 6) := by unfold Hid; rw [List.length_append, hlen]
            rw [hlen]
            obtain ⟨x0, x1, x2, xz⟩ := row3 hrow5
            clear ho5 hg5 hrow5 hlen HOJ4 HBJ4 HRJ4 HROW4 HX4 HN4
            go_wp2_with fail
            refine (HVP.out w5).mono ?_; rintro e w6 ⟨A6, c6, rfl, ho6, hb6⟩
            have HX6 := Lib.hid ho6.rd
            have HN6 := Lib.hid ho6.nil_cap
            have HO6 := Lib.hid (HO5.out.below hb6)
            have HB6 := Lib.hid (HB5.out.trans (hb6.mono HB5.out.size))
            have HRJ6 := Lib.hid ((hb6.block w.heap.size (by have := HS5.out; have := HJS.out; omega)).trans HRJ5.out)
            have HS6 : Hid (w.heap.size < w6.heap.size) := lt_of_row (Nat.le_refl _) HRJ6.out
            clear ho6 hb6 x0 x1 x2 xz HO5 HB5 HRJ5
            go_wp2_with (at_builtin; refine app8 rfl _ _ rfl (l1 ++ numsB [p.pg, p.ob]) (valB p.re p.im) HO6.out (by rw [HLA.out]; rfl) A6 c6 HX6.out (by rw [HVL.out]; rfl) HN6.out (by rw [HLA.out, HVL.out]; omega) (by have := HS6.out; omega) ?_)
            intro A7 c7 w7 ho7 hg7
            have HRJ7 := Lib.hid ((hg7.block w.heap.size HS6.out (fun e => by have := (HOL5.out _ _ e.symm).1; omega)).trans HRJ6.out)
            have HO7 := Lib.hid ho7
            have HB7 := Lib.hid (HB6.out.grown hg7 HB6.out.size (fun q hq => by have := (HOL5.out _ q hq).1; omega))
            clear ho7 hg7
            go_wp2_with fail
            go_roundw
            case rel => exact ⟨j + 1, A7, c7, by omega, by simp, congrArg (fun q => Value.slice A7 q c7) (by first | (rw [HLA.out, HVL.out]; omega) | (have e1 := HLA.out; have e2 := HVL.out; simp at e1 ⊢; omega)), by rw [HPRE.out]; first | exact HO7 | (rw [List.append_assoc]; exact HO7), HB7, HRJ7⟩
            case measure => simp [intOf]; omega
        · have hje : j = n := by omega
          subst hje
          have hbuf : hd ++ putsB (ps.take j) = hd ++ putsB ps := by rw [List.take_of_length_le (by have := HN.out; omega)]
          rw [hbuf] at hoj
          obtain ⟨pr, hpr⟩ : ∃ pr, hd ++ putsB ps = pr := ⟨_, rfl⟩
          rw [hpr] at hoj
          have hprl : pr.length = 24 + 22 * j := by rw [← hpr, List.length_append, HP3.out, putsB_length, HN.out]
          have HPRL := Lib.hid hprl
          have HLP : Hid (L = pr ++ tailV k (a0, b0) (a1, b1) (a2, b2) (a3, b3)) := by unfold Hid; rw [HL.out, ← hpr, HHD.out]
          obtain ⟨x0, x1, x2, x3, x4, x5, x6, x7, x8, x9, x10, x11, xz⟩ := row12 hrj.out
          clear hbuf hpr hprl hlt hj
          by_cases k5 : k = 5
          · subst k5
            have HLE : Hid (L = pr ++ flatV [(a0, b0), (a1, b1), (a2, b2), (a3, b3)]) := HLP.out
            clear x0 x1 x2 x3 x4 x5 x6 x7 x8 x9 x10 x11 xz
            go_upto_region 12 with fail
            go_loopw [4, 10] (fun b i wr => ∃ (i' : Nat) (A' : Option Addr) (c' : Nat), i' ≤ 4 ∧ i = .int .i64 i' ∧ b = .slice A' (24 + 22 * j + 16 * i') c' ∧ Hid (Ow 5 g8 wr (w.heap.size + 1) A' (pr ++ flatV ([(a0, b0), (a1, b1), (a2, b2), (a3, b3)].take i')) c') ∧ Hid (Below w.heap.size w wr) ∧ Hid (wr.heap[w.heap.size]? = some (.cells #[.int .i64 5, .int .i64 pg, .int .i64 ob, .int .i64 tx, .int .i64 cp, .int .i64 ow, .bool wv, .slice A j c, .complex .f64 a0 b0, .complex .f64 a1 b1, .complex .f64 a2 b2, .complex .f64 a3 b3] 30))) (fun _ i _ => 4 - (intOf i).toNat)
            case atStart => exact ⟨0, Aj, cj, Nat.zero_le _, rfl, rfl, by simpa [flatV] using hoj, hbj, hrj⟩
            case round =>
              clear hoj hbj hrj
              obtain ⟨i, Ai, ci, hi, rfl, rfl, hoi, hbi, hri⟩ := hrel
              obtain ⟨x0, x1, x2, x3, x4, x5, x6, x7, x8, x9, x10, x11, xz⟩ := row12 hri.out
              by_cases hi4 : i < 4
              · obtain rfl | rfl | rfl | rfl : i = 0 ∨ i = 1 ∨ i = 2 ∨ i = 3 := by omega
                · have HTK : Hid (flatV ([(a0, b0), (a1, b1), (a2, b2), (a3, b3)].take (0 + 1)) = flatV ([(a0, b0), (a1, b1), (a2, b2), (a3, b3)].take 0) ++ valB a0 b0) := flatV_snoc ([(a0, b0), (a1, b1), (a2, b2), (a3, b3)].take 0) (a0, b0)
                  obtain ⟨bf, hbf⟩ : ∃ bf, pr ++ flatV ([(a0, b0), (a1, b1), (a2, b2), (a3, b3)].take 0) = bf := ⟨_, rfl⟩
                  have hbl : bf.length = 24 + 22 * j + 16 * 0 := by rw [← hbf, List.length_append, HPRL.out, flatV_length]; rfl
                  have HBL := Lib.hid hbl
                  have HBF := Lib.hid hbf
                  rw [hbf] at hoi
                  clear hbf hbl
                  have HIL : Hid (∀ m q, (Value.slice Ai m ci).ownBlock = some q → w.heap.size + 1 ≤ q ∧ q < wr.heap.size) := own_any hoi.out
                  have HIS : Hid (w.heap.size < wr.heap.size) := lt_of_row (Nat.le_refl _) hri.out
                  have HVL := Lib.hid (valB_length a0 b0)
                  go_wp2_with fail
                  refine (HV0.out wr).mono ?_; rintro e w6 ⟨A6, c6, rfl, ho6, hb6⟩
                  have HX6 := Lib.hid ho6.rd
                  have HN6 := Lib.hid ho6.nil_cap
                  have HO6 := Lib.hid (hoi.out.below hb6)
                  have HB6 := Lib.hid (hbi.out.trans (hb6.mono hbi.out.size))
                  have HRJ6 := Lib.hid ((hb6.block w.heap.size HIS.out).trans hri.out)
                  have HS6 : Hid (w.heap.size < w6.heap.size) := lt_of_row (Nat.le_refl _) HRJ6.out
                  have HSS : Hid (wr.heap.size ≤ w6.heap.size) := hb6.size
                  clear ho6 hb6 x0 x1 x2 x3 x4 x5 x6 x7 x8 x9 x10 x11 xz hoi hbi hri
                  go_wp2_with (at_builtin; refine app8 rfl _ _ rfl bf (valB a0 b0) HO6.out (by rw [HBL.out]; rfl) A6 c6 HX6.out (by rw [HVL.out]; rfl) HN6.out (by rw [HBL.out, HVL.out]; omega) (by have := HS6.out; omega) ?_)
                  intro A7 c7 w7 ho7 hg7
                  have HRJ7 := Lib.hid ((hg7.block w.heap.size HS6.out (fun e => by have := (HIL.out _ _ e.symm).1; omega)).trans HRJ6.out)
                  have HO7 := Lib.hid ho7
                  have HB7 := Lib.hid (HB6.out.grown hg7 HB6.out.size (fun q hq => by have := (HIL.out _ q hq).1; omega))
                  clear ho7 hg7
                  go_wp2_with fail
                  go_roundw
                  case rel => exact ⟨0 + 1, A7, c7, by omega, rfl, congrArg (fun q => Value.slice A7 q c7) (by first | (rw [HBL.out, HVL.out]) | (have e1 := HBL.out; have e2 := HVL.out; simp at e1 ⊢; omega)), by rw [HTK.out, ← List.append_assoc, HBF.out]; exact HO7, HB7, HRJ7⟩
                  case measure => simp [intOf]
                · have HTK : Hid (flatV ([(a0, b0), (a1, b1), (a2, b2), (a3, b3)].take (1 + 1)) = flatV ([(a0, b0), (a1, b1), (a2, b2), (a3, b3)].take 1) ++ valB a1 b1) := flatV_snoc ([(a0, b0), (a1, b1), (a2, b2), (a3, b3)].take 1) (a1, b1)
                  obtain ⟨bf, hbf⟩ : ∃ bf, pr ++ flatV ([(a0, b0), (a1, b1), (a2, b2), (a3, b3)].take 1) = bf := ⟨_, rfl⟩
                  have hbl : bf.length = 24 + 22 * j + 16 * 1 := by rw [← hbf, List.length_append, HPRL.out, flatV_length]; rfl
                  have HBL := Lib.hid hbl
                  have HBF := Lib.hid hbf
                  rw [hbf] at hoi
                  clear hbf hbl
                  have HIL : Hid (∀ m q, (Value.slice Ai m ci).ownBlock = some q → w.heap.size + 1 ≤ q ∧ q < wr.heap.size) := own_any hoi.out
                  have HIS : Hid (w.heap.size < wr.heap.size) := lt_of_row (Nat.le_refl _) hri.out
                  have HVL := Lib.hid (valB_length a1 b1)
                  go_wp2_with fail
                  refine (HV1.out wr).mono ?_; rintro e w6 ⟨A6, c6, rfl, ho6, hb6⟩
                  have HX6 := Lib.hid ho6.rd
                  have HN6 := Lib.hid ho6.nil_cap
                  have HO6 := Lib.hid (hoi.out.below hb6)
                  have HB6 := Lib.hid (hbi.out.trans (hb6.mono hbi.out.size))
                  have HRJ6 := Lib.hid ((hb6.block w.heap.size HIS.out).trans hri.out)
                  have HS6 : Hid (w.heap.size < w6.heap.size) := lt_of_row (Nat.le_refl _) HRJ6.out
                  have HSS : Hid (wr.heap.size ≤ w6.heap.size) := hb6.size
                  clear ho6 hb6 x0 x1 x2 x3 x4 x5 x6 x7 x8 x9 x10 x11 xz hoi hbi hri
                  go_wp2_with (at_builtin; refine app8 rfl _ _ rfl bf (valB a1 b1) HO6.out (by rw [HBL.out]; rfl) A6 c6 HX6.out (by rw [HVL.out]; rfl) HN6.out (by rw [HBL.out, HVL.out]; omega) (by have := HS6.out; omega) ?_)
                  intro A7 c7 w7 ho7 hg7
                  have HRJ7 := Lib.hid ((hg7.block w.heap.size HS6.out (fun e => by have := (HIL.out _ _ e.symm).1; omega)).trans HRJ6.out)
                  have HO7 := Lib.hid ho7
                  have HB7 := Lib.hid (HB6.out.grown hg7 HB6.out.size (fun q hq => by have := (HIL.out _ q hq).1; omega))
                  clear ho7 hg7
                  go_wp2_with fail
                  go_roundw
                  case rel => exact ⟨1 + 1, A7, c7, by omega, rfl, congrArg (fun q => Value.slice A7 q c7) (by first | (rw [HBL.out, HVL.out]) | (have e1 := HBL.out; have e2 := HVL.out; simp at e1 ⊢; omega)), by rw [HTK.out, ← List.append_assoc, HBF.out]; exact HO7, HB7, HRJ7⟩
                  case measure => simp [intOf]
                · have HTK : Hid (flatV ([(a0, b0), (a1, b1), (a2, b2), (a3, b3)].take (2 + 1)) = flatV ([(a0, b0), (a1, b1), (a2, b2), (a3, b3)].take 2) ++ valB a2 b2) := flatV_snoc ([(a0, b0), (a1, b1), (a2, b2), (a3, b3)].take 2) (a2, b2)
                  obtain ⟨bf, hbf⟩ : ∃ bf, pr ++ flatV ([(a0, b0), (a1, b1), (a2, b2), (a3, b3)].take 2) = bf := ⟨_, rfl⟩
                  have hbl : bf.length = 24 + 22 * j + 16 * 2 := by rw [← hbf, List.length_append, HPRL.out, flatV_length]; rfl
                  have HBL := Lib.hid hbl
                  have HBF := Lib.hid hbf
                  rw [hbf] at hoi
                  clear hbf hbl
                  have HIL : Hid (∀ m q, (Value.slice Ai m ci).ownBlock = some q → w.heap.size + 1 ≤ q ∧ q < wr.heap.size) := own_any hoi.out
                  have HIS : Hid (w.heap.size < wr.heap.size) := lt_of_row (Nat.le_refl _) hri.out
                  have HVL := Lib.hid (valB_length a2 b2)
                  go_wp2_with fail
                  refine (HV2.out wr).mono ?_; rintro e w6 ⟨A6, c6, rfl, ho6, hb6⟩
                  have HX6 := Lib.hid ho6.rd
                  have HN6 := Lib.hid ho6.nil_cap
                  have HO6 := Lib.hid (hoi.out.below hb6)
                  have HB6 := Lib.hid (hbi.out.trans (hb6.mono hbi.out.size))
                  have HRJ6 := Lib.hid ((hb6.block w.heap.size HIS.out).trans hri.out)
                  have HS6 : Hid (w.heap.size < w6.heap.size) := lt_of_row (Nat.le_refl _) HRJ6.out
                  have HSS : Hid (wr.heap.size ≤ w6.heap.size) := hb6.size
                  clear ho6 hb6 x0 x1 x2 x3 x4 x5 x6 x7 x8 x9 x10 x11 xz hoi hbi hri
                  go_wp2_with (at_builtin; refine app8 rfl _ _ rfl bf (valB a2 b2) HO6.out (by rw [HBL.out]; rfl) A6 c6 HX6.out (by rw [HVL.out]; rfl) HN6.out (by rw [HBL.out, HVL.out]; omega) (by have := HS6.out; omega) ?_)
                  intro A7 c7 w7 ho7 hg7
                  have HRJ7 := Lib.hid ((hg7.block w.heap.size HS6.out (fun e => by have := (HIL.out _ _ e.symm).1; omega)).trans HRJ6.out)
                  have HO7 := Lib.hid ho7
                  have HB7 := Lib.hid (HB6.out.grown hg7 HB6.out.size (fun q hq => by have := (HIL.out _ q hq).1; omega))
                  clear ho7 hg7
                  go_wp2_with fail
                  go_roundw
                  case rel => exact ⟨2 + 1, A7, c7, by omega, rfl, congrArg (fun q => Value.slice A7 q c7) (by first | (rw [HBL.out, HVL.out]) | (have e1 := HBL.out; have e2 := HVL.out; simp at e1 ⊢; omega)), by rw [HTK.out, ← List.append_assoc, HBF.out]; exact HO7, HB7, HRJ7⟩
                  case measure => simp [intOf]
                · have HTK : Hid (flatV ([(a0, b0), (a1, b1), (a2, b2), (a3, b3)].take (3 + 1)) = flatV ([(a0, b0), (a1, b1), (a2, b2), (a3, b3)].take 3) ++ valB a3 b3) := flatV_snoc ([(a0, b0), (a1, b1), (a2, b2), (a3, b3)].take 3) (a3, b3)
                  obtain ⟨bf, hbf⟩ : ∃ bf, pr ++ flatV ([(a0, b0), (a1, b1), (a2, b2), (a3, b3)].take 3) = bf := ⟨_, rfl⟩
                  have hbl : bf.length = 24 + 22 * j + 16 * 3 := by rw [← hbf, List.length_append, HPRL.out, flatV_length]; rfl
                  have HBL := Lib.hid hbl
                  have HBF := Lib.hid hbf
                  rw [hbf] at hoi
                  clear hbf hbl
                  have HIL : Hid (∀ m q, (Value.slice Ai m ci).ownBlock = some q → w.heap.size + 1 ≤ q ∧ q < wr.heap.size) := own_any hoi.out
                  have HIS : Hid (w.heap.size < wr.heap.size) := lt_of_row (Nat.le_refl _) hri.out
                  have HVL := Lib.hid (valB_length a3 b3)
                  go_wp2_with fail
                  refine (HV3.out wr).mono ?_; rintro e w6 ⟨A6, c6, rfl, ho6, hb6⟩
                  have HX6 := Lib.hid ho6.rd
                  have HN6 := Lib.hid ho6.nil_cap
                  have HO6 := Lib.hid (hoi.out.below hb6)
                  have HB6 := Lib.hid (hbi.out.trans (hb6.mono hbi.out.size))
                  have HRJ6 := Lib.hid ((hb6.block w.heap.size HIS.out).trans hri.out)
                  have HS6 : Hid (w.heap.size < w6.heap.size) := lt_of_row (Nat.le_refl _) HRJ6.out
                  have HSS : Hid (wr.heap.size ≤ w6.heap.size) := hb6.size
                  clear ho6 hb6 x0 x1 x2 x3 x4 x5 x6 x7 x8 x9 x10 x11 xz hoi hbi hri
                  go_wp2_with (at_builtin; refine app8 rfl _ _ rfl bf (valB a3 b3) HO6.out (by rw [HBL.out]; rfl) A6 c6 HX6.out (by rw [HVL.out]; rfl) HN6.out (by rw [HBL.out, HVL.out]; omega) (by have := HS6.out; omega) ?_)
                  intro A7 c7 w7 ho7 hg7
                  have HRJ7 := Lib.hid ((hg7.block w.heap.size HS6.out (fun e => by have := (HIL.out _ _ e.symm).1; omega)).trans HRJ6.out)
                  have HO7 := Lib.hid ho7
                  have HB7 := Lib.hid (HB6.out.grown hg7 HB6.out.size (fun q hq => by have := (HIL.out _ q hq).1; omega))
                  clear ho7 hg7
                  go_wp2_with fail
                  go_roundw
                  case rel => exact ⟨3 + 1, A7, c7, by omega, rfl, congrArg (fun q => Value.slice A7 q c7) (by first | (rw [HBL.out, HVL.out]) | (have e1 := HBL.out; have e2 := HVL.out; simp at e1 ⊢; omega)), by rw [HTK.out, ← List.append_assoc, HBF.out]; exact HO7, HB7, HRJ7⟩
                  case measure => simp [intOf]
              · obtain rfl : i = 4 := by omega
                have hlen : (pr ++ flatV ([(a0, b0), (a1, b1), (a2, b2), (a3, b3)].take 4)).length = 24 + 22 * j + 16 * 4 := by rw [List.length_append, HPRL.out, flatV_length]; rfl
                have HLN := Lib.hid hlen
                clear hlen
                have HOI : Hid (Ow 5 g8 wr (w.heap.size + 1) Ai (pr ++ flatV [(a0, b0), (a1, b1), (a2, b2), (a3, b3)]) ci) := hoi
                clear hoi
                go_wp2_with fail
                go_ret2
                exact ⟨Ai, ci, by rw [HLE.out, show (pr ++ flatV [(a0, b0), (a1, b1), (a2, b2), (a3, b3)]).length = 24 + 22 * j + 16 * 4 from HLN.out]; rfl, by rw [HLE.out]; exact HOI.out.low (Nat.le_succ _), hbi.out⟩
          · have f5 : ((k : Int) == 5) = false := by simp; omega
            have HLE : Hid (L = pr) := by unfold Hid; rw [HLP.out]; unfold tailV; rw [if_neg k5]; simp
            clear k5
            go_wp2_with fail
            go_loopw [4, 10] (fun b i wr' => b = .slice Aj (24 + 22 * j) cj ∧ i = .int .i64 0 ∧ wr' = wr) (fun _ _ _ => 0)
            case atStart => exact ⟨rfl, rfl, rfl⟩
            case round =>
              obtain ⟨rfl, rfl, rfl⟩ := hrel
              go_wp2_with fail
              go_ret2
              exact ⟨Aj, cj, by rw [HLE.out, HPRL.out]; rfl, by rw [HLE.out]; exact hoj.out.low (Nat.le_succ _), hbj.out⟩

end Go.Proofs.Ytbhjdapkhcgmlaa

import Derived.Test.YtbhjdapkhcgmlaaMrK
import Derived.Test.YtbhjdapkhcgmlaaMsgM
import Derived.Handy
import Derived.Deep.Cut
import Derived.Deep.RegionLaw
import Derived.Deep.RegionHeldLaw
import Derived.Deep.CutBlock
import Derived.Deep.CutRange

set_option linter.unusedSimpArgs false
set_option linter.unusedVariables false
set_option linter.unnecessarySimpa false

namespace Go.Proofs.Ytbhjdapkhcgmlaa
open Go.RowKit

attribute [local go_sem] run_store_complex

/-! The reference's Read of any bytes: the walk. -/

theorem rightM_long (k pg ob tx cp ow : Int) (wr : Bool) (ps : List PutV) (h : 24 < ps.length) : rightM k pg ob tx cp ow wr ps = false := by
  unfold rightM putsOk
  rw [show decide (ps.length ≤ 24) = false from decide_eq_false (by omega)]
  simp
/-- The row of a message with so many values. -/
def rowV (pre : List Value) (s2 : RState) (j : Nat) : Array Value := (pre ++ [if 0 < j then Value.complex .f64 (atV s2 0).1 (atV s2 0).2 else Value.complex .f64 0 0, if 1 < j then Value.complex .f64 (atV s2 1).1 (atV s2 1).2 else Value.complex .f64 0 0, if 2 < j then Value.complex .f64 (atV s2 2).1 (atV s2 2).2 else Value.complex .f64 0 0, if 3 < j then Value.complex .f64 (atV s2 3).1 (atV s2 3).2 else Value.complex .f64 0 0]).toArray
theorem rowV_set (v0 v1 v2 v3 v4 v5 v6 v7 : Value) (s2 : RState) (j : Nat) (hj : j < 4) : (rowV [v0, v1, v2, v3, v4, v5, v6, v7] s2 j).setIfInBounds (8 + j) (.complex .f64 (atV s2 j).1 (atV s2 j).2) = rowV [v0, v1, v2, v3, v4, v5, v6, v7] s2 (j + 1) := by
  obtain rfl | rfl | rfl | rfl : j = 0 ∨ j = 1 ∨ j = 2 ∨ j = 3 := by omega
  all_goals rfl
theorem rowV_at {w : World} {P : Nat} {T : TypeId} {v0 v1 v2 v3 v4 v5 v6 v7 : Value} {s2 : RState} {j i : Nat} (h : w.heap[P]? = some (.cells (rowV [v0, v1, v2, v3, v4, v5, v6, v7] s2 j) T (0, 0))) (hi : i < 4) : ∃ x y, w.cell? ⟨P, 8 + i, none⟩ = some (.complex .f64 x y) := by
  rw [cell_of_row w P (8 + i) _ _ _ h]
  obtain rfl | rfl | rfl | rfl : i = 0 ∨ i = 1 ∨ i = 2 ∨ i = 3 := by omega
  · by_cases hc : 0 < j
    · exact ⟨(atV s2 0).1, (atV s2 0).2, by simp [rowV, hc]⟩
    · exact ⟨0, 0, by simp [rowV, hc]⟩
  · by_cases hc : 1 < j
    · exact ⟨(atV s2 1).1, (atV s2 1).2, by simp [rowV, hc]⟩
    · exact ⟨0, 0, by simp [rowV, hc]⟩
  · by_cases hc : 2 < j
    · exact ⟨(atV s2 2).1, (atV s2 2).2, by simp [rowV, hc]⟩
    · exact ⟨0, 0, by simp [rowV, hc]⟩
  · by_cases hc : 3 < j
    · exact ⟨(atV s2 3).1, (atV s2 3).2, by simp [rowV, hc]⟩
    · exact ⟨0, 0, by simp [rowV, hc]⟩
theorem rowV_head {w : World} {P : Nat} {T : TypeId} {v0 v1 v2 v3 v4 v5 v6 v7 : Value} {s2 : RState} {j : Nat} (h : w.heap[P]? = some (.cells (rowV [v0, v1, v2, v3, v4, v5, v6, v7] s2 j) T (0, 0))) : w.cell? ⟨P, 0, none⟩ = some v0 ∧ ∀ i, w.frozen? ⟨P, i, none⟩ = false :=
  ⟨(cell_of_row w P 0 _ _ _ h).trans rfl, row_thawed h⟩

set_option maxRecDepth 1000000 in
set_option maxHeartbeats 16000000 in
theorem rread_c (A : Option Addr) (b : List UInt8) (n c : Nat) (w : World) (hx : Rd g8 w A b) (hxn : A = none → c = 0) (hxe : b.length = n) (hxc : n ≤ c) (hxc2 : c ≤ 9223372036854775807) (hxl : n ≤ 140737488355328) :
    Calls Try.prog 9 #[.slice A n c] w fun e w' => ∃ A' c', e = .returned (.tuple #[.agg (mcells (readRM b) A' c'), .int .i64 (readRE b)]) ∧ PutsAt w' A' c' (readRM b).ps ∧ Below w.heap.size w w' := by
  have HX := Lib.hid hx
  have HXE := Lib.hid hxe
  clear hx hxe
  go_enter Try.func9, Try.ntmps9
  go_upto_region 1 with fail
  have hb := (Below.refl w.heap.size w).alloc (Nat.le_refl _) (Obj.cells #[.int .i64 0, .int .i64 0, .int .i64 0, .int .i64 0, .int .i64 0, .int .i64 0, .bool false, .slice none 0 0, .complex .f64 0 0, .complex .f64 0 0, .complex .f64 0 0, .complex .f64 0 0] 30)
  have hz0 := heap_alloc_new w (Obj.cells #[.int .i64 0, .int .i64 0, .int .i64 0, .int .i64 0, .int .i64 0, .int .i64 0, .bool false, .slice none 0 0, .complex .f64 0 0, .complex .f64 0 0, .complex .f64 0 0, .complex .f64 0 0] 30)
  generalize w.alloc (Obj.cells #[.int .i64 0, .int .i64 0, .int .i64 0, .int .i64 0, .int .i64 0, .int .i64 0, .bool false, .slice none 0 0, .complex .f64 0 0, .complex .f64 0 0, .complex .f64 0 0, .complex .f64 0 0] 30) = W0 at *
  have HB := Lib.hid hb
  have HZ := Lib.hid hz0
  have HL0 : Hid (w.heap.size < W0.heap.size) := lt_of_row (Nat.le_refl _) hz0
  have HX0 := Lib.hid (HX.out.below hb)
  clear hb hz0
  by_cases hs : n < 24
  · have hg := refGet_no A n c 8 W0 (by omega)
    go_wp2_with fail
    refine hg.mono ?_; rintro e w1 ⟨rfl, rfl⟩
    clear hg
    obtain ⟨x0, x1, x2, x3, x4, x5, x6, x7, x8, x9, x10, x11, xz⟩ := row12 HZ.out
    go_upto_region 3 with fail
    go_cut [3] from 29 to 29 (fun e wx => e = .int .i64 101 ∧ Hid (wx.heap[w.heap.size]? = some (.cells #[.int .i64 0, .int .i64 0, .int .i64 0, .int .i64 0, .int .i64 0, .int .i64 0, .bool false, .slice none 0 0, .complex .f64 0 0, .complex .f64 0 0, .complex .f64 0 0, .complex .f64 0 0] 30)) ∧ Hid (Upto (fun j => j = w.heap.size) W0 wx))
    case first =>
      go_wp2_with fail
      go_meet
      case rel => exact ⟨rfl, sets12_row HZ.out (.int .i64 0) (.int .i64 0) (.int .i64 0) (.int .i64 0) (.int .i64 0) (.int .i64 0) (.bool false) (.slice none 0 0) (.complex .f64 0 0) (.complex .f64 0 0) (.complex .f64 0 0) (.complex .f64 0 0), upto12 _ _ _ _ _ _ _ _ _ _ _ _ _ _⟩
    case rest =>
      clear x0 x1 x2 x3 x4 x5 x6 x7 x8 x9 x10 x11 xz
      obtain ⟨rfl, h9, hu9⟩ := hcut
      replace h9 := h9.out
      replace hu9 := hu9.out
      obtain ⟨x0, x1, x2, x3, x4, x5, x6, x7, x8, x9, x10, x11, xz⟩ := row12 h9
      clear h9
      go_step
      go_step
      try simp only [Exit.inBlock, Exit.then]
      try simp +zetaDelta only [Exit.inBlock, Exit.then]
      refine bodyPost_ret (by simp [results, Try.results9, go_sem, x0, x1, x2, x3, x4, x5, x6, x7, x8, x9, x10, x11]; try rfl) rfl ?_
      obtain ⟨e1, e2⟩ := readR_no (rr_short (b := b) (by have := HXE.out; omega))
      rw [e1, e2]
      exact ⟨none, 0, rfl, .inl ⟨rfl, rfl, rfl⟩, HB.out.trans (hu9.below (B := w.heap.size) HB.out.size (fun k hk e => by omega))⟩
  · have hg := refGet_n A b c n 8 W0 HX0.out hxn (by have := HXE.out; omega) hxc2 (by decide) (by have := HXE.out; omega) (by have := HXE.out; omega) HXE.out
    have HG := Lib.hid hg
    clear hg
    go_wp2_with fail
    refine HG.out.mono ?_; rintro e w1 ⟨A1, c1, A2, c2, rfl, ho1, ho2, hb1⟩
    have hlen := ints3_length b 8
    have hbnd := ints3_bound b 8 (by have := HXE.out; omega)
    generalize hH : ints3 b 8 = hs8 at *
    obtain ⟨h0, h1, h2, h3, h4, h5, h6, h7, rfl⟩ := eight hlen
    have HH := Lib.hid hH
    have n0 := hbnd h0 (by simp)
    have n1 := hbnd h1 (by simp)
    have n2 := hbnd h2 (by simp)
    have n3 := hbnd h3 (by simp)
    have n4 := hbnd h4 (by simp)
    have n5 := hbnd h5 (by simp)
    have n7 := hbnd h7 (by simp)
    have HBD : Hid ((0 ≤ h0 ∧ h0 ≤ 16777215) ∧ (0 ≤ h1 ∧ h1 ≤ 16777215) ∧ (0 ≤ h2 ∧ h2 ≤ 16777215) ∧ (0 ≤ h3 ∧ h3 ≤ 16777215) ∧ (0 ≤ h4 ∧ h4 ≤ 16777215) ∧ (0 ≤ h5 ∧ h5 ≤ 16777215)) := ⟨n0, n1, n2, n3, n4, n5⟩
    obtain ⟨N7, rfl⟩ := Int.eq_ofNat_of_zero_le n7.1
    clear n0 n1 n2 n3 n4 n5 n7 hbnd hlen hH
    have hnb : n ≤ 140737488355328 := hxl
    have HNB := Lib.hid hnb
    have HN24 : Hid (¬ b.length < 24) := by unfold Hid; have := HXE.out; omega
    obtain ⟨q, rfl, hqb⟩ := ho1.at_some (by simp)
    have i0 := ho1.cell (j := 0) rfl
    have i1 := ho1.cell (j := 1) rfl
    have i2 := ho1.cell (j := 2) rfl
    have i3 := ho1.cell (j := 3) rfl
    have i4 := ho1.cell (j := 4) rfl
    have i5 := ho1.cell (j := 5) rfl
    have i6 := ho1.cell (j := 6) rfl
    have i7 := ho1.cell (j := 7) rfl
    have HQL : Hid (W0.heap.size ≤ q ∧ q < w1.heap.size) := ⟨hqb, World.block_lt_of_cell? w1 _ i0⟩
    have HO2 := Lib.hid ho2
    have HZ1 := Lib.hid ((hb1.block w.heap.size HL0.out).trans HZ.out)
    have HB1 := Lib.hid (HB.out.trans (hb1.mono HB.out.size))
    have HS1 : Hid (W0.heap.size ≤ w1.heap.size) := hb1.size
    clear ho1 ho2 hb1 hqb hxn hxc hxc2 hxl hs HZ HB HG HX0 hnb
    go_upto_region 4 with fail
    have hnq : w1.heap.size ≠ q := World.new_ne w1 _ i0
    go_region_held_law (fun W => W.cell? ⟨q, 0, none⟩ = some (g64 h0) ∧ W.cell? ⟨q, 1, none⟩ = some (g64 h1) ∧ W.cell? ⟨q, 2, none⟩ = some (g64 h2) ∧ W.cell? ⟨q, 3, none⟩ = some (g64 h3) ∧ W.cell? ⟨q, 4, none⟩ = some (g64 h4) ∧ W.cell? ⟨q, 5, none⟩ = some (g64 h5) ∧ W.cell? ⟨q, 6, none⟩ = some (g64 h6)) (go_keep) (fail)
    all_goals
      rename_i hh
      clear hh
      generalize hwv : (h6 != 0) = wv at *
      have HWV := Lib.hid hwv
      clear hwv
      have hbm := ((Below.refl w1.heap.size w1).alloc (Nat.le_refl _) (Obj.cells #[.int .i64 h0, .int .i64 h1, .int .i64 h2, .int .i64 h3, .int .i64 h4, .int .i64 h5, .bool wv, .slice none 0 0, .complex .f64 0 0, .complex .f64 0 0, .complex .f64 0 0, .complex .f64 0 0] 30)).drew
      have hp := row_drewI (heap_alloc_new w1 (Obj.cells #[.int .i64 h0, .int .i64 h1, .int .i64 h2, .int .i64 h3, .int .i64 h4, .int .i64 h5, .bool wv, .slice none 0 0, .complex .f64 0 0, .complex .f64 0 0, .complex .f64 0 0, .complex .f64 0 0] 30))
      have hsz : (w1.alloc (Obj.cells #[.int .i64 h0, .int .i64 h1, .int .i64 h2, .int .i64 h3, .int .i64 h4, .int .i64 h5, .bool wv, .slice none 0 0, .complex .f64 0 0, .complex .f64 0 0, .complex .f64 0 0, .complex .f64 0 0] 30)).drew.heap.size = w1.heap.size + 1 := by rw [heapDrew]; simp
      generalize (w1.alloc (Obj.cells #[.int .i64 h0, .int .i64 h1, .int .i64 h2, .int .i64 h3, .int .i64 h4, .int .i64 h5, .bool wv, .slice none 0 0, .complex .f64 0 0, .complex .f64 0 0, .complex .f64 0 0, .complex .f64 0 0] 30)).drew = W2 at *
      have HZ := Lib.hid ((hbm.block w.heap.size (by have := HL0.out; have := HS1.out; omega)).trans HZ1.out)
      have HQ7 := Lib.hid ((cell_below hbm i7).trans rfl)
      have HB := Lib.hid (HB1.out.trans (hbm.mono HB1.out.size))
      have HP := Lib.hid hp
      have HRP : Hid (w.heap.size < q ∧ q < w1.heap.size) := by have := HL0.out; have := HQL.out; unfold Hid; omega
      have HRB : Hid (RdB (KR w.heap.size w1.heap.size (.slice none 0 0)) W2 A2 c2 (b.drop (3 * 8))) := ((RdB.of_ow (K := fun j => j = w.heap.size) HO2.out (by rw [List.length_drop]; have := HXE.out; have := HNB.out; omega) (fun j e e2 => by have := HL0.out; omega)).widen (fun j hj hk => by
        rcases hk with e | e | e
        · exact e
        · omega
        · cases e)).below hbm
      have HNL : Hid ((b.drop (3 * 8)).length = n - 3 * 8) := by unfold Hid; rw [List.length_drop, HXE.out]
      have HSZ : Hid (w1.heap.size + 1 ≤ W2.heap.size) := Nat.le_of_eq hsz.symm
      clear i0 i1 i2 i3 i4 i5 i6 i7 hbm hsz hnq HL0 HZ1 HB1 HS1 HQL HO2
      generalize w1.heap.size = P at *
      clear hp
      go_upto_region 6 with fail
      go_loopw [5, 8] (fun r i wr => ∃ (k : Nat) (A' : Option Addr) (c' : Nat) (Ar : Option Addr) (cr nr : Nat), k ≤ min N7 25 ∧ i = .int .i64 k ∧ r = .slice Ar nr cr ∧ Hid ((putsX (b.drop 24, false) k).2.1.length = nr ∧ (putsX (b.drop 24, false) k).2.2 = false) ∧ Hid (RdB (KR w.heap.size P (.slice A' k c')) wr Ar cr (putsX (b.drop 24, false) k).2.1) ∧ Hid (wr.heap[P]? = some (.cells #[.int .i64 h0, .int .i64 h1, .int .i64 h2, .int .i64 h3, .int .i64 h4, .int .i64 h5, .bool wv, .slice A' k c', .complex .f64 0 0, .complex .f64 0 0, .complex .f64 0 0, .complex .f64 0 0] 30)) ∧ Hid (OwP wr (P + 1) A' k (putsX (b.drop 24, false) k).1 c' ∧ (k = 0 → A' = none)) ∧ Hid (wr.heap[w.heap.size]? = some (.cells #[.int .i64 0, .int .i64 0, .int .i64 0, .int .i64 0, .int .i64 0, .int .i64 0, .bool false, .slice none 0 0, .complex .f64 0 0, .complex .f64 0 0, .complex .f64 0 0, .complex .f64 0 0] 30)) ∧ Hid (wr.cell? ⟨q, 7, none⟩ = some (g64 N7)) ∧ Hid (Below w.heap.size w wr)) (fun _ i _ => 25 - (intOf i).toNat)
      case atStart => exact ⟨0, none, 0, A2, c2, n - 3 * 8, Nat.zero_le _, rfl, rfl, ⟨HNL.out, rfl⟩, HRB, HP, ⟨OwP.nil _ _, fun _ => rfl⟩, HZ, HQ7, HB⟩
      case round =>
        clear HRB HP HZ HQ7 HB HSZ HNL
        obtain ⟨k, A', c', Ar, cr, nr, hk, rfl, rfl, hnr, hrb, hp, ho, hz, hq7, hb⟩ := hrel
        have HPL := Lib.hid (Array.getElem?_eq_some_iff.1 hp.out).1
        have HOL := Lib.hid ho.out.1.lt
        have i7 := hq7.out
        by_cases k1 : k < N7
        · by_cases k2 : k < 25
          · go_upto_block 1 with fail
            go_cut [5, 8] from 53 to 95 (fun r i wx => i = .int .i64 k ∧ ∃ (A8 : Option Addr) (c8 : Nat) (Ar8 : Option Addr) (cr8 nr8 : Nat), r = .slice Ar8 nr8 cr8 ∧ Hid ((putsX (b.drop 24, false) (k + 1)).2.1.length = nr8 ∧ (putsX (b.drop 24, false) (k + 1)).2.2 = false) ∧ Hid (RdB (KR w.heap.size P (.slice A8 (k + 1) c8)) wx Ar8 cr8 (putsX (b.drop 24, false) (k + 1)).2.1) ∧ Hid (wx.heap[P]? = some (.cells #[.int .i64 h0, .int .i64 h1, .int .i64 h2, .int .i64 h3, .int .i64 h4, .int .i64 h5, .bool wv, .slice A8 (k + 1) c8, .complex .f64 0 0, .complex .f64 0 0, .complex .f64 0 0, .complex .f64 0 0] 30)) ∧ Hid (OwP wx (P + 1) A8 (k + 1) (putsX (b.drop 24, false) (k + 1)).1 c8 ∧ ((k + 1) = 0 → A8 = none)) ∧ Hid (wx.heap[w.heap.size]? = some (.cells #[.int .i64 0, .int .i64 0, .int .i64 0, .int .i64 0, .int .i64 0, .int .i64 0, .bool false, .slice none 0 0, .complex .f64 0 0, .complex .f64 0 0, .complex .f64 0 0, .complex .f64 0 0] 30)) ∧ Hid (wx.cell? ⟨q, 7, none⟩ = some (g64 N7)) ∧ Hid (Below w.heap.size w wx))
            case first =>
              have hst : (putsX (b.drop 24, false) k).2 = ((putsX (b.drop 24, false) k).2.1, false) := Prod.ext rfl hnr.out.2
              have hsk : putsX (b.drop 24, false) (k + 1) = ((putsX (b.drop 24, false) k).1 ++ [(stepX (putsX (b.drop 24, false) k).2).1], (stepX (putsX (b.drop 24, false) k).2).2) := rfl
              rw [hst] at hsk
              have hlen := hnr.out.1
              have hkm : k + 1 ≤ min ((ints3 b 8).getD 7 0).toNat 25 := by rw [HH.out]; show k + 1 ≤ min ((N7 : Int).toNat) 25; rw [Int.toNat_natCast]; omega
              have HKM := Lib.hid hkm
              clear hst hnr hkm
              generalize (putsX (b.drop 24, false) k).2.1 = l at *
              generalize hps : (putsX (b.drop 24, false) k).1 = ps at *
              have HLEN := Lib.hid hlen
              have HSK := Lib.hid hsk
              have hnr2 : nr ≤ 140737488355328 := by rw [← hlen]; exact hrb.out.len
              have HNR := Lib.hid hnr2
              clear hps hlen hsk hnr2
              by_cases hs6 : nr < 6
              · have HNO : Hid (readRO b = none) := rr_putsbad (k + 1) HKM.out (by rw [HSK.out]; exact step_short (by rw [HLEN.out]; exact hs6))
                have hg := refGet_no Ar nr cr 2 wr (by omega)
                have HZ := Lib.hid hz.out
                have HB := Lib.hid hb.out
                clear hp ho hz hq7 hb hrb
                go_wp2_with fail
                refine hg.mono ?_; rintro e w1 ⟨rfl, rfl⟩
                clear hg
                obtain ⟨x0, x1, x2, x3, x4, x5, x6, x7, x8, x9, x10, x11, xz⟩ := row12 HZ.out
                go_upto_region 10 with fail
                go_cut [3] from 72 to 72 (fun e wx => e = .int .i64 101 ∧ Hid (wx.heap[w.heap.size]? = some (.cells #[.int .i64 0, .int .i64 0, .int .i64 0, .int .i64 0, .int .i64 0, .int .i64 0, .bool false, .slice none 0 0, .complex .f64 0 0, .complex .f64 0 0, .complex .f64 0 0, .complex .f64 0 0] 30)) ∧ Hid (Upto (fun j => j = w.heap.size) wr wx))
                case first =>
                  go_wp2_with fail
                  go_meet
                  case rel => exact ⟨rfl, sets12_row HZ.out (.int .i64 0) (.int .i64 0) (.int .i64 0) (.int .i64 0) (.int .i64 0) (.int .i64 0) (.bool false) (.slice none 0 0) (.complex .f64 0 0) (.complex .f64 0 0) (.complex .f64 0 0) (.complex .f64 0 0), upto12 _ _ _ _ _ _ _ _ _ _ _ _ _ _⟩
                case rest =>
                  clear x0 x1 x2 x3 x4 x5 x6 x7 x8 x9 x10 x11 xz
                  obtain ⟨rfl, h9, hu9⟩ := hcut
                  replace h9 := h9.out
                  replace hu9 := hu9.out
                  obtain ⟨x0, x1, x2, x3, x4, x5, x6, x7, x8, x9, x10, x11, xz⟩ := row12 h9
                  clear h9
                  go_step
                  go_step
                  try simp only [Exit.inBlock, Exit.then]
                  try simp +zetaDelta only [Exit.inBlock, Exit.then]
                  refine bodyPost_ret (by simp [results, Try.results9, go_sem, x0, x1, x2, x3, x4, x5, x6, x7, x8, x9, x10, x11]; try rfl) rfl ?_
                  obtain ⟨e1, e2⟩ := readR_no (HNO.out)
                  rw [e1, e2]
                  exact ⟨none, 0, rfl, .inl ⟨rfl, rfl, rfl⟩, HB.out.trans (hu9.below (B := w.heap.size) HB.out.size (fun k hk e => by omega))⟩
              · have HG := Lib.hid (refGet_n Ar l cr nr 2 wr hrb.out.rd hrb.out.nil_cap hrb.out.le hrb.out.cap (by decide) (by rw [HLEN.out]; omega) hrb.out.len HLEN.out)
                have h6l : 6 ≤ l.length := by rw [HLEN.out]; omega
                have HL6 : Hid ((l.drop 6).length = nr - 6) := by unfold Hid; rw [List.length_drop, HLEN.out]
                go_wp2_with fail
                refine HG.out.mono ?_; rintro e w3 ⟨A3, c3, A4, c4, rfl, ho3, ho4, hb3⟩
                replace ho4 : Ow 5 g8 w3 wr.heap.size A4 (l.drop 6) c4 := ho4
                obtain ⟨x, y, exy⟩ := two (ints3_length l 2)
                have EXY := Lib.hid exy
                rw [exy] at ho3
                obtain ⟨qa, rfl, hqab⟩ := ho3.at_some (by simp)
                have i0 := ho3.cell (j := 0) rfl
                have i1 := ho3.cell (j := 1) rfl
                have HQAL : Hid (wr.heap.size ≤ qa ∧ qa < w3.heap.size) := ⟨hqab, World.block_lt_of_cell? w3 _ i0⟩
                have HO4 := Lib.hid ho4
                have HP3 := Lib.hid ((hb3.block P HPL.out).trans hp.out)
                have HZ3 := Lib.hid ((hb3.block w.heap.size (by have := HRP.out; have := HPL.out; omega)).trans hz.out)
                have HOP3 := Lib.hid (ho.out.1.below hb3)
                have HB3 := Lib.hid (hb.out.trans (hb3.mono hb.out.size))
                have HQ73 := Lib.hid (cell_below hb3 hq7.out)
                have HS3 : Hid (wr.heap.size ≤ w3.heap.size) := hb3.size
                clear ho3 ho4 hb3 hqab hrb hp ho hz hq7 hb exy i7 HG
                by_cases hg : 16 ≤ (l.drop 6).length ∧ valOk (l.drop 6) = true
                rotate_left
                · have HNO : Hid (readRO b = none) := rr_putsbad (k + 1) HKM.out (by rw [HSK.out]; exact step_noval h6l hg)
                  have HT := Lib.hid (rtake_n A4 (l.drop 6) (nr - 6) c4 w3 HO4.out.rd HO4.out.nil_cap HL6.out (by rw [← HL6.out]; exact HO4.out.le) HO4.out.cap (by have := HNR.out; omega) hg)
                  clear hg h6l
                  go_wp2_with fail
                  refine HT.out.mono ?_; rintro e w5 ⟨rfl, hb5⟩
                  have HZ := Lib.hid ((hb5.block w.heap.size (by have := HRP.out; have := HPL.out; have := HS3.out; omega)).trans HZ3.out)
                  have HB := Lib.hid (HB3.out.trans (hb5.mono HB3.out.size))
                  clear hb5 HT
                  obtain ⟨x0, x1, x2, x3, x4, x5, x6, x7, x8, x9, x10, x11, xz⟩ := row12 HZ.out
                  go_upto_region 13 with fail
                  go_cut [3] from 81 to 81 (fun e wx => e = .int .i64 101 ∧ Hid (wx.heap[w.heap.size]? = some (.cells #[.int .i64 0, .int .i64 0, .int .i64 0, .int .i64 0, .int .i64 0, .int .i64 0, .bool false, .slice none 0 0, .complex .f64 0 0, .complex .f64 0 0, .complex .f64 0 0, .complex .f64 0 0] 30)) ∧ Hid (Upto (fun j => j = w.heap.size) w5 wx))
                  case first =>
                    go_wp2_with fail
                    go_meet
                    case rel => exact ⟨rfl, sets12_row HZ.out (.int .i64 0) (.int .i64 0) (.int .i64 0) (.int .i64 0) (.int .i64 0) (.int .i64 0) (.bool false) (.slice none 0 0) (.complex .f64 0 0) (.complex .f64 0 0) (.complex .f64 0 0) (.complex .f64 0 0), upto12 _ _ _ _ _ _ _ _ _ _ _ _ _ _⟩
                  case rest =>
                    clear x0 x1 x2 x3 x4 x5 x6 x7 x8 x9 x10 x11 xz
                    obtain ⟨rfl, h9, hu9⟩ := hcut
                    replace h9 := h9.out
                    replace hu9 := hu9.out
                    obtain ⟨x0, x1, x2, x3, x4, x5, x6, x7, x8, x9, x10, x11, xz⟩ := row12 h9
                    clear h9
                    go_step
                    go_step
                    try simp only [Exit.inBlock, Exit.then]
                    try simp +zetaDelta only [Exit.inBlock, Exit.then]
                    refine bodyPost_ret (by simp [results, Try.results9, go_sem, x0, x1, x2, x3, x4, x5, x6, x7, x8, x9, x10, x11]; try rfl) rfl ?_
                    obtain ⟨e1, e2⟩ := readR_no (HNO.out)
                    rw [e1, e2]
                    exact ⟨none, 0, rfl, .inl ⟨rfl, rfl, rfl⟩, HB.out.trans (hu9.below (B := w.heap.size) HB.out.size (fun k hk e => by omega))⟩
                · have HT := Lib.hid (rtake_y A4 (l.drop 6) (nr - 6) c4 w3 HO4.out.rd HO4.out.nil_cap HL6.out (by rw [← HL6.out]; exact HO4.out.le) HO4.out.cap (by have := HNR.out; omega) (by rw [← HL6.out]; exact hg.1) hg.2)
                  have HSTEP := Lib.hid (step_good h6l hg.1 hg.2)
                  have HL22 : Hid (((l.drop 6).drop 16).length = nr - 6 - 16) := by unfold Hid; rw [List.length_drop, HL6.out]
                  clear hg h6l
                  go_wp2_with fail
                  refine HT.out.mono ?_; rintro e w5 ⟨A5, c5, rfl, ho5, hb5⟩
                  have h35 := HS3.out
                  have h5s := hb5.size
                  have HP5 := Lib.hid ((hb5.block P (by have := HPL.out; omega)).trans HP3.out)
                  have HZ5 := Lib.hid ((hb5.block w.heap.size (by have := HRP.out; have := HPL.out; omega)).trans HZ3.out)
                  have HOP5 : Hid (OwP w5.drew (P + 1) A' k ps c') := (HOP3.out.below hb5).below (Below.refl _ _).drew
                  have HB5 := Lib.hid (HB3.out.trans (hb5.mono HB3.out.size))
                  have HQ75 := Lib.hid (cell_below hb5 HQ73.out)
                  have HRB5 : Hid (RdB (KR w.heap.size P (.slice A' k c')) w5.drew A5 c5 ((l.drop 6).drop 16)) := (RdB.of_ow ho5 (by rw [HL22.out]; have := HNR.out; omega) (fun j e e2 => by
                    have h1 := HRP.out
                    have h2 := HPL.out
                    rcases e2 with e2 | e2 | e2
                    · omega
                    · omega
                    · have := (HOL.out j e2).2; omega)).below (Below.refl _ _).drew
                  have y7 := (cell_of_row w5 P 7 _ _ _ HP5.out).trans rfl
                  have q0 := cell_below hb5 i0
                  have q1 := cell_below hb5 i1
                  have HPL5 : Hid (P < w5.heap.size) := by have := HPL.out; unfold Hid; omega
                  have HQL5 : Hid (wr.heap.size ≤ qa ∧ qa < w5.heap.size) := by have := HQAL.out; unfold Hid; omega
                  generalize reB (l.drop 6) = re at *
                  generalize imB (l.drop 6) = im at *
                  clear ho5 hb5 i0 i1 h35 h5s HT HO4 HP3 HZ3 HOP3 HB3 HQ73 HQAL
                  obtain ⟨t0, hti, hz0, hz1, hz2⟩ := info_parts infoP
                  have HTI := Lib.hid hti
                  clear hti
                  have HEQ : Hid ((w5.alloc (.cells #[.int .i64 x, .int .i64 y, .complex .f64 re im] 53)).drew = w5.drew.alloc (.cells #[.int .i64 x, .int .i64 y, .complex .f64 re im] 53)) := rfl
                  have HSEV : Hid (∀ w7 : World, (w5.alloc (.cells #[.int .i64 x, .int .i64 y, .complex .f64 re im] 53)).drew.grownBy w7 (Value.slice A' k c').ownBlock →
                      w7.cell? ⟨P, 7, none⟩ = some (.slice A' k c') ∧ w7.frozen? ⟨P, 7, none⟩ = false ∧ w7.cell? ⟨q, 7, none⟩ = some (g64 N7)) := by
                    intro w7 hg7
                    rw [HEQ.out] at hg7
                    have hal := (Below.refl w5.drew.heap.size w5.drew).alloc (Nat.le_refl _) (.cells #[.int .i64 x, .int .i64 y, .complex .f64 re im] 53)
                    have hp7 := (hg7.block P (Nat.lt_of_lt_of_le HPL5.out hal.size) (fun e => by have := (HOL.out P e.symm).1; omega)).trans ((hal.block P HPL5.out).trans HP5.out)
                    have p7 := (cell_of_row w7 P 7 _ _ _ hp7).trans rfl
                    have q7 := (hg7.cell_far ⟨q, 7, none⟩ (Nat.lt_of_lt_of_le (by have := HPL5.out; have := HRP.out; show q < _; rw [heapDrew]; omega) hal.size) (fun e => by have := (HOL.out q e.symm).1; have := HRP.out; omega)).trans (cell_alloc _ (show w5.drew.cell? ⟨q, 7, none⟩ = _ from HQ75.out))
                    exact ⟨p7, row_thawed hp7 7, q7⟩
                  have HAPP : Hid ((w5.alloc (.cells #[.int .i64 x, .int .i64 y, .complex .f64 re im] 53)).drew.ownsRow (P + 1) 53 3 (.slice A' k c') k (pcells ps) ∧ P + 1 ≤ (w5.alloc (.cells #[.int .i64 x, .int .i64 y, .complex .f64 re im] 53)).drew.heap.size) := by
                    rw [HEQ.out]
                    have hal := (Below.refl w5.drew.heap.size w5.drew).alloc (Nat.le_refl _) (.cells #[.int .i64 x, .int .i64 y, .complex .f64 re im] 53)
                    exact ⟨HOP5.out.below hal, Nat.le_trans HPL5.out hal.size⟩
                  have y7a := fun o => cell_alloc o y7
                  go_upto_region 15 with fail
                  go_region_law ((refine step_append_lies _ (by rfl) _ _ _ (by rfl) (P + 1) 53 t0 _ 3 32 Try.underlying26 HTI.out hz0 hz1 hz2 rfl (by decide) (.slice A' k c') k (pcells ps) (by rfl) HAPP.out.1 ⟨w5.heap.size, 0, none⟩ 1 1 [.int .i64 x, .int .i64 y, .complex .f64 re im] (by rfl) rfl (World.news_of_block (row_drewI (heap_alloc_new w5 _))) (one_put ⟨x, y, re, im⟩) (by decide) (by simp only [maxLen]; omega) (by omega) HAPP.out.2 _ rfl ?_; intro g cap w7 ho7 hg7 hat7 hlt7; have H7 := HSEV.out w7 hg7; have p7 := H7.1; have z7 := H7.2.1; have Q7 := Lib.hid H7.2.2; have HO7 := Lib.hid ho7; have HG7 := Lib.hid hg7; have HAT7 := Lib.hid hat7; clear ho7 hg7 hat7 hlt7 H7))
                  all_goals
                    have hg7 := HG7.out
                    have hat7 := HAT7.out
                    rw [HEQ.out] at hg7 hat7
                    have HF := put_finR (p := ⟨x, y, re, im⟩) (by have := HRP.out; omega) HB5.out.drew HRB5.out HP5.out HZ5.out HOP5.out HO7.out hg7 hat7
                    clear hg7 hat7
                    have HFH := Lib.hid HF
                    have hgP : g ≠ P := fun e => by
                      have h1 := (World.ownsRow.lt HO7.out) g rfl
                      omega
                    have HQF : Hid ((w7.setCell ⟨P, 7, none⟩ (.slice (some ⟨g, 0, none⟩) (k + 1) cap)).cell? ⟨q, 7, none⟩ = some (g64 N7)) := (((Upto.refl (fun j => j = P) w7).setCell (p := ⟨P, 7, none⟩) rfl (.slice (some ⟨g, 0, none⟩) (k + 1) cap)).cell (p := ⟨q, 7, none⟩) (World.block_lt_of_cell? w7 _ Q7.out) (by have := HRP.out; show ¬ q = P; omega)).trans Q7.out
                    clear HF HO7 HG7 HAT7 HSEV HAPP
                    go_wp2_with fail
                    go_meet
                    case rel => exact ⟨rfl, some ⟨g, 0, none⟩, cap, A5, c5, nr - 6 - 16, rfl, ⟨by rw [HSK.out, HSTEP.out]; exact HL22.out, by rw [HSK.out, HSTEP.out]⟩, by rw [HSK.out, HSTEP.out]; exact HFH.out.1, HFH.out.2.1, ⟨by rw [HSK.out, HSTEP.out, EXY.out]; exact HFH.out.2.2.1, fun e => absurd e (by omega)⟩, HFH.out.2.2.2.1, HQF, HFH.out.2.2.2.2⟩
            case rest =>
              clear hrb hp ho hz hq7 hb hnr HPL HOL i7
              obtain ⟨rfl, A8, c8, Ar8, cr8, nr8, rfl, r1, r2, r3, r4, r5, r6, r7⟩ := hcut
              go_wp2_with fail
              go_roundw
              case rel => exact ⟨k + 1, A8, c8, Ar8, cr8, nr8, by omega, by simp, rfl, r1, r2, r3, r4, r5, r6, r7⟩
              case measure => simp [intOf]; omega
          · have hke : min N7 25 = k := by omega
            have HKE : Hid (putsR b = putsX (b.drop 24, false) k) := by unfold Hid putsR; rw [HH.out]; show putsX (b.drop 24, false) (min ((N7 : Int).toNat) 25) = _; rw [Int.toNat_natCast, hke]
            have HPF := Lib.hid hp.out
            have HO := Lib.hid ho.out
            have HZ := Lib.hid hz.out
            have HB := Lib.hid hb.out
            obtain ⟨s2, hs2⟩ : ∃ s2, (putsX (b.drop 24, false) k).2 = s2 := ⟨_, rfl⟩
            rw [hs2] at hnr hrb
            have HS2 := Lib.hid hs2
            have HQR := Lib.hid hrb.out
            have HNR := Lib.hid hnr.out
            clear hs2 hp ho hz hb hrb hnr hke
            by_cases k5 : h0 = 5
            · subst k5
              have HBODY : Hid (bodyB b = (⟨5, h1, h2, h3, h4, h5, wv, (putsX (b.drop 24, false) k).1, atV s2 0, atV s2 1, atV s2 2, atV s2 3⟩, afterV s2 4)) := by unfold Hid bodyB; rw [HH.out, HKE.out, ← HWV.out, ← HS2.out]; rfl
              have HK5 : Hid ((ints3 b 8).getD 0 0 = 5) := by unfold Hid; rw [HH.out]; rfl
              have HS2R : Hid ((putsR b).2 = s2) := by unfold Hid; rw [HKE.out, HS2.out]
              clear HPL HOL
              go_upto_region 17 with fail
              go_loopw [5, 15] (fun r i wr => ∃ (j : Nat) (Ar : Option Addr) (cr nr : Nat), j ≤ 4 ∧ i = .int .i64 j ∧ r = .slice Ar nr cr ∧ Hid ((afterV s2 j).1.length = nr ∧ (afterV s2 j).2 = false) ∧ Hid (RdB (KR w.heap.size P (.slice A' k c')) wr Ar cr (afterV s2 j).1) ∧ Hid (wr.heap[P]? = some (.cells (rowV [.int .i64 5, .int .i64 h1, .int .i64 h2, .int .i64 h3, .int .i64 h4, .int .i64 h5, .bool wv, .slice A' k c'] s2 j) 30)) ∧ Hid (OwP wr (P + 1) A' k (putsX (b.drop 24, false) k).1 c' ∧ (k = 0 → A' = none)) ∧ Hid (wr.heap[w.heap.size]? = some (.cells #[.int .i64 0, .int .i64 0, .int .i64 0, .int .i64 0, .int .i64 0, .int .i64 0, .bool false, .slice none 0 0, .complex .f64 0 0, .complex .f64 0 0, .complex .f64 0 0, .complex .f64 0 0] 30)) ∧ Hid (Below w.heap.size w wr)) (fun _ i _ => 4 - (intOf i).toNat)
              case atStart => exact ⟨0, _, _, _, Nat.zero_le _, rfl, rfl, HNR, HQR, HPF, HO, HZ, HB⟩
              case round =>
                clear HPF HO HZ HB HQR HNR
                obtain ⟨j, Ar, cr, nr, hj, rfl, rfl, hnr, hrb, hp, ho, hz, hb⟩ := hrel
                have HPL := Lib.hid (Array.getElem?_eq_some_iff.1 hp.out).1
                have HOL := Lib.hid ho.out.1.lt
                by_cases hlt : j < 4
                · have hst : afterV s2 j = ((afterV s2 j).1, false) := Prod.ext rfl hnr.out.2
                  have hsk : afterV s2 (j + 1) = (valX ((afterV s2 j).1, false)).2 := by rw [← hst]; rfl
                  have hsa : atV s2 j = (valX ((afterV s2 j).1, false)).1 := by rw [← hst]; rfl
                  have hlen := hnr.out.1
                  generalize (afterV s2 j).1 = l at *
                  have hnr2 : nr ≤ 140737488355328 := by rw [← hlen]; exact hrb.out.len
                  have hle := hrb.out.le
                  rw [hlen] at hle
                  have HSK := Lib.hid hsk
                  have HSA := Lib.hid hsa
                  have HLEN := Lib.hid hlen
                  obtain ⟨y0, yz⟩ := rowV_head hp.out
                  by_cases hg : 16 ≤ l.length ∧ valOk l = true
                  rotate_left
                  · have HNO : Hid (readRO b = none) := rr_valbad HK5.out (j + 1) (by omega) (by rw [HS2R.out, HSK.out]; exact val_bad hg)
                    have HT := Lib.hid (rtake_n Ar l nr cr wr hrb.out.rd hrb.out.nil_cap hlen hle hrb.out.cap hnr2 hg)
                    clear hst hsk hsa hlen hnr hrb hg hnr2 hle
                    go_wp2_with fail
                    refine HT.out.mono ?_; rintro e w5 ⟨rfl, hb5⟩
                    have HZ := Lib.hid ((hb5.block w.heap.size (by have := HRP.out; have := HPL.out; omega)).trans hz.out)
                    have HB := Lib.hid (hb.out.trans (hb5.mono hb.out.size))
                    clear hb5 HT y0 yz hp ho hz hb
                    obtain ⟨x0, x1, x2, x3, x4, x5, x6, x7, x8, x9, x10, x11, xz⟩ := row12 HZ.out
                    go_upto_region 21 with fail
                    go_cut [3] from 113 to 113 (fun e wx => e = .int .i64 101 ∧ Hid (wx.heap[w.heap.size]? = some (.cells #[.int .i64 0, .int .i64 0, .int .i64 0, .int .i64 0, .int .i64 0, .int .i64 0, .bool false, .slice none 0 0, .complex .f64 0 0, .complex .f64 0 0, .complex .f64 0 0, .complex .f64 0 0] 30)) ∧ Hid (Upto (fun j => j = w.heap.size) w5 wx))
                    case first =>
                      go_wp2_with fail
                      go_meet
                      case rel => exact ⟨rfl, sets12_row HZ.out (.int .i64 0) (.int .i64 0) (.int .i64 0) (.int .i64 0) (.int .i64 0) (.int .i64 0) (.bool false) (.slice none 0 0) (.complex .f64 0 0) (.complex .f64 0 0) (.complex .f64 0 0) (.complex .f64 0 0), upto12 _ _ _ _ _ _ _ _ _ _ _ _ _ _⟩
                    case rest =>
                      clear x0 x1 x2 x3 x4 x5 x6 x7 x8 x9 x10 x11 xz
                      obtain ⟨rfl, h9, hu9⟩ := hcut
                      replace h9 := h9.out
                      replace hu9 := hu9.out
                      obtain ⟨x0, x1, x2, x3, x4, x5, x6, x7, x8, x9, x10, x11, xz⟩ := row12 h9
                      clear h9
                      go_step
                      go_step
                      try simp only [Exit.inBlock, Exit.then]
                      try simp +zetaDelta only [Exit.inBlock, Exit.then]
                      refine bodyPost_ret (by simp [results, Try.results9, go_sem, x0, x1, x2, x3, x4, x5, x6, x7, x8, x9, x10, x11]; try rfl) rfl ?_
                      obtain ⟨e1, e2⟩ := readR_no (HNO.out)
                      rw [e1, e2]
                      exact ⟨none, 0, rfl, .inl ⟨rfl, rfl, rfl⟩, HB.out.trans (hu9.below (B := w.heap.size) HB.out.size (fun k hk e => by omega))⟩
                  have HT := Lib.hid (rtake_y Ar l nr cr wr hrb.out.rd hrb.out.nil_cap hlen hle hrb.out.cap hnr2 (by rw [← hlen]; exact hg.1) hg.2)
                  have HVG := Lib.hid (val_good hg.1 hg.2)
                  have HL16 : Hid ((l.drop 16).length = nr - 16) := by unfold Hid; rw [List.length_drop, hlen]
                  have HN2 := Lib.hid hnr2
                  clear hst hsk hsa hlen hnr hrb hg hnr2 hle
                  go_wp2_with fail
                  refine HT.out.mono ?_; rintro e w3 ⟨A5, c5, rfl, ho5, hb5⟩
                  have hp3 := (hb5.block P HPL.out).trans hp.out
                  have hz3 := (hb5.block w.heap.size (by have := HPL.out; have := HRP.out; omega)).trans hz.out
                  have ho3 := ho.out.1.below hb5
                  have HRB3 : Hid (RdB (KR w.heap.size P (.slice A' k c')) w3 A5 c5 (l.drop 16)) := RdB.of_ow ho5 (by rw [HL16.out]; have := HN2.out; omega) (fun j e e2 => by
                    have h1 := HRP.out
                    have h2 := HPL.out
                    rcases e2 with e2 | e2 | e2
                    · omega
                    · omega
                    · have := (HOL.out j e2).2; omega)
                  clear y0 yz
                  obtain ⟨y0, yz⟩ := rowV_head hp3
                  obtain ⟨xx, xy, y8⟩ := rowV_at hp3 hlt
                  have HP3 := Lib.hid hp3
                  have HZ3 := Lib.hid hz3
                  have HO3 := Lib.hid ho3
                  have HPS : Hid (P < w3.heap.size) := Nat.lt_of_lt_of_le HPL.out hb5.size
                  have HB4 := Lib.hid (hb.out.trans (hb5.mono hb.out.size))
                  have HAT : Hid (atV s2 j = (reB l, imB l)) := by unfold Hid; rw [HSA.out, HVG.out]
                  have HAF : Hid (afterV s2 (j + 1) = (l.drop 16, false)) := by unfold Hid; rw [HSK.out, HVG.out]
                  generalize reB l = re at *
                  generalize imB l = im at *
                  clear ho5 hb5 hp3 hz3 ho3 HT HVG HSA HSK
                  go_wp2_with fail
                  go_roundw
                  case rel =>
                    have hus := (Upto.refl (fun j => j = P) w3).setCell (p := ⟨P, 8 + j, none⟩) rfl (.complex .f64 re im)
                    exact ⟨j + 1, A5, c5, nr - 16, by omega, by simp, rfl, ⟨by rw [HAF.out]; exact HL16.out, by rw [HAF.out]⟩, by rw [HAF.out]; exact HRB3.out.upto hus (fun j e => .inr (.inl e)), (by unfold Hid; rw [← rowV_set _ _ _ _ _ _ _ _ s2 j hlt, HAT.out]; exact row_set HP3.out (8 + j) (.complex .f64 re im)), ⟨HO3.out.upto hus (fun j e e2 => by have := (HOL.out j e).1; omega), ho.out.2⟩, (hus.block w.heap.size (by have := HPS.out; have := HRP.out; omega) (by have := HRP.out; omega)).trans HZ3.out, HB4.out.trans (hus.below (B := w.heap.size) HB4.out.size (fun k hk e => by have := HRP.out; omega))⟩
                  case measure => simp [intOf]; omega
                · obtain rfl : j = 4 := by omega
                  have HPF : Hid (wr.heap[P]? = some (.cells #[.int .i64 5, .int .i64 h1, .int .i64 h2, .int .i64 h3, .int .i64 h4, .int .i64 h5, .bool wv, .slice A' k c', .complex .f64 (atV s2 0).1 (atV s2 0).2, .complex .f64 (atV s2 1).1 (atV s2 1).2, .complex .f64 (atV s2 2).1 (atV s2 2).2, .complex .f64 (atV s2 3).1 (atV s2 3).2] 30)) := hp
                  have HO := Lib.hid ho.out
                  have HZ := Lib.hid hz.out
                  have HB := Lib.hid hb.out
                  have HEND := Lib.hid hnr.out.2
                  clear hp ho hz hb hnr hrb hlt hj
                  have hk25 : k ≤ 25 := by omega
                  have hright := rright_c 5 h1 h2 h3 h4 h5 wv A' k c' (atV s2 0).1 (atV s2 0).2 (atV s2 1).1 (atV s2 1).2 (atV s2 2).1 (atV s2 2).2 (atV s2 3).1 (atV s2 3).2 (putsX (b.drop 24, false) k).1 wr (by have := HBD.out; omega) HBD.out.2.1.1 HBD.out.2.2.1.1 HBD.out.2.2.2.1.1 HBD.out.2.2.2.1.2 HBD.out.2.2.2.2.1.1 HBD.out.2.2.2.2.2.1 (HO.out.1.at HO.out.2) (putsX_length _ k) (by omega) (putsX_small _ k) (fun e => absurd rfl e)
                  have hR : rightM 5 h1 h2 h3 h4 h5 wv (putsX (b.drop 24, false) k).1 = false := rightM_long _ _ _ _ _ _ _ _ (by rw [putsX_length]; omega)
                  rw [hR] at hright
                  have HR : Hid (mright ⟨5, h1, h2, h3, h4, h5, wv, (putsX (b.drop 24, false) k).1, atV s2 0, atV s2 1, atV s2 2, atV s2 3⟩ = false) := hR
                  have hok : okN (headM 5 h1 h2 h3 h4 h5 wv k) = true := by have := HBD.out; unfold okN headM numB; cases wv <;> simp <;> omega
                  have hby := rbytes_c 5 h1 h2 h3 h4 h5 wv A' k c' (atV s2 0).1 (atV s2 0).2 (atV s2 1).1 (atV s2 1).2 (atV s2 2).1 (atV s2 2).2 (atV s2 3).1 (atV s2 3).2 (putsX (b.drop 24, false) k).1 wr hok (HO.out.1.at HO.out.2) (putsX_length _ k) (by omega) (putsX_small _ k) (putsX_w64 _ k) (atV_w64 s2 0) (atV_w64 s2 1) (atV_w64 s2 2) (atV_w64 s2 3) false hright
                  obtain ⟨L, hL⟩ : ∃ L, bytesM ⟨5, h1, h2, h3, h4, h5, wv, (putsX (b.drop 24, false) k).1, atV s2 0, atV s2 1, atV s2 2, atV s2 3⟩ = L := ⟨_, rfl⟩
                  rw [hL] at hby
                  have HLM := Lib.hid hL
                  have HBY := Lib.hid hby
                  have HPSL := Lib.hid (putsX_length (b.drop 24, false) k)
                  have HPUTS := Lib.hid (HO.out.1.at HO.out.2)
                  clear hright hR hok hby hL hk25
                  obtain ⟨y0, y1, y2, y3, y4, y5, y6, y7, y8, y9, y10, y11, yz⟩ := row12 HPF.out
                  go_wp2_with fail
                  skip
                  · refine HBY.out.mono ?_; rintro e w6 ⟨A6, c6, rfl, ho6, hb6⟩
                    have HZ6 := Lib.hid ((hb6.block w.heap.size (by have := HRP.out; have := HPL.out; omega)).trans HZ.out)
                    have HB6 := Lib.hid (HB.out.trans (hb6.mono HB.out.size))
                    clear HZ HB ho6 hb6 y0 y1 y2 y3 y4 y5 y6 y7 y8 y9 y10 y11 yz
                    have HZ := HZ6
                    have HB := HB6
                    clear HZ6 HB6
                    obtain ⟨x0, x1, x2, x3, x4, x5, x6, x7, x8, x9, x10, x11, xz⟩ := row12 HZ.out
                    go_upto_region 26 with fail
                    go_cut [3] from 133 to 133 (fun e wx => e = .int .i64 101 ∧ Hid (wx.heap[w.heap.size]? = some (.cells #[.int .i64 0, .int .i64 0, .int .i64 0, .int .i64 0, .int .i64 0, .int .i64 0, .bool false, .slice none 0 0, .complex .f64 0 0, .complex .f64 0 0, .complex .f64 0 0, .complex .f64 0 0] 30)) ∧ Hid (Upto (fun j => j = w.heap.size) w6 wx))
                    case first =>
                      go_wp2_with fail
                      go_meet
                      case rel => exact ⟨rfl, sets12_row HZ.out (.int .i64 0) (.int .i64 0) (.int .i64 0) (.int .i64 0) (.int .i64 0) (.int .i64 0) (.bool false) (.slice none 0 0) (.complex .f64 0 0) (.complex .f64 0 0) (.complex .f64 0 0) (.complex .f64 0 0), upto12 _ _ _ _ _ _ _ _ _ _ _ _ _ _⟩
                    case rest =>
                      clear x0 x1 x2 x3 x4 x5 x6 x7 x8 x9 x10 x11 xz
                      obtain ⟨rfl, h9, hu9⟩ := hcut
                      replace h9 := h9.out
                      replace hu9 := hu9.out
                      obtain ⟨x0, x1, x2, x3, x4, x5, x6, x7, x8, x9, x10, x11, xz⟩ := row12 h9
                      clear h9
                      go_step
                      go_step
                      try simp only [Exit.inBlock, Exit.then]
                      try simp +zetaDelta only [Exit.inBlock, Exit.then]
                      refine bodyPost_ret (by simp [results, Try.results9, go_sem, x0, x1, x2, x3, x4, x5, x6, x7, x8, x9, x10, x11]; try rfl) rfl ?_
                      obtain ⟨e1, e2⟩ := readR_no (rr_no (fun q => by have := q.2.1; rw [HBODY.out, HR.out] at this; cases this))
                      rw [e1, e2]
                      exact ⟨none, 0, rfl, .inl ⟨rfl, rfl, rfl⟩, HB.out.trans (hu9.below (B := w.heap.size) HB.out.size (fun k hk e => by omega))⟩
            · have f5 : ((h0 : Int) == 5) = false := by simp; omega
              have HBODY : Hid (bodyB b = (⟨h0, h1, h2, h3, h4, h5, wv, (putsX (b.drop 24, false) k).1, (0, 0), (0, 0), (0, 0), (0, 0)⟩, s2)) := by unfold Hid bodyB; rw [HH.out, HKE.out, ← HWV.out, ← HS2.out]; exact if_neg k5
              have HEND := Lib.hid HNR.out.2
              obtain ⟨y0, y1, y2, y3, y4, y5, y6, y7, y8, y9, y10, y11, yz⟩ := row12 HPF.out
              clear k5
              go_upto_region 17 with fail
              go_loopw [5, 15] (fun r i wr' => r = .slice Ar nr cr ∧ i = .int .i64 0 ∧ wr' = wr) (fun _ _ _ => 0)
              case atStart => exact ⟨rfl, rfl, rfl⟩
              case round =>
                obtain ⟨rfl, rfl, rfl⟩ := hrel
                clear y1 y2 y3 y4 y5 y6 y7 y8 y9 y10 y11
                have hk25 : k ≤ 25 := by omega
                have hright := rright_c h0 h1 h2 h3 h4 h5 wv A' k c' 0 0 0 0 0 0 0 0 (putsX (b.drop 24, false) k).1 wr (by have := HBD.out; omega) HBD.out.2.1.1 HBD.out.2.2.1.1 HBD.out.2.2.2.1.1 HBD.out.2.2.2.1.2 HBD.out.2.2.2.2.1.1 HBD.out.2.2.2.2.2.1 (HO.out.1.at HO.out.2) (putsX_length _ k) (by omega) (putsX_small _ k) (fun _ => ⟨rfl, rfl, rfl, rfl, rfl, rfl, rfl, rfl⟩)
                have hR : rightM h0 h1 h2 h3 h4 h5 wv (putsX (b.drop 24, false) k).1 = false := rightM_long _ _ _ _ _ _ _ _ (by rw [putsX_length]; omega)
                rw [hR] at hright
                have HR : Hid (mright ⟨h0, h1, h2, h3, h4, h5, wv, (putsX (b.drop 24, false) k).1, (0, 0), (0, 0), (0, 0), (0, 0)⟩ = false) := hR
                have hok : okN (headM h0 h1 h2 h3 h4 h5 wv k) = true := by have := HBD.out; unfold okN headM numB; cases wv <;> simp <;> omega
                have hby := rbytes_c h0 h1 h2 h3 h4 h5 wv A' k c' 0 0 0 0 0 0 0 0 (putsX (b.drop 24, false) k).1 wr hok (HO.out.1.at HO.out.2) (putsX_length _ k) (by omega) (putsX_small _ k) (putsX_w64 _ k) w640 w640 w640 w640 false hright
                obtain ⟨L, hL⟩ : ∃ L, bytesM ⟨h0, h1, h2, h3, h4, h5, wv, (putsX (b.drop 24, false) k).1, (0, 0), (0, 0), (0, 0), (0, 0)⟩ = L := ⟨_, rfl⟩
                rw [hL] at hby
                have HLM := Lib.hid hL
                have HBY := Lib.hid hby
                have HPSL := Lib.hid (putsX_length (b.drop 24, false) k)
                have HPUTS := Lib.hid (HO.out.1.at HO.out.2)
                clear hright hR hok hby hL hk25
                clear y0 yz
                obtain ⟨y0, y1, y2, y3, y4, y5, y6, y7, y8, y9, y10, y11, yz⟩ := row12 HPF.out
                go_wp2_with fail
                skip
                · refine HBY.out.mono ?_; rintro e w6 ⟨A6, c6, rfl, ho6, hb6⟩
                  have HZ6 := Lib.hid ((hb6.block w.heap.size (by have := HRP.out; have := HPL.out; omega)).trans HZ.out)
                  have HB6 := Lib.hid (HB.out.trans (hb6.mono HB.out.size))
                  clear HZ HB ho6 hb6 y0 y1 y2 y3 y4 y5 y6 y7 y8 y9 y10 y11 yz
                  have HZ := HZ6
                  have HB := HB6
                  clear HZ6 HB6
                  obtain ⟨x0, x1, x2, x3, x4, x5, x6, x7, x8, x9, x10, x11, xz⟩ := row12 HZ.out
                  go_upto_region 26 with fail
                  go_cut [3] from 133 to 133 (fun e wx => e = .int .i64 101 ∧ Hid (wx.heap[w.heap.size]? = some (.cells #[.int .i64 0, .int .i64 0, .int .i64 0, .int .i64 0, .int .i64 0, .int .i64 0, .bool false, .slice none 0 0, .complex .f64 0 0, .complex .f64 0 0, .complex .f64 0 0, .complex .f64 0 0] 30)) ∧ Hid (Upto (fun j => j = w.heap.size) w6 wx))
                  case first =>
                    go_wp2_with fail
                    go_meet
                    case rel => exact ⟨rfl, sets12_row HZ.out (.int .i64 0) (.int .i64 0) (.int .i64 0) (.int .i64 0) (.int .i64 0) (.int .i64 0) (.bool false) (.slice none 0 0) (.complex .f64 0 0) (.complex .f64 0 0) (.complex .f64 0 0) (.complex .f64 0 0), upto12 _ _ _ _ _ _ _ _ _ _ _ _ _ _⟩
                  case rest =>
                    clear x0 x1 x2 x3 x4 x5 x6 x7 x8 x9 x10 x11 xz
                    obtain ⟨rfl, h9, hu9⟩ := hcut
                    replace h9 := h9.out
                    replace hu9 := hu9.out
                    obtain ⟨x0, x1, x2, x3, x4, x5, x6, x7, x8, x9, x10, x11, xz⟩ := row12 h9
                    clear h9
                    go_step
                    go_step
                    try simp only [Exit.inBlock, Exit.then]
                    try simp +zetaDelta only [Exit.inBlock, Exit.then]
                    refine bodyPost_ret (by simp [results, Try.results9, go_sem, x0, x1, x2, x3, x4, x5, x6, x7, x8, x9, x10, x11]; try rfl) rfl ?_
                    obtain ⟨e1, e2⟩ := readR_no (rr_no (fun q => by have := q.2.1; rw [HBODY.out, HR.out] at this; cases this))
                    rw [e1, e2]
                    exact ⟨none, 0, rfl, .inl ⟨rfl, rfl, rfl⟩, HB.out.trans (hu9.below (B := w.heap.size) HB.out.size (fun k hk e => by omega))⟩
        · have hke : min N7 25 = k := by omega
          have HKE : Hid (putsR b = putsX (b.drop 24, false) k) := by unfold Hid putsR; rw [HH.out]; show putsX (b.drop 24, false) (min ((N7 : Int).toNat) 25) = _; rw [Int.toNat_natCast, hke]
          have HPF := Lib.hid hp.out
          have HO := Lib.hid ho.out
          have HZ := Lib.hid hz.out
          have HB := Lib.hid hb.out
          obtain ⟨s2, hs2⟩ : ∃ s2, (putsX (b.drop 24, false) k).2 = s2 := ⟨_, rfl⟩
          rw [hs2] at hnr hrb
          have HS2 := Lib.hid hs2
          have HQR := Lib.hid hrb.out
          have HNR := Lib.hid hnr.out
          clear hs2 hp ho hz hb hrb hnr hke
          by_cases k5 : h0 = 5
          · subst k5
            have HBODY : Hid (bodyB b = (⟨5, h1, h2, h3, h4, h5, wv, (putsX (b.drop 24, false) k).1, atV s2 0, atV s2 1, atV s2 2, atV s2 3⟩, afterV s2 4)) := by unfold Hid bodyB; rw [HH.out, HKE.out, ← HWV.out, ← HS2.out]; rfl
            have HK5 : Hid ((ints3 b 8).getD 0 0 = 5) := by unfold Hid; rw [HH.out]; rfl
            have HS2R : Hid ((putsR b).2 = s2) := by unfold Hid; rw [HKE.out, HS2.out]
            clear HPL HOL
            go_upto_region 17 with fail
            go_loopw [5, 15] (fun r i wr => ∃ (j : Nat) (Ar : Option Addr) (cr nr : Nat), j ≤ 4 ∧ i = .int .i64 j ∧ r = .slice Ar nr cr ∧ Hid ((afterV s2 j).1.length = nr ∧ (afterV s2 j).2 = false) ∧ Hid (RdB (KR w.heap.size P (.slice A' k c')) wr Ar cr (afterV s2 j).1) ∧ Hid (wr.heap[P]? = some (.cells (rowV [.int .i64 5, .int .i64 h1, .int .i64 h2, .int .i64 h3, .int .i64 h4, .int .i64 h5, .bool wv, .slice A' k c'] s2 j) 30)) ∧ Hid (OwP wr (P + 1) A' k (putsX (b.drop 24, false) k).1 c' ∧ (k = 0 → A' = none)) ∧ Hid (wr.heap[w.heap.size]? = some (.cells #[.int .i64 0, .int .i64 0, .int .i64 0, .int .i64 0, .int .i64 0, .int .i64 0, .bool false, .slice none 0 0, .complex .f64 0 0, .complex .f64 0 0, .complex .f64 0 0, .complex .f64 0 0] 30)) ∧ Hid (Below w.heap.size w wr)) (fun _ i _ => 4 - (intOf i).toNat)
            case atStart => exact ⟨0, _, _, _, Nat.zero_le _, rfl, rfl, HNR, HQR, HPF, HO, HZ, HB⟩
            case round =>
              clear HPF HO HZ HB HQR HNR
              obtain ⟨j, Ar, cr, nr, hj, rfl, rfl, hnr, hrb, hp, ho, hz, hb⟩ := hrel
              have HPL := Lib.hid (Array.getElem?_eq_some_iff.1 hp.out).1
              have HOL := Lib.hid ho.out.1.lt
              by_cases hlt : j < 4
              · have hst : afterV s2 j = ((afterV s2 j).1, false) := Prod.ext rfl hnr.out.2
                have hsk : afterV s2 (j + 1) = (valX ((afterV s2 j).1, false)).2 := by rw [← hst]; rfl
                have hsa : atV s2 j = (valX ((afterV s2 j).1, false)).1 := by rw [← hst]; rfl
                have hlen := hnr.out.1
                generalize (afterV s2 j).1 = l at *
                have hnr2 : nr ≤ 140737488355328 := by rw [← hlen]; exact hrb.out.len
                have hle := hrb.out.le
                rw [hlen] at hle
                have HSK := Lib.hid hsk
                have HSA := Lib.hid hsa
                have HLEN := Lib.hid hlen
                obtain ⟨y0, yz⟩ := rowV_head hp.out
                by_cases hg : 16 ≤ l.length ∧ valOk l = true
                rotate_left
                · have HNO : Hid (readRO b = none) := rr_valbad HK5.out (j + 1) (by omega) (by rw [HS2R.out, HSK.out]; exact val_bad hg)
                  have HT := Lib.hid (rtake_n Ar l nr cr wr hrb.out.rd hrb.out.nil_cap hlen hle hrb.out.cap hnr2 hg)
                  clear hst hsk hsa hlen hnr hrb hg hnr2 hle
                  go_wp2_with fail
                  refine HT.out.mono ?_; rintro e w5 ⟨rfl, hb5⟩
                  have HZ := Lib.hid ((hb5.block w.heap.size (by have := HRP.out; have := HPL.out; omega)).trans hz.out)
                  have HB := Lib.hid (hb.out.trans (hb5.mono hb.out.size))
                  clear hb5 HT y0 yz hp ho hz hb
                  obtain ⟨x0, x1, x2, x3, x4, x5, x6, x7, x8, x9, x10, x11, xz⟩ := row12 HZ.out
                  go_upto_region 21 with fail
                  go_cut [3] from 113 to 113 (fun e wx => e = .int .i64 101 ∧ Hid (wx.heap[w.heap.size]? = some (.cells #[.int .i64 0, .int .i64 0, .int .i64 0, .int .i64 0, .int .i64 0, .int .i64 0, .bool false, .slice none 0 0, .complex .f64 0 0, .complex .f64 0 0, .complex .f64 0 0, .complex .f64 0 0] 30)) ∧ Hid (Upto (fun j => j = w.heap.size) w5 wx))
                  case first =>
                    go_wp2_with fail
                    go_meet
                    case rel => exact ⟨rfl, sets12_row HZ.out (.int .i64 0) (.int .i64 0) (.int .i64 0) (.int .i64 0) (.int .i64 0) (.int .i64 0) (.bool false) (.slice none 0 0) (.complex .f64 0 0) (.complex .f64 0 0) (.complex .f64 0 0) (.complex .f64 0 0), upto12 _ _ _ _ _ _ _ _ _ _ _ _ _ _⟩
                  case rest =>
                    clear x0 x1 x2 x3 x4 x5 x6 x7 x8 x9 x10 x11 xz
                    obtain ⟨rfl, h9, hu9⟩ := hcut
                    replace h9 := h9.out
                    replace hu9 := hu9.out
                    obtain ⟨x0, x1, x2, x3, x4, x5, x6, x7, x8, x9, x10, x11, xz⟩ := row12 h9
                    clear h9
                    go_step
                    go_step
                    try simp only [Exit.inBlock, Exit.then]
                    try simp +zetaDelta only [Exit.inBlock, Exit.then]
                    refine bodyPost_ret (by simp [results, Try.results9, go_sem, x0, x1, x2, x3, x4, x5, x6, x7, x8, x9, x10, x11]; try rfl) rfl ?_
                    obtain ⟨e1, e2⟩ := readR_no (HNO.out)
                    rw [e1, e2]
                    exact ⟨none, 0, rfl, .inl ⟨rfl, rfl, rfl⟩, HB.out.trans (hu9.below (B := w.heap.size) HB.out.size (fun k hk e => by omega))⟩
                have HT := Lib.hid (rtake_y Ar l nr cr wr hrb.out.rd hrb.out.nil_cap hlen hle hrb.out.cap hnr2 (by rw [← hlen]; exact hg.1) hg.2)
                have HVG := Lib.hid (val_good hg.1 hg.2)
                have HL16 : Hid ((l.drop 16).length = nr - 16) := by unfold Hid; rw [List.length_drop, hlen]
                have HN2 := Lib.hid hnr2
                clear hst hsk hsa hlen hnr hrb hg hnr2 hle
                go_wp2_with fail
                refine HT.out.mono ?_; rintro e w3 ⟨A5, c5, rfl, ho5, hb5⟩
                have hp3 := (hb5.block P HPL.out).trans hp.out
                have hz3 := (hb5.block w.heap.size (by have := HPL.out; have := HRP.out; omega)).trans hz.out
                have ho3 := ho.out.1.below hb5
                have HRB3 : Hid (RdB (KR w.heap.size P (.slice A' k c')) w3 A5 c5 (l.drop 16)) := RdB.of_ow ho5 (by rw [HL16.out]; have := HN2.out; omega) (fun j e e2 => by
                  have h1 := HRP.out
                  have h2 := HPL.out
                  rcases e2 with e2 | e2 | e2
                  · omega
                  · omega
                  · have := (HOL.out j e2).2; omega)
                clear y0 yz
                obtain ⟨y0, yz⟩ := rowV_head hp3
                obtain ⟨xx, xy, y8⟩ := rowV_at hp3 hlt
                have HP3 := Lib.hid hp3
                have HZ3 := Lib.hid hz3
                have HO3 := Lib.hid ho3
                have HPS : Hid (P < w3.heap.size) := Nat.lt_of_lt_of_le HPL.out hb5.size
                have HB4 := Lib.hid (hb.out.trans (hb5.mono hb.out.size))
                have HAT : Hid (atV s2 j = (reB l, imB l)) := by unfold Hid; rw [HSA.out, HVG.out]
                have HAF : Hid (afterV s2 (j + 1) = (l.drop 16, false)) := by unfold Hid; rw [HSK.out, HVG.out]
                generalize reB l = re at *
                generalize imB l = im at *
                clear ho5 hb5 hp3 hz3 ho3 HT HVG HSA HSK
                go_wp2_with fail
                go_roundw
                case rel =>
                  have hus := (Upto.refl (fun j => j = P) w3).setCell (p := ⟨P, 8 + j, none⟩) rfl (.complex .f64 re im)
                  exact ⟨j + 1, A5, c5, nr - 16, by omega, by simp, rfl, ⟨by rw [HAF.out]; exact HL16.out, by rw [HAF.out]⟩, by rw [HAF.out]; exact HRB3.out.upto hus (fun j e => .inr (.inl e)), (by unfold Hid; rw [← rowV_set _ _ _ _ _ _ _ _ s2 j hlt, HAT.out]; exact row_set HP3.out (8 + j) (.complex .f64 re im)), ⟨HO3.out.upto hus (fun j e e2 => by have := (HOL.out j e).1; omega), ho.out.2⟩, (hus.block w.heap.size (by have := HPS.out; have := HRP.out; omega) (by have := HRP.out; omega)).trans HZ3.out, HB4.out.trans (hus.below (B := w.heap.size) HB4.out.size (fun k hk e => by have := HRP.out; omega))⟩
                case measure => simp [intOf]; omega
              · obtain rfl : j = 4 := by omega
                have HPF : Hid (wr.heap[P]? = some (.cells #[.int .i64 5, .int .i64 h1, .int .i64 h2, .int .i64 h3, .int .i64 h4, .int .i64 h5, .bool wv, .slice A' k c', .complex .f64 (atV s2 0).1 (atV s2 0).2, .complex .f64 (atV s2 1).1 (atV s2 1).2, .complex .f64 (atV s2 2).1 (atV s2 2).2, .complex .f64 (atV s2 3).1 (atV s2 3).2] 30)) := hp
                have HO := Lib.hid ho.out
                have HZ := Lib.hid hz.out
                have HB := Lib.hid hb.out
                have HEND := Lib.hid hnr.out.2
                clear hp ho hz hb hnr hrb hlt hj
                have hk25 : k ≤ 25 := by omega
                have hright := rright_c 5 h1 h2 h3 h4 h5 wv A' k c' (atV s2 0).1 (atV s2 0).2 (atV s2 1).1 (atV s2 1).2 (atV s2 2).1 (atV s2 2).2 (atV s2 3).1 (atV s2 3).2 (putsX (b.drop 24, false) k).1 wr (by have := HBD.out; omega) HBD.out.2.1.1 HBD.out.2.2.1.1 HBD.out.2.2.2.1.1 HBD.out.2.2.2.1.2 HBD.out.2.2.2.2.1.1 HBD.out.2.2.2.2.2.1 (HO.out.1.at HO.out.2) (putsX_length _ k) (by omega) (putsX_small _ k) (fun e => absurd rfl e)
                obtain ⟨R, hR⟩ : ∃ R, rightM 5 h1 h2 h3 h4 h5 wv (putsX (b.drop 24, false) k).1 = R := ⟨_, rfl⟩
                rw [hR] at hright
                have HR : Hid (mright ⟨5, h1, h2, h3, h4, h5, wv, (putsX (b.drop 24, false) k).1, atV s2 0, atV s2 1, atV s2 2, atV s2 3⟩ = R) := hR
                have hok : okN (headM 5 h1 h2 h3 h4 h5 wv k) = true := by have := HBD.out; unfold okN headM numB; cases wv <;> simp <;> omega
                have hby := rbytes_c 5 h1 h2 h3 h4 h5 wv A' k c' (atV s2 0).1 (atV s2 0).2 (atV s2 1).1 (atV s2 1).2 (atV s2 2).1 (atV s2 2).2 (atV s2 3).1 (atV s2 3).2 (putsX (b.drop 24, false) k).1 wr hok (HO.out.1.at HO.out.2) (putsX_length _ k) (by omega) (putsX_small _ k) (putsX_w64 _ k) (atV_w64 s2 0) (atV_w64 s2 1) (atV_w64 s2 2) (atV_w64 s2 3) R hright
                obtain ⟨L, hL⟩ : ∃ L, bytesM ⟨5, h1, h2, h3, h4, h5, wv, (putsX (b.drop 24, false) k).1, atV s2 0, atV s2 1, atV s2 2, atV s2 3⟩ = L := ⟨_, rfl⟩
                rw [hL] at hby
                have HLM := Lib.hid hL
                have HBY := Lib.hid hby
                have HPSL := Lib.hid (putsX_length (b.drop 24, false) k)
                have HPUTS := Lib.hid (HO.out.1.at HO.out.2)
                clear hright hR hok hby hL hk25
                obtain ⟨y0, y1, y2, y3, y4, y5, y6, y7, y8, y9, y10, y11, yz⟩ := row12 HPF.out
                go_wp2_with fail
                cases R
                · refine HBY.out.mono ?_; rintro e w6 ⟨A6, c6, rfl, ho6, hb6⟩
                  have HZ6 := Lib.hid ((hb6.block w.heap.size (by have := HRP.out; have := HPL.out; omega)).trans HZ.out)
                  have HB6 := Lib.hid (HB.out.trans (hb6.mono HB.out.size))
                  clear HZ HB ho6 hb6 y0 y1 y2 y3 y4 y5 y6 y7 y8 y9 y10 y11 yz
                  have HZ := HZ6
                  have HB := HB6
                  clear HZ6 HB6
                  obtain ⟨x0, x1, x2, x3, x4, x5, x6, x7, x8, x9, x10, x11, xz⟩ := row12 HZ.out
                  go_upto_region 26 with fail
                  go_cut [3] from 133 to 133 (fun e wx => e = .int .i64 101 ∧ Hid (wx.heap[w.heap.size]? = some (.cells #[.int .i64 0, .int .i64 0, .int .i64 0, .int .i64 0, .int .i64 0, .int .i64 0, .bool false, .slice none 0 0, .complex .f64 0 0, .complex .f64 0 0, .complex .f64 0 0, .complex .f64 0 0] 30)) ∧ Hid (Upto (fun j => j = w.heap.size) w6 wx))
                  case first =>
                    go_wp2_with fail
                    go_meet
                    case rel => exact ⟨rfl, sets12_row HZ.out (.int .i64 0) (.int .i64 0) (.int .i64 0) (.int .i64 0) (.int .i64 0) (.int .i64 0) (.bool false) (.slice none 0 0) (.complex .f64 0 0) (.complex .f64 0 0) (.complex .f64 0 0) (.complex .f64 0 0), upto12 _ _ _ _ _ _ _ _ _ _ _ _ _ _⟩
                  case rest =>
                    clear x0 x1 x2 x3 x4 x5 x6 x7 x8 x9 x10 x11 xz
                    obtain ⟨rfl, h9, hu9⟩ := hcut
                    replace h9 := h9.out
                    replace hu9 := hu9.out
                    obtain ⟨x0, x1, x2, x3, x4, x5, x6, x7, x8, x9, x10, x11, xz⟩ := row12 h9
                    clear h9
                    go_step
                    go_step
                    try simp only [Exit.inBlock, Exit.then]
                    try simp +zetaDelta only [Exit.inBlock, Exit.then]
                    refine bodyPost_ret (by simp [results, Try.results9, go_sem, x0, x1, x2, x3, x4, x5, x6, x7, x8, x9, x10, x11]; try rfl) rfl ?_
                    obtain ⟨e1, e2⟩ := readR_no (rr_no (fun q => by have := q.2.1; rw [HBODY.out, HR.out] at this; cases this))
                    rw [e1, e2]
                    exact ⟨none, 0, rfl, .inl ⟨rfl, rfl, rfl⟩, HB.out.trans (hu9.below (B := w.heap.size) HB.out.size (fun k hk e => by omega))⟩
                · refine HBY.out.mono ?_; rintro e w6 ⟨A6, c6, rfl, ho6, hb6⟩
                  replace ho6 : Ow 5 g8 w6 wr.heap.size A6 L c6 := ho6
                  have HZ6 := Lib.hid ((hb6.block w.heap.size (by have := HRP.out; have := HPL.out; omega)).trans HZ.out)
                  have HPF6 := Lib.hid ((hb6.block P HPL.out).trans HPF.out)
                  have HPU6 := Lib.hid (HPUTS.out.below hb6)
                  have HB6 := Lib.hid (HB.out.trans (hb6.mono HB.out.size))
                  have hs1 := str8 (w := w6) (c := c6) ho6.rd rfl
                  have hs2 := str8 (w := w6) (c := c) (HX.out.below HB6.out) HXE.out
                  clear HZ HB HPF HPUTS ho6 hb6 y0 y1 y2 y3 y4 y5 y6 y7 y8 y9 y10 y11 yz
                  have HZ := HZ6
                  have HB := HB6
                  have HPF := HPF6
                  have HPUTS := HPU6
                  clear HZ6 HB6 HPF6 HPU6
                  by_cases hLB : L = b
                  rotate_left
                  · have hne : (L == b) = false := beq_eq_false_iff_ne.2 hLB
                    obtain ⟨x0, x1, x2, x3, x4, x5, x6, x7, x8, x9, x10, x11, xz⟩ := row12 HZ.out
                    go_upto_region 26 with fail
                    go_cut [3] from 133 to 133 (fun e wx => e = .int .i64 101 ∧ Hid (wx.heap[w.heap.size]? = some (.cells #[.int .i64 0, .int .i64 0, .int .i64 0, .int .i64 0, .int .i64 0, .int .i64 0, .bool false, .slice none 0 0, .complex .f64 0 0, .complex .f64 0 0, .complex .f64 0 0, .complex .f64 0 0] 30)) ∧ Hid (Upto (fun j => j = w.heap.size) w6 wx))
                    case first =>
                      go_wp2_with fail
                      go_meet
                      case rel => exact ⟨rfl, sets12_row HZ.out (.int .i64 0) (.int .i64 0) (.int .i64 0) (.int .i64 0) (.int .i64 0) (.int .i64 0) (.bool false) (.slice none 0 0) (.complex .f64 0 0) (.complex .f64 0 0) (.complex .f64 0 0) (.complex .f64 0 0), upto12 _ _ _ _ _ _ _ _ _ _ _ _ _ _⟩
                    case rest =>
                      clear x0 x1 x2 x3 x4 x5 x6 x7 x8 x9 x10 x11 xz
                      obtain ⟨rfl, h9, hu9⟩ := hcut
                      replace h9 := h9.out
                      replace hu9 := hu9.out
                      obtain ⟨x0, x1, x2, x3, x4, x5, x6, x7, x8, x9, x10, x11, xz⟩ := row12 h9
                      clear h9
                      go_step
                      go_step
                      try simp only [Exit.inBlock, Exit.then]
                      try simp +zetaDelta only [Exit.inBlock, Exit.then]
                      refine bodyPost_ret (by simp [results, Try.results9, go_sem, x0, x1, x2, x3, x4, x5, x6, x7, x8, x9, x10, x11]; try rfl) rfl ?_
                      obtain ⟨e1, e2⟩ := readR_no (rr_no (fun q => by have := q.2.2; rw [HBODY.out, HLM.out] at this; exact hLB this))
                      rw [e1, e2]
                      exact ⟨none, 0, rfl, .inl ⟨rfl, rfl, rfl⟩, HB.out.trans (hu9.below (B := w.heap.size) HB.out.size (fun k hk e => by omega))⟩
                  have hne : (L == b) = true := by rw [hLB]; exact beq_self_eq_true b
                  obtain ⟨y0, y1, y2, y3, y4, y5, y6, y7, y8, y9, y10, y11, yz⟩ := row12 HPF.out
                  obtain ⟨x0, x1, x2, x3, x4, x5, x6, x7, x8, x9, x10, x11, xz⟩ := row12 HZ.out
                  have HLB := Lib.hid hLB
                  clear hLB
                  go_upto_region 27 with fail
                  go_cut [3] from 134 to 134 (fun e wx => e = .int .i64 0 ∧ Hid (wx.heap[w.heap.size]? = some (.cells #[.int .i64 5, .int .i64 h1, .int .i64 h2, .int .i64 h3, .int .i64 h4, .int .i64 h5, .bool wv, .slice A' k c', .complex .f64 (atV s2 0).1 (atV s2 0).2, .complex .f64 (atV s2 1).1 (atV s2 1).2, .complex .f64 (atV s2 2).1 (atV s2 2).2, .complex .f64 (atV s2 3).1 (atV s2 3).2] 30)) ∧ Hid (Upto (fun j => j = w.heap.size) w6 wx))
                  case first =>
                    go_wp2_with fail
                    go_meet
                    case rel => exact ⟨rfl, sets12_row HZ.out (.int .i64 5) (.int .i64 h1) (.int .i64 h2) (.int .i64 h3) (.int .i64 h4) (.int .i64 h5) (.bool wv) (.slice A' k c') (.complex .f64 (atV s2 0).1 (atV s2 0).2) (.complex .f64 (atV s2 1).1 (atV s2 1).2) (.complex .f64 (atV s2 2).1 (atV s2 2).2) (.complex .f64 (atV s2 3).1 (atV s2 3).2), upto12 _ _ _ _ _ _ _ _ _ _ _ _ _ _⟩
                  case rest =>
                    clear x0 x1 x2 x3 x4 x5 x6 x7 x8 x9 x10 x11 xz y0 y1 y2 y3 y4 y5 y6 y7 y8 y9 y10 y11 yz
                    obtain ⟨rfl, h9, hu9⟩ := hcut
                    replace h9 := h9.out
                    replace hu9 := hu9.out
                    obtain ⟨x0, x1, x2, x3, x4, x5, x6, x7, x8, x9, x10, x11, xz⟩ := row12 h9
                    clear h9
                    go_step
                    go_step
                    try simp only [Exit.inBlock, Exit.then]
                    try simp +zetaDelta only [Exit.inBlock, Exit.then]
                    refine bodyPost_ret (by simp [results, Try.results9, go_sem, x0, x1, x2, x3, x4, x5, x6, x7, x8, x9, x10, x11]; try rfl) rfl ?_
                    obtain ⟨e1, e2⟩ := readR_yes (rr_some HN24.out (by rw [HBODY.out]; exact HEND.out) (by rw [HBODY.out]; exact HR.out) (by rw [HBODY.out, HLM.out]; exact HLB.out))
                    rw [HBODY.out] at e1
                    rw [e1, e2]
                    refine ⟨A', c', by unfold mcells; rw [HPSL.out], (HPUTS.out.below' (n := k) hu9 ?_), HB.out.trans (hu9.below (B := w.heap.size) HB.out.size (fun k hk e => by omega))⟩
                    exact fun j e => by have := (HOL.out j e).1; have := HRP.out; omega
          · have f5 : ((h0 : Int) == 5) = false := by simp; omega
            have HBODY : Hid (bodyB b = (⟨h0, h1, h2, h3, h4, h5, wv, (putsX (b.drop 24, false) k).1, (0, 0), (0, 0), (0, 0), (0, 0)⟩, s2)) := by unfold Hid bodyB; rw [HH.out, HKE.out, ← HWV.out, ← HS2.out]; exact if_neg k5
            have HEND := Lib.hid HNR.out.2
            obtain ⟨y0, y1, y2, y3, y4, y5, y6, y7, y8, y9, y10, y11, yz⟩ := row12 HPF.out
            clear k5
            go_upto_region 17 with fail
            go_loopw [5, 15] (fun r i wr' => r = .slice Ar nr cr ∧ i = .int .i64 0 ∧ wr' = wr) (fun _ _ _ => 0)
            case atStart => exact ⟨rfl, rfl, rfl⟩
            case round =>
              obtain ⟨rfl, rfl, rfl⟩ := hrel
              clear y1 y2 y3 y4 y5 y6 y7 y8 y9 y10 y11
              have hk25 : k ≤ 25 := by omega
              have hright := rright_c h0 h1 h2 h3 h4 h5 wv A' k c' 0 0 0 0 0 0 0 0 (putsX (b.drop 24, false) k).1 wr (by have := HBD.out; omega) HBD.out.2.1.1 HBD.out.2.2.1.1 HBD.out.2.2.2.1.1 HBD.out.2.2.2.1.2 HBD.out.2.2.2.2.1.1 HBD.out.2.2.2.2.2.1 (HO.out.1.at HO.out.2) (putsX_length _ k) (by omega) (putsX_small _ k) (fun _ => ⟨rfl, rfl, rfl, rfl, rfl, rfl, rfl, rfl⟩)
              obtain ⟨R, hR⟩ : ∃ R, rightM h0 h1 h2 h3 h4 h5 wv (putsX (b.drop 24, false) k).1 = R := ⟨_, rfl⟩
              rw [hR] at hright
              have HR : Hid (mright ⟨h0, h1, h2, h3, h4, h5, wv, (putsX (b.drop 24, false) k).1, (0, 0), (0, 0), (0, 0), (0, 0)⟩ = R) := hR
              have hok : okN (headM h0 h1 h2 h3 h4 h5 wv k) = true := by have := HBD.out; unfold okN headM numB; cases wv <;> simp <;> omega
              have hby := rbytes_c h0 h1 h2 h3 h4 h5 wv A' k c' 0 0 0 0 0 0 0 0 (putsX (b.drop 24, false) k).1 wr hok (HO.out.1.at HO.out.2) (putsX_length _ k) (by omega) (putsX_small _ k) (putsX_w64 _ k) w640 w640 w640 w640 R hright
              obtain ⟨L, hL⟩ : ∃ L, bytesM ⟨h0, h1, h2, h3, h4, h5, wv, (putsX (b.drop 24, false) k).1, (0, 0), (0, 0), (0, 0), (0, 0)⟩ = L := ⟨_, rfl⟩
              rw [hL] at hby
              have HLM := Lib.hid hL
              have HBY := Lib.hid hby
              have HPSL := Lib.hid (putsX_length (b.drop 24, false) k)
              have HPUTS := Lib.hid (HO.out.1.at HO.out.2)
              clear hright hR hok hby hL hk25
              clear y0 yz
              obtain ⟨y0, y1, y2, y3, y4, y5, y6, y7, y8, y9, y10, y11, yz⟩ := row12 HPF.out
              go_wp2_with fail
              cases R
              · refine HBY.out.mono ?_; rintro e w6 ⟨A6, c6, rfl, ho6, hb6⟩
                have HZ6 := Lib.hid ((hb6.block w.heap.size (by have := HRP.out; have := HPL.out; omega)).trans HZ.out)
                have HB6 := Lib.hid (HB.out.trans (hb6.mono HB.out.size))
                clear HZ HB ho6 hb6 y0 y1 y2 y3 y4 y5 y6 y7 y8 y9 y10 y11 yz
                have HZ := HZ6
                have HB := HB6
                clear HZ6 HB6
                obtain ⟨x0, x1, x2, x3, x4, x5, x6, x7, x8, x9, x10, x11, xz⟩ := row12 HZ.out
                go_upto_region 26 with fail
                go_cut [3] from 133 to 133 (fun e wx => e = .int .i64 101 ∧ Hid (wx.heap[w.heap.size]? = some (.cells #[.int .i64 0, .int .i64 0, .int .i64 0, .int .i64 0, .int .i64 0, .int .i64 0, .bool false, .slice none 0 0, .complex .f64 0 0, .complex .f64 0 0, .complex .f64 0 0, .complex .f64 0 0] 30)) ∧ Hid (Upto (fun j => j = w.heap.size) w6 wx))
                case first =>
                  go_wp2_with fail
                  go_meet
                  case rel => exact ⟨rfl, sets12_row HZ.out (.int .i64 0) (.int .i64 0) (.int .i64 0) (.int .i64 0) (.int .i64 0) (.int .i64 0) (.bool false) (.slice none 0 0) (.complex .f64 0 0) (.complex .f64 0 0) (.complex .f64 0 0) (.complex .f64 0 0), upto12 _ _ _ _ _ _ _ _ _ _ _ _ _ _⟩
                case rest =>
                  clear x0 x1 x2 x3 x4 x5 x6 x7 x8 x9 x10 x11 xz
                  obtain ⟨rfl, h9, hu9⟩ := hcut
                  replace h9 := h9.out
                  replace hu9 := hu9.out
                  obtain ⟨x0, x1, x2, x3, x4, x5, x6, x7, x8, x9, x10, x11, xz⟩ := row12 h9
                  clear h9
                  go_step
                  go_step
                  try simp only [Exit.inBlock, Exit.then]
                  try simp +zetaDelta only [Exit.inBlock, Exit.then]
                  refine bodyPost_ret (by simp [results, Try.results9, go_sem, x0, x1, x2, x3, x4, x5, x6, x7, x8, x9, x10, x11]; try rfl) rfl ?_
                  obtain ⟨e1, e2⟩ := readR_no (rr_no (fun q => by have := q.2.1; rw [HBODY.out, HR.out] at this; cases this))
                  rw [e1, e2]
                  exact ⟨none, 0, rfl, .inl ⟨rfl, rfl, rfl⟩, HB.out.trans (hu9.below (B := w.heap.size) HB.out.size (fun k hk e => by omega))⟩
              · refine HBY.out.mono ?_; rintro e w6 ⟨A6, c6, rfl, ho6, hb6⟩
                replace ho6 : Ow 5 g8 w6 wr.heap.size A6 L c6 := ho6
                have HZ6 := Lib.hid ((hb6.block w.heap.size (by have := HRP.out; have := HPL.out; omega)).trans HZ.out)
                have HPF6 := Lib.hid ((hb6.block P HPL.out).trans HPF.out)
                have HPU6 := Lib.hid (HPUTS.out.below hb6)
                have HB6 := Lib.hid (HB.out.trans (hb6.mono HB.out.size))
                have hs1 := str8 (w := w6) (c := c6) ho6.rd rfl
                have hs2 := str8 (w := w6) (c := c) (HX.out.below HB6.out) HXE.out
                clear HZ HB HPF HPUTS ho6 hb6 y0 y1 y2 y3 y4 y5 y6 y7 y8 y9 y10 y11 yz
                have HZ := HZ6
                have HB := HB6
                have HPF := HPF6
                have HPUTS := HPU6
                clear HZ6 HB6 HPF6 HPU6
                by_cases hLB : L = b
                rotate_left
                · have hne : (L == b) = false := beq_eq_false_iff_ne.2 hLB
                  obtain ⟨x0, x1, x2, x3, x4, x5, x6, x7, x8, x9, x10, x11, xz⟩ := row12 HZ.out
                  go_upto_region 26 with fail
                  go_cut [3] from 133 to 133 (fun e wx => e = .int .i64 101 ∧ Hid (wx.heap[w.heap.size]? = some (.cells #[.int .i64 0, .int .i64 0, .int .i64 0, .int .i64 0, .int .i64 0, .int .i64 0, .bool false, .slice none 0 0, .complex .f64 0 0, .complex .f64 0 0, .complex .f64 0 0, .complex .f64 0 0] 30)) ∧ Hid (Upto (fun j => j = w.heap.size) w6 wx))
                  case first =>
                    go_wp2_with fail
                    go_meet
                    case rel => exact ⟨rfl, sets12_row HZ.out (.int .i64 0) (.int .i64 0) (.int .i64 0) (.int .i64 0) (.int .i64 0) (.int .i64 0) (.bool false) (.slice none 0 0) (.complex .f64 0 0) (.complex .f64 0 0) (.complex .f64 0 0) (.complex .f64 0 0), upto12 _ _ _ _ _ _ _ _ _ _ _ _ _ _⟩
                  case rest =>
                    clear x0 x1 x2 x3 x4 x5 x6 x7 x8 x9 x10 x11 xz
                    obtain ⟨rfl, h9, hu9⟩ := hcut
                    replace h9 := h9.out
                    replace hu9 := hu9.out
                    obtain ⟨x0, x1, x2, x3, x4, x5, x6, x7, x8, x9, x10, x11, xz⟩ := row12 h9
                    clear h9
                    go_step
                    go_step
                    try simp only [Exit.inBlock, Exit.then]
                    try simp +zetaDelta only [Exit.inBlock, Exit.then]
                    refine bodyPost_ret (by simp [results, Try.results9, go_sem, x0, x1, x2, x3, x4, x5, x6, x7, x8, x9, x10, x11]; try rfl) rfl ?_
                    obtain ⟨e1, e2⟩ := readR_no (rr_no (fun q => by have := q.2.2; rw [HBODY.out, HLM.out] at this; exact hLB this))
                    rw [e1, e2]
                    exact ⟨none, 0, rfl, .inl ⟨rfl, rfl, rfl⟩, HB.out.trans (hu9.below (B := w.heap.size) HB.out.size (fun k hk e => by omega))⟩
                have hne : (L == b) = true := by rw [hLB]; exact beq_self_eq_true b
                obtain ⟨y0, y1, y2, y3, y4, y5, y6, y7, y8, y9, y10, y11, yz⟩ := row12 HPF.out
                obtain ⟨x0, x1, x2, x3, x4, x5, x6, x7, x8, x9, x10, x11, xz⟩ := row12 HZ.out
                have HLB := Lib.hid hLB
                clear hLB
                go_upto_region 27 with fail
                go_cut [3] from 134 to 134 (fun e wx => e = .int .i64 0 ∧ Hid (wx.heap[w.heap.size]? = some (.cells #[.int .i64 h0, .int .i64 h1, .int .i64 h2, .int .i64 h3, .int .i64 h4, .int .i64 h5, .bool wv, .slice A' k c', .complex .f64 0 0, .complex .f64 0 0, .complex .f64 0 0, .complex .f64 0 0] 30)) ∧ Hid (Upto (fun j => j = w.heap.size) w6 wx))
                case first =>
                  go_wp2_with fail
                  go_meet
                  case rel => exact ⟨rfl, sets12_row HZ.out (.int .i64 h0) (.int .i64 h1) (.int .i64 h2) (.int .i64 h3) (.int .i64 h4) (.int .i64 h5) (.bool wv) (.slice A' k c') (.complex .f64 0 0) (.complex .f64 0 0) (.complex .f64 0 0) (.complex .f64 0 0), upto12 _ _ _ _ _ _ _ _ _ _ _ _ _ _⟩
                case rest =>
                  clear x0 x1 x2 x3 x4 x5 x6 x7 x8 x9 x10 x11 xz y0 y1 y2 y3 y4 y5 y6 y7 y8 y9 y10 y11 yz
                  obtain ⟨rfl, h9, hu9⟩ := hcut
                  replace h9 := h9.out
                  replace hu9 := hu9.out
                  obtain ⟨x0, x1, x2, x3, x4, x5, x6, x7, x8, x9, x10, x11, xz⟩ := row12 h9
                  clear h9
                  go_step
                  go_step
                  try simp only [Exit.inBlock, Exit.then]
                  try simp +zetaDelta only [Exit.inBlock, Exit.then]
                  refine bodyPost_ret (by simp [results, Try.results9, go_sem, x0, x1, x2, x3, x4, x5, x6, x7, x8, x9, x10, x11]; try rfl) rfl ?_
                  obtain ⟨e1, e2⟩ := readR_yes (rr_some HN24.out (by rw [HBODY.out]; exact HEND.out) (by rw [HBODY.out]; exact HR.out) (by rw [HBODY.out, HLM.out]; exact HLB.out))
                  rw [HBODY.out] at e1
                  rw [e1, e2]
                  refine ⟨A', c', by unfold mcells; rw [HPSL.out], (HPUTS.out.below' (n := k) hu9 ?_), HB.out.trans (hu9.below (B := w.heap.size) HB.out.size (fun k hk e => by omega))⟩
                  exact fun j e => by have := (HOL.out j e).1; have := HRP.out; omega

end Go.Proofs.Ytbhjdapkhcgmlaa

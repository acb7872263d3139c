import Derived.Test.YtbhjdapkhcgmlaaMsgY
import Derived.Handy
import Derived.Deep.Cut
import Derived.Deep.RegionLaw
import Derived.Deep.CutRange
import Derived.Deep.CutBlock

set_option linter.unusedSimpArgs false
set_option linter.unusedVariables false
set_option linter.unnecessarySimpa false

namespace Go.Proofs.Ytbhjdapkhcgmlaa
open Go.RowKit

attribute [local go_sem] run_store_complex

/-! msg.Read of any bytes: the walk. -/

theorem read_no1 {b : List UInt8} {h0 h1 h2 h3 h4 h5 h6 h7 : Int} {s1 : RState} (hH : numsX (b, false) 8 = ([h0, h1, h2, h3, h4, h5, h6, h7], s1)) (h : 1 < h6 ∨ 24 < h7) : readO b = none := by
  unfold readO
  rw [hH]
  exact if_pos h

theorem read_no2 {b : List UInt8} {h0 h1 h2 h3 h4 h5 h6 h7 : Int} {s1 s2 : RState} {m : MsgM} (hH : numsX (b, false) 8 = ([h0, h1, h2, h3, h4, h5, h6, h7], s1)) (h6' : ¬ 1 < h6) (h7' : ¬ 24 < h7) (hB : bodyX [h0, h1, h2, h3, h4, h5, h6, h7] s1 = (m, s2)) (h : s2.2 = true ∨ 0 < s2.1.length ∨ mright m = false) : readO b = none := by
  unfold readO
  rw [hH]
  show (if 1 < h6 ∨ 24 < h7 then none else if (bodyX [h0, h1, h2, h3, h4, h5, h6, h7] s1).2.2 = true ∨ 0 < (bodyX [h0, h1, h2, h3, h4, h5, h6, h7] s1).2.1.length ∨ mright (bodyX [h0, h1, h2, h3, h4, h5, h6, h7] s1).1 = false then none else some (bodyX [h0, h1, h2, h3, h4, h5, h6, h7] s1).1) = none
  rw [hB, if_neg (fun q => q.elim h6' h7')]
  exact if_pos h

theorem read_some {b : List UInt8} {h0 h1 h2 h3 h4 h5 h6 h7 : Int} {s1 s2 : RState} {m : MsgM} (hH : numsX (b, false) 8 = ([h0, h1, h2, h3, h4, h5, h6, h7], s1)) (h6' : ¬ 1 < h6) (h7' : ¬ 24 < h7) (hB : bodyX [h0, h1, h2, h3, h4, h5, h6, h7] s1 = (m, s2)) (e1 : s2.2 = false) (e2 : ¬ 0 < s2.1.length) (e3 : mright m = true) : readO b = some m := by
  unfold readO
  rw [hH]
  show (if 1 < h6 ∨ 24 < h7 then none else if (bodyX [h0, h1, h2, h3, h4, h5, h6, h7] s1).2.2 = true ∨ 0 < (bodyX [h0, h1, h2, h3, h4, h5, h6, h7] s1).2.1.length ∨ mright (bodyX [h0, h1, h2, h3, h4, h5, h6, h7] s1).1 = false then none else some (bodyX [h0, h1, h2, h3, h4, h5, h6, h7] s1).1) = some m
  rw [hB, if_neg (fun q => q.elim h6' h7')]
  exact if_neg (fun q => by rcases q with q | q | q; (rw [e1] at q; cases q); exact e2 q; (rw [e3] at q; cases q))

theorem body_no5 (h0 h1 h2 h3 h4 h5 h6 : Int) (N : Nat) (s1 : RState) (h : h0 ≠ 5) : bodyX [h0, h1, h2, h3, h4, h5, h6, (N : Int)] s1 = (⟨h0, h1, h2, h3, h4, h5, h6 == 1, (putsX s1 N).1, (0, 0), (0, 0), (0, 0), (0, 0)⟩, (putsX s1 N).2) := by
  unfold bodyX
  show (if h0 = 5 then _ else _) = _
  rw [if_neg h]
  rfl
theorem body_5 (h1 h2 h3 h4 h5 h6 : Int) (N : Nat) (s1 : RState) : bodyX [5, h1, h2, h3, h4, h5, h6, (N : Int)] s1 = (⟨5, h1, h2, h3, h4, h5, h6 == 1, (putsX s1 N).1, atV (putsX s1 N).2 0, atV (putsX s1 N).2 1, atV (putsX s1 N).2 2, atV (putsX s1 N).2 3⟩, afterV (putsX s1 N).2 4) := rfl

set_option maxRecDepth 1000000 in
set_option maxHeartbeats 16000000 in
theorem mread_c (A : Option Addr) (b : List UInt8) (n c : Nat) (w : World) (hx : Rd g8 w A b) (hxn : A = none → c = 0) (hxe : b.length = n) (hxc : n ≤ c) (hxc2 : c ≤ 9223372036854775807) (hxl : n ≤ 140737488355328) (hxb : ∀ a, A = some a → a.block < w.heap.size) :
    Calls Try.prog 8 #[.slice A n c] w fun e w' => ∃ A' c', e = .returned (.tuple #[.agg (mcells (readM b) A' c'), .int .i64 (readE b)]) ∧ PutsAt w' A' c' (readM b).ps ∧ Below w.heap.size w w' := by
  have HX := Lib.hid hx
  have HXB := Lib.hid hxb
  have HXE := Lib.hid hxe
  clear hx hxb hxe
  go_enter Try.func8, Try.ntmps8
  go_wp2_with fail
  have hb := below2 w (Obj.cells #[.int .i64 0, .int .i64 0, .int .i64 0, .int .i64 0, .int .i64 0, .int .i64 0, .bool false, .slice none 0 0, .complex .f64 0 0, .complex .f64 0 0, .complex .f64 0 0, .complex .f64 0 0] 30) (Obj.cells #[.slice A n c, .bool false] 60)
  have hz0 := heap_alloc2_old w (Obj.cells #[.int .i64 0, .int .i64 0, .int .i64 0, .int .i64 0, .int .i64 0, .int .i64 0, .bool false, .slice none 0 0, .complex .f64 0 0, .complex .f64 0 0, .complex .f64 0 0, .complex .f64 0 0] 30) (Obj.cells #[.slice A n c, .bool false] 60)
  have hr0 := heap_alloc2_new w (Obj.cells #[.int .i64 0, .int .i64 0, .int .i64 0, .int .i64 0, .int .i64 0, .int .i64 0, .bool false, .slice none 0 0, .complex .f64 0 0, .complex .f64 0 0, .complex .f64 0 0, .complex .f64 0 0] 30) (Obj.cells #[.slice A n c, .bool false] 60)
  generalize (w.alloc (Obj.cells #[.int .i64 0, .int .i64 0, .int .i64 0, .int .i64 0, .int .i64 0, .int .i64 0, .bool false, .slice none 0 0, .complex .f64 0 0, .complex .f64 0 0, .complex .f64 0 0, .complex .f64 0 0] 30)).alloc (Obj.cells #[.slice A n c, .bool false] 60) = W0 at *
  have HB0 := Lib.hid hb
  have HZ0 := Lib.hid hz0
  have HL0 : Hid (w.heap.size + 1 < W0.heap.size) := lt_of_row (Nat.le_refl _) hr0
  have hq0 : RdQ (fun j => j = w.heap.size) W0 (w.heap.size + 1) (b, false) := by
    have e := HXE.out
    subst e
    exact ⟨A, c, hr0, HX.out.below hb, hxn, hxc, hxc2, hxl, fun a e => by have := HXB.out a e; have := HL0.out; exact ⟨by omega, by omega, by omega⟩⟩
  refine (rnums_q _ (w.heap.size + 1) (b, false) 8 (by decide) W0 hq0 (fun j e => by have := HL0.out; omega)).mono ?_; rintro e w1 ⟨A1, c1, rfl, ho1, hq1, hu1⟩
  have hlen := numsX_length (b, false) 8
  have hbnd := numsX_bound (b, false) 8
  generalize hH : numsX (b, false) 8 = hs at *
  obtain ⟨hl, s1⟩ := hs
  obtain ⟨h0, h1, h2, h3, h4, h5, h6, h7, rfl⟩ := eight hlen
  have HH := Lib.hid hH
  have n0 := hbnd h0 (by simp)
  have n1 := hbnd h1 (by simp)
  have n2 := hbnd h2 (by simp)
  have n3 := hbnd h3 (by simp)
  have n4 := hbnd h4 (by simp)
  have n5 := hbnd h5 (by simp)
  have n7 := hbnd h7 (by simp)
  have HBD : Hid (0 ≤ h0 ∧ 0 ≤ h1 ∧ 0 ≤ h2 ∧ 0 ≤ h3 ∧ h3 ≤ 16777215 ∧ 0 ≤ h4 ∧ 0 ≤ h5 ∧ 0 ≤ h7) := ⟨n0.1, n1.1, n2.1, n3.1, n3.2, n4.1, n5.1, n7.1⟩
  clear n0 n1 n2 n3 n4 n5 n7 hbnd hlen hH hb hz0 hr0 hq0 hxn hxc hxc2 hxl
  obtain ⟨q, rfl, hqb⟩ := ho1.at_some (by simp)
  have i0 := ho1.cell (j := 0) rfl
  have i1 := ho1.cell (j := 1) rfl
  have i2 := ho1.cell (j := 2) rfl
  have i3 := ho1.cell (j := 3) rfl
  have i4 := ho1.cell (j := 4) rfl
  have i5 := ho1.cell (j := 5) rfl
  have i6 := ho1.cell (j := 6) rfl
  have i7 := ho1.cell (j := 7) rfl
  have HQ1 := Lib.hid hq1
  have HU1 := Lib.hid hu1
  clear ho1 hq1 hu1 hqb
  go_wp2_with fail
  have hnq : w1.heap.size ≠ q := World.new_ne w1 _ i0
  go_region_held_law (fun W => W.cell? ⟨q, 0, none⟩ = some (g64 h0) ∧ W.cell? ⟨q, 1, none⟩ = some (g64 h1) ∧ W.cell? ⟨q, 2, none⟩ = some (g64 h2) ∧ W.cell? ⟨q, 3, none⟩ = some (g64 h3) ∧ W.cell? ⟨q, 4, none⟩ = some (g64 h4) ∧ W.cell? ⟨q, 5, none⟩ = some (g64 h5) ∧ W.cell? ⟨q, 6, none⟩ = some (g64 h6)) (go_keep) (fail)

  all_goals
    rename_i hh
    clear hh
    generalize hwv : (h6 == 1) = wv at *
    have HWV := Lib.hid hwv
    clear hwv
    have hbm := ((Below.refl w1.heap.size w1).alloc (Nat.le_refl _) (Obj.cells #[.int .i64 h0, .int .i64 h1, .int .i64 h2, .int .i64 h3, .int .i64 h4, .int .i64 h5, .bool wv, .slice none 0 0, .complex .f64 0 0, .complex .f64 0 0, .complex .f64 0 0, .complex .f64 0 0] 30)).drew
    have hp := row_drewI (heap_alloc_new w1 (Obj.cells #[.int .i64 h0, .int .i64 h1, .int .i64 h2, .int .i64 h3, .int .i64 h4, .int .i64 h5, .bool wv, .slice none 0 0, .complex .f64 0 0, .complex .f64 0 0, .complex .f64 0 0, .complex .f64 0 0] 30))
    have hsz : (w1.alloc (Obj.cells #[.int .i64 h0, .int .i64 h1, .int .i64 h2, .int .i64 h3, .int .i64 h4, .int .i64 h5, .bool wv, .slice none 0 0, .complex .f64 0 0, .complex .f64 0 0, .complex .f64 0 0, .complex .f64 0 0] 30)).drew.heap.size = w1.heap.size + 1 := by rw [heapDrew]; simp
    generalize (w1.alloc (Obj.cells #[.int .i64 h0, .int .i64 h1, .int .i64 h2, .int .i64 h3, .int .i64 h4, .int .i64 h5, .bool wv, .slice none 0 0, .complex .f64 0 0, .complex .f64 0 0, .complex .f64 0 0, .complex .f64 0 0] 30)).drew = W2 at *
    have hru := HU1.out.size
    have hres : W2.heap[w.heap.size]? = _ := (hbm.block w.heap.size (by have := HL0.out; omega)).trans ((HU1.out.block w.heap.size (by have := HL0.out; omega) (by omega)).trans HZ0.out)
    have j6 := (cell_below hbm i6).trans rfl
    have j7 := (cell_below hbm i7).trans rfl
    have HB := Lib.hid (HB0.out.trans ((HU1.out.below (B := w.heap.size) HB0.out.size (fun k hk e => by omega)).trans (hbm.mono (by have := HB0.out.size; omega))))
    have HZ := Lib.hid hres
    have HP := Lib.hid hp
    have hRP : w.heap.size + 1 < w1.heap.size := by have := HL0.out; omega
    have hq2 := (HQ1.out.widen (K' := KP w.heap.size w1.heap.size (.slice none 0 0)) (fun j hj hk => by
      rcases hk with e | e | e
      · exact e
      · omega
      · cases e)).upto (Upto.of_below (K := fun _ => False) hbm) (fun _ e => e.elim) id
    have HQ := Lib.hid hq2
    have HRP := Lib.hid hRP
    have HSZ : Hid (w1.heap.size + 1 ≤ W2.heap.size) := Nat.le_of_eq hsz.symm
    clear i0 i1 i2 i3 i4 i5 i6 i7 HU1 HZ0 HB0 hbm HQ1 hq2 hru hsz hres hnq hRP HL0 HX HXB HXE
    generalize w1.heap.size = P at *
    clear hp
    by_cases k6 : 1 < h6
    · skip
      obtain ⟨x0, x1, x2, x3, x4, x5, x6, x7, x8, x9, x10, x11, xz⟩ := row12 HZ.out
      go_upto_region 5 with fail
      go_cut [3] from 47 to 47 (fun e wx => e = .int .i64 101 ∧ Hid (wx.heap[w.heap.size]? = some (.cells #[.int .i64 0, .int .i64 0, .int .i64 0, .int .i64 0, .int .i64 0, .int .i64 0, .bool false, .slice none 0 0, .complex .f64 0 0, .complex .f64 0 0, .complex .f64 0 0, .complex .f64 0 0] 30)) ∧ Hid (Upto (fun j => j = w.heap.size) W2 wx))
      case first =>
        go_wp2_with fail
        go_meet
        case rel => exact ⟨rfl, sets12_row HZ.out (.int .i64 0) (.int .i64 0) (.int .i64 0) (.int .i64 0) (.int .i64 0) (.int .i64 0) (.bool false) (.slice none 0 0) (.complex .f64 0 0) (.complex .f64 0 0) (.complex .f64 0 0) (.complex .f64 0 0), upto12 _ _ _ _ _ _ _ _ _ _ _ _ _ _⟩
      case rest =>
        clear x0 x1 x2 x3 x4 x5 x6 x7 x8 x9 x10 x11 xz
        obtain ⟨rfl, h9, hu9⟩ := hcut
        replace h9 := h9.out
        replace hu9 := hu9.out
        obtain ⟨x0, x1, x2, x3, x4, x5, x6, x7, x8, x9, x10, x11, xz⟩ := row12 h9
        clear h9
        go_step
        go_step
        try simp only [Exit.inBlock, Exit.then]
        refine bodyPost_ret (by simp [results, Try.results8, go_sem, x0, x1, x2, x3, x4, x5, x6, x7, x8, x9, x10, x11]; try rfl) rfl ?_
        obtain ⟨e1, e2⟩ := read_no (read_no1 HH.out (.inl k6))
        rw [e1, e2]
        exact ⟨none, 0, rfl, .inl ⟨rfl, rfl, rfl⟩, HB.out.trans (hu9.below (B := w.heap.size) HB.out.size (fun k hk e => by omega))⟩
    · by_cases k7 : 24 < h7
      · skip
        obtain ⟨x0, x1, x2, x3, x4, x5, x6, x7, x8, x9, x10, x11, xz⟩ := row12 HZ.out
        go_upto_region 5 with fail
        go_cut [3] from 47 to 47 (fun e wx => e = .int .i64 101 ∧ Hid (wx.heap[w.heap.size]? = some (.cells #[.int .i64 0, .int .i64 0, .int .i64 0, .int .i64 0, .int .i64 0, .int .i64 0, .bool false, .slice none 0 0, .complex .f64 0 0, .complex .f64 0 0, .complex .f64 0 0, .complex .f64 0 0] 30)) ∧ Hid (Upto (fun j => j = w.heap.size) W2 wx))
        case first =>
          go_wp2_with fail
          go_meet
          case rel => exact ⟨rfl, sets12_row HZ.out (.int .i64 0) (.int .i64 0) (.int .i64 0) (.int .i64 0) (.int .i64 0) (.int .i64 0) (.bool false) (.slice none 0 0) (.complex .f64 0 0) (.complex .f64 0 0) (.complex .f64 0 0) (.complex .f64 0 0), upto12 _ _ _ _ _ _ _ _ _ _ _ _ _ _⟩
        case rest =>
          clear x0 x1 x2 x3 x4 x5 x6 x7 x8 x9 x10 x11 xz
          obtain ⟨rfl, h9, hu9⟩ := hcut
          replace h9 := h9.out
          replace hu9 := hu9.out
          obtain ⟨x0, x1, x2, x3, x4, x5, x6, x7, x8, x9, x10, x11, xz⟩ := row12 h9
          clear h9
          go_step
          go_step
          try simp only [Exit.inBlock, Exit.then]
          refine bodyPost_ret (by simp [results, Try.results8, go_sem, x0, x1, x2, x3, x4, x5, x6, x7, x8, x9, x10, x11]; try rfl) rfl ?_
          obtain ⟨e1, e2⟩ := read_no (read_no1 HH.out (.inr k7))
          rw [e1, e2]
          exact ⟨none, 0, rfl, .inl ⟨rfl, rfl, rfl⟩, HB.out.trans (hu9.below (B := w.heap.size) HB.out.size (fun k hk e => by omega))⟩
      · obtain ⟨N, hNeq⟩ := Int.eq_ofNat_of_zero_le HBD.out.2.2.2.2.2.2.2
        subst hNeq
        have hN : N ≤ 24 := by omega
        go_wp2_with fail
        clear j6 j7
        go_loopw [51] (fun i wr => ∃ (k : Nat) (A' : Option Addr) (c' : Nat), k ≤ N ∧ i = .int .i64 k ∧ Hid (RdQ (KP w.heap.size P (.slice A' k c')) wr (w.heap.size + 1) (putsX s1 k).2) ∧ Hid (wr.heap[P]? = some (.cells #[.int .i64 h0, .int .i64 h1, .int .i64 h2, .int .i64 h3, .int .i64 h4, .int .i64 h5, .bool wv, .slice A' k c', .complex .f64 0 0, .complex .f64 0 0, .complex .f64 0 0, .complex .f64 0 0] 30)) ∧ Hid (OwP wr (P + 1) A' k (putsX s1 k).1 c' ∧ (k = 0 → A' = none)) ∧ Hid (wr.heap[w.heap.size]? = some (.cells #[.int .i64 0, .int .i64 0, .int .i64 0, .int .i64 0, .int .i64 0, .int .i64 0, .bool false, .slice none 0 0, .complex .f64 0 0, .complex .f64 0 0, .complex .f64 0 0, .complex .f64 0 0] 30)) ∧ Hid (Below w.heap.size w wr)) (fun i _ => N - (intOf i).toNat)
        case atStart => exact ⟨0, none, 0, Nat.zero_le _, rfl, HQ, HP, ⟨OwP.nil _ _, fun _ => rfl⟩, HZ, HB⟩
        case round =>
          clear HQ HP HZ HB HSZ
          obtain ⟨k, A', c', hk, rfl, hq, hp, ho, hz, hb⟩ := hrel
          have HPL := Lib.hid (Array.getElem?_eq_some_iff.1 hp.out).1
          have HOL := Lib.hid ho.out.1.lt
          have HKL : Hid (∀ j, KP w.heap.size P (.slice A' k c') j → j < wr.heap.size) := by
            intro j e
            have h1 := HPL.out
            have h2 := HRP.out
            rcases e with e | e | e
            · omega
            · omega
            · exact (HOL.out j e).2
          by_cases hlt : k < N
          · have hv := fun W => rnums_q (KP w.heap.size P (.slice A' k c')) (w.heap.size + 1) (putsX s1 k).2 2 (by decide) W
            obtain ⟨x, y, exy⟩ := two (numsX_length (putsX s1 k).2 2)
            have hstep : (putsX s1 (k + 1)) = ((putsX s1 k).1 ++ [⟨x, y, (valX (numsX (putsX s1 k).2 2).2).1.1, (valX (numsX (putsX s1 k).2 2).2).1.2⟩], (valX (numsX (putsX s1 k).2 2).2).2) := by
              rw [putsX]; unfold stepX; rw [exy]; rfl
            rw [exy] at hv
            generalize (numsX (putsX s1 k).2 2).2 = st2 at *
            have hval := fun W => rval_q (KP w.heap.size P (.slice A' k c')) (w.heap.size + 1) st2 W
            generalize valX st2 = V at *
            obtain ⟨⟨re, im⟩, s3⟩ := V
            have HSTEP := Lib.hid hstep
            have HV := Lib.hid hv
            have HVAL := Lib.hid hval
            clear hstep hv hval exy
            generalize (putsX s1 k).2 = st at *
            generalize (putsX s1 k).1 = ps at *
            go_upto_block 1 with fail
            go_cut [51] from 52 to 69 (fun i wx => i = .int .i64 k ∧ ∃ (A2 : Option Addr) (c2 : Nat), Hid (RdQ (KP w.heap.size P (.slice A2 (k + 1) c2)) wx (w.heap.size + 1) (putsX s1 (k + 1)).2) ∧ Hid (wx.heap[P]? = some (.cells #[.int .i64 h0, .int .i64 h1, .int .i64 h2, .int .i64 h3, .int .i64 h4, .int .i64 h5, .bool wv, .slice A2 (k + 1) c2, .complex .f64 0 0, .complex .f64 0 0, .complex .f64 0 0, .complex .f64 0 0] 30)) ∧ Hid (OwP wx (P + 1) A2 (k + 1) (putsX s1 (k + 1)).1 c2 ∧ ((k + 1) = 0 → A2 = none)) ∧ Hid (wx.heap[w.heap.size]? = some (.cells #[.int .i64 0, .int .i64 0, .int .i64 0, .int .i64 0, .int .i64 0, .int .i64 0, .bool false, .slice none 0 0, .complex .f64 0 0, .complex .f64 0 0, .complex .f64 0 0, .complex .f64 0 0] 30)) ∧ Hid (Below w.heap.size w wx))
            case first =>
              go_wp2_with fail
              refine (HV.out wr hq.out HKL.out).mono ?_; rintro e w2 ⟨Aa, ca, rfl, hoa, hqa, hua⟩
              obtain ⟨qa, rfl, hqab⟩ := hoa.at_some (by simp)
              have i0 := hoa.cell (j := 0) rfl
              have i1 := hoa.cell (j := 1) rfl
              have HQAL : Hid (wr.heap.size ≤ qa ∧ qa < w2.heap.size) := ⟨hqab, World.block_lt_of_cell? w2 _ i0⟩
              have HP2 := Lib.hid ((hua.block P HPL.out (by have := HRP.out; omega)).trans hp.out)
              have HZ2 := Lib.hid ((hua.block w.heap.size (by have := HRP.out; have := HPL.out; omega) (by omega)).trans hz.out)
              have HO2 := Lib.hid (ho.out.1.upto hua (fun j e e2 => by have := (HOL.out j e).1; have := HRP.out; omega))
              have HB2 := Lib.hid (hb.out.trans (hua.below (B := w.heap.size) hb.out.size (fun j hj e => by omega)))
              have HQ2 : Hid (RdQ (KP w.heap.size P (.slice A' k c')) w2.drew (w.heap.size + 1) st2) := hqa.upto (K' := fun _ => False) (Upto.refl _ _).drew (fun _ e => e.elim) id
              have HS2 := Lib.hid hua.size
              have HKL2 : Hid (∀ j, KP w.heap.size P (.slice A' k c') j → j < w2.drew.heap.size) := fun j e => Nat.lt_of_lt_of_le (HKL.out j e) hua.size
              obtain ⟨y0, y1, y2, y3, y4, y5, y6, y7, y8, y9, y10, y11, yz⟩ := row12 HP2.out
              clear hoa hqa hua hqab hq hp ho hz hb y0 y1 y2 y3 y4 y5 y6 y8 y9 y10 y11
              obtain ⟨t0, hti, hz0, hz1, hz2⟩ := info_parts infoP
              have HTI := Lib.hid hti
              clear hti
              have HFIVE : Hid (∀ w5 : World, Upto (fun j => j = w.heap.size + 1) w2.drew w5 → w5.heap[P]? = some (.cells #[.int .i64 h0, .int .i64 h1, .int .i64 h2, .int .i64 h3, .int .i64 h4, .int .i64 h5, .bool wv, .slice A' k c', .complex .f64 0 0, .complex .f64 0 0, .complex .f64 0 0, .complex .f64 0 0] 30) ∧ w5.heap[w.heap.size]? = some (.cells #[.int .i64 0, .int .i64 0, .int .i64 0, .int .i64 0, .int .i64 0, .int .i64 0, .bool false, .slice none 0 0, .complex .f64 0 0, .complex .f64 0 0, .complex .f64 0 0, .complex .f64 0 0] 30) ∧ OwP w5 (P + 1) A' k ps c' ∧ Below w.heap.size w w5 ∧ P < w5.heap.size ∧ qa < w5.heap.size ∧ (w5.cell? ⟨P, 7, none⟩ = some (.slice A' k c') ∧ w5.cell? ⟨qa, 0, none⟩ = some (g64 x) ∧ w5.cell? ⟨qa, 1, none⟩ = some (g64 y))) := by
                intro w5 hu5
                have hu : Upto (fun j => j = w.heap.size + 1) w2 w5 := ((Upto.refl (fun j => j = w.heap.size + 1) w2).drew).trans hu5 (fun _ _ e => e)
                have g1 := HRP.out
                have g2 := HPL.out
                have g3 := HQAL.out
                have g4 := HS2.out
                refine ⟨(hu.block P (by omega) (by omega)).trans HP2.out, (hu.block w.heap.size (by omega) (by omega)).trans HZ2.out, HO2.out.upto hu (fun j e e2 => by have := (HOL.out j e).1; omega), HB2.out.trans (hu.below (B := w.heap.size) HB2.out.size (fun j hj e => by omega)), by have := hu.size; omega, by have := hu.size; omega, ?_, ?_, ?_⟩
                · exact (hu.cell (p := ⟨P, 7, none⟩) (by show P < _; omega) (by show ¬ P = _; omega)).trans y7
                · exact (hu.cell (p := ⟨qa, 0, none⟩) (by show qa < _; omega) (by show ¬ qa = _; omega)).trans i0
                · exact (hu.cell (p := ⟨qa, 1, none⟩) (by show qa < _; omega) (by show ¬ qa = _; omega)).trans i1
              have HSEV : Hid (∀ (w5 w7 : World), Upto (fun j => j = w.heap.size + 1) w2.drew w5 → (w5.alloc (.cells #[.int .i64 x, .int .i64 y, .complex .f64 re im] 53)).grownBy w7 (Value.slice A' k c').ownBlock →
                  w7.cell? ⟨P, 7, none⟩ = some (.slice A' k c') ∧ w7.frozen? ⟨P, 7, none⟩ = false ∧ (w7.cell? ⟨P, 7, none⟩ = some (.slice A' k c') ∧ w7.cell? ⟨qa, 0, none⟩ = some (g64 x) ∧ w7.cell? ⟨qa, 1, none⟩ = some (g64 y))) := by
                intro w5 w7 hu5 hg7
                obtain ⟨f1, -, -, -, f5, f6, f7, f8, f9⟩ := HFIVE.out w5 hu5
                have g3 := HQAL.out
                have hal := (Below.refl w5.heap.size w5).alloc (Nat.le_refl _) (.cells #[.int .i64 x, .int .i64 y, .complex .f64 re im] 53)
                have hp7 := (hg7.block P (Nat.lt_of_lt_of_le f5 hal.size) (fun e => by have := (HOL.out P e.symm).1; omega)).trans ((hal.block P f5).trans f1)
                have p7 := (cell_of_row w7 P 7 _ _ _ hp7).trans rfl
                have q0 := (hg7.cell_far ⟨qa, 0, none⟩ (Nat.lt_of_lt_of_le f6 hal.size) (fun e => by have := (HOL.out qa e.symm).2; omega)).trans (cell_alloc _ f8)
                have q1 := (hg7.cell_far ⟨qa, 1, none⟩ (Nat.lt_of_lt_of_le f6 hal.size) (fun e => by have := (HOL.out qa e.symm).2; omega)).trans (cell_alloc _ f9)
                exact ⟨p7, row_thawed hp7 7, p7, q0, q1⟩
              have HAPP : Hid (∀ w5 : World, Upto (fun j => j = w.heap.size + 1) w2.drew w5 → (w5.alloc (.cells #[.int .i64 x, .int .i64 y, .complex .f64 re im] 53)).ownsRow (P + 1) 53 3 (.slice A' k c') k (pcells ps) ∧ P + 1 ≤ (w5.alloc (.cells #[.int .i64 x, .int .i64 y, .complex .f64 re im] 53)).heap.size) := by
                intro w5 hu5
                obtain ⟨-, -, f3, -, f5, -⟩ := HFIVE.out w5 hu5
                have hal := (Below.refl w5.heap.size w5).alloc (Nat.le_refl _) (.cells #[.int .i64 x, .int .i64 y, .complex .f64 re im] 53)
                exact ⟨f3.below hal, Nat.le_trans f5 hal.size⟩
              go_wp2_with fail
              go_region_law (first
                | (go_simp; go_at_call 24; refine (HVAL.out _ HQ2.out HKL2.out).mono ?_; rintro e w5 ⟨rfl, hq5, hu5⟩; have HQ5 := Lib.hid hq5; have HU5 := Lib.hid hu5; obtain ⟨f7, f8, f9⟩ := (HFIVE.out w5 hu5).2.2.2.2.2.2; have f7a := fun o => cell_alloc o f7; clear hq5 hu5)
                | (refine step_append_lies _ (by rfl) _ _ _ (by rfl) (P + 1) 53 t0 _ 3 32 Try.underlying26 HTI.out hz0 hz1 hz2 rfl (by decide) (.slice A' k c') k (pcells ps) (by rfl) (HAPP.out w5 HU5.out).1 ⟨w5.heap.size, 0, none⟩ 1 1 [.int .i64 x, .int .i64 y, .complex .f64 re im] (by rfl) rfl (World.news_of_block (heap_alloc_new w5 _)) (one_put ⟨x, y, re, im⟩) (by decide) (by simp only [maxLen]; omega) (by omega) (HAPP.out w5 HU5.out).2 _ rfl ?_; intro g cap w7 ho7 hg7 hat7 hlt7; have H7 := HSEV.out w5 w7 HU5.out hg7; have p7 := H7.1; have z7 := H7.2.1; have HO7 := Lib.hid ho7; have HG7 := Lib.hid hg7; have HAT7 := Lib.hid hat7; clear ho7 hg7 hat7 hlt7 H7))
              all_goals
                obtain ⟨f1, f2, f3, f4, -⟩ := HFIVE.out w5 HU5.out
                have HF := put_fin (p := ⟨x, y, re, im⟩) HRP.out f4 HQ5.out f1 f2 f3 HO7.out HG7.out HAT7.out
                go_wp2_with fail
                go_meet
                case rel => exact ⟨rfl, some ⟨g, 0, none⟩, cap, by rw [HSTEP.out]; exact HF.1, HF.2.1, ⟨by rw [HSTEP.out]; exact HF.2.2.1, fun e => absurd e (by omega)⟩, HF.2.2.2.1, HF.2.2.2.2⟩
            case rest =>
              clear HVAL HV hq hp ho hz hb HPL HOL HKL
              obtain ⟨rfl, A2, c2, r1, r2, r3, r4, r5⟩ := hcut
              go_wp2_with fail
              go_roundw
              case rel => exact ⟨k + 1, A2, c2, by omega, by simp, r1, r2, r3, r4, r5⟩
              case measure => simp [intOf]; omega
          · have he : k = N := by omega
            subst he
            have HPF := Lib.hid hp.out
            have HO := Lib.hid ho.out
            have HZ := Lib.hid hz.out
            have HB := Lib.hid hb.out
            have HQF := Lib.hid hq.out
            clear hp ho hz hb hq hk hlt
            by_cases k5 : h0 = 5
            · subst k5
              have HBODY : Hid (bodyX [5, h1, h2, h3, h4, h5, h6, (k : Int)] s1 = (⟨5, h1, h2, h3, h4, h5, wv, (putsX s1 k).1, atV (putsX s1 k).2 0, atV (putsX s1 k).2 1, atV (putsX s1 k).2 2, atV (putsX s1 k).2 3⟩, afterV (putsX s1 k).2 4)) := by have := body_5 h1 h2 h3 h4 h5 h6 k s1; rw [HWV.out] at this; exact this
              obtain ⟨s2, hs2⟩ : ∃ s2, (putsX s1 k).2 = s2 := ⟨_, rfl⟩
              rw [hs2] at HBODY HQF
              clear hs2
              obtain ⟨y0, y1, y2, y3, y4, y5, y6, y7, y8, y9, y10, y11, yz⟩ := row12 HPF.out
              go_wp2_with fail
              clear y0 y1 y2 y3 y4 y5 y6 y7 y8 y9 y10 y11 yz HPL HOL HKL
              go_loopw [73] (fun i wr => ∃ j : Nat, j ≤ 4 ∧ i = .int .i64 j ∧ Hid (RdQ (KP w.heap.size P (.slice A' k c')) wr (w.heap.size + 1) (afterV s2 j)) ∧ Hid (wr.heap[P]? = some (.cells (rowW [.int .i64 5, .int .i64 h1, .int .i64 h2, .int .i64 h3, .int .i64 h4, .int .i64 h5, .bool wv, .slice A' k c'] s2 j) 30)) ∧ Hid (OwP wr (P + 1) A' k (putsX s1 k).1 c' ∧ (k = 0 → A' = none)) ∧ Hid (wr.heap[w.heap.size]? = some (.cells #[.int .i64 0, .int .i64 0, .int .i64 0, .int .i64 0, .int .i64 0, .int .i64 0, .bool false, .slice none 0 0, .complex .f64 0 0, .complex .f64 0 0, .complex .f64 0 0, .complex .f64 0 0] 30)) ∧ Hid (Below w.heap.size w wr)) (fun i _ => 4 - (intOf i).toNat)
              case atStart => exact ⟨0, Nat.zero_le _, rfl, HQF, HPF, HO, HZ, HB⟩
              case round =>
                clear HQF HPF HO HZ HB
                obtain ⟨j, hj, rfl, hq, hp, ho, hz, hb⟩ := hrel
                have HPL := Lib.hid (Array.getElem?_eq_some_iff.1 hp.out).1
                have HOL := Lib.hid ho.out.1.lt
                have HKL : Hid (∀ j, KP w.heap.size P (.slice A' k c') j → j < wr.heap.size) := by
                  intro j e
                  have h1 := HPL.out
                  have h2 := HRP.out
                  rcases e with e | e | e
                  · omega
                  · omega
                  · exact (HOL.out j e).2
                by_cases hlt : j < 4
                · skip
                  have HVAL : Hid (Calls Try.prog 24 #[.pointer (some ⟨w.heap.size + 1, 0, none⟩)] wr fun e w' => e = .returned (.complex .f64 (atV s2 j).1 (atV s2 j).2) ∧ RdQ (KP w.heap.size P (.slice A' k c')) w' (w.heap.size + 1) (afterV s2 (j + 1)) ∧ Upto (fun j => j = w.heap.size + 1) wr w') := rval_q _ _ (afterV s2 j) wr hq.out HKL.out
                  have HP' := Lib.hid hp.out
                  clear hp
                  obtain ⟨re, hre⟩ : ∃ re, (atV s2 j).1 = re := ⟨_, rfl⟩
                  obtain ⟨im, him⟩ : ∃ im, (atV s2 j).2 = im := ⟨_, rfl⟩
                  rw [hre, him] at HVAL
                  have HRE := Lib.hid hre
                  have HIM := Lib.hid him
                  clear hre him
                  go_wp2_with fail
                  refine HVAL.out.mono ?_; rintro e w3 ⟨rfl, hq3, hu3⟩
                  have hp3 := (hu3.block P HPL.out (by have := HRP.out; omega)).trans HP'.out
                  have hz3 := (hu3.block w.heap.size (by have := HPL.out; have := HRP.out; omega) (by omega)).trans hz.out
                  have ho3 := ho.out.1.upto hu3 (fun j e e2 => by have := (HOL.out j e).1; have := HRP.out; omega)
                  obtain ⟨xx, xy, y8⟩ := rowW_at hp3 hlt
                  have yz := row_thawed hp3
                  have HQ3 := Lib.hid hq3
                  have HP3 := Lib.hid hp3
                  have HZ3 := Lib.hid hz3
                  have HO3 := Lib.hid ho3
                  have HPS : Hid (P < w3.heap.size) := Nat.lt_of_lt_of_le HPL.out hu3.size
                  have HB4 := Lib.hid (hb.out.trans (hu3.below (B := w.heap.size) hb.out.size (fun k hk e => by omega)))
                  clear hq3 hu3 hp3 hz3 ho3 HVAL
                  go_wp2_with fail
                  go_roundw
                  case rel =>
                    have hus := (Upto.refl (fun j => j = P) w3).setCell (p := ⟨P, 8 + j, none⟩) rfl (.complex .f64 re im)
                    exact ⟨j + 1, by omega, by simp, HQ3.out.upto hus (fun j e => .inr (.inl e)) (by have := HRP.out; omega), (by unfold Hid; rw [← rowW_set _ _ _ _ _ _ _ _ s2 j hlt, HRE.out, HIM.out]; exact row_set HP3.out (8 + j) (.complex .f64 re im)), ⟨HO3.out.upto hus (fun j e e2 => by have := (HOL.out j e).1; omega), ho.out.2⟩, (hus.block w.heap.size (by have := HPS.out; have := HRP.out; omega) (by have := HRP.out; omega)).trans HZ3.out, HB4.out.trans (hus.below (B := w.heap.size) HB4.out.size (fun k hk e => by have := HRP.out; omega))⟩
                  case measure => simp [intOf]; omega
                · obtain rfl : j = 4 := by omega
                  have HPF := Lib.hid hp.out
                  replace HPF : Hid (wr.heap[P]? = some (.cells #[.int .i64 5, .int .i64 h1, .int .i64 h2, .int .i64 h3, .int .i64 h4, .int .i64 h5, .bool wv, .slice A' k c', .complex .f64 (atV s2 0).1 (atV s2 0).2, .complex .f64 (atV s2 1).1 (atV s2 1).2, .complex .f64 (atV s2 2).1 (atV s2 2).2, .complex .f64 (atV s2 3).1 (atV s2 3).2] 30)) := HPF
                  have HO := Lib.hid ho.out
                  have HZ := Lib.hid hz.out
                  have HB := Lib.hid hb.out
                  have HQF := Lib.hid hq.out
                  clear hp ho hz hb hq hj hlt
                  obtain ⟨A2, c2, hr2, -⟩ := HQF.out.ex
                  obtain ⟨L, hL⟩ : ∃ L, (afterV s2 4).1.length = L := ⟨_, rfl⟩
                  obtain ⟨bd, hbd⟩ : ∃ bd, (afterV s2 4).2 = bd := ⟨_, rfl⟩
                  rw [hL, hbd] at hr2
                  have HL := Lib.hid hL
                  have HBD2 := Lib.hid hbd
                  clear hL hbd
                  obtain ⟨r0, r1, rz⟩ := row2' hr2
                  clear hr2
                  obtain ⟨y0, y1, y2, y3, y4, y5, y6, y7, y8, y9, y10, y11, yz⟩ := row12 HPF.out
                  cases bd
                  rotate_left
                  · skip
                    obtain ⟨x0, x1, x2, x3, x4, x5, x6, x7, x8, x9, x10, x11, xz⟩ := row12 HZ.out
                    go_upto_region 18 with fail
                    go_cut [3] from 99 to 99 (fun e wx => e = .int .i64 101 ∧ Hid (wx.heap[w.heap.size]? = some (.cells #[.int .i64 0, .int .i64 0, .int .i64 0, .int .i64 0, .int .i64 0, .int .i64 0, .bool false, .slice none 0 0, .complex .f64 0 0, .complex .f64 0 0, .complex .f64 0 0, .complex .f64 0 0] 30)) ∧ Hid (Upto (fun j => j = w.heap.size) wr wx))
                    case first =>
                      go_wp2_with fail
                      go_meet
                      case rel => exact ⟨rfl, sets12_row HZ.out (.int .i64 0) (.int .i64 0) (.int .i64 0) (.int .i64 0) (.int .i64 0) (.int .i64 0) (.bool false) (.slice none 0 0) (.complex .f64 0 0) (.complex .f64 0 0) (.complex .f64 0 0) (.complex .f64 0 0), upto12 _ _ _ _ _ _ _ _ _ _ _ _ _ _⟩
                    case rest =>
                      clear x0 x1 x2 x3 x4 x5 x6 x7 x8 x9 x10 x11 xz
                      obtain ⟨rfl, h9, hu9⟩ := hcut
                      replace h9 := h9.out
                      replace hu9 := hu9.out
                      obtain ⟨x0, x1, x2, x3, x4, x5, x6, x7, x8, x9, x10, x11, xz⟩ := row12 h9
                      clear h9
                      go_step
                      go_step
                      try simp only [Exit.inBlock, Exit.then]
                      refine bodyPost_ret (by simp [results, Try.results8, go_sem, x0, x1, x2, x3, x4, x5, x6, x7, x8, x9, x10, x11]; try rfl) rfl ?_
                      obtain ⟨e1, e2⟩ := read_no (read_no2 HH.out (by omega) (by omega) HBODY.out (.inl HBD2.out))
                      rw [e1, e2]
                      exact ⟨none, 0, rfl, .inl ⟨rfl, rfl, rfl⟩, HB.out.trans (hu9.below (B := w.heap.size) HB.out.size (fun k hk e => by omega))⟩
                  by_cases L0 : 0 < L
                  · skip
                    obtain ⟨x0, x1, x2, x3, x4, x5, x6, x7, x8, x9, x10, x11, xz⟩ := row12 HZ.out
                    go_upto_region 18 with fail
                    go_cut [3] from 99 to 99 (fun e wx => e = .int .i64 101 ∧ Hid (wx.heap[w.heap.size]? = some (.cells #[.int .i64 0, .int .i64 0, .int .i64 0, .int .i64 0, .int .i64 0, .int .i64 0, .bool false, .slice none 0 0, .complex .f64 0 0, .complex .f64 0 0, .complex .f64 0 0, .complex .f64 0 0] 30)) ∧ Hid (Upto (fun j => j = w.heap.size) wr wx))
                    case first =>
                      go_wp2_with fail
                      go_meet
                      case rel => exact ⟨rfl, sets12_row HZ.out (.int .i64 0) (.int .i64 0) (.int .i64 0) (.int .i64 0) (.int .i64 0) (.int .i64 0) (.bool false) (.slice none 0 0) (.complex .f64 0 0) (.complex .f64 0 0) (.complex .f64 0 0) (.complex .f64 0 0), upto12 _ _ _ _ _ _ _ _ _ _ _ _ _ _⟩
                    case rest =>
                      clear x0 x1 x2 x3 x4 x5 x6 x7 x8 x9 x10 x11 xz
                      obtain ⟨rfl, h9, hu9⟩ := hcut
                      replace h9 := h9.out
                      replace hu9 := hu9.out
                      obtain ⟨x0, x1, x2, x3, x4, x5, x6, x7, x8, x9, x10, x11, xz⟩ := row12 h9
                      clear h9
                      go_step
                      go_step
                      try simp only [Exit.inBlock, Exit.then]
                      refine bodyPost_ret (by simp [results, Try.results8, go_sem, x0, x1, x2, x3, x4, x5, x6, x7, x8, x9, x10, x11]; try rfl) rfl ?_
                      obtain ⟨e1, e2⟩ := read_no (read_no2 HH.out (by omega) (by omega) HBODY.out (.inr (.inl (by rw [HL.out]; exact L0))))
                      rw [e1, e2]
                      exact ⟨none, 0, rfl, .inl ⟨rfl, rfl, rfl⟩, HB.out.trans (hu9.below (B := w.heap.size) HB.out.size (fun k hk e => by omega))⟩
                  obtain rfl : L = 0 := by omega
                  have hright := (mright_c 5 h1 h2 h3 h4 h5 wv A' k c' (atV s2 0).1 (atV s2 0).2 (atV s2 1).1 (atV s2 1).2 (atV s2 2).1 (atV s2 2).2 (atV s2 3).1 (atV s2 3).2 (putsX s1 k).1 wr (by have := HBD.out; omega) HBD.out.2.1 HBD.out.2.2.1 HBD.out.2.2.2.1 HBD.out.2.2.2.2.1 HBD.out.2.2.2.2.2.1 HBD.out.2.2.2.2.2.2.1 (HO.out.1.at HO.out.2) (putsX_length s1 k) (by omega) (putsX_small s1 k) (fun e => absurd rfl e)).here
                  obtain ⟨R, hR⟩ : ∃ R, rightM 5 h1 h2 h3 h4 h5 wv (putsX s1 k).1 = R := ⟨_, rfl⟩
                  rw [hR] at hright
                  have HR : Hid (mright ⟨5, h1, h2, h3, h4, h5, wv, (putsX s1 k).1, atV s2 0, atV s2 1, atV s2 2, atV s2 3⟩ = R) := hR
                  have HRIGHT := Lib.hid hright
                  have HPSL := Lib.hid (putsX_length s1 k)
                  have HPUTS := Lib.hid (HO.out.1.at HO.out.2)
                  clear hright hR L0
                  go_wp2_with fail
                  refine HRIGHT.out.mono ?_; rintro e w4 ⟨rfl, hb4⟩
                  have HPF4 := Lib.hid ((hb4.block P HPL.out).trans HPF.out)
                  have HZ4 := Lib.hid ((hb4.block w.heap.size (by have := HRP.out; have := HPL.out; omega)).trans HZ.out)
                  have HB4 := Lib.hid (HB.out.trans (hb4.mono HB.out.size))
                  have HPUTS4 := Lib.hid (HPUTS.out.below hb4)
                  clear HZ HB HPF HPUTS y0 y1 y2 y3 y4 y5 y6 y7 y8 y9 y10 y11 yz r0 r1 rz hb4 HQF
                  have HZ := HZ4
                  have HB := HB4
                  have HPF := HPF4
                  have HPUTS := HPUTS4
                  clear HZ4 HB4 HPF4 HPUTS4
                  obtain ⟨y0, y1, y2, y3, y4, y5, y6, y7, y8, y9, y10, y11, yz⟩ := row12 HPF.out
                  cases R
                  · skip
                    obtain ⟨x0, x1, x2, x3, x4, x5, x6, x7, x8, x9, x10, x11, xz⟩ := row12 HZ.out
                    go_upto_region 18 with fail
                    go_cut [3] from 99 to 99 (fun e wx => e = .int .i64 101 ∧ Hid (wx.heap[w.heap.size]? = some (.cells #[.int .i64 0, .int .i64 0, .int .i64 0, .int .i64 0, .int .i64 0, .int .i64 0, .bool false, .slice none 0 0, .complex .f64 0 0, .complex .f64 0 0, .complex .f64 0 0, .complex .f64 0 0] 30)) ∧ Hid (Upto (fun j => j = w.heap.size) w4 wx))
                    case first =>
                      go_wp2_with fail
                      go_meet
                      case rel => exact ⟨rfl, sets12_row HZ.out (.int .i64 0) (.int .i64 0) (.int .i64 0) (.int .i64 0) (.int .i64 0) (.int .i64 0) (.bool false) (.slice none 0 0) (.complex .f64 0 0) (.complex .f64 0 0) (.complex .f64 0 0) (.complex .f64 0 0), upto12 _ _ _ _ _ _ _ _ _ _ _ _ _ _⟩
                    case rest =>
                      clear x0 x1 x2 x3 x4 x5 x6 x7 x8 x9 x10 x11 xz
                      obtain ⟨rfl, h9, hu9⟩ := hcut
                      replace h9 := h9.out
                      replace hu9 := hu9.out
                      obtain ⟨x0, x1, x2, x3, x4, x5, x6, x7, x8, x9, x10, x11, xz⟩ := row12 h9
                      clear h9
                      go_step
                      go_step
                      try simp only [Exit.inBlock, Exit.then]
                      refine bodyPost_ret (by simp [results, Try.results8, go_sem, x0, x1, x2, x3, x4, x5, x6, x7, x8, x9, x10, x11]; try rfl) rfl ?_
                      obtain ⟨e1, e2⟩ := read_no (read_no2 HH.out (by omega) (by omega) HBODY.out (.inr (.inr HR.out)))
                      rw [e1, e2]
                      exact ⟨none, 0, rfl, .inl ⟨rfl, rfl, rfl⟩, HB.out.trans (hu9.below (B := w.heap.size) HB.out.size (fun k hk e => by omega))⟩
                  · skip
                    obtain ⟨x0, x1, x2, x3, x4, x5, x6, x7, x8, x9, x10, x11, xz⟩ := row12 HZ.out
                    go_upto_region 19 with fail
                    go_cut [3] from 100 to 100 (fun e wx => e = .int .i64 0 ∧ Hid (wx.heap[w.heap.size]? = some (.cells #[.int .i64 5, .int .i64 h1, .int .i64 h2, .int .i64 h3, .int .i64 h4, .int .i64 h5, .bool wv, .slice A' k c', .complex .f64 (atV s2 0).1 (atV s2 0).2, .complex .f64 (atV s2 1).1 (atV s2 1).2, .complex .f64 (atV s2 2).1 (atV s2 2).2, .complex .f64 (atV s2 3).1 (atV s2 3).2] 30)) ∧ Hid (Upto (fun j => j = w.heap.size) w4 wx))
                    case first =>
                      go_wp2_with fail
                      go_meet
                      case rel => exact ⟨rfl, sets12_row HZ.out (.int .i64 5) (.int .i64 h1) (.int .i64 h2) (.int .i64 h3) (.int .i64 h4) (.int .i64 h5) (.bool wv) (.slice A' k c') (.complex .f64 (atV s2 0).1 (atV s2 0).2) (.complex .f64 (atV s2 1).1 (atV s2 1).2) (.complex .f64 (atV s2 2).1 (atV s2 2).2) (.complex .f64 (atV s2 3).1 (atV s2 3).2), upto12 _ _ _ _ _ _ _ _ _ _ _ _ _ _⟩
                    case rest =>
                      clear x0 x1 x2 x3 x4 x5 x6 x7 x8 x9 x10 x11 xz y0 y1 y2 y3 y4 y5 y6 y7 y8 y9 y10 y11 yz
                      obtain ⟨rfl, h9, hu9⟩ := hcut
                      replace h9 := h9.out
                      replace hu9 := hu9.out
                      obtain ⟨x0, x1, x2, x3, x4, x5, x6, x7, x8, x9, x10, x11, xz⟩ := row12 h9
                      clear h9
                      go_step
                      go_step
                      try simp only [Exit.inBlock, Exit.then]
                      refine bodyPost_ret (by simp [results, Try.results8, go_sem, x0, x1, x2, x3, x4, x5, x6, x7, x8, x9, x10, x11]; try rfl) rfl ?_
                      obtain ⟨e1, e2⟩ := read_yes (read_some HH.out (by omega) (by omega) HBODY.out HBD2.out (by rw [HL.out]; decide) HR.out)
                      rw [e1, e2]
                      refine ⟨A', c', by unfold mcells; rw [HPSL.out], (HPUTS.out.below' (n := k) hu9 ?_), HB.out.trans (hu9.below (B := w.heap.size) HB.out.size (fun k hk e => by omega))⟩
                      exact fun j e => by have := (HOL.out j e).1; have := HRP.out; omega
            · have f5 : ((h0 : Int) == 5) = false := by simp; omega
              have HBODY : Hid (bodyX [h0, h1, h2, h3, h4, h5, h6, (k : Int)] s1 = (⟨h0, h1, h2, h3, h4, h5, wv, (putsX s1 k).1, (0, 0), (0, 0), (0, 0), (0, 0)⟩, (putsX s1 k).2)) := by have := body_no5 h0 h1 h2 h3 h4 h5 h6 k s1 k5; rw [HWV.out] at this; exact this
              clear k5
              obtain ⟨A2, c2, hr2, -⟩ := HQF.out.ex
              obtain ⟨L, hL⟩ : ∃ L, ((putsX s1 k).2).1.length = L := ⟨_, rfl⟩
              obtain ⟨bd, hbd⟩ : ∃ bd, ((putsX s1 k).2).2 = bd := ⟨_, rfl⟩
              rw [hL, hbd] at hr2
              have HL := Lib.hid hL
              have HBD2 := Lib.hid hbd
              clear hL hbd
              obtain ⟨r0, r1, rz⟩ := row2' hr2
              clear hr2
              obtain ⟨y0, y1, y2, y3, y4, y5, y6, y7, y8, y9, y10, y11, yz⟩ := row12 HPF.out
              cases bd
              rotate_left
              · skip
                obtain ⟨x0, x1, x2, x3, x4, x5, x6, x7, x8, x9, x10, x11, xz⟩ := row12 HZ.out
                go_upto_region 18 with fail
                go_cut [3] from 99 to 99 (fun e wx => e = .int .i64 101 ∧ Hid (wx.heap[w.heap.size]? = some (.cells #[.int .i64 0, .int .i64 0, .int .i64 0, .int .i64 0, .int .i64 0, .int .i64 0, .bool false, .slice none 0 0, .complex .f64 0 0, .complex .f64 0 0, .complex .f64 0 0, .complex .f64 0 0] 30)) ∧ Hid (Upto (fun j => j = w.heap.size) wr wx))
                case first =>
                  go_wp2_with fail
                  go_meet
                  case rel => exact ⟨rfl, sets12_row HZ.out (.int .i64 0) (.int .i64 0) (.int .i64 0) (.int .i64 0) (.int .i64 0) (.int .i64 0) (.bool false) (.slice none 0 0) (.complex .f64 0 0) (.complex .f64 0 0) (.complex .f64 0 0) (.complex .f64 0 0), upto12 _ _ _ _ _ _ _ _ _ _ _ _ _ _⟩
                case rest =>
                  clear x0 x1 x2 x3 x4 x5 x6 x7 x8 x9 x10 x11 xz
                  obtain ⟨rfl, h9, hu9⟩ := hcut
                  replace h9 := h9.out
                  replace hu9 := hu9.out
                  obtain ⟨x0, x1, x2, x3, x4, x5, x6, x7, x8, x9, x10, x11, xz⟩ := row12 h9
                  clear h9
                  go_step
                  go_step
                  try simp only [Exit.inBlock, Exit.then]
                  refine bodyPost_ret (by simp [results, Try.results8, go_sem, x0, x1, x2, x3, x4, x5, x6, x7, x8, x9, x10, x11]; try rfl) rfl ?_
                  obtain ⟨e1, e2⟩ := read_no (read_no2 HH.out (by omega) (by omega) HBODY.out (.inl HBD2.out))
                  rw [e1, e2]
                  exact ⟨none, 0, rfl, .inl ⟨rfl, rfl, rfl⟩, HB.out.trans (hu9.below (B := w.heap.size) HB.out.size (fun k hk e => by omega))⟩
              by_cases L0 : 0 < L
              · skip
                obtain ⟨x0, x1, x2, x3, x4, x5, x6, x7, x8, x9, x10, x11, xz⟩ := row12 HZ.out
                go_upto_region 18 with fail
                go_cut [3] from 99 to 99 (fun e wx => e = .int .i64 101 ∧ Hid (wx.heap[w.heap.size]? = some (.cells #[.int .i64 0, .int .i64 0, .int .i64 0, .int .i64 0, .int .i64 0, .int .i64 0, .bool false, .slice none 0 0, .complex .f64 0 0, .complex .f64 0 0, .complex .f64 0 0, .complex .f64 0 0] 30)) ∧ Hid (Upto (fun j => j = w.heap.size) wr wx))
                case first =>
                  go_wp2_with fail
                  go_meet
                  case rel => exact ⟨rfl, sets12_row HZ.out (.int .i64 0) (.int .i64 0) (.int .i64 0) (.int .i64 0) (.int .i64 0) (.int .i64 0) (.bool false) (.slice none 0 0) (.complex .f64 0 0) (.complex .f64 0 0) (.complex .f64 0 0) (.complex .f64 0 0), upto12 _ _ _ _ _ _ _ _ _ _ _ _ _ _⟩
                case rest =>
                  clear x0 x1 x2 x3 x4 x5 x6 x7 x8 x9 x10 x11 xz
                  obtain ⟨rfl, h9, hu9⟩ := hcut
                  replace h9 := h9.out
                  replace hu9 := hu9.out
                  obtain ⟨x0, x1, x2, x3, x4, x5, x6, x7, x8, x9, x10, x11, xz⟩ := row12 h9
                  clear h9
                  go_step
                  go_step
                  try simp only [Exit.inBlock, Exit.then]
                  refine bodyPost_ret (by simp [results, Try.results8, go_sem, x0, x1, x2, x3, x4, x5, x6, x7, x8, x9, x10, x11]; try rfl) rfl ?_
                  obtain ⟨e1, e2⟩ := read_no (read_no2 HH.out (by omega) (by omega) HBODY.out (.inr (.inl (by rw [HL.out]; exact L0))))
                  rw [e1, e2]
                  exact ⟨none, 0, rfl, .inl ⟨rfl, rfl, rfl⟩, HB.out.trans (hu9.below (B := w.heap.size) HB.out.size (fun k hk e => by omega))⟩
              obtain rfl : L = 0 := by omega
              have hright := (mright_c h0 h1 h2 h3 h4 h5 wv A' k c' 0 0 0 0 0 0 0 0 (putsX s1 k).1 wr (by have := HBD.out; omega) HBD.out.2.1 HBD.out.2.2.1 HBD.out.2.2.2.1 HBD.out.2.2.2.2.1 HBD.out.2.2.2.2.2.1 HBD.out.2.2.2.2.2.2.1 (HO.out.1.at HO.out.2) (putsX_length s1 k) (by omega) (putsX_small s1 k) (fun _ => ⟨rfl, rfl, rfl, rfl, rfl, rfl, rfl, rfl⟩)).here
              obtain ⟨R, hR⟩ : ∃ R, rightM h0 h1 h2 h3 h4 h5 wv (putsX s1 k).1 = R := ⟨_, rfl⟩
              rw [hR] at hright
              have HR : Hid (mright ⟨h0, h1, h2, h3, h4, h5, wv, (putsX s1 k).1, (0, 0), (0, 0), (0, 0), (0, 0)⟩ = R) := hR
              have HRIGHT := Lib.hid hright
              have HPSL := Lib.hid (putsX_length s1 k)
              have HPUTS := Lib.hid (HO.out.1.at HO.out.2)
              clear hright hR L0
              go_wp2_with fail
              refine HRIGHT.out.mono ?_; rintro e w4 ⟨rfl, hb4⟩
              have HPF4 := Lib.hid ((hb4.block P HPL.out).trans HPF.out)
              have HZ4 := Lib.hid ((hb4.block w.heap.size (by have := HRP.out; have := HPL.out; omega)).trans HZ.out)
              have HB4 := Lib.hid (HB.out.trans (hb4.mono HB.out.size))
              have HPUTS4 := Lib.hid (HPUTS.out.below hb4)
              clear HZ HB HPF HPUTS y0 y1 y2 y3 y4 y5 y6 y7 y8 y9 y10 y11 yz r0 r1 rz hb4 HQF
              have HZ := HZ4
              have HB := HB4
              have HPF := HPF4
              have HPUTS := HPUTS4
              clear HZ4 HB4 HPF4 HPUTS4
              obtain ⟨y0, y1, y2, y3, y4, y5, y6, y7, y8, y9, y10, y11, yz⟩ := row12 HPF.out
              cases R
              · skip
                obtain ⟨x0, x1, x2, x3, x4, x5, x6, x7, x8, x9, x10, x11, xz⟩ := row12 HZ.out
                go_upto_region 18 with fail
                go_cut [3] from 99 to 99 (fun e wx => e = .int .i64 101 ∧ Hid (wx.heap[w.heap.size]? = some (.cells #[.int .i64 0, .int .i64 0, .int .i64 0, .int .i64 0, .int .i64 0, .int .i64 0, .bool false, .slice none 0 0, .complex .f64 0 0, .complex .f64 0 0, .complex .f64 0 0, .complex .f64 0 0] 30)) ∧ Hid (Upto (fun j => j = w.heap.size) w4 wx))
                case first =>
                  go_wp2_with fail
                  go_meet
                  case rel => exact ⟨rfl, sets12_row HZ.out (.int .i64 0) (.int .i64 0) (.int .i64 0) (.int .i64 0) (.int .i64 0) (.int .i64 0) (.bool false) (.slice none 0 0) (.complex .f64 0 0) (.complex .f64 0 0) (.complex .f64 0 0) (.complex .f64 0 0), upto12 _ _ _ _ _ _ _ _ _ _ _ _ _ _⟩
                case rest =>
                  clear x0 x1 x2 x3 x4 x5 x6 x7 x8 x9 x10 x11 xz
                  obtain ⟨rfl, h9, hu9⟩ := hcut
                  replace h9 := h9.out
                  replace hu9 := hu9.out
                  obtain ⟨x0, x1, x2, x3, x4, x5, x6, x7, x8, x9, x10, x11, xz⟩ := row12 h9
                  clear h9
                  go_step
                  go_step
                  try simp only [Exit.inBlock, Exit.then]
                  refine bodyPost_ret (by simp [results, Try.results8, go_sem, x0, x1, x2, x3, x4, x5, x6, x7, x8, x9, x10, x11]; try rfl) rfl ?_
                  obtain ⟨e1, e2⟩ := read_no (read_no2 HH.out (by omega) (by omega) HBODY.out (.inr (.inr HR.out)))
                  rw [e1, e2]
                  exact ⟨none, 0, rfl, .inl ⟨rfl, rfl, rfl⟩, HB.out.trans (hu9.below (B := w.heap.size) HB.out.size (fun k hk e => by omega))⟩
              · skip
                obtain ⟨x0, x1, x2, x3, x4, x5, x6, x7, x8, x9, x10, x11, xz⟩ := row12 HZ.out
                go_upto_region 19 with fail
                go_cut [3] from 100 to 100 (fun e wx => e = .int .i64 0 ∧ Hid (wx.heap[w.heap.size]? = some (.cells #[.int .i64 h0, .int .i64 h1, .int .i64 h2, .int .i64 h3, .int .i64 h4, .int .i64 h5, .bool wv, .slice A' k c', .complex .f64 0 0, .complex .f64 0 0, .complex .f64 0 0, .complex .f64 0 0] 30)) ∧ Hid (Upto (fun j => j = w.heap.size) w4 wx))
                case first =>
                  go_wp2_with fail
                  go_meet
                  case rel => exact ⟨rfl, sets12_row HZ.out (.int .i64 h0) (.int .i64 h1) (.int .i64 h2) (.int .i64 h3) (.int .i64 h4) (.int .i64 h5) (.bool wv) (.slice A' k c') (.complex .f64 0 0) (.complex .f64 0 0) (.complex .f64 0 0) (.complex .f64 0 0), upto12 _ _ _ _ _ _ _ _ _ _ _ _ _ _⟩
                case rest =>
                  clear x0 x1 x2 x3 x4 x5 x6 x7 x8 x9 x10 x11 xz y0 y1 y2 y3 y4 y5 y6 y7 y8 y9 y10 y11 yz
                  obtain ⟨rfl, h9, hu9⟩ := hcut
                  replace h9 := h9.out
                  replace hu9 := hu9.out
                  obtain ⟨x0, x1, x2, x3, x4, x5, x6, x7, x8, x9, x10, x11, xz⟩ := row12 h9
                  clear h9
                  go_step
                  go_step
                  try simp only [Exit.inBlock, Exit.then]
                  refine bodyPost_ret (by simp [results, Try.results8, go_sem, x0, x1, x2, x3, x4, x5, x6, x7, x8, x9, x10, x11]; try rfl) rfl ?_
                  obtain ⟨e1, e2⟩ := read_yes (read_some HH.out (by omega) (by omega) HBODY.out HBD2.out (by rw [HL.out]; decide) HR.out)
                  rw [e1, e2]
                  refine ⟨A', c', by unfold mcells; rw [HPSL.out], (HPUTS.out.below' (n := k) hu9 ?_), HB.out.trans (hu9.below (B := w.heap.size) HB.out.size (fun k hk e => by omega))⟩
                  exact fun j e => by have := (HOL.out j e).1; have := HRP.out; omega

end Go.Proofs.Ytbhjdapkhcgmlaa

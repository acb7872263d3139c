import Derived.Test.YtbhjdapkhcgmlaaMsgH
import Derived.Handy
import Derived.Deep.Cut

set_option linter.unusedSimpArgs false
set_option linter.unusedVariables false
set_option linter.unnecessarySimpa false

namespace Go.Proofs.Ytbhjdapkhcgmlaa
open Go.RowKit

attribute [local go_sem] run_store_complex

/-! msg.Read of a grant's bytes. -/

theorem cell_below {w w' : World} {a : Addr} {u : Value} (h : Below w.heap.size w w') (hc : w.cell? a = some u) : w'.cell? a = some u := by
  have h1 := World.block_lt_of_cell? w a hc
  rw [← hc]
  unfold World.cell?
  rw [h.block _ h1]

set_option maxRecDepth 1000000 in
set_option maxHeartbeats 8000000 in
theorem mread5_c (a0 b0 a1 b1 a2 b2 a3 b3 : Nat) (g0 : Good a0 b0) (g1 : Good a1 b1) (g2 : Good a2 b2) (g3 : Good a3 b3) (A : Option Addr) (c : Nat) (w : World) (hx : Rd g8 w A (numsB [5, 2, 0, 0, 15, 4, 0, 0] ++ flatV [(a0, b0), (a1, b1), (a2, b2), (a3, b3)])) (hxn : A = none → c = 0) (hxc : 88 ≤ c) (hxc2 : c ≤ 9223372036854775807) :
    Calls Try.prog 8 #[.slice A 88 c] w fun e w' => e = .returned (.tuple #[.agg (msgC 5 2 0 0 15 4 false a0 b0 a1 b1 a2 b2 a3 b3), .int .i64 0]) ∧ Below w.heap.size w w' := by
  have hok : okN [5, 2, 0, 0, 15, 4, 0, 0] = true := by decide
  have hin := ints3_nums [5, 2, 0, 0, 15, 4, 0, 0] (flatV [(a0, b0), (a1, b1), (a2, b2), (a3, b3)]) hok
  have hdr := drop_nums [5, 2, 0, 0, 15, 4, 0, 0] (flatV [(a0, b0), (a1, b1), (a2, b2), (a3, b3)])
  have hTL : (numsB [5, 2, 0, 0, 15, 4, 0, 0] ++ flatV [(a0, b0), (a1, b1), (a2, b2), (a3, b3)]).length = 88 := by rw [List.length_append, flatV_length, numsB_length]; rfl
  generalize numsB [5, 2, 0, 0, 15, 4, 0, 0] ++ flatV [(a0, b0), (a1, b1), (a2, b2), (a3, b3)] = T at *
  have HIN := Lib.hid hin
  have HDR := Lib.hid hdr
  have HTL := Lib.hid hTL
  have HX := Lib.hid hx
  clear hok hin hdr hTL hx
  go_enter Try.func8, Try.ntmps8
  go_wp2_with fail
  have hb := below2 w (Obj.cells #[.int .i64 0, .int .i64 0, .int .i64 0, .int .i64 0, .int .i64 0, .int .i64 0, .bool false, .slice none 0 0, .complex .f64 0 0, .complex .f64 0 0, .complex .f64 0 0, .complex .f64 0 0] 30) (Obj.cells #[.slice A 88 c, .bool false] 60)
  have hz0 := heap_alloc2_old w (Obj.cells #[.int .i64 0, .int .i64 0, .int .i64 0, .int .i64 0, .int .i64 0, .int .i64 0, .bool false, .slice none 0 0, .complex .f64 0 0, .complex .f64 0 0, .complex .f64 0 0, .complex .f64 0 0] 30) (Obj.cells #[.slice A 88 c, .bool false] 60)
  have hr0 := heap_alloc2_new w (Obj.cells #[.int .i64 0, .int .i64 0, .int .i64 0, .int .i64 0, .int .i64 0, .int .i64 0, .bool false, .slice none 0 0, .complex .f64 0 0, .complex .f64 0 0, .complex .f64 0 0, .complex .f64 0 0] 30) (Obj.cells #[.slice A 88 c, .bool false] 60)
  generalize (w.alloc (Obj.cells #[.int .i64 0, .int .i64 0, .int .i64 0, .int .i64 0, .int .i64 0, .int .i64 0, .bool false, .slice none 0 0, .complex .f64 0 0, .complex .f64 0 0, .complex .f64 0 0, .complex .f64 0 0] 30)).alloc (Obj.cells #[.slice A 88 c, .bool false] 60) = W0 at *
  have HB0 := Lib.hid hb
  have HZ0 := Lib.hid hz0
  have HL0 : Hid (w.heap.size + 1 < W0.heap.size) := lt_of_row (Nat.le_refl _) hr0
  refine (rnums_ok (w.heap.size + 1) A T 88 c 8 W0 hr0 (HX.out.below hb) hxn HTL.out hxc hxc2 (by decide) (by decide) (by decide)).mono ?_; rintro e w1 ⟨A1, c1, A2, c2, rfl, ho1, ho2, hr1, hu1⟩
  have e1 : ints3 T 8 = [5, 2, 0, 0, 15, 4, 0, 0] := HIN.out
  have e2 : T.drop (3 * 8) = flatV [(a0, b0), (a1, b1), (a2, b2), (a3, b3)] := HDR.out
  rw [e1] at ho1
  rw [e2] at ho2
  rw [HTL.out] at hr1
  clear hb hz0 hr0 e1 e2
  obtain ⟨q, rfl, hq⟩ := ho1.at_some (by simp)
  have i0 := ho1.cell (j := 0) rfl
  have i1 := ho1.cell (j := 1) rfl
  have i2 := ho1.cell (j := 2) rfl
  have i3 := ho1.cell (j := 3) rfl
  have i4 := ho1.cell (j := 4) rfl
  have i5 := ho1.cell (j := 5) rfl
  have i6 := ho1.cell (j := 6) rfl
  have i7 := ho1.cell (j := 7) rfl
  have HO2 := Lib.hid ho2
  have HR1 := Lib.hid hr1
  have HU1 := Lib.hid hu1
  clear ho1 ho2 hr1 hu1 hq
  go_wp2_with fail
  have hnq : w1.heap.size ≠ q := World.new_ne w1 _ i0
  go_region_held_law (fun W => W.cell? ⟨q, 0, none⟩ = some (g64 5) ∧ W.cell? ⟨q, 1, none⟩ = some (g64 2) ∧ W.cell? ⟨q, 2, none⟩ = some (g64 0) ∧ W.cell? ⟨q, 3, none⟩ = some (g64 0) ∧ W.cell? ⟨q, 4, none⟩ = some (g64 15) ∧ W.cell? ⟨q, 5, none⟩ = some (g64 4) ∧ W.cell? ⟨q, 6, none⟩ = some (g64 0)) (go_keep) (fail)
  all_goals
    rename_i hh
    clear hh
    have hbm := ((Below.refl w1.heap.size w1).alloc (Nat.le_refl _) (Obj.cells #[.int .i64 5, .int .i64 2, .int .i64 0, .int .i64 0, .int .i64 15, .int .i64 4, .bool false, .slice none 0 0, .complex .f64 0 0, .complex .f64 0 0, .complex .f64 0 0, .complex .f64 0 0] 30)).drew
    have hp := row_drewI (heap_alloc_new w1 (Obj.cells #[.int .i64 5, .int .i64 2, .int .i64 0, .int .i64 0, .int .i64 15, .int .i64 4, .bool false, .slice none 0 0, .complex .f64 0 0, .complex .f64 0 0, .complex .f64 0 0, .complex .f64 0 0] 30))
    generalize (w1.alloc (Obj.cells #[.int .i64 5, .int .i64 2, .int .i64 0, .int .i64 0, .int .i64 15, .int .i64 4, .bool false, .slice none 0 0, .complex .f64 0 0, .complex .f64 0 0, .complex .f64 0 0, .complex .f64 0 0] 30)).drew = W2 at *
    have hru := HU1.out.size
    have hrb : W2.heap[w.heap.size + 1]? = _ := (hbm.block (w.heap.size + 1) (by have := HL0.out; omega)).trans HR1.out
    have hres : W2.heap[w.heap.size]? = _ := (hbm.block w.heap.size (by have := HL0.out; omega)).trans ((HU1.out.block w.heap.size (by have := HL0.out; omega) (by omega)).trans HZ0.out)
    have j6 := (cell_below hbm i6).trans rfl
    have j7 := (cell_below hbm i7).trans rfl
    have HB2 := Lib.hid (HB0.out.trans ((HU1.out.below (B := w.heap.size) HB0.out.size (fun k hk e => by omega)).trans (hbm.mono (by have := HB0.out.size; omega))))
    have HO2' := Lib.hid (HO2.out.below hbm)
    have HP := Lib.hid hp
    have HRB := Lib.hid hrb
    have HRES := Lib.hid hres
    have hP1 : w.heap.size + 1 < w1.heap.size := by have := HL0.out; omega
    clear i0 i1 i2 i3 i4 i5 i6 i7 HR1 HU1 HZ0 HB0 HO2 hbm
    generalize w1.heap.size = P at *
    obtain ⟨y0, y1, y2, y3, y4, y5, y6, y7, y8, y9, y10, y11, yz⟩ := row12 hp
    clear hp hrb hres
    go_wp2_with fail
    go_loopw [51] (fun i wr => i = .int .i64 0 ∧ wr = W2) (fun i _ => 0)
    case atStart => exact ⟨rfl, rfl⟩
    case round =>
      obtain ⟨rfl, rfl⟩ := hrel
      go_wp2_with fail
      clear y0 y1 y2 y3 y4 y5 y6 y7 y8 y9 y10 y11 yz j6 j7
      go_loopw [73] (fun i wr => ∃ (k : Nat) (A' : Option Addr) (c' : Nat), k ≤ 4 ∧ i = .int .i64 k ∧ Hid (∃ B, Ow 5 g8 wr B A' (flatV ([(a0, b0), (a1, b1), (a2, b2), (a3, b3)].drop k)) c') ∧ Hid (wr.heap[w.heap.size + 1]? = some (.cells #[.slice A' (16 * (4 - k)) c', .bool false] 60 (0, 0))) ∧ Hid (wr.heap[P]? = some (.cells #[.int .i64 5, .int .i64 2, .int .i64 0, .int .i64 0, .int .i64 15, .int .i64 4, .bool false, .slice none 0 0, (if 0 < k then .complex .f64 a0 b0 else .complex .f64 0 0), (if 1 < k then .complex .f64 a1 b1 else .complex .f64 0 0), (if 2 < k then .complex .f64 a2 b2 else .complex .f64 0 0), (if 3 < k then .complex .f64 a3 b3 else .complex .f64 0 0)] 30 (0, 0))) ∧ Hid (wr.heap[w.heap.size]? = some (.cells #[.int .i64 0, .int .i64 0, .int .i64 0, .int .i64 0, .int .i64 0, .int .i64 0, .bool false, .slice none 0 0, .complex .f64 0 0, .complex .f64 0 0, .complex .f64 0 0, .complex .f64 0 0] 30 (0, 0))) ∧ Hid (Below w.heap.size w wr)) (fun i _ => 4 - (intOf i).toNat)
      case atStart => exact ⟨0, A2, c2, Nat.zero_le _, rfl, ⟨_, HO2'.out⟩, HRB, HP, HRES, HB2⟩
      case round =>
        clear HO2' HRB HP HRES HB2
        obtain ⟨k, Ak, ck, hk, rfl, ho, hr, hp, hz, hb⟩ := hrel
        by_cases hlt : k < 4
        · obtain rfl | rfl | rfl | rfl : k = 0 ∨ k = 1 ∨ k = 2 ∨ k = 3 := by omega
          · replace hp : wr.heap[P]? = some (.cells #[.int .i64 5, .int .i64 2, .int .i64 0, .int .i64 0, .int .i64 15, .int .i64 4, .bool false, .slice none 0 0, .complex .f64 0 0, .complex .f64 0 0, .complex .f64 0 0, .complex .f64 0 0] 30 (0, 0)) := hp
            obtain ⟨B, ho⟩ := ho.out
            replace ho : Ow 5 g8 wr B Ak (flatV [(a0, b0), (a1, b1), (a2, b2), (a3, b3)]) ck := ho
            replace hr : wr.heap[w.heap.size + 1]? = some (.cells #[.slice Ak 64 ck, .bool false] 60 (0, 0)) := hr
            rw [flatV_cons] at ho
            have hrl : (flatV [(a1, b1), (a2, b2), (a3, b3)]).length = 48 := flatV_length _
            have hlen : (valB a0 b0 ++ flatV [(a1, b1), (a2, b2), (a3, b3)]).length = 64 := by rw [List.length_append, valB_length, hrl]
            have htk := rval_ok (w.heap.size + 1) Ak a0 b0 g0 (flatV [(a1, b1), (a2, b2), (a3, b3)]) 64 ck wr hr ho.rd ho.nil_cap (by rw [hrl]) (by have h9 : (valB a0 b0 ++ flatV [(a1, b1), (a2, b2), (a3, b3)]).length ≤ ck := ho.le; omega) ho.cap (by decide)
            rw [hrl] at htk
            have HTK := Lib.hid htk
            have HPL := Lib.hid (Array.getElem?_eq_some_iff.1 hp).1
            have HP' := Lib.hid hp
            clear htk ho hrl hlen hr hp
            go_wp2_with fail
            refine HTK.out.mono ?_; rintro e w3 ⟨A3, c3, rfl, ho3, hr3, hu3⟩
            have hp3 := (hu3.block P HPL.out (by omega)).trans HP'.out
            have hz3 := (hu3.block w.heap.size (by have := HPL.out; omega) (by omega)).trans hz.out
            obtain ⟨y0, y1, y2, y3, y4, y5, y6, y7, y8, y9, y10, y11, yz⟩ := row12 hp3
            have HO3 := Lib.hid ho3
            have HR3 := Lib.hid hr3
            have HP3 := Lib.hid hp3
            have HZ3 := Lib.hid hz3
            have HPS : Hid (P < w3.heap.size) := Nat.lt_of_lt_of_le HPL.out hu3.size
            have HB4 := Lib.hid (hb.out.trans (hu3.below (B := w.heap.size) hb.out.size (fun k hk e => by omega)))
            clear ho3 hr3 hu3 hp3 hz3
            go_wp2_with fail
            go_roundw
            case rel =>
              have hus := (Upto.refl (fun j => j = P) w3).setCell (p := ⟨P, 8 + 0, none⟩) rfl (.complex .f64 a0 b0)
              exact ⟨0 + 1, A3, c3, by omega, rfl, ⟨_, HO3.out.upto hus (fun a e e2 => by have := (HO3.out.lt a e).1; have := HPL.out; omega)⟩, (hus.block (w.heap.size + 1) (by have := HPS.out; omega) (by omega)).trans HR3.out, (by unfold Hid; simpa using row_set HP3.out (8 + 0) (.complex .f64 a0 b0)), (hus.block w.heap.size (by have := HPS.out; omega) (by omega)).trans HZ3.out, HB4.out.trans (hus.below (B := w.heap.size) HB4.out.size (fun k hk e => by omega))⟩
            case measure => simp [intOf]
          · replace hp : wr.heap[P]? = some (.cells #[.int .i64 5, .int .i64 2, .int .i64 0, .int .i64 0, .int .i64 15, .int .i64 4, .bool false, .slice none 0 0, .complex .f64 a0 b0, .complex .f64 0 0, .complex .f64 0 0, .complex .f64 0 0] 30 (0, 0)) := hp
            obtain ⟨B, ho⟩ := ho.out
            replace ho : Ow 5 g8 wr B Ak (flatV [(a1, b1), (a2, b2), (a3, b3)]) ck := ho
            replace hr : wr.heap[w.heap.size + 1]? = some (.cells #[.slice Ak 48 ck, .bool false] 60 (0, 0)) := hr
            rw [flatV_cons] at ho
            have hrl : (flatV [(a2, b2), (a3, b3)]).length = 32 := flatV_length _
            have hlen : (valB a1 b1 ++ flatV [(a2, b2), (a3, b3)]).length = 48 := by rw [List.length_append, valB_length, hrl]
            have htk := rval_ok (w.heap.size + 1) Ak a1 b1 g1 (flatV [(a2, b2), (a3, b3)]) 48 ck wr hr ho.rd ho.nil_cap (by rw [hrl]) (by have h9 : (valB a1 b1 ++ flatV [(a2, b2), (a3, b3)]).length ≤ ck := ho.le; omega) ho.cap (by decide)
            rw [hrl] at htk
            have HTK := Lib.hid htk
            have HPL := Lib.hid (Array.getElem?_eq_some_iff.1 hp).1
            have HP' := Lib.hid hp
            clear htk ho hrl hlen hr hp
            go_wp2_with fail
            refine HTK.out.mono ?_; rintro e w3 ⟨A3, c3, rfl, ho3, hr3, hu3⟩
            have hp3 := (hu3.block P HPL.out (by omega)).trans HP'.out
            have hz3 := (hu3.block w.heap.size (by have := HPL.out; omega) (by omega)).trans hz.out
            obtain ⟨y0, y1, y2, y3, y4, y5, y6, y7, y8, y9, y10, y11, yz⟩ := row12 hp3
            have HO3 := Lib.hid ho3
            have HR3 := Lib.hid hr3
            have HP3 := Lib.hid hp3
            have HZ3 := Lib.hid hz3
            have HPS : Hid (P < w3.heap.size) := Nat.lt_of_lt_of_le HPL.out hu3.size
            have HB4 := Lib.hid (hb.out.trans (hu3.below (B := w.heap.size) hb.out.size (fun k hk e => by omega)))
            clear ho3 hr3 hu3 hp3 hz3
            go_wp2_with fail
            go_roundw
            case rel =>
              have hus := (Upto.refl (fun j => j = P) w3).setCell (p := ⟨P, 8 + 1, none⟩) rfl (.complex .f64 a1 b1)
              exact ⟨1 + 1, A3, c3, by omega, rfl, ⟨_, HO3.out.upto hus (fun a e e2 => by have := (HO3.out.lt a e).1; have := HPL.out; omega)⟩, (hus.block (w.heap.size + 1) (by have := HPS.out; omega) (by omega)).trans HR3.out, (by unfold Hid; simpa using row_set HP3.out (8 + 1) (.complex .f64 a1 b1)), (hus.block w.heap.size (by have := HPS.out; omega) (by omega)).trans HZ3.out, HB4.out.trans (hus.below (B := w.heap.size) HB4.out.size (fun k hk e => by omega))⟩
            case measure => simp [intOf]
          · replace hp : wr.heap[P]? = some (.cells #[.int .i64 5, .int .i64 2, .int .i64 0, .int .i64 0, .int .i64 15, .int .i64 4, .bool false, .slice none 0 0, .complex .f64 a0 b0, .complex .f64 a1 b1, .complex .f64 0 0, .complex .f64 0 0] 30 (0, 0)) := hp
            obtain ⟨B, ho⟩ := ho.out
            replace ho : Ow 5 g8 wr B Ak (flatV [(a2, b2), (a3, b3)]) ck := ho
            replace hr : wr.heap[w.heap.size + 1]? = some (.cells #[.slice Ak 32 ck, .bool false] 60 (0, 0)) := hr
            rw [flatV_cons] at ho
            have hrl : (flatV [(a3, b3)]).length = 16 := flatV_length _
            have hlen : (valB a2 b2 ++ flatV [(a3, b3)]).length = 32 := by rw [List.length_append, valB_length, hrl]
            have htk := rval_ok (w.heap.size + 1) Ak a2 b2 g2 (flatV [(a3, b3)]) 32 ck wr hr ho.rd ho.nil_cap (by rw [hrl]) (by have h9 : (valB a2 b2 ++ flatV [(a3, b3)]).length ≤ ck := ho.le; omega) ho.cap (by decide)
            rw [hrl] at htk
            have HTK := Lib.hid htk
            have HPL := Lib.hid (Array.getElem?_eq_some_iff.1 hp).1
            have HP' := Lib.hid hp
            clear htk ho hrl hlen hr hp
            go_wp2_with fail
            refine HTK.out.mono ?_; rintro e w3 ⟨A3, c3, rfl, ho3, hr3, hu3⟩
            have hp3 := (hu3.block P HPL.out (by omega)).trans HP'.out
            have hz3 := (hu3.block w.heap.size (by have := HPL.out; omega) (by omega)).trans hz.out
            obtain ⟨y0, y1, y2, y3, y4, y5, y6, y7, y8, y9, y10, y11, yz⟩ := row12 hp3
            have HO3 := Lib.hid ho3
            have HR3 := Lib.hid hr3
            have HP3 := Lib.hid hp3
            have HZ3 := Lib.hid hz3
            have HPS : Hid (P < w3.heap.size) := Nat.lt_of_lt_of_le HPL.out hu3.size
            have HB4 := Lib.hid (hb.out.trans (hu3.below (B := w.heap.size) hb.out.size (fun k hk e => by omega)))
            clear ho3 hr3 hu3 hp3 hz3
            go_wp2_with fail
            go_roundw
            case rel =>
              have hus := (Upto.refl (fun j => j = P) w3).setCell (p := ⟨P, 8 + 2, none⟩) rfl (.complex .f64 a2 b2)
              exact ⟨2 + 1, A3, c3, by omega, rfl, ⟨_, HO3.out.upto hus (fun a e e2 => by have := (HO3.out.lt a e).1; have := HPL.out; omega)⟩, (hus.block (w.heap.size + 1) (by have := HPS.out; omega) (by omega)).trans HR3.out, (by unfold Hid; simpa using row_set HP3.out (8 + 2) (.complex .f64 a2 b2)), (hus.block w.heap.size (by have := HPS.out; omega) (by omega)).trans HZ3.out, HB4.out.trans (hus.below (B := w.heap.size) HB4.out.size (fun k hk e => by omega))⟩
            case measure => simp [intOf]
          · replace hp : wr.heap[P]? = some (.cells #[.int .i64 5, .int .i64 2, .int .i64 0, .int .i64 0, .int .i64 15, .int .i64 4, .bool false, .slice none 0 0, .complex .f64 a0 b0, .complex .f64 a1 b1, .complex .f64 a2 b2, .complex .f64 0 0] 30 (0, 0)) := hp
            obtain ⟨B, ho⟩ := ho.out
            replace ho : Ow 5 g8 wr B Ak (flatV [(a3, b3)]) ck := ho
            replace hr : wr.heap[w.heap.size + 1]? = some (.cells #[.slice Ak 16 ck, .bool false] 60 (0, 0)) := hr
            rw [flatV_cons] at ho
            have hrl : (flatV ([] : List (Nat × Nat))).length = 0 := flatV_length _
            have hlen : (valB a3 b3 ++ flatV ([] : List (Nat × Nat))).length = 16 := by rw [List.length_append, valB_length, hrl]
            have htk := rval_ok (w.heap.size + 1) Ak a3 b3 g3 (flatV ([] : List (Nat × Nat))) 16 ck wr hr ho.rd ho.nil_cap (by rw [hrl]) (by have h9 : (valB a3 b3 ++ flatV ([] : List (Nat × Nat))).length ≤ ck := ho.le; omega) ho.cap (by decide)
            rw [hrl] at htk
            have HTK := Lib.hid htk
            have HPL := Lib.hid (Array.getElem?_eq_some_iff.1 hp).1
            have HP' := Lib.hid hp
            clear htk ho hrl hlen hr hp
            go_wp2_with fail
            refine HTK.out.mono ?_; rintro e w3 ⟨A3, c3, rfl, ho3, hr3, hu3⟩
            have hp3 := (hu3.block P HPL.out (by omega)).trans HP'.out
            have hz3 := (hu3.block w.heap.size (by have := HPL.out; omega) (by omega)).trans hz.out
            obtain ⟨y0, y1, y2, y3, y4, y5, y6, y7, y8, y9, y10, y11, yz⟩ := row12 hp3
            have HO3 := Lib.hid ho3
            have HR3 := Lib.hid hr3
            have HP3 := Lib.hid hp3
            have HZ3 := Lib.hid hz3
            have HPS : Hid (P < w3.heap.size) := Nat.lt_of_lt_of_le HPL.out hu3.size
            have HB4 := Lib.hid (hb.out.trans (hu3.below (B := w.heap.size) hb.out.size (fun k hk e => by omega)))
            clear ho3 hr3 hu3 hp3 hz3
            go_wp2_with fail
            go_roundw
            case rel =>
              have hus := (Upto.refl (fun j => j = P) w3).setCell (p := ⟨P, 8 + 3, none⟩) rfl (.complex .f64 a3 b3)
              exact ⟨3 + 1, A3, c3, by omega, rfl, ⟨_, HO3.out.upto hus (fun a e e2 => by have := (HO3.out.lt a e).1; have := HPL.out; omega)⟩, (hus.block (w.heap.size + 1) (by have := HPS.out; omega) (by omega)).trans HR3.out, (by unfold Hid; simpa using row_set HP3.out (8 + 3) (.complex .f64 a3 b3)), (hus.block w.heap.size (by have := HPS.out; omega) (by omega)).trans HZ3.out, HB4.out.trans (hus.below (B := w.heap.size) HB4.out.size (fun k hk e => by omega))⟩
            case measure => simp [intOf]
        · have he : k = 4 := by omega
          subst he
          replace hp : wr.heap[P]? = some (.cells #[.int .i64 5, .int .i64 2, .int .i64 0, .int .i64 0, .int .i64 15, .int .i64 4, .bool false, .slice none 0 0, .complex .f64 a0 b0, .complex .f64 a1 b1, .complex .f64 a2 b2, .complex .f64 a3 b3] 30 (0, 0)) := hp
          replace hr : wr.heap[w.heap.size + 1]? = some (.cells #[.slice Ak 0 ck, .bool false] 60 (0, 0)) := hr
          obtain ⟨y0, y1, y2, y3, y4, y5, y6, y7, y8, y9, y10, y11, yz⟩ := row12 hp
          obtain ⟨x0, x1, xz⟩ := row2' hr
          have HPL := Lib.hid (Array.getElem?_eq_some_iff.1 hp).1
          have HP' := Lib.hid hp
          clear ho hr hp hlt hk
          go_wp2_with fail
          refine (right5_c a0 b0 a1 b1 a2 b2 a3 b3 wr).mono ?_; rintro e w4 ⟨rfl, hb4⟩
          have hp4 := (hb4.block P HPL.out).trans HP'.out
          have hz4 := (hb4.block w.heap.size (by have := HPL.out; omega)).trans hz.out
          have HZ4 := Lib.hid hz4
          have HB4 := Lib.hid (hb.out.trans (hb4.mono hb.out.size))
          clear y0 y1 y2 y3 y4 y5 y6 y7 y8 y9 y10 y11 yz x0 x1 xz hb4 hz hb
          obtain ⟨y0, y1, y2, y3, y4, y5, y6, y7, y8, y9, y10, y11, yz⟩ := row12 hp4
          obtain ⟨x0, x1, x2, x3, x4, x5, x6, x7, x8, x9, x10, x11, xz⟩ := row12 hz4
          clear hp4 hz4
          go_wp2_with fail
          obtain ⟨w5, hw5⟩ : ∃ w5, w5 = ((((((((((((w4.setCell ⟨w.heap.size, 0, none⟩ (.int .i64 5)).setCell ⟨w.heap.size, 1, none⟩ (.int .i64 2)).setCell ⟨w.heap.size, 2, none⟩ (.int .i64 0)).setCell ⟨w.heap.size, 3, none⟩ (.int .i64 0)).setCell ⟨w.heap.size, 4, none⟩ (.int .i64 15)).setCell ⟨w.heap.size, 5, none⟩ (.int .i64 4)).setCell ⟨w.heap.size, 6, none⟩ (.bool false)).setCell ⟨w.heap.size, 7, none⟩ (.slice none 0 0)).setCell ⟨w.heap.size, 8, none⟩ (.complex .f64 a0 b0)).setCell ⟨w.heap.size, 9, none⟩ (.complex .f64 a1 b1)).setCell ⟨w.heap.size, 10, none⟩ (.complex .f64 a2 b2)).setCell ⟨w.heap.size, 11, none⟩ (.complex .f64 a3 b3)) := ⟨_, rfl⟩
          have hu : Upto (fun j => j = w.heap.size) w4 w5 := by rw [hw5]; exact upto12 _ _ _ _ _ _ _ _ _ _ _ _ _ _
          have h6 := sets12_row HZ4.out (.int .i64 5) (.int .i64 2) (.int .i64 0) (.int .i64 0) (.int .i64 15) (.int .i64 4) (.bool false) (.slice none 0 0) (.complex .f64 a0 b0) (.complex .f64 a1 b1) (.complex .f64 a2 b2) (.complex .f64 a3 b3)
          rw [← hw5] at h6 ⊢
          clear hw5 x0 x1 x2 x3 x4 x5 x6 x7 x8 x9 x10 x11 xz y0 y1 y2 y3 y4 y5 y6 y7 y8 y9 y10 y11 yz
          obtain ⟨x0, x1, x2, x3, x4, x5, x6, x7, x8, x9, x10, x11, xz⟩ := row12 h6
          clear h6
          refine bodyPost_ret (by simp [results, Try.results8, go_sem, x0, x1, x2, x3, x4, x5, x6, x7, x8, x9, x10, x11]; try rfl) rfl ?_
          exact ⟨rfl, HB4.out.trans (hu.below (B := w.heap.size) HB4.out.size (fun k hk e => by omega))⟩

end Go.Proofs.Ytbhjdapkhcgmlaa

namespace Go.Proofs.Ytbhjdapkhcgmlaa
open Go.RowKit

/-! The living message: its bytes, its frame, the packet of it, the burst. -/

deriving instance DecidableEq for Pk

theorem good_zero : Good 0 0 := by unfold Good; decide +kernel
theorem good_one : Good 4607182418800017408 0 := by unfold Good; decide +kernel
theorem good_two : Good 4611686018427387904 4613937818241073152 := by unfold Good; decide +kernel

def body5 : List UInt8 := numsB [5, 2, 0, 0, 15, 4, 0, 0] ++ flatV [(4607182418800017408, 0), (4611686018427387904, 4613937818241073152), (0, 0), (0, 0)]
def frame5 : List UInt8 := frameL 1 2 3 4 5 true body5
theorem body5_length : body5.length = 88 := by decide +kernel
theorem frame5_length : frame5.length = 108 := by decide +kernel
theorem frame5_e : frameE 1 2 3 4 5 true body5 = 0 := by decide +kernel
theorem open5_p : mopenP frame5 = ⟨1, 2, 3, 4, 5, true, body5⟩ := by decide +kernel
theorem open5_e : mopenE frame5 = 0 := by decide +kernel
theorem burst5_e : mopenE (burstN frame5 40 1) = 101 := by decide +kernel
theorem burst5_length : (burstN frame5 40 1).length = 108 := by decide +kernel
theorem burst5_p : mopenP (burstN frame5 40 1) = noPk := by decide +kernel

theorem frame5_c (A : Option Addr) (c : Nat) (w : World) (h : Rd g8 w A body5) (hn : A = none → c = 0) :
    Calls Try.prog 11 #[.agg #[.int .i64 1, .int .i64 2, .int .i64 3, .int .i64 4, .int .i64 5, .bool true, .slice A 88 c]] w fun e w' => ∃ A' c', e = .returned (.tuple #[.slice A' 108 c', .int .i64 0]) ∧ Ow 5 g8 w' w.heap.size A' frame5 c' ∧ Below w.heap.size w w' := by
  have h1 := frame_c 1 2 3 4 5 true A body5 c w h hn (by rw [body5_length]; decide)
  rw [body5_length, frame5_e] at h1
  refine h1.mono ?_
  rintro e w' ⟨A', c', rfl, h2, h3⟩
  have h4 : (frameL 1 2 3 4 5 true body5).length = 108 := frame5_length
  rw [h4]
  exact ⟨A', c', rfl, h2, h3⟩

theorem open5_c (A : Option Addr) (c : Nat) (w : World) (h : Rd g8 w A frame5) (hn : A = none → c = 0) (hc : frame5.length ≤ c) :
    Calls Try.prog 13 #[.slice A 108 c] w fun e w' => ∃ A' c', e = .returned (.tuple #[.agg #[.int .i64 1, .int .i64 2, .int .i64 3, .int .i64 4, .int .i64 5, .bool true, .slice A' 88 c'], .int .i64 0]) ∧ Ow 5 g8 w' w.heap.size A' body5 c' ∧ Below w.heap.size w w' := by
  have h1 := mopen_c A frame5 c w h hn hc (by rw [frame5_length]; decide)
  rw [frame5_length, open5_e, open5_p] at h1
  refine h1.mono ?_
  rintro e w' ⟨A', c', rfl, h2, h3⟩
  refine ⟨A', c', ?_, h2, h3⟩
  unfold pkC
  rw [body5_length]

theorem burst5_c (A : Option Addr) (c : Nat) (w : World) (h : Rd g8 w A frame5) (hn : A = none → c = 0) :
    Calls Try.prog 21 #[.slice A 108 c, .int .i64 40, .int .u16 1] w fun e w' => ∃ A' c', e = .returned (.slice A' 108 c') ∧ Ow 5 g8 w' w.heap.size A' (burstN frame5 40 1) c' ∧ Below w.heap.size w w' := by
  have h1 := burst_c A frame5 c 40 1 w h hn (by rw [frame5_length]; decide) (by decide) (by decide) (by decide)
  rw [frame5_length] at h1
  exact h1

theorem open5b_c (A : Option Addr) (c : Nat) (w : World) (h : Rd g8 w A (burstN frame5 40 1)) (hn : A = none → c = 0) (hc : (burstN frame5 40 1).length ≤ c) :
    Calls Try.prog 13 #[.slice A 108 c] w fun e w' => ∃ A' c', e = .returned (.tuple #[.agg #[.int .i64 0, .int .i64 0, .int .i64 0, .int .i64 0, .int .i64 0, .bool false, .slice A' 0 c'], .int .i64 101]) ∧ Below w.heap.size w w' := by
  have h1 := mopen_c A (burstN frame5 40 1) c w h hn hc (by rw [burst5_length]; decide)
  rw [burst5_length, burst5_e, burst5_p] at h1
  refine h1.mono ?_
  rintro e w' ⟨A', c', rfl, h2, h3⟩
  exact ⟨A', c', rfl, h3⟩

end Go.Proofs.Ytbhjdapkhcgmlaa

import Derived.Test.YtbhjdapkhcgmlaaMsgG
import Derived.Handy
import Derived.Deep.Cut

set_option linter.unusedSimpArgs false
set_option linter.unusedVariables false
set_option linter.unnecessarySimpa false

namespace Go.Proofs.Ytbhjdapkhcgmlaa
open Go.RowKit

attribute [local go_sem] run_store_complex

/-! msg.Bytes of a grant and of the empty message. -/

def flatV (vs : List (Nat × Nat)) : List UInt8 := (vs.map fun x => valB x.1 x.2).flatten
theorem flatV_cons (x : Nat × Nat) (vs : List (Nat × Nat)) : flatV (x :: vs) = valB x.1 x.2 ++ flatV vs := by unfold flatV; simp
theorem flatV_snoc (vs : List (Nat × Nat)) (x : Nat × Nat) : flatV (vs ++ [x]) = flatV vs ++ valB x.1 x.2 := by unfold flatV; simp
theorem flatV_length (vs : List (Nat × Nat)) : (flatV vs).length = 16 * vs.length := by
  induction vs with
  | nil => rfl
  | cons x vs ih => rw [flatV_cons, List.length_append, valB_length, ih, List.length_cons]; omega
theorem len_app (l m : List UInt8) : (l ++ m).length = l.length + m.length := List.length_append
theorem idx4 (W : World) (a b c d : Nat) (e f g h : Nat) :
    (Instr.index 28 (.agg #[.complex .f64 a b, .complex .f64 c d, .complex .f64 e f, .complex .f64 g h]) (.int .i64 0)).run Try.prog W = .ok (.complex .f64 a b) W ∧
    (Instr.index 28 (.agg #[.complex .f64 a b, .complex .f64 c d, .complex .f64 e f, .complex .f64 g h]) (.int .i64 1)).run Try.prog W = .ok (.complex .f64 c d) W ∧
    (Instr.index 28 (.agg #[.complex .f64 a b, .complex .f64 c d, .complex .f64 e f, .complex .f64 g h]) (.int .i64 2)).run Try.prog W = .ok (.complex .f64 e f) W ∧
    (Instr.index 28 (.agg #[.complex .f64 a b, .complex .f64 c d, .complex .f64 e f, .complex .f64 g h]) (.int .i64 3)).run Try.prog W = .ok (.complex .f64 g h) W := by
  refine ⟨?_, ?_, ?_, ?_⟩ <;> simp [Instr.index, run_underlying Try.underlying28, asIntOf, go_sem]

theorem nums8 (B : Nat) (n0 n1 n2 n3 n4 n5 n6 n7 : Int) (hok : okN [n0, n1, n2, n3, n4, n5, n6, n7] = true) (w : World) (hB : w.heap.size = B) :
    Calls Try.prog 17 #[.slice (some ⟨B, 0, none⟩) 8 8] (w.alloc (.cells #[.int .i64 n0, .int .i64 n1, .int .i64 n2, .int .i64 n3, .int .i64 n4, .int .i64 n5, .int .i64 n6, .int .i64 n7] 3)).drew fun e w' => ∃ A' c', e = .returned (.tuple #[.slice A' 24 c', .int .i64 0]) ∧ Ow 5 g8 w' w.heap.size A' (numsB [n0, n1, n2, n3, n4, n5, n6, n7]) c' ∧ Below w.heap.size w w' := by
  subst hB
  have hb := (Below.refl w.heap.size w).alloc (Nat.le_refl _) (.cells #[.int .i64 n0, .int .i64 n1, .int .i64 n2, .int .i64 n3, .int .i64 n4, .int .i64 n5, .int .i64 n6, .int .i64 n7] 3)
  replace hb := hb.drew
  refine (nums_c _ [n0, n1, n2, n3, n4, n5, n6, n7] 8 _ ((Rd.row_of w [n0, n1, n2, n3, n4, n5, n6, n7] rfl).below (Below.refl _ _).drew) (by simp)).mono ?_
  rintro e w' ⟨A', c', rfl, h1, h2⟩
  have := numsR_yes hok
  have hl : (numsB [n0, n1, n2, n3, n4, n5, n6, n7]).length = 24 := by rw [numsB_length]; rfl
  rw [this.1] at h1 ⊢
  rw [this.2, hl]
  exact ⟨A', c', rfl, h1.low hb.size, hb.trans (h2.mono hb.size)⟩

set_option maxRecDepth 1000000 in
set_option maxHeartbeats 8000000 in
theorem mbytes0_c (w : World) : Calls Try.prog 6 #[.agg (msgC 0 0 0 0 0 0 false 0 0 0 0 0 0 0 0)] w fun e w' => ∃ A c, e = .returned (.tuple #[.slice A 24 c, .int .i64 0]) ∧ Below w.heap.size w w' := by
  have h1 := heap_alloc_new w (.cells (msgC 0 0 0 0 0 0 false 0 0 0 0 0 0 0 0) 30)
  have hb := (Below.refl w.heap.size w).alloc (Nat.le_refl _) (.cells (msgC 0 0 0 0 0 0 false 0 0 0 0 0 0 0 0) 30)
  have right := right0_c
  unfold msgC at *
  go_enter Try.func6, Try.ntmps6
  go_wp2_with fail
  generalize w.alloc (.cells #[.int .i64 0, .int .i64 0, .int .i64 0, .int .i64 0, .int .i64 0, .int .i64 0, .bool false, .slice none 0 0, .complex .f64 0 0, .complex .f64 0 0, .complex .f64 0 0, .complex .f64 0 0] 30) = W0 at *
  refine (right W0).mono ?_; rintro e w1 ⟨rfl, hb1⟩
  have hr1 := (hb1.block w.heap.size (lt_of_row (Nat.le_refl _) h1)).trans h1
  have HR1 := Lib.hid hr1
  have HB1 := Lib.hid (hb.trans (hb1.mono hb.size))
  have HL1 : Hid (w.heap.size < w1.heap.size) := lt_of_row (Nat.le_refl _) hr1
  obtain ⟨x0, x1, x2, x3, x4, x5, x6, x7, x8, x9, x10, x11, xz⟩ := row12 hr1
  clear h1 hb hb1 hr1 right
  have HOKN : Hid (okN [0, 0, 0, 0, 0, 0, 0, 0] = true) := by unfold Hid; decide
  go_wp2_with fail
  have HBOX : Hid True := trivial
  go_region_held_law (fun W => W.cell? ⟨w.heap.size, 0, none⟩ = some (.int .i64 0) ∧ W.cell? ⟨w.heap.size, 1, none⟩ = some (.int .i64 0) ∧ W.cell? ⟨w.heap.size, 2, none⟩ = some (.int .i64 0) ∧ W.cell? ⟨w.heap.size, 3, none⟩ = some (.int .i64 0) ∧ W.cell? ⟨w.heap.size, 4, none⟩ = some (.int .i64 0) ∧ W.cell? ⟨w.heap.size, 5, none⟩ = some (.int .i64 0) ∧ W.cell? ⟨w.heap.size, 6, none⟩ = some (.bool false) ∧ W.cell? ⟨w.heap.size, 7, none⟩ = some (.slice none 0 0)) (first | go_keep | exact HBOX.out)
    (first
      | (go_at_call 18; (with_reducible refine (number_c false _).mono ?_); rintro e w' ⟨rfl, rfl⟩)
      | (go_at_call 17; refine (nums8 _ 0 0 0 0 0 0 0 0 HOKN.out _ rfl).mono ?_; rintro e w2 ⟨A2, c2, rfl, ho2, hb2⟩; clear HBOX; have HO2 := Lib.hid (ho2.low (B' := w.heap.size) (by have := HL1.out; simp at *; omega)); have HB2 := Lib.hid (HB1.out.trans (hb2.mono HB1.out.size)); have HR2 := Lib.hid ((hb2.block w.heap.size HL1.out).trans HR1.out); have HBOX : Hid (w2.cell? ⟨w.heap.size, 0, none⟩ = some (.int .i64 0) ∧ w2.cell? ⟨w.heap.size, 1, none⟩ = some (.int .i64 0) ∧ w2.cell? ⟨w.heap.size, 2, none⟩ = some (.int .i64 0) ∧ w2.cell? ⟨w.heap.size, 3, none⟩ = some (.int .i64 0) ∧ w2.cell? ⟨w.heap.size, 4, none⟩ = some (.int .i64 0) ∧ w2.cell? ⟨w.heap.size, 5, none⟩ = some (.int .i64 0) ∧ w2.cell? ⟨w.heap.size, 6, none⟩ = some (.bool false) ∧ w2.cell? ⟨w.heap.size, 7, none⟩ = some (.slice none 0 0)) := (by obtain ⟨y0, y1, y2, y3, y4, y5, y6, y7, y8, y9, y10, y11, yz⟩ := row12 HR2.out; exact ⟨y0, y1, y2, y3, y4, y5, y6, y7⟩); clear ho2 hb2))
  all_goals
    rename_i hh
    clear hh HBOX x0 x1 x2 x3 x4 x5 x6 x7 x8 x9 x10 x11 xz
    obtain ⟨x0, x1, x2, x3, x4, x5, x6, x7, x8, x9, x10, x11, xz⟩ := row12 HR2.out
    go_wp2_with fail
    go_loopw [4, 41] (fun b i wr => b = .slice A2 24 c2 ∧ i = .int .i64 0 ∧ wr = w2) (fun _ i _ => 0)
    case atStart => exact ⟨rfl, rfl, rfl⟩
    case round =>
      obtain ⟨rfl, rfl, rfl⟩ := hrel
      go_wp2_with fail
      go_ret2
      exact ⟨A2, c2, rfl, HB2.out⟩

set_option maxRecDepth 1000000 in
set_option maxHeartbeats 8000000 in
theorem mbytes5_c (a0 b0 a1 b1 a2 b2 a3 b3 : Nat) (w : World) : Calls Try.prog 6 #[.agg (msgC 5 2 0 0 15 4 false a0 b0 a1 b1 a2 b2 a3 b3)] w fun e w' => ∃ A c, e = .returned (.tuple #[.slice A 88 c, .int .i64 0]) ∧ Ow 5 g8 w' w.heap.size A (numsB [5, 2, 0, 0, 15, 4, 0, 0] ++ flatV [(a0, b0), (a1, b1), (a2, b2), (a3, b3)]) c ∧ Below w.heap.size w w' := by
  have h1 := heap_alloc_new w (.cells (msgC 5 2 0 0 15 4 false a0 b0 a1 b1 a2 b2 a3 b3) 30)
  have hb := (Below.refl w.heap.size w).alloc (Nat.le_refl _) (.cells (msgC 5 2 0 0 15 4 false a0 b0 a1 b1 a2 b2 a3 b3) 30)
  have right := right5_c a0 b0 a1 b1 a2 b2 a3 b3
  unfold msgC at *
  go_enter Try.func6, Try.ntmps6
  go_wp2_with fail
  generalize w.alloc (.cells #[.int .i64 5, .int .i64 2, .int .i64 0, .int .i64 0, .int .i64 15, .int .i64 4, .bool false, .slice none 0 0, .complex .f64 a0 b0, .complex .f64 a1 b1, .complex .f64 a2 b2, .complex .f64 a3 b3] 30) = W0 at *
  refine (right W0).mono ?_; rintro e w1 ⟨rfl, hb1⟩
  have hr1 := (hb1.block w.heap.size (lt_of_row (Nat.le_refl _) h1)).trans h1
  have HR1 := Lib.hid hr1
  have HB1 := Lib.hid (hb.trans (hb1.mono hb.size))
  have HL1 : Hid (w.heap.size < w1.heap.size) := lt_of_row (Nat.le_refl _) hr1
  obtain ⟨x0, x1, x2, x3, x4, x5, x6, x7, x8, x9, x10, x11, xz⟩ := row12 hr1
  clear h1 hb hb1 hr1 right
  have HOKN : Hid (okN [5, 2, 0, 0, 15, 4, 0, 0] = true) := by unfold Hid; decide
  go_wp2_with fail
  have HBOX : Hid True := trivial
  go_region_held_law (fun W => W.cell? ⟨w.heap.size, 0, none⟩ = some (.int .i64 5) ∧ W.cell? ⟨w.heap.size, 1, none⟩ = some (.int .i64 2) ∧ W.cell? ⟨w.heap.size, 2, none⟩ = some (.int .i64 0) ∧ W.cell? ⟨w.heap.size, 3, none⟩ = some (.int .i64 0) ∧ W.cell? ⟨w.heap.size, 4, none⟩ = some (.int .i64 15) ∧ W.cell? ⟨w.heap.size, 5, none⟩ = some (.int .i64 4) ∧ W.cell? ⟨w.heap.size, 6, none⟩ = some (.bool false) ∧ W.cell? ⟨w.heap.size, 7, none⟩ = some (.slice none 0 0)) (first | go_keep | exact HBOX.out)
    (first
      | (go_at_call 18; (with_reducible refine (number_c false _).mono ?_); rintro e w' ⟨rfl, rfl⟩)
      | (go_at_call 17; refine (nums8 _ 5 2 0 0 15 4 0 0 HOKN.out _ rfl).mono ?_; rintro e w2 ⟨A2, c2, rfl, ho2, hb2⟩; clear HBOX; have HO2 := Lib.hid (ho2.low (B' := w.heap.size) (by have := HL1.out; simp at *; omega)); have HB2 := Lib.hid (HB1.out.trans (hb2.mono HB1.out.size)); have HR2 := Lib.hid ((hb2.block w.heap.size HL1.out).trans HR1.out); have HBOX : Hid (w2.cell? ⟨w.heap.size, 0, none⟩ = some (.int .i64 5) ∧ w2.cell? ⟨w.heap.size, 1, none⟩ = some (.int .i64 2) ∧ w2.cell? ⟨w.heap.size, 2, none⟩ = some (.int .i64 0) ∧ w2.cell? ⟨w.heap.size, 3, none⟩ = some (.int .i64 0) ∧ w2.cell? ⟨w.heap.size, 4, none⟩ = some (.int .i64 15) ∧ w2.cell? ⟨w.heap.size, 5, none⟩ = some (.int .i64 4) ∧ w2.cell? ⟨w.heap.size, 6, none⟩ = some (.bool false) ∧ w2.cell? ⟨w.heap.size, 7, none⟩ = some (.slice none 0 0)) := (by obtain ⟨y0, y1, y2, y3, y4, y5, y6, y7, y8, y9, y10, y11, yz⟩ := row12 HR2.out; exact ⟨y0, y1, y2, y3, y4, y5, y6, y7⟩); clear ho2 hb2))
  all_goals
    rename_i hh
    clear hh HBOX x0 x1 x2 x3 x4 x5 x6 x7 x8 x9 x10 x11 xz
    obtain ⟨x0, x1, x2, x3, x4, x5, x6, x7, x8, x9, x10, x11, xz⟩ := row12 HR2.out
    go_wp2_with fail
    go_loopw [4, 41] (fun b i wr => b = .slice A2 24 c2 ∧ i = .int .i64 0 ∧ wr = w2) (fun _ i _ => 0)
    case atStart => exact ⟨rfl, rfl, rfl⟩
    case round =>
      obtain ⟨rfl, rfl, rfl⟩ := hrel
      go_wp2_with fail
      clear x0 x1 x2 x3 x4 x5 x6 x7 x8 x9 x10 x11 xz HR1 HB1 HL1 HR2 HOKN
      obtain ⟨hd, hhd⟩ : ∃ hd, hd = numsB [5, 2, 0, 0, 15, 4, 0, 0] := ⟨_, rfl⟩
      have HHD := Lib.hid hhd
      have hP3 : hd.length = 24 := by rw [hhd, numsB_length]; rfl
      have HP3 := Lib.hid hP3
      rw [← hhd] at HO2
      clear hhd hP3
      have hbuf : ∀ k, (flatV ([(a0, b0), (a1, b1), (a2, b2), (a3, b3)].take k)).length ≤ 64 := fun k => by rw [flatV_length]; simp; omega
      have HBUF := Lib.hid hbuf
      clear hbuf
      go_loopw [4, 67] (fun b i wr => ∃ (k : Nat) (A' : Option Addr) (c' : Nat), k ≤ 4 ∧ i = .int .i64 k ∧ b = .slice A' (hd ++ flatV ([(a0, b0), (a1, b1), (a2, b2), (a3, b3)].take k)).length c' ∧ Hid (Ow 5 g8 wr w.heap.size A' (hd ++ flatV ([(a0, b0), (a1, b1), (a2, b2), (a3, b3)].take k)) c') ∧ Hid (Below w.heap.size w wr)) (fun _ i _ => 4 - (intOf i).toNat)
      case atStart => exact ⟨0, A2, c2, Nat.zero_le _, rfl, by simp [flatV, HP3.out], by simpa [flatV] using HO2, HB2⟩
      case round =>
        obtain ⟨k, Ak, ck, hk, rfl, rfl, hok, hbk⟩ := hrel
        by_cases hlt : k < 4
        · obtain rfl | rfl | rfl | rfl : k = 0 ∨ k = 1 ∨ k = 2 ∨ k = 3 := by omega
          · skip
            have hix := fun W => (idx4 W a0 b0 a1 b1 a2 b2 a3 b3).1
            have hpre : ([(a0, b0), (a1, b1), (a2, b2), (a3, b3)].take (0 + 1)) = ([(a0, b0), (a1, b1), (a2, b2), (a3, b3)].take 0) ++ [(a0, b0)] := rfl
            have HPRE := Lib.hid hpre
            have HLN : Hid ((hd ++ flatV ([(a0, b0), (a1, b1), (a2, b2), (a3, b3)].take 0)).length ≤ 88) := by have := HBUF.out 0; have := HP3.out; unfold Hid; rw [List.length_append]; omega
            clear hpre
            generalize [(a0, b0), (a1, b1), (a2, b2), (a3, b3)].take 0 = pre at *
            obtain ⟨l1, hl1⟩ : ∃ l1, hd ++ flatV pre = l1 := ⟨_, rfl⟩
            rw [hl1] at hok HLN
            rw [hl1]
            have HL1' := Lib.hid hl1
            clear hl1
            go_wp2_with fail
            refine (value_c a0 b0 wr).mono ?_; rintro e w4 ⟨A4, c4, rfl, ho4, hb4⟩
            have HX2 := Lib.hid ho4.rd
            have HNX := Lib.hid ho4.nil_cap
            have HOK := Lib.hid (hok.out.below hb4)
            have HBK := Lib.hid (hbk.out.trans (hb4.mono hbk.out.size))
            have HVL := Lib.hid (valB_length a0 b0)
            clear ho4 hb4
            go_wp2_with (at_builtin; refine app8 rfl _ _ rfl l1 (valB a0 b0) HOK.out rfl A4 c4 HX2.out (by rw [HVL.out]; rfl) HNX.out (by rw [HVL.out]; have := HLN.out; omega) HBK.out.size ?_)
            intro A5 c5 w5 ho5 hg5
            have HO5 := Lib.hid ho5
            have HB5 := Lib.hid (HBK.out.grown hg5 HBK.out.size (fun k hk => (HOK.out.block k hk).1))
            clear ho5 hg5
            go_wp2_with fail
            go_roundw
            case rel => exact ⟨0 + 1, A5, c5, by omega, rfl, by rw [HPRE.out, flatV_snoc, ← List.append_assoc, HL1'.out, len_app], by rw [HPRE.out, flatV_snoc, ← List.append_assoc, HL1'.out]; exact HO5, HB5⟩
            case measure => simp [intOf]
          · skip
            have hix := fun W => (idx4 W a0 b0 a1 b1 a2 b2 a3 b3).2.1
            have hpre : ([(a0, b0), (a1, b1), (a2, b2), (a3, b3)].take (1 + 1)) = ([(a0, b0), (a1, b1), (a2, b2), (a3, b3)].take 1) ++ [(a1, b1)] := rfl
            have HPRE := Lib.hid hpre
            have HLN : Hid ((hd ++ flatV ([(a0, b0), (a1, b1), (a2, b2), (a3, b3)].take 1)).length ≤ 88) := by have := HBUF.out 1; have := HP3.out; unfold Hid; rw [List.length_append]; omega
            clear hpre
            generalize [(a0, b0), (a1, b1), (a2, b2), (a3, b3)].take 1 = pre at *
            obtain ⟨l1, hl1⟩ : ∃ l1, hd ++ flatV pre = l1 := ⟨_, rfl⟩
            rw [hl1] at hok HLN
            rw [hl1]
            have HL1' := Lib.hid hl1
            clear hl1
            go_wp2_with fail
            refine (value_c a1 b1 wr).mono ?_; rintro e w4 ⟨A4, c4, rfl, ho4, hb4⟩
            have HX2 := Lib.hid ho4.rd
            have HNX := Lib.hid ho4.nil_cap
            have HOK := Lib.hid (hok.out.below hb4)
            have HBK := Lib.hid (hbk.out.trans (hb4.mono hbk.out.size))
            have HVL := Lib.hid (valB_length a1 b1)
            clear ho4 hb4
            go_wp2_with (at_builtin; refine app8 rfl _ _ rfl l1 (valB a1 b1) HOK.out rfl A4 c4 HX2.out (by rw [HVL.out]; rfl) HNX.out (by rw [HVL.out]; have := HLN.out; omega) HBK.out.size ?_)
            intro A5 c5 w5 ho5 hg5
            have HO5 := Lib.hid ho5
            have HB5 := Lib.hid (HBK.out.grown hg5 HBK.out.size (fun k hk => (HOK.out.block k hk).1))
            clear ho5 hg5
            go_wp2_with fail
            go_roundw
            case rel => exact ⟨1 + 1, A5, c5, by omega, rfl, by rw [HPRE.out, flatV_snoc, ← List.append_assoc, HL1'.out, len_app], by rw [HPRE.out, flatV_snoc, ← List.append_assoc, HL1'.out]; exact HO5, HB5⟩
            case measure => simp [intOf]
          · skip
            have hix := fun W => (idx4 W a0 b0 a1 b1 a2 b2 a3 b3).2.2.1
            have hpre : ([(a0, b0), (a1, b1), (a2, b2), (a3, b3)].take (2 + 1)) = ([(a0, b0), (a1, b1), (a2, b2), (a3, b3)].take 2) ++ [(a2, b2)] := rfl
            have HPRE := Lib.hid hpre
            have HLN : Hid ((hd ++ flatV ([(a0, b0), (a1, b1), (a2, b2), (a3, b3)].take 2)).length ≤ 88) := by have := HBUF.out 2; have := HP3.out; unfold Hid; rw [List.length_append]; omega
            clear hpre
            generalize [(a0, b0), (a1, b1), (a2, b2), (a3, b3)].take 2 = pre at *
            obtain ⟨l1, hl1⟩ : ∃ l1, hd ++ flatV pre = l1 := ⟨_, rfl⟩
            rw [hl1] at hok HLN
            rw [hl1]
            have HL1' := Lib.hid hl1
            clear hl1
            go_wp2_with fail
            refine (value_c a2 b2 wr).mono ?_; rintro e w4 ⟨A4, c4, rfl, ho4, hb4⟩
            have HX2 := Lib.hid ho4.rd
            have HNX := Lib.hid ho4.nil_cap
            have HOK := Lib.hid (hok.out.below hb4)
            have HBK := Lib.hid (hbk.out.trans (hb4.mono hbk.out.size))
            have HVL := Lib.hid (valB_length a2 b2)
            clear ho4 hb4
            go_wp2_with (at_builtin; refine app8 rfl _ _ rfl l1 (valB a2 b2) HOK.out rfl A4 c4 HX2.out (by rw [HVL.out]; rfl) HNX.out (by rw [HVL.out]; have := HLN.out; omega) HBK.out.size ?_)
            intro A5 c5 w5 ho5 hg5
            have HO5 := Lib.hid ho5
            have HB5 := Lib.hid (HBK.out.grown hg5 HBK.out.size (fun k hk => (HOK.out.block k hk).1))
            clear ho5 hg5
            go_wp2_with fail
            go_roundw
            case rel => exact ⟨2 + 1, A5, c5, by omega, rfl, by rw [HPRE.out, flatV_snoc, ← List.append_assoc, HL1'.out, len_app], by rw [HPRE.out, flatV_snoc, ← List.append_assoc, HL1'.out]; exact HO5, HB5⟩
            case measure => simp [intOf]
          · skip
            have hix := fun W => (idx4 W a0 b0 a1 b1 a2 b2 a3 b3).2.2.2
            have hpre : ([(a0, b0), (a1, b1), (a2, b2), (a3, b3)].take (3 + 1)) = ([(a0, b0), (a1, b1), (a2, b2), (a3, b3)].take 3) ++ [(a3, b3)] := rfl
            have HPRE := Lib.hid hpre
            have HLN : Hid ((hd ++ flatV ([(a0, b0), (a1, b1), (a2, b2), (a3, b3)].take 3)).length ≤ 88) := by have := HBUF.out 3; have := HP3.out; unfold Hid; rw [List.length_append]; omega
            clear hpre
            generalize [(a0, b0), (a1, b1), (a2, b2), (a3, b3)].take 3 = pre at *
            obtain ⟨l1, hl1⟩ : ∃ l1, hd ++ flatV pre = l1 := ⟨_, rfl⟩
            rw [hl1] at hok HLN
            rw [hl1]
            have HL1' := Lib.hid hl1
            clear hl1
            go_wp2_with fail
            refine (value_c a3 b3 wr).mono ?_; rintro e w4 ⟨A4, c4, rfl, ho4, hb4⟩
            have HX2 := Lib.hid ho4.rd
            have HNX := Lib.hid ho4.nil_cap
            have HOK := Lib.hid (hok.out.below hb4)
            have HBK := Lib.hid (hbk.out.trans (hb4.mono hbk.out.size))
            have HVL := Lib.hid (valB_length a3 b3)
            clear ho4 hb4
            go_wp2_with (at_builtin; refine app8 rfl _ _ rfl l1 (valB a3 b3) HOK.out rfl A4 c4 HX2.out (by rw [HVL.out]; rfl) HNX.out (by rw [HVL.out]; have := HLN.out; omega) HBK.out.size ?_)
            intro A5 c5 w5 ho5 hg5
            have HO5 := Lib.hid ho5
            have HB5 := Lib.hid (HBK.out.grown hg5 HBK.out.size (fun k hk => (HOK.out.block k hk).1))
            clear ho5 hg5
            go_wp2_with fail
            go_roundw
            case rel => exact ⟨3 + 1, A5, c5, by omega, rfl, by rw [HPRE.out, flatV_snoc, ← List.append_assoc, HL1'.out, len_app], by rw [HPRE.out, flatV_snoc, ← List.append_assoc, HL1'.out]; exact HO5, HB5⟩
            case measure => simp [intOf]
        · have he : k = 4 := by omega
          subst he
          have hLL : (hd ++ flatV ([(a0, b0), (a1, b1), (a2, b2), (a3, b3)].take 4)).length = 88 := by rw [List.length_append, flatV_length, HP3.out]; rfl
          rw [hLL]
          have HOF : Hid (Ow 5 g8 wr w.heap.size Ak (hd ++ flatV [(a0, b0), (a1, b1), (a2, b2), (a3, b3)]) ck) := hok
          clear hok hLL
          go_wp2_with fail
          go_ret2
          exact ⟨Ak, ck, rfl, by rw [← HHD.out]; exact HOF.out, hbk.out⟩

end Go.Proofs.Ytbhjdapkhcgmlaa

namespace Go.Proofs.Ytbhjdapkhcgmlaa
open Go.RowKit

attribute [local go_sem] run_store_complex

/-! msg's reader: a value. -/

theorem open_sealed (l : List UInt8) : openL (sealN l) = l ∧ openE (sealN l) = 0 := by
  have hl : (sealN l).length = l.length + 2 := by simp [sealN]
  have ht : (sealN l).take (l.length + 2 - 2) = l := by rw [Nat.add_sub_cancel]; simp [sealN]
  have ho : openO (sealN l) = some l := by
    unfold openO
    rw [hl, if_neg (by omega), ht, if_pos rfl]
  unfold openL openE
  rw [ho]
  exact ⟨rfl, rfl⟩

/-- Two parts that have their one form. -/
def Good (a b : Nat) : Prop := formF a = a ∧ formF b = b ∧ a < 18446744073709551616 ∧ b < 18446744073709551616

theorem val_ok {a b : Nat} (h : Good a b) (r : List UInt8) : valOk (valB a b ++ r) = true ∧ reB (valB a b ++ r) = a ∧ imB (valB a b ++ r) = b ∧ (valB a b ++ r).drop 16 = r ∧ (valB a b ++ r).take 16 = valB a b := by
  obtain ⟨h1, h2, h3, h4⟩ := h
  have hv : valB a b = putB a 8 ++ putB b 8 := by unfold valB; rw [h1, h2]
  have l1 := putB_length a 8
  have l2 := putB_length b 8
  have t16 : (valB a b ++ r).take 16 = valB a b := by rw [List.take_append, valB_length, Nat.sub_self, List.take_zero, List.append_nil, List.take_of_length_le (by rw [valB_length]; omega)]
  have hre : reB (valB a b ++ r) = a := by
    unfold reB
    rw [hv, List.append_assoc, List.take_append, l1, List.take_of_length_le (by omega), Nat.sub_self, List.take_zero, List.append_nil, getN_putB]
    omega
  have him : imB (valB a b ++ r) = b := by
    unfold imB
    rw [t16, hv, List.drop_append, l1, List.drop_eq_nil_of_le (by omega), Nat.sub_self, List.drop_zero, List.nil_append, getN_putB]
    omega
  refine ⟨?_, hre, him, ?_, t16⟩
  · unfold valOk
    rw [hre, him, t16]
    simp
  · rw [List.drop_append, valB_length, List.drop_eq_nil_of_le (by rw [valB_length]; omega)]; rfl

set_option maxRecDepth 100000 in
set_option maxHeartbeats 8000000 in
theorem rval_ok (rb : Nat) (A : Option Addr) (a b : Nat) (g : Good a b) (r : List UInt8) (n c : Nat) (w : World) (hr : w.heap[rb]? = some (.cells #[.slice A n c, .bool false] 60 (0, 0))) (h : Rd g8 w A (valB a b ++ r)) (hn : A = none → c = 0) (he : r.length + 16 = n) (hc : n ≤ c) (hc2 : c ≤ 9223372036854775807) (hl2 : n ≤ 140737488355328) :
    Calls Try.prog 24 #[.pointer (some ⟨rb, 0, none⟩)] w fun e w' => ∃ A2 c2, e = .returned (.complex .f64 a b) ∧ Ow 5 g8 w' w.heap.size A2 r c2 ∧
      w'.heap[rb]? = some (.cells #[.slice A2 r.length c2, .bool false] 60 (0, 0)) ∧ Upto (fun j => j = rb) w w' := by
  obtain ⟨x0, x1, xz⟩ := row2' hr
  have hv := val_ok g r
  have hlen : (valB a b ++ r).length = n := by rw [List.length_append, valB_length]; omega
  have htk := take_yes A (valB a b ++ r) c n w hv.1 h hn (by omega) hc2 (by omega) (by omega) hlen
  rw [hv.2.1, hv.2.2.1, hv.2.2.2.1] at htk
  have HTK := Lib.hid htk
  have HR := Lib.hid hr
  clear h hn he hc hc2 hl2 hr hv htk hlen
  go_enter Try.func24, Try.ntmps24
  go_wp2_with fail
  refine HTK.out.mono ?_; rintro e w1 ⟨A2, c2, rfl, ho2, hb⟩
  have hrw := (hb.block rb (Array.getElem?_eq_some_iff.1 HR.out).1).trans HR.out
  have HRW := Lib.hid hrw
  have HO2 := Lib.hid ho2
  have HB := Lib.hid hb
  clear x0 x1 xz ho2 hb
  obtain ⟨x0, x1, xz⟩ := row2' hrw
  clear hrw
  go_wp2_with fail
  go_ret
  have hu := (Upto.refl (fun j => j = rb) w1).setCell (p := ⟨rb, 0, none⟩) rfl (.slice A2 r.length c2)
  have hlt := (Array.getElem?_eq_some_iff.1 HR.out).1
  refine ⟨A2, c2, rfl, HO2.out.upto hu (fun a e e2 => by have := (HO2.out.lt a e).1; omega), row_set HRW.out 0 _, (Upto.of_below HB.out).trans hu (fun _ _ e => e)⟩

end Go.Proofs.Ytbhjdapkhcgmlaa

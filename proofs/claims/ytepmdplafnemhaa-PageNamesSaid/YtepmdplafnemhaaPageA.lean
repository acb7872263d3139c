import Derived.Test.YtepmdplafnemhaaPlainP
import Derived.Test.YtepmdplafnemhaaCrcOpen
namespace Go.Proofs.Ytepmdplafnemhaa
open Go.RowKit

/-! page.Bytes. -/

def flatV (vs : List (Nat × Nat)) : List UInt8 := (vs.map fun x => valB x.1 x.2).flatten
theorem flatV_cons (x : Nat × Nat) (vs : List (Nat × Nat)) : flatV (x :: vs) = valB x.1 x.2 ++ flatV vs := by unfold flatV; simp
theorem flatV_snoc (vs : List (Nat × Nat)) (x : Nat × Nat) : flatV (vs ++ [x]) = flatV vs ++ valB x.1 x.2 := by unfold flatV; simp
theorem flatV_length (vs : List (Nat × Nat)) : (flatV vs).length = 16 * vs.length := by
  induction vs with
  | nil => rfl
  | cons x vs ih => rw [flatV_cons, List.length_append, valB_length, ih, List.length_cons]; omega

/-- A page's text, ahead of its sum. -/
def pageT (n : Nat) (vs : List (Nat × Nat)) : List UInt8 := putB n 3 ++ flatV vs
theorem pageT_length (n : Nat) (vs : List (Nat × Nat)) : (pageT n vs).length = 3 + 16 * vs.length := by unfold pageT; rw [List.length_append, putB_length, flatV_length]

theorem idx4 (W : World) (a b c d : Nat) (e f g h : Nat) :
    (Instr.index 23 (.agg #[.complex .f64 a b, .complex .f64 c d, .complex .f64 e f, .complex .f64 g h]) (.int .i64 0)).run Try.prog W = .ok (.complex .f64 a b) W ∧
    (Instr.index 23 (.agg #[.complex .f64 a b, .complex .f64 c d, .complex .f64 e f, .complex .f64 g h]) (.int .i64 1)).run Try.prog W = .ok (.complex .f64 c d) W ∧
    (Instr.index 23 (.agg #[.complex .f64 a b, .complex .f64 c d, .complex .f64 e f, .complex .f64 g h]) (.int .i64 2)).run Try.prog W = .ok (.complex .f64 e f) W ∧
    (Instr.index 23 (.agg #[.complex .f64 a b, .complex .f64 c d, .complex .f64 e f, .complex .f64 g h]) (.int .i64 3)).run Try.prog W = .ok (.complex .f64 g h) W := by
  refine ⟨?_, ?_, ?_, ?_⟩ <;> simp [Instr.index, run_underlying Try.underlying23, asIntOf, go_sem]

theorem len_app (l m : List UInt8) : (l ++ m).length = l.length + m.length := List.length_append

theorem numsR_one (n : Nat) (h : n ≤ 16777215) : numsR [(n : Int)] = putB n 3 ∧ numsE [(n : Int)] = 0 := by
  have hok : okN [(n : Int)] = true := by unfold okN; simp; omega
  have := numsR_yes hok
  rw [this.1, this.2]
  exact ⟨by unfold numsB; simp, rfl⟩

set_option maxRecDepth 1000000 in
set_option maxHeartbeats 4000000 in
theorem pbytes_c (n : Nat) (hn : n ≤ 16777215) (a0 b0 a1 b1 a2 b2 a3 b3 : Nat) (w : World) :
    Calls Try.prog 10 #[.agg #[.int .i64 n, .complex .f64 a0 b0, .complex .f64 a1 b1, .complex .f64 a2 b2, .complex .f64 a3 b3]] w fun e w' => ∃ A c, e = .returned (.tuple #[.slice A 69 c, .int .i64 0]) ∧
      Ow 5 g8 w' w.heap.size A (sealN (pageT n [(a0, b0), (a1, b1), (a2, b2), (a3, b3)])) c ∧ Below w.heap.size w w' := by
  have hb0 : Below w.heap.size w (w.alloc (.cells #[.int .i64 n, .complex .f64 a0 b0, .complex .f64 a1 b1, .complex .f64 a2 b2, .complex .f64 a3 b3] 25)) := (Below.refl _ _).alloc (Nat.le_refl _) _
  have hrow := heap_alloc_new w (.cells #[.int .i64 n, .complex .f64 a0 b0, .complex .f64 a1 b1, .complex .f64 a2 b2, .complex .f64 a3 b3] 25)
  have hs0 : (w.alloc (.cells #[.int .i64 n, .complex .f64 a0 b0, .complex .f64 a1 b1, .complex .f64 a2 b2, .complex .f64 a3 b3] 25)).heap.size = w.heap.size + 1 := by simp
  have HN1 := Lib.hid (numsR_one n hn)
  have hbuf : ∀ k, (flatV ([(a0, b0), (a1, b1), (a2, b2), (a3, b3)].take k)).length ≤ 64 := fun k => by rw [flatV_length]; simp; omega
  have HBUF := Lib.hid hbuf
  have hP3 := putB_length n 3
  have HP3 := Lib.hid hP3
  clear hbuf hP3
  go_enter Try.func10, Try.ntmps10
  go_wp2_with fail
  generalize w.alloc (.cells #[.int .i64 n, .complex .f64 a0 b0, .complex .f64 a1 b1, .complex .f64 a2 b2, .complex .f64 a3 b3] 25) = w0 at *
  have HB0 := Lib.hid hb0
  have HROW := Lib.hid hrow
  have hr1 := Rd.row_of (g := g64) (E := 3) w0 [(n : Int)] (cs := #[.int .i64 n]) rfl
  rw [hs0] at hr1
  have HR1 := Lib.hid hr1
  have HS0 := Lib.hid hs0
  have HBA := Lib.hid (hb0.alloc hb0.size (.cells #[.int .i64 n] 3))
  have HRA := Lib.hid ((((Below.refl w0.heap.size w0).alloc (Nat.le_refl _) (.cells #[.int .i64 n] 3)).block w.heap.size (by omega)).trans hrow)
  have HZA : Hid (w.heap.size < (w0.alloc (.cells #[.int .i64 n] 3)).heap.size) := by unfold Hid; simp; omega
  clear hb0 hrow hr1 hs0
  refine (nums_c _ [(n : Int)] 1 _ HR1.out (by simp)).mono ?_; rintro e w1 ⟨A1, c1, rfl, ho1, hb1⟩
  rw [HN1.out.1] at ho1
  rw [HN1.out.1, HN1.out.2]
  have HO1 := Lib.hid (ho1.low (B' := w.heap.size) (by have := HZA.out; omega))
  have HB1 := Lib.hid (HBA.out.trans (hb1.mono HBA.out.size))
  have hrow1 := (hb1.block w.heap.size HZA.out).trans HRA.out
  have c1' := cell_of_row w1 w.heap.size 1 _ _ _ hrow1
  have c2' := cell_of_row w1 w.heap.size 2 _ _ _ hrow1
  have c3' := cell_of_row w1 w.heap.size 3 _ _ _ hrow1
  have c4' := cell_of_row w1 w.heap.size 4 _ _ _ hrow1
  simp at c1' c2' c3' c4'
  clear ho1 hb1 hrow1
  go_wp2_with fail
  clear c1' c2' c3' c4'
  go_loopw [4, 19] (fun b i wr => ∃ (k : Nat) (A' : Option Addr) (c' : Nat), k ≤ 4 ∧ i = .int .i64 k ∧ b = .slice A' (putB n 3 ++ flatV ([(a0, b0), (a1, b1), (a2, b2), (a3, b3)].take k)).length c' ∧ Hid (Ow 5 g8 wr w.heap.size A' (putB n 3 ++ flatV ([(a0, b0), (a1, b1), (a2, b2), (a3, b3)].take k)) c') ∧ Hid (Below w.heap.size w wr)) (fun _ i _ => 4 - (intOf i).toNat)
  case atStart => exact ⟨0, A1, c1, Nat.zero_le _, rfl, by simp [flatV], by simpa [flatV] using HO1, HB1⟩
  case round =>
    obtain ⟨k, Ak, ck, hk, rfl, rfl, hok, hbk⟩ := hrel
    by_cases hlt : k < 4
    · obtain rfl | rfl | rfl | rfl : k = 0 ∨ k = 1 ∨ k = 2 ∨ k = 3 := by omega
      · skip
        have hix := fun W => (idx4 W a0 b0 a1 b1 a2 b2 a3 b3).1
        have hpre : ([(a0, b0), (a1, b1), (a2, b2), (a3, b3)].take (0 + 1)) = ([(a0, b0), (a1, b1), (a2, b2), (a3, b3)].take 0) ++ [(a0, b0)] := rfl
        have HPRE := Lib.hid hpre
        have HLN : Hid ((putB n 3 ++ flatV ([(a0, b0), (a1, b1), (a2, b2), (a3, b3)].take 0)).length ≤ 67) := by have := HBUF.out 0; have := HP3.out; unfold Hid; rw [List.length_append]; omega
        clear hpre
        generalize [(a0, b0), (a1, b1), (a2, b2), (a3, b3)].take 0 = pre at *
        obtain ⟨l1, hl1⟩ : ∃ l1, putB n 3 ++ flatV pre = l1 := ⟨_, rfl⟩
        rw [hl1] at hok HLN
        rw [hl1]
        have HL1 := Lib.hid hl1
        clear hl1
        go_wp2_with fail
        refine (value_c a0 b0 wr).mono ?_; rintro e w2 ⟨A2, c2, rfl, ho2, hb2⟩
        have HX2 := Lib.hid ho2.rd
        have HNX := Lib.hid ho2.nil_cap
        have HOK := Lib.hid (hok.out.below hb2)
        have HBK := Lib.hid (hbk.out.trans (hb2.mono hbk.out.size))
        have HVL := Lib.hid (valB_length a0 b0)
        clear ho2 hb2
        go_wp2_with (at_builtin; refine app8 rfl _ _ rfl l1 (valB a0 b0) HOK.out rfl A2 c2 HX2.out (by rw [HVL.out]; rfl) HNX.out (by rw [HVL.out]; have := HLN.out; omega) HBK.out.size ?_)
        intro A3 c3 w3 ho3 hg3
        have HO3 := Lib.hid ho3
        have HB3 := Lib.hid (HBK.out.grown hg3 HBK.out.size (fun k hk => (HOK.out.block k hk).1))
        clear ho3 hg3
        go_wp2_with fail
        go_roundw
        case rel => exact ⟨0 + 1, A3, c3, by omega, rfl, by rw [HPRE.out, flatV_snoc, ← List.append_assoc, HL1.out, len_app], by rw [HPRE.out, flatV_snoc, ← List.append_assoc, HL1.out]; exact HO3, HB3⟩
        case measure => simp [intOf]
      · skip
        have hix := fun W => (idx4 W a0 b0 a1 b1 a2 b2 a3 b3).2.1
        have hpre : ([(a0, b0), (a1, b1), (a2, b2), (a3, b3)].take (1 + 1)) = ([(a0, b0), (a1, b1), (a2, b2), (a3, b3)].take 1) ++ [(a1, b1)] := rfl
        have HPRE := Lib.hid hpre
        have HLN : Hid ((putB n 3 ++ flatV ([(a0, b0), (a1, b1), (a2, b2), (a3, b3)].take 1)).length ≤ 67) := by have := HBUF.out 1; have := HP3.out; unfold Hid; rw [List.length_append]; omega
        clear hpre
        generalize [(a0, b0), (a1, b1), (a2, b2), (a3, b3)].take 1 = pre at *
        obtain ⟨l1, hl1⟩ : ∃ l1, putB n 3 ++ flatV pre = l1 := ⟨_, rfl⟩
        rw [hl1] at hok HLN
        rw [hl1]
        have HL1 := Lib.hid hl1
        clear hl1
        go_wp2_with fail
        refine (value_c a1 b1 wr).mono ?_; rintro e w2 ⟨A2, c2, rfl, ho2, hb2⟩
        have HX2 := Lib.hid ho2.rd
        have HNX := Lib.hid ho2.nil_cap
        have HOK := Lib.hid (hok.out.below hb2)
        have HBK := Lib.hid (hbk.out.trans (hb2.mono hbk.out.size))
        have HVL := Lib.hid (valB_length a1 b1)
        clear ho2 hb2
        go_wp2_with (at_builtin; refine app8 rfl _ _ rfl l1 (valB a1 b1) HOK.out rfl A2 c2 HX2.out (by rw [HVL.out]; rfl) HNX.out (by rw [HVL.out]; have := HLN.out; omega) HBK.out.size ?_)
        intro A3 c3 w3 ho3 hg3
        have HO3 := Lib.hid ho3
        have HB3 := Lib.hid (HBK.out.grown hg3 HBK.out.size (fun k hk => (HOK.out.block k hk).1))
        clear ho3 hg3
        go_wp2_with fail
        go_roundw
        case rel => exact ⟨1 + 1, A3, c3, by omega, rfl, by rw [HPRE.out, flatV_snoc, ← List.append_assoc, HL1.out, len_app], by rw [HPRE.out, flatV_snoc, ← List.append_assoc, HL1.out]; exact HO3, HB3⟩
        case measure => simp [intOf]
      · skip
        have hix := fun W => (idx4 W a0 b0 a1 b1 a2 b2 a3 b3).2.2.1
        have hpre : ([(a0, b0), (a1, b1), (a2, b2), (a3, b3)].take (2 + 1)) = ([(a0, b0), (a1, b1), (a2, b2), (a3, b3)].take 2) ++ [(a2, b2)] := rfl
        have HPRE := Lib.hid hpre
        have HLN : Hid ((putB n 3 ++ flatV ([(a0, b0), (a1, b1), (a2, b2), (a3, b3)].take 2)).length ≤ 67) := by have := HBUF.out 2; have := HP3.out; unfold Hid; rw [List.length_append]; omega
        clear hpre
        generalize [(a0, b0), (a1, b1), (a2, b2), (a3, b3)].take 2 = pre at *
        obtain ⟨l1, hl1⟩ : ∃ l1, putB n 3 ++ flatV pre = l1 := ⟨_, rfl⟩
        rw [hl1] at hok HLN
        rw [hl1]
        have HL1 := Lib.hid hl1
        clear hl1
        go_wp2_with fail
        refine (value_c a2 b2 wr).mono ?_; rintro e w2 ⟨A2, c2, rfl, ho2, hb2⟩
        have HX2 := Lib.hid ho2.rd
        have HNX := Lib.hid ho2.nil_cap
        have HOK := Lib.hid (hok.out.below hb2)
        have HBK := Lib.hid (hbk.out.trans (hb2.mono hbk.out.size))
        have HVL := Lib.hid (valB_length a2 b2)
        clear ho2 hb2
        go_wp2_with (at_builtin; refine app8 rfl _ _ rfl l1 (valB a2 b2) HOK.out rfl A2 c2 HX2.out (by rw [HVL.out]; rfl) HNX.out (by rw [HVL.out]; have := HLN.out; omega) HBK.out.size ?_)
        intro A3 c3 w3 ho3 hg3
        have HO3 := Lib.hid ho3
        have HB3 := Lib.hid (HBK.out.grown hg3 HBK.out.size (fun k hk => (HOK.out.block k hk).1))
        clear ho3 hg3
        go_wp2_with fail
        go_roundw
        case rel => exact ⟨2 + 1, A3, c3, by omega, rfl, by rw [HPRE.out, flatV_snoc, ← List.append_assoc, HL1.out, len_app], by rw [HPRE.out, flatV_snoc, ← List.append_assoc, HL1.out]; exact HO3, HB3⟩
        case measure => simp [intOf]
      · skip
        have hix := fun W => (idx4 W a0 b0 a1 b1 a2 b2 a3 b3).2.2.2
        have hpre : ([(a0, b0), (a1, b1), (a2, b2), (a3, b3)].take (3 + 1)) = ([(a0, b0), (a1, b1), (a2, b2), (a3, b3)].take 3) ++ [(a3, b3)] := rfl
        have HPRE := Lib.hid hpre
        have HLN : Hid ((putB n 3 ++ flatV ([(a0, b0), (a1, b1), (a2, b2), (a3, b3)].take 3)).length ≤ 67) := by have := HBUF.out 3; have := HP3.out; unfold Hid; rw [List.length_append]; omega
        clear hpre
        generalize [(a0, b0), (a1, b1), (a2, b2), (a3, b3)].take 3 = pre at *
        obtain ⟨l1, hl1⟩ : ∃ l1, putB n 3 ++ flatV pre = l1 := ⟨_, rfl⟩
        rw [hl1] at hok HLN
        rw [hl1]
        have HL1 := Lib.hid hl1
        clear hl1
        go_wp2_with fail
        refine (value_c a3 b3 wr).mono ?_; rintro e w2 ⟨A2, c2, rfl, ho2, hb2⟩
        have HX2 := Lib.hid ho2.rd
        have HNX := Lib.hid ho2.nil_cap
        have HOK := Lib.hid (hok.out.below hb2)
        have HBK := Lib.hid (hbk.out.trans (hb2.mono hbk.out.size))
        have HVL := Lib.hid (valB_length a3 b3)
        clear ho2 hb2
        go_wp2_with (at_builtin; refine app8 rfl _ _ rfl l1 (valB a3 b3) HOK.out rfl A2 c2 HX2.out (by rw [HVL.out]; rfl) HNX.out (by rw [HVL.out]; have := HLN.out; omega) HBK.out.size ?_)
        intro A3 c3 w3 ho3 hg3
        have HO3 := Lib.hid ho3
        have HB3 := Lib.hid (HBK.out.grown hg3 HBK.out.size (fun k hk => (HOK.out.block k hk).1))
        clear ho3 hg3
        go_wp2_with fail
        go_roundw
        case rel => exact ⟨3 + 1, A3, c3, by omega, rfl, by rw [HPRE.out, flatV_snoc, ← List.append_assoc, HL1.out, len_app], by rw [HPRE.out, flatV_snoc, ← List.append_assoc, HL1.out]; exact HO3, HB3⟩
        case measure => simp [intOf]
    · have he : k = 4 := by omega
      subst he
      have hT : putB n 3 ++ flatV ([(a0, b0), (a1, b1), (a2, b2), (a3, b3)].take 4) = pageT n [(a0, b0), (a1, b1), (a2, b2), (a3, b3)] := rfl
      rw [hT] at hok
      rw [hT]
      have hTL : (pageT n [(a0, b0), (a1, b1), (a2, b2), (a3, b3)]).length = 67 := pageT_length _ _
      have HTL := Lib.hid hTL
      clear hT hTL
      generalize hTE : pageT n [(a0, b0), (a1, b1), (a2, b2), (a3, b3)] = T at *
      have HTE := Lib.hid hTE
      clear hTE
      go_wp2_with fail
      refine (seal_c Ak T ck wr hok.out.rd hok.out.nil_cap (by have := HTL.out; omega)).mono ?_; rintro e w5 ⟨A5, c5, rfl, ho5, hb5⟩
      have HO5 := Lib.hid (ho5.low (B' := w.heap.size) hbk.out.size)
      have HB5 := Lib.hid (hbk.out.trans (hb5.mono hbk.out.size))
      have HSL : Hid ((sealN T).length = 69) := by unfold Hid sealN; rw [List.length_append, HTL.out]; rfl
      clear ho5 hb5
      rw [HSL.out]
      go_wp2_with fail
      go_ret2
      exact ⟨A5, c5, rfl, by rw [HTE.out]; exact HO5.out, HB5.out⟩

end Go.Proofs.Ytepmdplafnemhaa

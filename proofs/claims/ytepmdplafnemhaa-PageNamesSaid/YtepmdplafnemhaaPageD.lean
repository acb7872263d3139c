import Derived.Test.YtepmdplafnemhaaPageC
namespace Go.Proofs.Ytepmdplafnemhaa
open Go.RowKit

attribute [local go_sem] run_store_complex

/-! page.Read of what page.Bytes wrote. -/

theorem open_sealed (l : List UInt8) : openL (sealN l) = l ∧ openE (sealN l) = 0 := by
  have hl : (sealN l).length = l.length + 2 := by simp [sealN]
  have ht : (sealN l).take (l.length + 2 - 2) = l := by rw [Nat.add_sub_cancel]; simp [sealN]
  have ho : openO (sealN l) = some l := by
    unfold openO
    rw [hl, if_neg (by omega), ht, if_pos rfl]
  unfold openL openE
  rw [ho]
  exact ⟨rfl, rfl⟩

/-- Two parts that have their one form. -/
def Good (a b : Nat) : Prop := formF a = a ∧ formF b = b ∧ a < 18446744073709551616 ∧ b < 18446744073709551616

theorem val_ok {a b : Nat} (h : Good a b) (r : List UInt8) : valOk (valB a b ++ r) = true ∧ reB (valB a b ++ r) = a ∧ imB (valB a b ++ r) = b ∧ (valB a b ++ r).drop 16 = r ∧ (valB a b ++ r).take 16 = valB a b := by
  obtain ⟨h1, h2, h3, h4⟩ := h
  have hv : valB a b = putB a 8 ++ putB b 8 := by unfold valB; rw [h1, h2]
  have l1 := putB_length a 8
  have l2 := putB_length b 8
  have t16 : (valB a b ++ r).take 16 = valB a b := by rw [List.take_append, valB_length, Nat.sub_self, List.take_zero, List.append_nil, List.take_of_length_le (by rw [valB_length]; omega)]
  have hre : reB (valB a b ++ r) = a := by
    unfold reB
    rw [hv, List.append_assoc, List.take_append, l1, List.take_of_length_le (by omega), Nat.sub_self, List.take_zero, List.append_nil, getN_putB]
    omega
  have him : imB (valB a b ++ r) = b := by
    unfold imB
    rw [t16, hv, List.drop_append, l1, List.drop_eq_nil_of_le (by omega), Nat.sub_self, List.drop_zero, List.nil_append, getN_putB]
    omega
  refine ⟨?_, hre, him, ?_, t16⟩
  · unfold valOk
    rw [hre, him, t16]
    simp
  · rw [List.drop_append, valB_length, List.drop_eq_nil_of_le (by rw [valB_length]; omega)]; rfl

set_option maxRecDepth 1000000 in
set_option maxHeartbeats 8000000 in
theorem read_c (n : Nat) (hn : n ≤ 16777215) (a0 b0 a1 b1 a2 b2 a3 b3 : Nat) (g0 : Good a0 b0) (g1 : Good a1 b1) (g2 : Good a2 b2) (g3 : Good a3 b3) (A : Option Addr) (c : Nat) (w : World) (hx : Rd g8 w A (sealN (pageT n [(a0, b0), (a1, b1), (a2, b2), (a3, b3)]))) (hxn : A = none → c = 0) (hxc : 69 ≤ c) :
    Calls Try.prog 4 #[.slice A 69 c] w fun e w' => e = .returned (.tuple #[.agg #[.int .i64 n, .complex .f64 a0 b0, .complex .f64 a1 b1, .complex .f64 a2 b2, .complex .f64 a3 b3], .int .i64 0]) ∧ Below w.heap.size w w' := by
  have hTL : (pageT n [(a0, b0), (a1, b1), (a2, b2), (a3, b3)]).length = 67 := pageT_length _ _
  have hSL : (sealN (pageT n [(a0, b0), (a1, b1), (a2, b2), (a3, b3)])).length = 69 := by unfold sealN; rw [List.length_append, hTL]; rfl
  have hos := open_sealed (pageT n [(a0, b0), (a1, b1), (a2, b2), (a3, b3)])
  have hT : pageT n [(a0, b0), (a1, b1), (a2, b2), (a3, b3)] = numsB [(n : Int)] ++ flatV [(a0, b0), (a1, b1), (a2, b2), (a3, b3)] := by unfold pageT numsB; simp
  have hok1 : okN [(n : Int)] = true := by unfold okN; simp; omega
  have hin := ints3_nums [(n : Int)] (flatV [(a0, b0), (a1, b1), (a2, b2), (a3, b3)]) hok1
  have hdr := drop_nums [(n : Int)] (flatV [(a0, b0), (a1, b1), (a2, b2), (a3, b3)])
  rw [← hT] at hin hdr
  have hb : Below w.heap.size w (w.alloc (.cells #[.int .i64 0, .complex .f64 0 0, .complex .f64 0 0, .complex .f64 0 0, .complex .f64 0 0] 25)) := (Below.refl _ _).alloc (Nat.le_refl _) _
  have p1 := heap_alloc_new w (.cells #[.int .i64 0, .complex .f64 0 0, .complex .f64 0 0, .complex .f64 0 0, .complex .f64 0 0] 25)
  have hz : (w.alloc (.cells #[.int .i64 0, .complex .f64 0 0, .complex .f64 0 0, .complex .f64 0 0, .complex .f64 0 0] 25)).heap.size = w.heap.size + 1 := by simp
  have hop := fun W (h : Rd g8 W A (sealN (pageT n [(a0, b0), (a1, b1), (a2, b2), (a3, b3)]))) => open_c A (sealN (pageT n [(a0, b0), (a1, b1), (a2, b2), (a3, b3)])) c W h hxn (by rw [hSL]; exact hxc) (by rw [hSL]; decide)
  rw [hSL, hos.1, hos.2, hTL] at hop
  generalize pageT n [(a0, b0), (a1, b1), (a2, b2), (a3, b3)] = T at *
  have HTL := Lib.hid hTL
  have HIN := Lib.hid hin
  have HDR := Lib.hid hdr
  have HOP := Lib.hid hop
  have HX := Lib.hid hx
  clear hos hT hok1 hin hdr hop hx hTL hSL
  go_enter Try.func4, Try.ntmps4
  go_wp2_with fail
  generalize w.alloc (.cells #[.int .i64 0, .complex .f64 0 0, .complex .f64 0 0, .complex .f64 0 0, .complex .f64 0 0] 25) = W0 at *
  have HB := Lib.hid hb
  have HP := Lib.hid p1
  have HZ := Lib.hid hz
  clear hb p1 hz
  refine (HOP.out W0 (HX.out.below HB.out)).mono ?_; rintro e w1 ⟨A1, c1, rfl, ho1, hb1⟩
  have HO1 := Lib.hid ho1
  have HB1 := Lib.hid hb1
  have hg := packGet_n A1 T c1 67 1 w1 ho1.rd ho1.nil_cap ho1.le ho1.cap (by decide) (by have := HTL.out; omega) (by have := HTL.out; omega) HTL.out
  have hl1 : 3 * 1 = 3 * [(n : Int)].length := rfl
  have hi1 : ints3 T 1 = [(n : Int)] := HIN.out
  have hd1 : T.drop (3 * 1) = flatV [(a0, b0), (a1, b1), (a2, b2), (a3, b3)] := HDR.out
  have hf64 : (flatV [(a0, b0), (a1, b1), (a2, b2), (a3, b3)]).length = 64 := flatV_length _
  rw [hi1, hd1, hf64] at hg
  have HG := Lib.hid hg
  clear ho1 hb1 hg hl1 hi1 hd1 hf64
  go_wp2_with fail
  refine HG.out.mono ?_; rintro e w2 ⟨A2, c2, B2, d2, rfl, hoa, hob, hb2⟩
  obtain ⟨q, rfl, hq⟩ := hoa.at_some (by simp)
  have hcn : w2.cell? ⟨q, 0, none⟩ = some (.int .i64 (n : Int)) := hoa.cell (j := 0) rfl
  have HB2 := Lib.hid (HB1.out.trans (hb2.mono HB1.out.size))
  have HOB := Lib.hid (hob.below ((Below.refl w2.heap.size w2).alloc (Nat.le_refl _) (.cells #[.int .i64 n, .complex .f64 0 0, .complex .f64 0 0, .complex .f64 0 0, .complex .f64 0 0] 25)))
  have HB3 := Lib.hid (HB2.out.alloc HB2.out.size (.cells #[.int .i64 n, .complex .f64 0 0, .complex .f64 0 0, .complex .f64 0 0, .complex .f64 0 0] 25))
  have HRW := Lib.hid (heap_alloc_new w2 (.cells #[.int .i64 n, .complex .f64 0 0, .complex .f64 0 0, .complex .f64 0 0, .complex .f64 0 0] 25))
  have hlt2 := hob.lt
  have HLT := Lib.hid hlt2
  clear hoa hob hb2 hq hlt2
  go_wp2_with fail
  clear hcn
  have HPB : Hid (W0.heap.size ≤ w2.heap.size) := HB2.out.size
  have hobb : ∀ a, B2 = some a → a.block ≠ w2.heap.size := fun a e => by have := (HLT.out a e).2.1; omega
  have HOBB := Lib.hid hobb
  clear hobb
  generalize hP : w2.heap.size = P at *
  clear hP
  go_loopw [7, 34] (fun v i wr => ∃ (k : Nat) (A' : Option Addr) (c' : Nat), k ≤ 4 ∧ i = .int .i64 k ∧ v = .slice A' (16 * (4 - k)) c' ∧ Hid (∃ B, Ow 5 g8 wr B A' (flatV ([(a0, b0), (a1, b1), (a2, b2), (a3, b3)].drop k)) c') ∧ Hid (∀ a, A' = some a → a.block ≠ P) ∧ Hid (wr.heap[P]? = some (.cells #[.int .i64 n, (if 0 < k then .complex .f64 a0 b0 else .complex .f64 0 0), (if 1 < k then .complex .f64 a1 b1 else .complex .f64 0 0), (if 2 < k then .complex .f64 a2 b2 else .complex .f64 0 0), (if 3 < k then .complex .f64 a3 b3 else .complex .f64 0 0)] 25 (0, 0))) ∧ Hid (Below W0.heap.size W0 wr)) (fun _ i _ => 4 - (intOf i).toNat)
  case atStart => exact ⟨0, B2, d2, Nat.zero_le _, rfl, rfl, ⟨_, HOB.out⟩, HOBB, HRW, HB3⟩
  case round =>
    obtain ⟨k, Ak, ck, hk, rfl, rfl, ho, hob, hr, hb⟩ := hrel
    by_cases hlt : k < 4
    · obtain rfl | rfl | rfl | rfl : k = 0 ∨ k = 1 ∨ k = 2 ∨ k = 3 := by omega
      · replace hr : wr.heap[P]? = some (.cells #[.int .i64 n, .complex .f64 0 0, .complex .f64 0 0, .complex .f64 0 0, .complex .f64 0 0] 25 (0, 0)) := hr
        obtain ⟨B, ho⟩ := ho.out
        replace ho : Ow 5 g8 wr B Ak (flatV [(a0, b0), (a1, b1), (a2, b2), (a3, b3)]) ck := ho
        have hv := val_ok g0 (flatV [(a1, b1), (a2, b2), (a3, b3)])
        rw [flatV_cons] at ho
        have hrl : (flatV [(a1, b1), (a2, b2), (a3, b3)]).length = 48 := flatV_length _
        have hlen : (valB a0 b0 ++ flatV [(a1, b1), (a2, b2), (a3, b3)]).length = 64 := by rw [List.length_append, valB_length, hrl]
        have htk := take_yes Ak (valB a0 b0 ++ flatV [(a1, b1), (a2, b2), (a3, b3)]) ck 64 wr hv.1 ho.rd ho.nil_cap ho.le ho.cap (by rw [hlen]; decide) (by rw [hlen]; decide) hlen
        rw [hv.2.1, hv.2.2.1, hv.2.2.2.1, hrl] at htk
        have HTK := Lib.hid htk
        have hpl := (Array.getElem?_eq_some_iff.1 hr).1
        have HPL := Lib.hid hpl
        have HR := Lib.hid hr
        clear htk hv ho hrl hlen hr hpl
        go_wp2_with fail
        refine HTK.out.mono ?_; rintro e w3 ⟨A3, c3, rfl, ho3, hb3⟩
        have hr3 := (hb3.block P HPL.out).trans HR.out
        obtain ⟨y0, y1, y2, y3, y4, yz⟩ := row5 hr3
        have HO3 := Lib.hid ho3
        have HR3 := Lib.hid hr3
        have HB4 := Lib.hid (hb.out.trans (hb3.mono hb.out.size))
        clear ho3 hb3 hr3
        go_wp2_with fail
        go_roundw
        case rel => exact ⟨0 + 1, A3, c3, by omega, rfl, rfl, ⟨_, HO3.out.upto ((Upto.refl (fun k => k = P) w3).setCell (p := ⟨P, 0 + 1, none⟩) rfl _) (fun a e e2 => by have := (HO3.out.lt a e).1; have := HPL.out; omega)⟩, fun a e => (by have := (HO3.out.lt a e).1; have := HPL.out; omega), (by unfold Hid; simpa using row_set HR3.out (0 + 1) (.complex .f64 a0 b0)), HB4.out.setCell (p := ⟨P, 0 + 1, none⟩) HPB.out _⟩
        case measure => simp [intOf]
      · replace hr : wr.heap[P]? = some (.cells #[.int .i64 n, .complex .f64 a0 b0, .complex .f64 0 0, .complex .f64 0 0, .complex .f64 0 0] 25 (0, 0)) := hr
        obtain ⟨B, ho⟩ := ho.out
        replace ho : Ow 5 g8 wr B Ak (flatV [(a1, b1), (a2, b2), (a3, b3)]) ck := ho
        have hv := val_ok g1 (flatV [(a2, b2), (a3, b3)])
        rw [flatV_cons] at ho
        have hrl : (flatV [(a2, b2), (a3, b3)]).length = 32 := flatV_length _
        have hlen : (valB a1 b1 ++ flatV [(a2, b2), (a3, b3)]).length = 48 := by rw [List.length_append, valB_length, hrl]
        have htk := take_yes Ak (valB a1 b1 ++ flatV [(a2, b2), (a3, b3)]) ck 48 wr hv.1 ho.rd ho.nil_cap ho.le ho.cap (by rw [hlen]; decide) (by rw [hlen]; decide) hlen
        rw [hv.2.1, hv.2.2.1, hv.2.2.2.1, hrl] at htk
        have HTK := Lib.hid htk
        have hpl := (Array.getElem?_eq_some_iff.1 hr).1
        have HPL := Lib.hid hpl
        have HR := Lib.hid hr
        clear htk hv ho hrl hlen hr hpl
        go_wp2_with fail
        refine HTK.out.mono ?_; rintro e w3 ⟨A3, c3, rfl, ho3, hb3⟩
        have hr3 := (hb3.block P HPL.out).trans HR.out
        obtain ⟨y0, y1, y2, y3, y4, yz⟩ := row5 hr3
        have HO3 := Lib.hid ho3
        have HR3 := Lib.hid hr3
        have HB4 := Lib.hid (hb.out.trans (hb3.mono hb.out.size))
        clear ho3 hb3 hr3
        go_wp2_with fail
        go_roundw
        case rel => exact ⟨1 + 1, A3, c3, by omega, rfl, rfl, ⟨_, HO3.out.upto ((Upto.refl (fun k => k = P) w3).setCell (p := ⟨P, 1 + 1, none⟩) rfl _) (fun a e e2 => by have := (HO3.out.lt a e).1; have := HPL.out; omega)⟩, fun a e => (by have := (HO3.out.lt a e).1; have := HPL.out; omega), (by unfold Hid; simpa using row_set HR3.out (1 + 1) (.complex .f64 a1 b1)), HB4.out.setCell (p := ⟨P, 1 + 1, none⟩) HPB.out _⟩
        case measure => simp [intOf]
      · replace hr : wr.heap[P]? = some (.cells #[.int .i64 n, .complex .f64 a0 b0, .complex .f64 a1 b1, .complex .f64 0 0, .complex .f64 0 0] 25 (0, 0)) := hr
        obtain ⟨B, ho⟩ := ho.out
        replace ho : Ow 5 g8 wr B Ak (flatV [(a2, b2), (a3, b3)]) ck := ho
        have hv := val_ok g2 (flatV [(a3, b3)])
        rw [flatV_cons] at ho
        have hrl : (flatV [(a3, b3)]).length = 16 := flatV_length _
        have hlen : (valB a2 b2 ++ flatV [(a3, b3)]).length = 32 := by rw [List.length_append, valB_length, hrl]
        have htk := take_yes Ak (valB a2 b2 ++ flatV [(a3, b3)]) ck 32 wr hv.1 ho.rd ho.nil_cap ho.le ho.cap (by rw [hlen]; decide) (by rw [hlen]; decide) hlen
        rw [hv.2.1, hv.2.2.1, hv.2.2.2.1, hrl] at htk
        have HTK := Lib.hid htk
        have hpl := (Array.getElem?_eq_some_iff.1 hr).1
        have HPL := Lib.hid hpl
        have HR := Lib.hid hr
        clear htk hv ho hrl hlen hr hpl
        go_wp2_with fail
        refine HTK.out.mono ?_; rintro e w3 ⟨A3, c3, rfl, ho3, hb3⟩
        have hr3 := (hb3.block P HPL.out).trans HR.out
        obtain ⟨y0, y1, y2, y3, y4, yz⟩ := row5 hr3
        have HO3 := Lib.hid ho3
        have HR3 := Lib.hid hr3
        have HB4 := Lib.hid (hb.out.trans (hb3.mono hb.out.size))
        clear ho3 hb3 hr3
        go_wp2_with fail
        go_roundw
        case rel => exact ⟨2 + 1, A3, c3, by omega, rfl, rfl, ⟨_, HO3.out.upto ((Upto.refl (fun k => k = P) w3).setCell (p := ⟨P, 2 + 1, none⟩) rfl _) (fun a e e2 => by have := (HO3.out.lt a e).1; have := HPL.out; omega)⟩, fun a e => (by have := (HO3.out.lt a e).1; have := HPL.out; omega), (by unfold Hid; simpa using row_set HR3.out (2 + 1) (.complex .f64 a2 b2)), HB4.out.setCell (p := ⟨P, 2 + 1, none⟩) HPB.out _⟩
        case measure => simp [intOf]
      · replace hr : wr.heap[P]? = some (.cells #[.int .i64 n, .complex .f64 a0 b0, .complex .f64 a1 b1, .complex .f64 a2 b2, .complex .f64 0 0] 25 (0, 0)) := hr
        obtain ⟨B, ho⟩ := ho.out
        replace ho : Ow 5 g8 wr B Ak (flatV [(a3, b3)]) ck := ho
        have hv := val_ok g3 (flatV [])
        rw [flatV_cons] at ho
        have hrl : (flatV []).length = 0 := flatV_length _
        have hlen : (valB a3 b3 ++ flatV []).length = 16 := by rw [List.length_append, valB_length, hrl]
        have htk := take_yes Ak (valB a3 b3 ++ flatV []) ck 16 wr hv.1 ho.rd ho.nil_cap ho.le ho.cap (by rw [hlen]; decide) (by rw [hlen]; decide) hlen
        rw [hv.2.1, hv.2.2.1, hv.2.2.2.1, hrl] at htk
        have HTK := Lib.hid htk
        have hpl := (Array.getElem?_eq_some_iff.1 hr).1
        have HPL := Lib.hid hpl
        have HR := Lib.hid hr
        clear htk hv ho hrl hlen hr hpl
        go_wp2_with fail
        refine HTK.out.mono ?_; rintro e w3 ⟨A3, c3, rfl, ho3, hb3⟩
        have hr3 := (hb3.block P HPL.out).trans HR.out
        obtain ⟨y0, y1, y2, y3, y4, yz⟩ := row5 hr3
        have HO3 := Lib.hid ho3
        have HR3 := Lib.hid hr3
        have HB4 := Lib.hid (hb.out.trans (hb3.mono hb.out.size))
        clear ho3 hb3 hr3
        go_wp2_with fail
        go_roundw
        case rel => exact ⟨3 + 1, A3, c3, by omega, rfl, rfl, ⟨_, HO3.out.upto ((Upto.refl (fun k => k = P) w3).setCell (p := ⟨P, 3 + 1, none⟩) rfl _) (fun a e e2 => by have := (HO3.out.lt a e).1; have := HPL.out; omega)⟩, fun a e => (by have := (HO3.out.lt a e).1; have := HPL.out; omega), (by unfold Hid; simpa using row_set HR3.out (3 + 1) (.complex .f64 a3 b3)), HB4.out.setCell (p := ⟨P, 3 + 1, none⟩) HPB.out _⟩
        case measure => simp [intOf]
    · have he : k = 4 := by omega
      subst he
      replace hr : wr.heap[P]? = some (.cells #[.int .i64 n, .complex .f64 a0 b0, .complex .f64 a1 b1, .complex .f64 a2 b2, .complex .f64 a3 b3] 25 (0, 0)) := hr
      obtain ⟨y0, y1, y2, y3, y4, yz⟩ := row5 hr
      obtain ⟨r0, r1, r2, r3, r4, rz⟩ := row5 ((hb.out.block w.heap.size (by have := HZ.out; omega)).trans HP.out)
      have t0 := fun v => World.cell?_setCell_same wr ⟨w.heap.size, 0, none⟩ v r0
      have t1 := fun v => World.cell?_setCell_same wr ⟨w.heap.size, 1, none⟩ v r1
      have t2 := fun v => World.cell?_setCell_same wr ⟨w.heap.size, 2, none⟩ v r2
      have t3 := fun v => World.cell?_setCell_same wr ⟨w.heap.size, 3, none⟩ v r3
      have t4 := fun v => World.cell?_setCell_same wr ⟨w.heap.size, 4, none⟩ v r4
      have HBE := Lib.hid (HB.out.trans (hb.out.mono (by have := HZ.out; omega)))
      clear ho hob hr hb
      go_wp2_with fail
      refine bodyPost_ret (by simp [results, Try.results4, go_sem, r0, r1, r2, r3, r4]; try rfl) rfl ?_
      exact ⟨rfl, ((((HBE.out.setCell (p := ⟨w.heap.size, 0, none⟩) (Nat.le_refl _) _).setCell (p := ⟨w.heap.size, 1, none⟩) (Nat.le_refl _) _).setCell (p := ⟨w.heap.size, 2, none⟩) (Nat.le_refl _) _).setCell (p := ⟨w.heap.size, 3, none⟩) (Nat.le_refl _) _).setCell (p := ⟨w.heap.size, 4, none⟩) (Nat.le_refl _) _⟩

end Go.Proofs.Ytepmdplafnemhaa

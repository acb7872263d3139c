import Derived.Test.YtbhjdapkhcgmlaaMsgA
import Derived.Test.YtbhjdapkhcgmlaaNumsR
import Derived.Test.YtbhjdapkhcgmlaaRef03R
import Derived.Handy
import Derived.Deep.Cut

set_option linter.unusedSimpArgs false
set_option linter.unusedVariables false
set_option linter.unnecessarySimpa false

namespace Go.Proofs.Ytbhjdapkhcgmlaa
open Go.RowKit

/-! The reference's packets: can one be, its frame. -/

def pkOk (cl ep bo sq ak : Int) (n : Nat) : Bool := okN [ep, bo, sq, ak] && (decide (0 ≤ cl) && (decide (cl ≤ 3) && decide (n ≤ 700)))

theorem pk_no {cl ep bo sq ak : Int} {n : Nat} {x : Int} (hx : x ∈ [ep, bo, sq, ak]) (h : ¬ (0 ≤ x ∧ x ≤ 16777215)) : pkOk cl ep bo sq ak n = false := by
  unfold pkOk
  have : okN [ep, bo, sq, ak] = false := by
    cases e : okN [ep, bo, sq, ak] with
    | false => rfl
    | true => exact absurd (okN_mem e hx) h
  rw [this]; rfl

theorem idx4i (W : World) (a b c d : Value) :
    (Instr.index 101 (.agg #[a, b, c, d]) (.int .i64 0)).run Try.prog W = .ok a W ∧
    (Instr.index 101 (.agg #[a, b, c, d]) (.int .i64 1)).run Try.prog W = .ok b W ∧
    (Instr.index 101 (.agg #[a, b, c, d]) (.int .i64 2)).run Try.prog W = .ok c W ∧
    (Instr.index 101 (.agg #[a, b, c, d]) (.int .i64 3)).run Try.prog W = .ok d W := by
  refine ⟨?_, ?_, ?_, ?_⟩ <;> simp [Instr.index, run_underlying Try.underlying101, asIntOf, go_sem]

set_option maxRecDepth 100000 in
set_option maxHeartbeats 8000000 in
theorem packet_c (cl ep bo sq ak : Int) (sv : Bool) (A : Option Addr) (n c : Nat) (w : World) :
    Calls Try.prog 31 #[.agg #[.int .i64 cl, .int .i64 ep, .int .i64 bo, .int .i64 sq, .int .i64 ak, .bool sv, .slice A n c]] w fun e w' => e = .returned (.bool (pkOk cl ep bo sq ak n)) ∧ Below w.heap.size w w' := by
  have hb := (Below.refl w.heap.size w).alloc (Nat.le_refl _) (.cells #[.int .i64 cl, .int .i64 ep, .int .i64 bo, .int .i64 sq, .int .i64 ak, .bool sv, .slice A n c] 39)
  have hr := heap_alloc_new w (.cells #[.int .i64 cl, .int .i64 ep, .int .i64 bo, .int .i64 sq, .int .i64 ak, .bool sv, .slice A n c] 39)
  go_enter Try.func31, Try.ntmps31
  obtain ⟨x0, x1, x2, x3, x4, x5, x6⟩ := row7 hr
  go_wp2_with fail
  generalize w.alloc (.cells #[.int .i64 cl, .int .i64 ep, .int .i64 bo, .int .i64 sq, .int .i64 ak, .bool sv, .slice A n c] 39) = W0 at *
  have HB := Lib.hid hb
  clear hb hr
  go_loop [14] (fun i => ∃ k : Nat, k ≤ 4 ∧ i = .int .i64 k ∧ okN ([ep, bo, sq, ak].take k) = true) (fun i => 4 - (intOf i).toNat)
  case atStart => exact ⟨0, Nat.zero_le _, rfl, rfl⟩
  case round =>
    obtain ⟨k, hk, rfl, ho⟩ := hrel
    by_cases hlt : k < 4
    · obtain rfl | rfl | rfl | rfl : k = 0 ∨ k = 1 ∨ k = 2 ∨ k = 3 := by omega
      · have hix := fun W => (idx4i W (.int .i64 ep) (.int .i64 bo) (.int .i64 sq) (.int .i64 ak)).1
        by_cases h1 : ep < 0
        · have HE : Hid (pkOk cl ep bo sq ak n = false) := pk_no (x := ep) (by simp) (by omega)
          go_wp2_with fail
          go_ret
          exact ⟨by rw [HE.out]; exact ret_bool (by simp), HB.out⟩
        · by_cases h2 : 16777215 < ep
          · have HE : Hid (pkOk cl ep bo sq ak n = false) := pk_no (x := ep) (by simp) (by omega)
            go_wp2_with fail
            go_ret
            exact ⟨by rw [HE.out]; exact ret_bool (by simp), HB.out⟩
          · go_wp2_with fail
            go_round
            case rel => exact ⟨0 + 1, by omega, rfl, by simp [okN] at *; omega⟩
            case measure => simp [intOf]
      · have hix := fun W => (idx4i W (.int .i64 ep) (.int .i64 bo) (.int .i64 sq) (.int .i64 ak)).2.1
        by_cases h1 : bo < 0
        · have HE : Hid (pkOk cl ep bo sq ak n = false) := pk_no (x := bo) (by simp) (by omega)
          go_wp2_with fail
          go_ret
          exact ⟨by rw [HE.out]; exact ret_bool (by simp), HB.out⟩
        · by_cases h2 : 16777215 < bo
          · have HE : Hid (pkOk cl ep bo sq ak n = false) := pk_no (x := bo) (by simp) (by omega)
            go_wp2_with fail
            go_ret
            exact ⟨by rw [HE.out]; exact ret_bool (by simp), HB.out⟩
          · go_wp2_with fail
            go_round
            case rel => exact ⟨1 + 1, by omega, rfl, by simp [okN] at *; omega⟩
            case measure => simp [intOf]
      · have hix := fun W => (idx4i W (.int .i64 ep) (.int .i64 bo) (.int .i64 sq) (.int .i64 ak)).2.2.1
        by_cases h1 : sq < 0
        · have HE : Hid (pkOk cl ep bo sq ak n = false) := pk_no (x := sq) (by simp) (by omega)
          go_wp2_with fail
          go_ret
          exact ⟨by rw [HE.out]; exact ret_bool (by simp), HB.out⟩
        · by_cases h2 : 16777215 < sq
          · have HE : Hid (pkOk cl ep bo sq ak n = false) := pk_no (x := sq) (by simp) (by omega)
            go_wp2_with fail
            go_ret
            exact ⟨by rw [HE.out]; exact ret_bool (by simp), HB.out⟩
          · go_wp2_with fail
            go_round
            case rel => exact ⟨2 + 1, by omega, rfl, by simp [okN] at *; omega⟩
            case measure => simp [intOf]
      · have hix := fun W => (idx4i W (.int .i64 ep) (.int .i64 bo) (.int .i64 sq) (.int .i64 ak)).2.2.2
        by_cases h1 : ak < 0
        · have HE : Hid (pkOk cl ep bo sq ak n = false) := pk_no (x := ak) (by simp) (by omega)
          go_wp2_with fail
          go_ret
          exact ⟨by rw [HE.out]; exact ret_bool (by simp), HB.out⟩
        · by_cases h2 : 16777215 < ak
          · have HE : Hid (pkOk cl ep bo sq ak n = false) := pk_no (x := ak) (by simp) (by omega)
            go_wp2_with fail
            go_ret
            exact ⟨by rw [HE.out]; exact ret_bool (by simp), HB.out⟩
          · go_wp2_with fail
            go_round
            case rel => exact ⟨3 + 1, by omega, rfl, by simp [okN] at *; omega⟩
            case measure => simp [intOf]
    · have he : k = 4 := by omega
      subst he
      have hp : pkOk cl ep bo sq ak n = (decide (0 ≤ cl) && (decide (cl ≤ 3) && decide (n ≤ 700))) := by unfold pkOk; rw [show okN [ep, bo, sq, ak] = true from ho]; rfl
      have HP := Lib.hid hp
      clear hp ho
      by_cases c1 : 0 ≤ cl
      · by_cases c2 : cl ≤ 3
        · by_cases c3 : n ≤ 700
          · have c3' : (n : Int) ≤ 700 := by omega
            go_wp2_with fail
            go_ret
            exact ⟨by rw [HP.out]; exact ret_bool (by simp [c1, c2, c3]), HB.out⟩
          · have c3' : ¬ (n : Int) ≤ 700 := by omega
            go_wp2_with fail
            go_ret
            exact ⟨by rw [HP.out]; exact ret_bool (by simp [c1, c2, c3]; try omega), HB.out⟩
        · go_wp2_with fail
          go_ret
          exact ⟨by rw [HP.out]; exact ret_bool (by simp [c1]; try omega), HB.out⟩
      · go_wp2_with fail
        go_ret
        exact ⟨by rw [HP.out]; exact ret_bool (by simp; try omega), HB.out⟩

theorem frame_pk (cl ep bo sq ak : Int) (sv : Bool) (l : List UInt8) : frameO cl ep bo sq ak sv l = if pkOk cl ep bo sq ak l.length = true then some (sealN (numsB (headP cl ep bo sq ak sv) ++ l)) else none := by
  have e : (okN (headP cl ep bo sq ak sv) = true ∧ cl < 4 ∧ l.length ≤ 700) ↔ pkOk cl ep bo sq ak l.length = true := by
    unfold pkOk headP okN numB
    cases sv <;> simp <;> omega
  unfold frameO
  by_cases h : pkOk cl ep bo sq ak l.length = true
  · rw [if_pos (e.2 h), if_pos h]
  · rw [if_neg (fun q => h (e.1 q)), if_neg h]

theorem flag_c (s : Bool) (w : World) : Calls Try.prog 33 #[.bool s] w fun e w' => e = .returned (.int .i64 (numB s)) ∧ w = w' := by
  cases s
  all_goals
    go_enter Try.func33, Try.ntmps33
    go_wp2_with fail
    go_ret
    exact ⟨rfl, rfl⟩

theorem rnums6 (B : Nat) (cl ep bo sq ak : Int) (sv : Bool) (w : World) (hB : w.heap.size = B) :
    Calls Try.prog 32 #[.slice (some ⟨B, 0, none⟩) 6 6] (w.alloc (.cells #[.int .i64 cl, .int .i64 ep, .int .i64 bo, .int .i64 sq, .int .i64 ak, .int .i64 (numB sv)] 3)).drew fun e w' => ∃ A' c', e = .returned (.tuple #[.slice A' (numsR (headP cl ep bo sq ak sv)).length c', .int .i64 (numsE (headP cl ep bo sq ak sv))]) ∧ Ow 5 g8 w' w.heap.size A' (numsR (headP cl ep bo sq ak sv)) c' ∧ Below w.heap.size w w' := by
  subst hB
  have hb := (Below.refl w.heap.size w).alloc (Nat.le_refl _) (.cells #[.int .i64 cl, .int .i64 ep, .int .i64 bo, .int .i64 sq, .int .i64 ak, .int .i64 (numB sv)] 3)
  replace hb := hb.drew
  refine (refNums_c _ (headP cl ep bo sq ak sv) 6 _ ((Rd.row_of w (headP cl ep bo sq ak sv) rfl).below (Below.refl _ _).drew) (by simp [headP])).mono ?_
  rintro e w' ⟨A', c', rfl, h1, h2⟩
  exact ⟨A', c', rfl, h1.low hb.size, hb.trans (h2.mono hb.size)⟩

theorem rseal_n (A : Option Addr) (l : List UInt8) (n c : Nat) (w : World) (h : Rd g8 w A l) (hn : A = none → c = 0) (hlen : l.length ≤ 140737488355326) (he : l.length = n) :
    Calls Try.prog 34 #[.slice A n c] w fun e w' => ∃ A' c', e = .returned (.slice A' (sealN l).length c') ∧ Ow 5 g8 w' w.heap.size A' (sealN l) c' ∧ Below w.heap.size w w' := by
  subst he; exact refSeal_c A l c w h hn hlen

set_option maxRecDepth 100000 in
set_option maxHeartbeats 8000000 in
theorem rframe_c (cl ep bo sq ak : Int) (sv : Bool) (A : Option Addr) (l : List UInt8) (c : Nat) (w : World) (h : Rd g8 w A l) (hn : A = none → c = 0) (hl : l.length ≤ 140737488351232) :
    Calls Try.prog 12 #[.agg #[.int .i64 cl, .int .i64 ep, .int .i64 bo, .int .i64 sq, .int .i64 ak, .bool sv, .slice A l.length c]] w fun e w' => ∃ A' c', e = .returned (.tuple #[.slice A' (frameL cl ep bo sq ak sv l).length c', .int .i64 (frameE cl ep bo sq ak sv l)]) ∧ Ow 5 g8 w' w.heap.size A' (frameL cl ep bo sq ak sv l) c' ∧ Below w.heap.size w w' := by
  have H := Lib.hid h
  have HN := Lib.hid hn
  have HL := Lib.hid hl
  clear h hn hl
  have hb := (Below.refl w.heap.size w).alloc (Nat.le_refl _) (.cells #[.int .i64 cl, .int .i64 ep, .int .i64 bo, .int .i64 sq, .int .i64 ak, .bool sv, .slice A l.length c] 39)
  have hr := heap_alloc_new w (.cells #[.int .i64 cl, .int .i64 ep, .int .i64 bo, .int .i64 sq, .int .i64 ak, .bool sv, .slice A l.length c] 39)
  go_enter Try.func12, Try.ntmps12
  go_wp2_with fail
  generalize w.alloc (.cells #[.int .i64 cl, .int .i64 ep, .int .i64 bo, .int .i64 sq, .int .i64 ak, .bool sv, .slice A l.length c] 39) = V0 at *
  have hlt : w.heap.size < V0.heap.size := (Array.getElem?_eq_some_iff.1 hr).1
  refine (packet_c cl ep bo sq ak sv A l.length c V0).mono ?_; rintro e W0 ⟨rfl, hbp⟩
  have hrow := (hbp.block w.heap.size hlt).trans hr
  have HB0 := Lib.hid (hb.trans (hbp.mono hb.size))
  have HROW := Lib.hid hrow
  have HZ : Hid (w.heap.size < W0.heap.size) := (Array.getElem?_eq_some_iff.1 hrow).1
  clear hb hr hlt hbp
  cases hok : pkOk cl ep bo sq ak l.length with
  | false =>
    have HE : Hid (frameO cl ep bo sq ak sv l = none) := by unfold Hid; rw [frame_pk, hok]; rfl
    clear hok
    go_wp2_with fail
    go_ret2
    exact ⟨none, 0, by rw [(frame_no HE.out).1, (frame_no HE.out).2]; rfl, by rw [(frame_no HE.out).1]; exact Ow.nil, HB0.out⟩
  | true =>
    have HE : Hid (frameO cl ep bo sq ak sv l = some (sealN (numsB (headP cl ep bo sq ak sv) ++ l))) := by unfold Hid; rw [frame_pk, hok]; rfl
    have hok6 : okN (headP cl ep bo sq ak sv) = true := by
      unfold pkOk okN at hok
      unfold headP okN numB
      cases sv <;> simp at hok ⊢ <;> omega
    have h700 : l.length ≤ 700 := by unfold pkOk at hok; simp at hok; omega
    have HOK6 := Lib.hid hok6
    have H700 := Lib.hid h700
    clear hok hok6 h700
    obtain ⟨x0, x1, x2, x3, x4, x5, x6⟩ := row7 hrow
    clear hrow
    go_wp2_with fail
    go_region_held_law (fun W => W.cell? ⟨w.heap.size, 0, none⟩ = some (.int .i64 cl) ∧ W.cell? ⟨w.heap.size, 1, none⟩ = some (.int .i64 ep) ∧ W.cell? ⟨w.heap.size, 2, none⟩ = some (.int .i64 bo) ∧ W.cell? ⟨w.heap.size, 3, none⟩ = some (.int .i64 sq) ∧ W.cell? ⟨w.heap.size, 4, none⟩ = some (.int .i64 ak) ∧ W.cell? ⟨w.heap.size, 5, none⟩ = some (.bool sv)) (first | go_keep | exact HBOX.out)
      (first
        | (go_at_call 33; (with_reducible refine (flag_c sv _).mono ?_); rintro e w' ⟨rfl, rfl⟩)
        | (go_at_call 32; refine (rnums6 _ cl ep bo sq ak sv _ rfl).mono ?_; rintro e w1 ⟨A1, c1, rfl, ho1, hb1⟩; have HO1 := Lib.hid ho1; have HB1 := Lib.hid hb1; have HBOX : Hid (w1.cell? ⟨w.heap.size, 0, none⟩ = some (.int .i64 cl) ∧ w1.cell? ⟨w.heap.size, 1, none⟩ = some (.int .i64 ep) ∧ w1.cell? ⟨w.heap.size, 2, none⟩ = some (.int .i64 bo) ∧ w1.cell? ⟨w.heap.size, 3, none⟩ = some (.int .i64 sq) ∧ w1.cell? ⟨w.heap.size, 4, none⟩ = some (.int .i64 ak) ∧ w1.cell? ⟨w.heap.size, 5, none⟩ = some (.bool sv)) := (by obtain ⟨y0, y1, y2, y3, y4, y5, _⟩ := row7 ((HB1.out.block w.heap.size HZ.out).trans HROW.out); exact ⟨y0, y1, y2, y3, y4, y5⟩); clear ho1 hb1))
    all_goals
      obtain ⟨y0, y1, y2, y3, y4, y5⟩ := HBOX.out
      have y6 := (row7 ((HB1.out.block w.heap.size HZ.out).trans HROW.out)).2.2.2.2.2.2
      have HBW := Lib.hid (HB0.out.trans (HB1.out.mono HB0.out.size))
      clear x0 x1 x2 x3 x4 x5 x6
      obtain ⟨e1, e2⟩ := numsR_yes HOK6.out
      rw [e1] at HO1
      rw [e1, e2]
      have hlen : (numsB (headP cl ep bo sq ak sv)).length = 18 := by rw [numsB_length]; rfl
      have HLEN := Lib.hid hlen
      have h700 := H700.out
      clear e1 e2
      generalize numsB (headP cl ep bo sq ak sv) = hd at *
      have HRL := Lib.hid (H.out.below HBW.out)
      go_wp2_with (at_builtin; refine app8 rfl _ _ rfl hd l HO1.out (by first | rfl | (rw [hlen]; rfl)) A c HRL.out rfl HN.out (by omega) (by have := HB1.out.size; omega) ?_)
      intro A2 c2 w2 ho2 hg2
      have HO2 := Lib.hid ho2
      have HB2 := Lib.hid (HB1.out.grown hg2 HB1.out.size (fun q hq => (HO1.out.block q (by rw [hlen]; exact hq)).1))
      have HB2W := Lib.hid (HB0.out.trans (HB2.out.mono HB0.out.size))
      clear ho2 hg2 y0 y1 y2 y3 y4 y5 y6
      go_wp2_with fail
      (with_reducible refine (rseal_n A2 (hd ++ l) _ c2 w2 HO2.out.rd HO2.out.nil_cap (by rw [List.length_append]; omega) (by rw [List.length_append, hlen])).mono ?_)
      rintro e w3 ⟨A3, c3, rfl, ho3, hb3⟩
      have HO3 := Lib.hid ho3
      have HB3 := Lib.hid (HB2W.out.trans (hb3.mono HB2W.out.size))
      clear ho3 hb3
      go_wp2_with fail
      go_ret2
      exact ⟨A3, c3, by rw [(frame_yes HE.out).1, (frame_yes HE.out).2]; rfl, by rw [(frame_yes HE.out).1]; exact HO3.out.low HB2W.out.size, HB3.out⟩

end Go.Proofs.Ytbhjdapkhcgmlaa

import Derived.Test.YtbhjdapkhcgmlaaMsgD
import Derived.Test.YtbhjdapkhcgmlaaMsgL
import Derived.Test.YtbhjdapkhcgmlaaRefGetR
import Derived.Handy
import Derived.Deep.Cut

set_option linter.unusedSimpArgs false
set_option linter.unusedVariables false
set_option linter.unnecessarySimpa false

namespace Go.Proofs.Ytbhjdapkhcgmlaa
open Go.RowKit

/-! The reference's Open: the packet of any frame. -/

theorem ints3_bound (l : List UInt8) (m : Nat) (h : 3 * m ≤ l.length) : ∀ x ∈ ints3 l m, 0 ≤ x ∧ x ≤ 16777215 := by
  intro x hx
  unfold ints3 at hx
  obtain ⟨k, hk, rfl⟩ := List.mem_map.1 hx
  have hk' : k < m := by simpa using hk
  have := getN_lt24 _ (mid3 l k (by omega))
  exact ⟨Int.natCast_nonneg _, by omega⟩

theorem refGet_n (A : Option Addr) (l : List UInt8) (c n : Nat) (many : Nat) (w : World) (h : Rd g8 w A l) (hn : A = none → c = 0) (hc : l.length ≤ c) (hc2 : c ≤ 9223372036854775807) (hm : many ≤ 1000) (hl : 3 * many ≤ l.length) (hl2 : l.length ≤ 140737488355328) (he : l.length = n) :
    Calls Try.prog 25 #[.slice A n c, .int .i64 many] w fun e w' => ∃ A1 c1 A2 c2, e = .returned (.tuple #[.slice A1 many c1, .slice A2 (n - 3 * many) c2, .int .i64 0]) ∧ Ow 3 g64 w' w.heap.size A1 (ints3 l many) c1 ∧ Ow 5 g8 w' w.heap.size A2 (l.drop (3 * many)) c2 ∧ Below w.heap.size w w' := by
  subst he
  refine (refGet_c A l c many w h hn hc hc2 hm hl hl2).mono ?_
  rintro e w' ⟨A1, c1, A2, c2, rfl, h1, h2, h3⟩
  exact ⟨A1, c1, A2, c2, by rw [List.length_drop], h1, h2, h3⟩

theorem packO_ref (b : List UInt8) (h0 h1 h2 h3 h4 h5 : Int) (hI : ints3 b 6 = [h0, h1, h2, h3, h4, h5]) (hl : 18 ≤ b.length) :
    packO b = if h5 ≤ 1 ∧ pkOk h0 h1 h2 h3 h4 (b.length - 18) = true then some ⟨h0, h1, h2, h3, h4, h5 == 1, b.drop 18⟩ else none := by
  have hb := ints3_bound b 6 (by omega)
  rw [hI] at hb
  have b0 := hb h0 (by simp)
  have b1 := hb h1 (by simp)
  have b2 := hb h2 (by simp)
  have b3 := hb h3 (by simp)
  have b4 := hb h4 (by simp)
  have e1 : packO b = if 18 ≤ b.length ∧ h0 < 4 ∧ h5 ≤ 1 ∧ b.length - 18 ≤ 700 then some ⟨h0, h1, h2, h3, h4, h5 == 1, b.drop 18⟩ else none := by unfold packO; rw [hI]; rfl
  have e2 : (18 ≤ b.length ∧ h0 < 4 ∧ h5 ≤ 1 ∧ b.length - 18 ≤ 700) ↔ (h5 ≤ 1 ∧ pkOk h0 h1 h2 h3 h4 (b.length - 18) = true) := by
    unfold pkOk okN
    simp
    omega
  rw [e1]
  by_cases h : h5 ≤ 1 ∧ pkOk h0 h1 h2 h3 h4 (b.length - 18) = true
  · rw [if_pos (e2.2 h), if_pos h]
  · rw [if_neg (fun q => h (e2.1 q)), if_neg h]

set_option maxRecDepth 100000 in
set_option maxHeartbeats 8000000 in
theorem ropen_c (A : Option Addr) (l : List UInt8) (c : Nat) (w : World) (h : Rd g8 w A l) (hn : A = none → c = 0) (hle : l.length ≤ c) (hlen : l.length ≤ 140737488355328) :
    Calls Try.prog 14 #[.slice A l.length c] w fun e w' => ∃ A' c', e = .returned (.tuple #[.agg (pkC (mopenP l) A' c'), .int .i64 (mopenE l)]) ∧ Ow 5 g8 w' w.heap.size A' (mopenP l).body c' ∧ Below w.heap.size w w' := by
  have H := Lib.hid h
  have HN := Lib.hid hn
  have HLE := Lib.hid hle
  have HLEN := Lib.hid hlen
  clear h hn hle hlen
  have hb0 := (Below.refl w.heap.size w).alloc (Nat.le_refl _) (.cells #[.int .i64 0, .int .i64 0, .int .i64 0, .int .i64 0, .int .i64 0, .bool false, .slice none 0 0] 39)
  have hrow := heap_alloc_new w (.cells #[.int .i64 0, .int .i64 0, .int .i64 0, .int .i64 0, .int .i64 0, .bool false, .slice none 0 0] 39)
  have hz : w.heap.size < (w.alloc (.cells #[.int .i64 0, .int .i64 0, .int .i64 0, .int .i64 0, .int .i64 0, .bool false, .slice none 0 0] 39)).heap.size := by simp
  go_enter Try.func14, Try.ntmps14
  go_wp2_with fail
  generalize w.alloc (.cells #[.int .i64 0, .int .i64 0, .int .i64 0, .int .i64 0, .int .i64 0, .bool false, .slice none 0 0] 39) = W0 at *
  have HB0 := Lib.hid hb0
  have HROW := Lib.hid hrow
  have HZ := Lib.hid hz
  clear hb0 hrow hz
  (with_reducible refine (refOpen_c A l c W0 (H.out.below HB0.out) HN.out HLE.out HLEN.out).mono ?_); rintro e w1 ⟨A1, c1, rfl, ho1, hb1⟩
  have HO1 := Lib.hid ho1
  have HB1 := Lib.hid hb1
  have HRL : Hid (∀ w', Below w1.heap.size w1 w' → w'.heap[w.heap.size]? = some (.cells #[.int .i64 0, .int .i64 0, .int .i64 0, .int .i64 0, .int .i64 0, .bool false, .slice none 0 0] 39 (0, 0))) := fun w' hw => ((HB1.out.trans (hw.mono HB1.out.size)).block w.heap.size HZ.out).trans HROW.out
  have HZ1 : Hid (w.heap.size < w1.heap.size) := Nat.lt_of_lt_of_le HZ.out HB1.out.size
  have HBL : Hid ((openL l).length ≤ 140737488355328) := Nat.le_trans (openL_len l) HLEN.out
  clear ho1 hb1
  cases ho : openO l with
  | none =>
    have e1 : openL l = [] := by unfold openL; rw [ho]; rfl
    have e2 : openE l = 31 := by unfold openE; rw [ho]; rfl
    have HE : Hid (mopenO l = none) := by unfold Hid mopenO; rw [ho]; rfl
    rw [e1] at HO1
    rw [e1, e2]
    clear ho e1 e2
    have HQ := Lib.hid (HRL.out w1 (Below.refl _ _))
    have HBQ := Lib.hid (HB0.out.trans (HB1.out.mono HB0.out.size))
    obtain ⟨p0, p1, p2, p3, p4, p5, p6⟩ := row7 HQ.out
    have pz := fun q => row_thawed HQ.out q
    have HU := Lib.hid (upto7 w1 w.heap.size (.int .i64 0) (.int .i64 0) (.int .i64 0) (.int .i64 0) (.int .i64 0) (.bool false) (.slice none 0 0))
    go_wp2_with fail
    refine bodyPost_ret (by simp [results, Try.results14, go_sem, p0, p1, p2, p3, p4, p5, p6]; try rfl) rfl ?_
    exact ⟨none, 0, by rw [(mopen_no HE.out).1, (mopen_no HE.out).2]; rfl, by rw [(mopen_no HE.out).1]; exact Ow.nil, HBQ.out.trans (HU.out.below HBQ.out.size (fun k hk e => by omega))⟩
  | some b =>
    have e1 : openL l = b := by unfold openL; rw [ho]; rfl
    have hbl : b.length ≤ 140737488355328 := by have := HBL.out; rw [e1] at this; exact this
    have e2 : openE l = 0 := by unfold openE; rw [ho]; rfl
    have HOB : Hid (mopenO l = packO b) := by unfold Hid mopenO; rw [ho]; rfl
    rw [e1] at HO1
    rw [e1, e2]
    clear ho e1 e2
    obtain ⟨n, hn⟩ : ∃ n, n = b.length := ⟨_, rfl⟩
    have HNB := Lib.hid hn
    rw [← hn]
    have hnl : n ≤ 140737488355328 := by omega
    clear hn hbl
    by_cases h18 : n < 18
    · have HE : Hid (mopenO l = none) := by unfold Hid; rw [HOB.out]; unfold packO; rw [if_neg (by have := HNB.out; omega)]
      have HQ := Lib.hid (HRL.out w1 (Below.refl _ _))
      have HBQ := Lib.hid (HB0.out.trans (HB1.out.mono HB0.out.size))
      go_wp2_with fail
      refine (refGet_no A1 n c1 6 w1 (by omega)).mono ?_; rintro e w2 ⟨rfl, rfl⟩
      obtain ⟨p0, p1, p2, p3, p4, p5, p6⟩ := row7 HQ.out
      have pz := fun q => row_thawed HQ.out q
      have HU := Lib.hid (upto7 w1 w.heap.size (.int .i64 0) (.int .i64 0) (.int .i64 0) (.int .i64 0) (.int .i64 0) (.bool false) (.slice none 0 0))
      go_wp2_with fail
      refine bodyPost_ret (by simp [results, Try.results14, go_sem, p0, p1, p2, p3, p4, p5, p6]; try rfl) rfl ?_
      exact ⟨none, 0, by rw [(mopen_no HE.out).1, (mopen_no HE.out).2]; rfl, by rw [(mopen_no HE.out).1]; exact Ow.nil, HBQ.out.trans (HU.out.below HBQ.out.size (fun k hk e => by omega))⟩
    · go_wp2_with fail
      refine (refGet_n A1 b c1 n 6 w1 HO1.out.rd HO1.out.nil_cap HO1.out.le HO1.out.cap (by decide) (by have := HNB.out; omega) (by have := HNB.out; omega) HNB.out.symm).mono ?_; rintro e w2 ⟨A2, c2, A3, c3, rfl, ho2, ho3, hb2⟩
      have HQ := Lib.hid (HRL.out w2 hb2)
      have HBQ := Lib.hid (HB0.out.trans ((HB1.out.trans (hb2.mono HB1.out.size)).mono HB0.out.size))
      have HO3 := Lib.hid (ho3.low (B' := w.heap.size) (by have := HZ1.out; omega))
      obtain ⟨h0, h1, h2, h3, h4, h5, hI⟩ := six (ints3_length b 6)
      have hO2 := ho2
      rw [hI] at hO2
      obtain ⟨b2, rfl, hb2'⟩ := hO2.at_some (by simp)
      have i0 := hO2.cell (j := 0) rfl
      have i1 := hO2.cell (j := 1) rfl
      have i2 := hO2.cell (j := 2) rfl
      have i3 := hO2.cell (j := 3) rfl
      have i4 := hO2.cell (j := 4) rfl
      have i5 := hO2.cell (j := 5) rfl
      have HPO : Hid (packO b = if h5 ≤ 1 ∧ pkOk h0 h1 h2 h3 h4 (n - 18) = true then some ⟨h0, h1, h2, h3, h4, h5 == 1, b.drop 18⟩ else none) := by unfold Hid; rw [HNB.out]; exact packO_ref b h0 h1 h2 h3 h4 h5 hI (by have := HNB.out; omega)
      have HDL : Hid ((b.drop 18).length = n - 18) := by unfold Hid; rw [List.length_drop, HNB.out]
      clear ho2 ho3 hO2 hI hb2 hb2'
      by_cases h5' : 1 < h5
      · have HE : Hid (mopenO l = none) := by unfold Hid; rw [HOB.out, HPO.out, if_neg (by omega)]
        obtain ⟨p0, p1, p2, p3, p4, p5, p6⟩ := row7 HQ.out
        have pz := fun q => row_thawed HQ.out q
        have HU := Lib.hid (upto7 w2 w.heap.size (.int .i64 0) (.int .i64 0) (.int .i64 0) (.int .i64 0) (.int .i64 0) (.bool false) (.slice none 0 0))
        go_wp2_with fail
        refine bodyPost_ret (by simp [results, Try.results14, go_sem, p0, p1, p2, p3, p4, p5, p6]; try rfl) rfl ?_
        exact ⟨none, 0, by rw [(mopen_no HE.out).1, (mopen_no HE.out).2]; rfl, by rw [(mopen_no HE.out).1]; exact Ow.nil, HBQ.out.trans (HU.out.below HBQ.out.size (fun k hk e => by omega))⟩
      · go_wp2_with fail
        have hnq : w2.heap.size ≠ b2 := World.new_ne w2 _ i0
        go_region_held_law (fun W => W.cell? ⟨b2, 0, none⟩ = some (g64 h0) ∧ W.cell? ⟨b2, 1, none⟩ = some (g64 h1) ∧ W.cell? ⟨b2, 2, none⟩ = some (g64 h2) ∧ W.cell? ⟨b2, 3, none⟩ = some (g64 h3) ∧ W.cell? ⟨b2, 4, none⟩ = some (g64 h4) ∧ W.cell? ⟨b2, 5, none⟩ = some (g64 h5)) (go_keep) (fail)
        all_goals
          rename_i hh
          clear hh
          have hbm := ((Below.refl w2.heap.size w2).alloc (Nat.le_refl _) (Obj.cells #[.int .i64 h0, .int .i64 h1, .int .i64 h2, .int .i64 h3, .int .i64 h4, .bool (h5 == 1), .slice A3 (n - 18) c3] 39)).drew
          have hp := row_drewI (heap_alloc_new w2 (Obj.cells #[.int .i64 h0, .int .i64 h1, .int .i64 h2, .int .i64 h3, .int .i64 h4, .bool (h5 == 1), .slice A3 (n - 18) c3] 39))
          generalize (w2.alloc (Obj.cells #[.int .i64 h0, .int .i64 h1, .int .i64 h2, .int .i64 h3, .int .i64 h4, .bool (h5 == 1), .slice A3 (n - 18) c3] 39)).drew = W3 at *
          have hzq := (Array.getElem?_eq_some_iff.1 HQ.out).1
          have HQ3 := Lib.hid ((hbm.block w.heap.size hzq).trans HQ.out)
          have HB3 := Lib.hid (HBQ.out.trans (hbm.mono HBQ.out.size))
          have HO4 := Lib.hid (HO3.out.below hbm)
          have HP3 := Lib.hid hp
          clear i0 i1 i2 i3 i4 i5 hbm HQ HBQ HO3
          obtain ⟨q0, q1, q2, q3, q4, q5, q6⟩ := row7 hp
          clear hp
          generalize w2.heap.size = P at *
          go_wp2_with fail
          refine (packet_c h0 h1 h2 h3 h4 (h5 == 1) A3 (n - 18) c3 W3).mono ?_; rintro e w4 ⟨rfl, hb4⟩
          have HP4 := Lib.hid ((hb4.block P (Array.getElem?_eq_some_iff.1 HP3.out).1).trans HP3.out)
          have HQ := Lib.hid ((hb4.block w.heap.size (Array.getElem?_eq_some_iff.1 HQ3.out).1).trans HQ3.out)
          have HBQ := Lib.hid (HB3.out.trans (hb4.mono HB3.out.size))
          have HO5 := Lib.hid (HO4.out.below hb4)
          clear hb4 HP3 HQ3 HB3 HO4 q0 q1 q2 q3 q4 q5 q6
          cases hok : pkOk h0 h1 h2 h3 h4 (n - 18) with
          | false =>
            have HE : Hid (mopenO l = none) := by unfold Hid; rw [HOB.out, HPO.out, if_neg (by rw [hok]; simp)]
            clear hok
            obtain ⟨p0, p1, p2, p3, p4, p5, p6⟩ := row7 HQ.out
            have pz := fun q => row_thawed HQ.out q
            have HU := Lib.hid (upto7 w4 w.heap.size (.int .i64 0) (.int .i64 0) (.int .i64 0) (.int .i64 0) (.int .i64 0) (.bool false) (.slice none 0 0))
            go_wp2_with fail
            refine bodyPost_ret (by simp [results, Try.results14, go_sem, p0, p1, p2, p3, p4, p5, p6]; try rfl) rfl ?_
            exact ⟨none, 0, by rw [(mopen_no HE.out).1, (mopen_no HE.out).2]; rfl, by rw [(mopen_no HE.out).1]; exact Ow.nil, HBQ.out.trans (HU.out.below HBQ.out.size (fun k hk e => by omega))⟩
          | true =>
            have HE : Hid (mopenO l = some ⟨h0, h1, h2, h3, h4, h5 == 1, b.drop 18⟩) := by unfold Hid; rw [HOB.out, HPO.out, if_pos ⟨by omega, hok⟩]
            clear hok
            obtain ⟨q0, q1, q2, q3, q4, q5, q6⟩ := row7 HP4.out
            obtain ⟨p0, p1, p2, p3, p4, p5, p6⟩ := row7 HQ.out
            have pz := fun q => row_thawed HQ.out q
            go_wp2_with fail
            obtain ⟨w9, hw9⟩ : ∃ w9, w9 = (((((((w4.setCell ⟨w.heap.size, 0, none⟩ (.int .i64 h0)).setCell ⟨w.heap.size, 1, none⟩ (.int .i64 h1)).setCell ⟨w.heap.size, 2, none⟩ (.int .i64 h2)).setCell ⟨w.heap.size, 3, none⟩ (.int .i64 h3)).setCell ⟨w.heap.size, 4, none⟩ (.int .i64 h4)).setCell ⟨w.heap.size, 5, none⟩ (.bool (h5 == 1))).setCell ⟨w.heap.size, 6, none⟩ (.slice A3 (n - 18) c3)) := ⟨_, rfl⟩
            have HU9 : Hid (Upto (fun j => j = w.heap.size) w4 w9) := by unfold Hid; rw [hw9]; exact upto7 w4 w.heap.size _ _ _ _ _ _ _
            have hr9 := sets7_row HQ.out (.int .i64 h0) (.int .i64 h1) (.int .i64 h2) (.int .i64 h3) (.int .i64 h4) (.bool (h5 == 1)) (.slice A3 (n - 18) c3)
            rw [← hw9] at hr9 ⊢
            clear hw9 p0 p1 p2 p3 p4 p5 p6 pz q0 q1 q2 q3 q4 q5 q6
            obtain ⟨p0, p1, p2, p3, p4, p5, p6⟩ := row7 hr9
            clear hr9
            refine bodyPost_ret (by simp [results, Try.results14, go_sem, p0, p1, p2, p3, p4, p5, p6]; try rfl) rfl ?_
            refine ⟨A3, c3, by rw [(mopen_yes HE.out).1, (mopen_yes HE.out).2]; unfold pkC; rw [HDL.out], ?_, HBQ.out.trans (HU9.out.below HBQ.out.size (fun k hk e => by omega))⟩
            rw [(mopen_yes HE.out).1]
            exact Ow.other HO5.out HU9.out HQ.out (by decide)

end Go.Proofs.Ytbhjdapkhcgmlaa

import Derived.Test.YtbhjdapkhcgmlaaMsgB

set_option linter.unusedSimpArgs false
set_option linter.unusedVariables false
set_option linter.unnecessarySimpa false

namespace Go.Proofs.Ytbhjdapkhcgmlaa
open Go.RowKit

/-! msg.Open. -/

structure Pk where
  cl : Int
  ep : Int
  bo : Int
  sq : Int
  ak : Int
  sv : Bool
  body : List UInt8

/-- The packet of the bytes of a frame. -/
def packO (b : List UInt8) : Option Pk :=
  if 18 ≤ b.length ∧ (ints3 b 6).getD 0 0 < 4 ∧ (ints3 b 6).getD 5 0 ≤ 1 ∧ b.length - 18 ≤ 700 then some ⟨(ints3 b 6).getD 0 0, (ints3 b 6).getD 1 0, (ints3 b 6).getD 2 0, (ints3 b 6).getD 3 0, (ints3 b 6).getD 4 0, (ints3 b 6).getD 5 0 == 1, b.drop 18⟩ else none

/-- The packet of a frame. -/
def mopenO (f : List UInt8) : Option Pk := (openO f).bind packO
def noPk : Pk := ⟨0, 0, 0, 0, 0, false, []⟩
def mopenP (f : List UInt8) : Pk := (mopenO f).getD noPk
def mopenE (f : List UInt8) : Int := if (mopenO f).isSome then 0 else 101
theorem mopen_no {f : List UInt8} (h : mopenO f = none) : mopenP f = noPk ∧ mopenE f = 101 := by unfold mopenP mopenE; rw [h]; exact ⟨rfl, rfl⟩
theorem mopen_yes {f : List UInt8} {p : Pk} (h : mopenO f = some p) : mopenP f = p ∧ mopenE f = 0 := by unfold mopenP mopenE; rw [h]; exact ⟨rfl, rfl⟩

/-- A packet's cells. -/
def pkC (p : Pk) (A : Option Addr) (c : Nat) : Array Value := #[.int .i64 p.cl, .int .i64 p.ep, .int .i64 p.bo, .int .i64 p.sq, .int .i64 p.ak, .bool p.sv, .slice A p.body.length c]

/-- Seven stores. -/
theorem upto7 (w : World) (b : Nat) (v0 v1 v2 v3 v4 v5 v6 : Value) : Upto (fun j => j = b) w (((((((w.setCell ⟨b, 0, none⟩ v0).setCell ⟨b, 1, none⟩ v1).setCell ⟨b, 2, none⟩ v2).setCell ⟨b, 3, none⟩ v3).setCell ⟨b, 4, none⟩ v4).setCell ⟨b, 5, none⟩ v5).setCell ⟨b, 6, none⟩ v6) :=
  (((((((Upto.refl (fun j => j = b) w).setCell (p := ⟨b, 0, none⟩) rfl v0).setCell (p := ⟨b, 1, none⟩) rfl v1).setCell (p := ⟨b, 2, none⟩) rfl v2).setCell (p := ⟨b, 3, none⟩) rfl v3).setCell (p := ⟨b, 4, none⟩) rfl v4).setCell (p := ⟨b, 5, none⟩) rfl v5).setCell (p := ⟨b, 6, none⟩) rfl v6

theorem sets7_row {w : World} {b : Nat} {T : TypeId} {z0 z1 z2 z3 z4 z5 z6 : Value} (h : w.heap[b]? = some (.cells #[z0, z1, z2, z3, z4, z5, z6] T (0, 0))) (v0 v1 v2 v3 v4 v5 v6 : Value) :
    (((((((w.setCell ⟨b, 0, none⟩ v0).setCell ⟨b, 1, none⟩ v1).setCell ⟨b, 2, none⟩ v2).setCell ⟨b, 3, none⟩ v3).setCell ⟨b, 4, none⟩ v4).setCell ⟨b, 5, none⟩ v5).setCell ⟨b, 6, none⟩ v6).heap[b]? = some (.cells #[v0, v1, v2, v3, v4, v5, v6] T (0, 0)) := by
  have := row_set (row_set (row_set (row_set (row_set (row_set (row_set h 0 v0) 1 v1) 2 v2) 3 v3) 4 v4) 5 v5) 6 v6
  simpa using this

theorem Ow.typed {α : Type} {g : α → Value} {E : TypeId} {w : World} {B : Nat} {A : Option Addr} {l : List α} {c : Nat} (h : Ow E g w B A l c) : ∀ a, A = some a → ∃ cur, w.heap[a.block]? = some (.cells cur E (0, 0)) := fun a e => by
  subst e
  rcases h.2 with ⟨e, _⟩ | ⟨b, cap, cur, e, hb, hg, _⟩
  · injection e with e1; cases e1
  · injection e with e1 _ _
    cases e1
    exact ⟨cur, hg⟩

theorem Ow.other {α : Type} {g : α → Value} {E : TypeId} {C : Nat} {A : Option Addr} {l : List α} {c : Nat} {b : Nat} {cur : Array Value} {T : TypeId} {m : Nat × Nat} {w w' : World} (h : Ow E g w C A l c) (u : Upto (fun j => j = b) w w') (hr : w.heap[b]? = some (.cells cur T m)) (h1 : E ≠ T) : Ow E g w' C A l c :=
  Ow.upto h u fun a e e2 => by
    obtain ⟨cur2, hc2⟩ := h.typed a e
    rw [e2, hr] at hc2
    injection hc2 with hc2; injection hc2 with _ e1 _
    exact h1 e1.symm

theorem heapDrew (w : World) : w.drew.heap = w.heap := rfl

theorem six {l : List Int} (h : l.length = 6) : ∃ a b c d e f, l = [a, b, c, d, e, f] := by
  match l, h with
  | [a, b, c, d, e, f], _ => exact ⟨a, b, c, d, e, f, rfl⟩

theorem openL_len (l : List UInt8) : (openL l).length ≤ l.length := by
  unfold openL openO
  split
  · simp
  · split <;> simp

set_option maxRecDepth 100000 in
set_option maxHeartbeats 8000000 in
theorem mopen_c (A : Option Addr) (l : List UInt8) (c : Nat) (w : World) (h : Rd g8 w A l) (hn : A = none → c = 0) (hle : l.length ≤ c) (hlen : l.length ≤ 140737488355328) :
    Calls Try.prog 13 #[.slice A l.length c] w fun e w' => ∃ A' c', e = .returned (.tuple #[.agg (pkC (mopenP l) A' c'), .int .i64 (mopenE l)]) ∧ Ow 5 g8 w' w.heap.size A' (mopenP l).body c' ∧ Below w.heap.size w w' := by
  have H := Lib.hid h
  have HN := Lib.hid hn
  have HLE := Lib.hid hle
  have HLEN := Lib.hid hlen
  clear h hn hle hlen
  have hb0 := (Below.refl w.heap.size w).alloc (Nat.le_refl _) (.cells #[.int .i64 0, .int .i64 0, .int .i64 0, .int .i64 0, .int .i64 0, .bool false, .slice none 0 0] 39)
  have hrow := heap_alloc_new w (.cells #[.int .i64 0, .int .i64 0, .int .i64 0, .int .i64 0, .int .i64 0, .bool false, .slice none 0 0] 39)
  have hz : w.heap.size < (w.alloc (.cells #[.int .i64 0, .int .i64 0, .int .i64 0, .int .i64 0, .int .i64 0, .bool false, .slice none 0 0] 39)).heap.size := by simp
  go_enter Try.func13, Try.ntmps13
  go_wp2_with fail
  generalize w.alloc (.cells #[.int .i64 0, .int .i64 0, .int .i64 0, .int .i64 0, .int .i64 0, .bool false, .slice none 0 0] 39) = W0 at *
  have HB0 := Lib.hid hb0
  have HROW := Lib.hid hrow
  have HZ := Lib.hid hz
  clear hb0 hrow hz
  (with_reducible refine (open_c A l c W0 (H.out.below HB0.out) HN.out HLE.out HLEN.out).mono ?_); rintro e w1 ⟨A1, c1, rfl, ho1, hb1⟩
  have HO1 := Lib.hid ho1
  have HB1 := Lib.hid hb1
  have HRL : Hid (∀ w', Below w1.heap.size w1 w' → w'.heap[w.heap.size]? = some (.cells #[.int .i64 0, .int .i64 0, .int .i64 0, .int .i64 0, .int .i64 0, .bool false, .slice none 0 0] 39 (0, 0))) := fun w' hw => ((HB1.out.trans (hw.mono HB1.out.size)).block w.heap.size HZ.out).trans HROW.out
  have HZ1 : Hid (w.heap.size < w1.heap.size) := Nat.lt_of_lt_of_le HZ.out HB1.out.size
  have HBL : Hid ((openL l).length ≤ 140737488355328) := Nat.le_trans (openL_len l) HLEN.out
  clear ho1 hb1
  cases ho : openO l with
  | none =>
    have e1 : openL l = [] := by unfold openL; rw [ho]; rfl
    have e2 : openE l = 31 := by unfold openE; rw [ho]; rfl
    have HE : Hid (mopenO l = none) := by unfold Hid mopenO; rw [ho]; rfl
    rw [e1] at HO1
    rw [e1, e2]
    clear ho e1 e2
    go_wp2_with fail
    have hrr := heap_alloc_new w1 (.cells #[.slice A1 0 c1, .bool true] 60)
    have hba := (Below.refl w1.heap.size w1).alloc (Nat.le_refl _) (.cells #[.slice A1 0 c1, .bool true] 60)
    refine (rnums_short w1.heap.size A1 0 c1 6 true _ hrr (by decide) (by decide)).mono ?_; rintro e w2 ⟨A2, c2, rfl, ho2, hr2, hu2⟩
    have hrw := (hu2.block w.heap.size (by have := HZ1.out; have := hba.size; omega) (by have := HZ1.out; omega)).trans (HRL.out _ hba)
    have HQ := Lib.hid hrw
    have HBQ := Lib.hid (HB0.out.trans ((HB1.out.trans ((hba.trans (hu2.below (B := w1.heap.size) hba.size (fun k hk e => by omega))).mono HB1.out.size)).mono HB0.out.size))
    obtain ⟨x0, x1, xz⟩ := row2' hr2
    clear hrw hrr hba ho2 hr2 hu2
    obtain ⟨p0, p1, p2, p3, p4, p5, p6⟩ := row7 HQ.out
    have pz := fun q => row_thawed HQ.out q
    have HU := Lib.hid (upto7 w2 w.heap.size (.int .i64 0) (.int .i64 0) (.int .i64 0) (.int .i64 0) (.int .i64 0) (.bool false) (.slice none 0 0))
    go_wp2_with fail
    refine bodyPost_ret (by simp [results, Try.results13, go_sem, p0, p1, p2, p3, p4, p5, p6]; try rfl) rfl ?_
    exact ⟨none, 0, by rw [(mopen_no HE.out).1, (mopen_no HE.out).2]; rfl, by rw [(mopen_no HE.out).1]; exact Ow.nil, HBQ.out.trans (HU.out.below HBQ.out.size (fun k hk e => by omega))⟩
  | some b =>
    have e1 : openL l = b := by unfold openL; rw [ho]; rfl
    have hbl : b.length ≤ 140737488355328 := by have := HBL.out; rw [e1] at this; exact this
    have e2 : openE l = 0 := by unfold openE; rw [ho]; rfl
    have HOB : Hid (mopenO l = packO b) := by unfold Hid mopenO; rw [ho]; rfl
    rw [e1] at HO1
    rw [e1, e2]
    clear ho e1 e2
    obtain ⟨n, hn⟩ : ∃ n, n = b.length := ⟨_, rfl⟩
    have HNB := Lib.hid hn
    rw [← hn]
    have hrr := heap_alloc_new w1 (.cells #[.slice A1 n c1, .bool false] 60)
    have hba := (Below.refl w1.heap.size w1).alloc (Nat.le_refl _) (.cells #[.slice A1 n c1, .bool false] 60)
    have hnl : n ≤ 140737488355328 := by omega
    clear hn hbl
    by_cases h18 : n < 18
    · have HE : Hid (mopenO l = none) := by unfold Hid; rw [HOB.out]; unfold packO; rw [if_neg (by have := HNB.out; omega)]
      go_wp2_with fail
      refine (rnums_short w1.heap.size A1 n c1 6 false _ hrr (by decide) (by omega)).mono ?_; rintro e w2 ⟨A2, c2, rfl, ho2, hr2, hu2⟩
      have hrw := (hu2.block w.heap.size (by have := HZ1.out; have := hba.size; omega) (by have := HZ1.out; omega)).trans (HRL.out _ hba)
      have HQ := Lib.hid hrw
      have HBQ := Lib.hid (HB0.out.trans ((HB1.out.trans ((hba.trans (hu2.below (B := w1.heap.size) hba.size (fun k hk e => by omega))).mono HB1.out.size)).mono HB0.out.size))
      obtain ⟨x0, x1, xz⟩ := row2' hr2
      clear hrw hrr hba ho2 hr2 hu2
      obtain ⟨p0, p1, p2, p3, p4, p5, p6⟩ := row7 HQ.out
      have pz := fun q => row_thawed HQ.out q
      have HU := Lib.hid (upto7 w2 w.heap.size (.int .i64 0) (.int .i64 0) (.int .i64 0) (.int .i64 0) (.int .i64 0) (.bool false) (.slice none 0 0))
      go_wp2_with fail
      refine bodyPost_ret (by simp [results, Try.results13, go_sem, p0, p1, p2, p3, p4, p5, p6]; try rfl) rfl ?_
      exact ⟨none, 0, by rw [(mopen_no HE.out).1, (mopen_no HE.out).2]; rfl, by rw [(mopen_no HE.out).1]; exact Ow.nil, HBQ.out.trans (HU.out.below HBQ.out.size (fun k hk e => by omega))⟩
    · go_wp2_with fail
      refine (rnums_ok w1.heap.size A1 b n c1 6 _ hrr (HO1.out.rd.below hba) HO1.out.nil_cap HNB.out.symm (by have := HO1.out.le; have := HNB.out; omega) HO1.out.cap (by decide) (by omega) hnl).mono ?_; rintro e w2 ⟨A2, c2, A3, c3, rfl, ho2, ho3, hr2, hu2⟩
      rw [← HNB.out] at hr2
      have hrw := (hu2.block w.heap.size (by have := HZ1.out; have := hba.size; omega) (by have := HZ1.out; omega)).trans (HRL.out _ hba)
      have HQ := Lib.hid hrw
      have HBQ := Lib.hid (HB0.out.trans ((HB1.out.trans ((hba.trans (hu2.below (B := w1.heap.size) hba.size (fun k hk e => by omega))).mono HB1.out.size)).mono HB0.out.size))
      have HO3 := Lib.hid (ho3.low (B' := w.heap.size) (by have := HZ1.out; have := hba.size; omega))
      obtain ⟨h0, h1, h2, h3, h4, h5, hI⟩ := six (ints3_length b 6)
      have hO2 := ho2
      rw [hI] at hO2
      obtain ⟨b2, rfl, hb2⟩ := hO2.at_some (by simp)
      have hnb : w.heap.size ≠ b2 := by have := HZ1.out; have := hba.size; omega
      have hnr : w.heap.size ≠ w1.heap.size := by have := HZ1.out; omega
      clear hb2
      have i0 := hO2.cell (j := 0) rfl
      have i1 := hO2.cell (j := 1) rfl
      have i2 := hO2.cell (j := 2) rfl
      have i3 := hO2.cell (j := 3) rfl
      have i4 := hO2.cell (j := 4) rfl
      have i5 := hO2.cell (j := 5) rfl
      have HPO : Hid (packO b = if 18 ≤ n ∧ h0 < 4 ∧ h5 ≤ 1 ∧ n - 18 ≤ 700 then some ⟨h0, h1, h2, h3, h4, h5 == 1, b.drop 18⟩ else none) := by unfold Hid packO; rw [hI, HNB.out]; rfl
      have HDL : Hid ((b.drop 18).length = n - 18) := by unfold Hid; rw [List.length_drop, HNB.out]
      obtain ⟨x0, x1, xz⟩ := row2' hr2
      clear hrw hrr hba ho2 hr2 hu2 hO2 hI ho3
      by_cases h4' : 4 ≤ h0
      · have HE : Hid (mopenO l = none) := by unfold Hid; rw [HOB.out, HPO.out, if_neg (by omega)]
        obtain ⟨p0, p1, p2, p3, p4, p5, p6⟩ := row7 HQ.out
        have pz := fun q => row_thawed HQ.out q
        have HU := Lib.hid (upto7 w2 w.heap.size (.int .i64 0) (.int .i64 0) (.int .i64 0) (.int .i64 0) (.int .i64 0) (.bool false) (.slice none 0 0))
        go_wp2_with fail
        refine bodyPost_ret (by simp [results, Try.results13, go_sem, p0, p1, p2, p3, p4, p5, p6]; try rfl) rfl ?_
        exact ⟨none, 0, by rw [(mopen_no HE.out).1, (mopen_no HE.out).2]; rfl, by rw [(mopen_no HE.out).1]; exact Ow.nil, HBQ.out.trans (HU.out.below HBQ.out.size (fun k hk e => by omega))⟩
      · by_cases h5' : 1 < h5
        · have HE : Hid (mopenO l = none) := by unfold Hid; rw [HOB.out, HPO.out, if_neg (by omega)]
          obtain ⟨p0, p1, p2, p3, p4, p5, p6⟩ := row7 HQ.out
          have pz := fun q => row_thawed HQ.out q
          have HU := Lib.hid (upto7 w2 w.heap.size (.int .i64 0) (.int .i64 0) (.int .i64 0) (.int .i64 0) (.int .i64 0) (.bool false) (.slice none 0 0))
          go_wp2_with fail
          refine bodyPost_ret (by simp [results, Try.results13, go_sem, p0, p1, p2, p3, p4, p5, p6]; try rfl) rfl ?_
          exact ⟨none, 0, by rw [(mopen_no HE.out).1, (mopen_no HE.out).2]; rfl, by rw [(mopen_no HE.out).1]; exact Ow.nil, HBQ.out.trans (HU.out.below HBQ.out.size (fun k hk e => by omega))⟩
        · by_cases h7' : 700 < n - 18
          · have HE : Hid (mopenO l = none) := by unfold Hid; rw [HOB.out, HPO.out, if_neg (by omega)]
            have h7i : ((700 : Int) < ((n - 18 : Nat) : Int)) := by omega
            obtain ⟨p0, p1, p2, p3, p4, p5, p6⟩ := row7 HQ.out
            have pz := fun q => row_thawed HQ.out q
            have HU := Lib.hid (upto7 w2 w.heap.size (.int .i64 0) (.int .i64 0) (.int .i64 0) (.int .i64 0) (.int .i64 0) (.bool false) (.slice none 0 0))
            go_wp2_with fail
            refine bodyPost_ret (by simp [results, Try.results13, go_sem, p0, p1, p2, p3, p4, p5, p6]; try rfl) rfl ?_
            exact ⟨none, 0, by rw [(mopen_no HE.out).1, (mopen_no HE.out).2]; rfl, by rw [(mopen_no HE.out).1]; exact Ow.nil, HBQ.out.trans (HU.out.below HBQ.out.size (fun k hk e => by omega))⟩
          · have HE : Hid (mopenO l = some ⟨h0, h1, h2, h3, h4, h5 == 1, b.drop 18⟩) := by unfold Hid; rw [HOB.out, HPO.out, if_pos ⟨by omega, by omega, by omega, by omega⟩]
            have h7i : ¬ ((700 : Int) < ((n - 18 : Nat) : Int)) := by omega
            obtain ⟨p0, p1, p2, p3, p4, p5, p6⟩ := row7 HQ.out
            have pz := fun q => row_thawed HQ.out q

            go_wp2_with fail
            go_region_held_law (fun W => W.cell? ⟨b2, 0, none⟩ = some (g64 h0) ∧ W.cell? ⟨b2, 1, none⟩ = some (g64 h1) ∧ W.cell? ⟨b2, 2, none⟩ = some (g64 h2) ∧ W.cell? ⟨b2, 3, none⟩ = some (g64 h3) ∧ W.cell? ⟨b2, 4, none⟩ = some (g64 h4) ∧ W.cell? ⟨b2, 5, none⟩ = some (g64 h5) ∧ W.cell? ⟨w1.heap.size, 0, none⟩ = some (.slice A3 (n - 18) c3)) (go_keep) (fail)
            all_goals
              obtain ⟨w9, hw9⟩ : ∃ w9, w9 = (((((((w2.setCell ⟨w.heap.size, 0, none⟩ (.int .i64 h0)).setCell ⟨w.heap.size, 1, none⟩ (.int .i64 h1)).setCell ⟨w.heap.size, 2, none⟩ (.int .i64 h2)).setCell ⟨w.heap.size, 3, none⟩ (.int .i64 h3)).setCell ⟨w.heap.size, 4, none⟩ (.int .i64 h4)).setCell ⟨w.heap.size, 5, none⟩ (.bool (h5 == 1))).setCell ⟨w.heap.size, 6, none⟩ (.slice A3 (n - 18) c3)).drew := ⟨_, rfl⟩
              have HU9 : Hid (Upto (fun j => j = w.heap.size) w2 w9) := by unfold Hid; rw [hw9]; exact (upto7 w2 w.heap.size _ _ _ _ _ _ _).drew
              have hr9 : w9.heap[w.heap.size]? = some (.cells #[.int .i64 h0, .int .i64 h1, .int .i64 h2, .int .i64 h3, .int .i64 h4, .bool (h5 == 1), .slice A3 (n - 18) c3] 39 (0, 0)) := by
                rw [hw9, heapDrew]
                exact sets7_row HQ.out _ _ _ _ _ _ _
              rw [← hw9]
              clear hw9 p0 p1 p2 p3 p4 p5 p6 pz i0 i1 i2 i3 i4 i5 x0 x1 xz
              rename_i hh
              clear hh
              obtain ⟨p0, p1, p2, p3, p4, p5, p6⟩ := row7 hr9
              clear hr9
              go_wp2_with fail
              refine bodyPost_ret (by simp [results, Try.results13, go_sem, p0, p1, p2, p3, p4, p5, p6]; try rfl) rfl ?_
              refine ⟨A3, c3, by rw [(mopen_yes HE.out).1, (mopen_yes HE.out).2]; unfold pkC; rw [HDL.out], ?_, HBQ.out.trans (HU9.out.below HBQ.out.size (fun k hk e => by omega))⟩
              rw [(mopen_yes HE.out).1]
              exact Ow.other HO3.out HU9.out HQ.out (by decide)

end Go.Proofs.Ytbhjdapkhcgmlaa

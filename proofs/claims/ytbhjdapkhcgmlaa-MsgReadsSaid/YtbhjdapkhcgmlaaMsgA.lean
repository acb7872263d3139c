import Derived.Test.YtbhjdapkhcgmlaaUpto
import Derived.Test.YtbhjdapkhcgmlaaPlainP
import Derived.Test.YtbhjdapkhcgmlaaTakeP
import Derived.Test.YtbhjdapkhcgmlaaCrcOpen
import Derived.Test.YtbhjdapkhcgmlaaBurst
import Derived.Deep.RegionHeldLaw

set_option linter.unusedSimpArgs false
set_option linter.unusedVariables false
set_option linter.unnecessarySimpa false

namespace Go.Proofs.Ytbhjdapkhcgmlaa
open Go.RowKit

/-! msg.number, msg.Frame. -/

def numB (s : Bool) : Int := if s then 1 else 0

theorem number_c (s : Bool) (w : World) : Calls Try.prog 18 #[.bool s] w fun e w' => e = .returned (.int .i64 (numB s)) ∧ w = w' := by
  cases s
  all_goals
    go_enter Try.func18, Try.ntmps18
    go_wp2_with fail
    go_ret
    exact ⟨rfl, rfl⟩

/-- A packet's numbers. -/
def headP (cl ep bo sq ak : Int) (sv : Bool) : List Int := [cl, ep, bo, sq, ak, numB sv]
/-- A packet as a frame. -/
def frameO (cl ep bo sq ak : Int) (sv : Bool) (l : List UInt8) : Option (List UInt8) :=
  if okN (headP cl ep bo sq ak sv) = true ∧ cl < 4 ∧ l.length ≤ 700 then some (sealN (numsB (headP cl ep bo sq ak sv) ++ l)) else none

def frameL (cl ep bo sq ak : Int) (sv : Bool) (l : List UInt8) : List UInt8 := (frameO cl ep bo sq ak sv l).getD []
def frameE (cl ep bo sq ak : Int) (sv : Bool) (l : List UInt8) : Int := if (frameO cl ep bo sq ak sv l).isSome then 0 else 101
theorem frame_no {cl ep bo sq ak : Int} {sv : Bool} {l : List UInt8} (h : frameO cl ep bo sq ak sv l = none) : frameL cl ep bo sq ak sv l = [] ∧ frameE cl ep bo sq ak sv l = 101 := by
  unfold frameL frameE; rw [h]; exact ⟨rfl, rfl⟩
theorem frame_yes {cl ep bo sq ak : Int} {sv : Bool} {l x : List UInt8} (h : frameO cl ep bo sq ak sv l = some x) : frameL cl ep bo sq ak sv l = x ∧ frameE cl ep bo sq ak sv l = 0 := by
  unfold frameL frameE; rw [h]; exact ⟨rfl, rfl⟩

theorem row7 {w : World} {b : Nat} {T : TypeId} {v0 v1 v2 v3 v4 v5 v6 : Value} (h : w.heap[b]? = some (.cells #[v0, v1, v2, v3, v4, v5, v6] T (0, 0))) :
    w.cell? ⟨b, 0, none⟩ = some v0 ∧ w.cell? ⟨b, 1, none⟩ = some v1 ∧ w.cell? ⟨b, 2, none⟩ = some v2 ∧ w.cell? ⟨b, 3, none⟩ = some v3 ∧ w.cell? ⟨b, 4, none⟩ = some v4 ∧ w.cell? ⟨b, 5, none⟩ = some v5 ∧ w.cell? ⟨b, 6, none⟩ = some v6 :=
  ⟨(cell_of_row w b 0 _ _ _ h).trans rfl, (cell_of_row w b 1 _ _ _ h).trans rfl, (cell_of_row w b 2 _ _ _ h).trans rfl, (cell_of_row w b 3 _ _ _ h).trans rfl, (cell_of_row w b 4 _ _ _ h).trans rfl, (cell_of_row w b 5 _ _ _ h).trans rfl, (cell_of_row w b 6 _ _ _ h).trans rfl⟩

theorem nums6 (B : Nat) (cl ep bo sq ak : Int) (sv : Bool) (w : World) (hB : w.heap.size = B) :
    Calls Try.prog 17 #[.slice (some ⟨B, 0, none⟩) 6 6] (w.alloc (.cells #[.int .i64 cl, .int .i64 ep, .int .i64 bo, .int .i64 sq, .int .i64 ak, .int .i64 (numB sv)] 3)).drew fun e w' => ∃ A' c', e = .returned (.tuple #[.slice A' (numsR (headP cl ep bo sq ak sv)).length c', .int .i64 (numsE (headP cl ep bo sq ak sv))]) ∧ Ow 5 g8 w' w.heap.size A' (numsR (headP cl ep bo sq ak sv)) c' ∧ Below w.heap.size w w' := by
  subst hB
  have hb := (Below.refl w.heap.size w).alloc (Nat.le_refl _) (.cells #[.int .i64 cl, .int .i64 ep, .int .i64 bo, .int .i64 sq, .int .i64 ak, .int .i64 (numB sv)] 3)
  replace hb := hb.drew
  refine (nums_c _ (headP cl ep bo sq ak sv) 6 _ ((Rd.row_of w (headP cl ep bo sq ak sv) rfl).below (Below.refl _ _).drew) (by simp [headP])).mono ?_
  rintro e w' ⟨A', c', rfl, h1, h2⟩
  exact ⟨A', c', rfl, h1.low hb.size, hb.trans (h2.mono hb.size)⟩

theorem seal_n (A : Option Addr) (l : List UInt8) (n c : Nat) (w : World) (h : Rd g8 w A l) (hn : A = none → c = 0) (hlen : l.length ≤ 140737488355326) (he : l.length = n) :
    Calls Try.prog 30 #[.slice A n c] w fun e w' => ∃ A' c', e = .returned (.slice A' (sealN l).length c') ∧ Ow 5 g8 w' w.heap.size A' (sealN l) c' ∧ Below w.heap.size w w' := by
  subst he; exact seal_c A l c w h hn hlen

set_option maxRecDepth 100000 in
set_option maxHeartbeats 8000000 in
theorem frame_c (cl ep bo sq ak : Int) (sv : Bool) (A : Option Addr) (l : List UInt8) (c : Nat) (w : World) (h : Rd g8 w A l) (hn : A = none → c = 0) (hl : l.length ≤ 140737488351232) :
    Calls Try.prog 11 #[.agg #[.int .i64 cl, .int .i64 ep, .int .i64 bo, .int .i64 sq, .int .i64 ak, .bool sv, .slice A l.length c]] w fun e w' => ∃ A' c', e = .returned (.tuple #[.slice A' (frameL cl ep bo sq ak sv l).length c', .int .i64 (frameE cl ep bo sq ak sv l)]) ∧ Ow 5 g8 w' w.heap.size A' (frameL cl ep bo sq ak sv l) c' ∧ Below w.heap.size w w' := by
  have H := Lib.hid h
  have HN := Lib.hid hn
  clear h hn
  have HL := Lib.hid hl
  clear hl
  have hb0 := (Below.refl w.heap.size w).alloc (Nat.le_refl _) (.cells #[.int .i64 cl, .int .i64 ep, .int .i64 bo, .int .i64 sq, .int .i64 ak, .bool sv, .slice A l.length c] 39)
  have hrow := heap_alloc_new w (.cells #[.int .i64 cl, .int .i64 ep, .int .i64 bo, .int .i64 sq, .int .i64 ak, .bool sv, .slice A l.length c] 39)
  have hz : w.heap.size < (w.alloc (.cells #[.int .i64 cl, .int .i64 ep, .int .i64 bo, .int .i64 sq, .int .i64 ak, .bool sv, .slice A l.length c] 39)).heap.size := by simp
  obtain ⟨x0, x1, x2, x3, x4, x5, x6⟩ := row7 hrow
  go_enter Try.func11, Try.ntmps11
  go_wp2_with fail
  generalize w.alloc (.cells #[.int .i64 cl, .int .i64 ep, .int .i64 bo, .int .i64 sq, .int .i64 ak, .bool sv, .slice A l.length c] 39) = W0 at *
  have HB0 := Lib.hid hb0
  have HROW := Lib.hid hrow
  have HZ := Lib.hid hz
  clear hb0 hrow hz
  go_region_held_law (fun W => W.cell? ⟨w.heap.size, 0, none⟩ = some (.int .i64 cl) ∧ W.cell? ⟨w.heap.size, 1, none⟩ = some (.int .i64 ep) ∧ W.cell? ⟨w.heap.size, 2, none⟩ = some (.int .i64 bo) ∧ W.cell? ⟨w.heap.size, 3, none⟩ = some (.int .i64 sq) ∧ W.cell? ⟨w.heap.size, 4, none⟩ = some (.int .i64 ak) ∧ W.cell? ⟨w.heap.size, 5, none⟩ = some (.bool sv)) (first | go_keep | exact HBOX.out)
    (first
      | (go_at_call 18; (with_reducible refine (number_c sv _).mono ?_); rintro e w' ⟨rfl, rfl⟩)
      | (go_at_call 17; refine (nums6 _ cl ep bo sq ak sv _ rfl).mono ?_; rintro e w1 ⟨A1, c1, rfl, ho1, hb1⟩; have HO1 := Lib.hid ho1; have HB1 := Lib.hid hb1; have HBOX : Hid (w1.cell? ⟨w.heap.size, 0, none⟩ = some (.int .i64 cl) ∧ w1.cell? ⟨w.heap.size, 1, none⟩ = some (.int .i64 ep) ∧ w1.cell? ⟨w.heap.size, 2, none⟩ = some (.int .i64 bo) ∧ w1.cell? ⟨w.heap.size, 3, none⟩ = some (.int .i64 sq) ∧ w1.cell? ⟨w.heap.size, 4, none⟩ = some (.int .i64 ak) ∧ w1.cell? ⟨w.heap.size, 5, none⟩ = some (.bool sv)) := (by obtain ⟨y0, y1, y2, y3, y4, y5, _⟩ := row7 ((HB1.out.block w.heap.size HZ.out).trans HROW.out); exact ⟨y0, y1, y2, y3, y4, y5⟩); clear ho1 hb1))
  all_goals
    obtain ⟨y0, y1, y2, y3, y4, y5⟩ := HBOX.out
    have y6 := (row7 ((HB1.out.block w.heap.size HZ.out).trans HROW.out)).2.2.2.2.2.2
    have HBW := Lib.hid (HB0.out.trans (HB1.out.mono HB0.out.size))
    clear x0 x1 x2 x3 x4 x5 x6
    cases hok : okN (headP cl ep bo sq ak sv) with
    | false =>
      obtain ⟨e1, e2⟩ := numsR_no hok
      have HE : Hid (frameO cl ep bo sq ak sv l = none) := by unfold Hid frameO; rw [if_neg (by rw [hok]; simp)]
      rw [e1, e2]
      clear hok e1 e2
      go_wp2_with fail
      go_ret2
      exact ⟨none, 0, by rw [(frame_no HE.out).1, (frame_no HE.out).2]; rfl, by rw [(frame_no HE.out).1]; exact Ow.nil, HBW.out⟩
    | true =>
      obtain ⟨e1, e2⟩ := numsR_yes hok
      rw [e1] at HO1
      rw [e1, e2]
      have hlen : (numsB (headP cl ep bo sq ak sv)).length = 18 := by rw [numsB_length]; rfl
      by_cases h4 : 4 ≤ cl
      · have HE : Hid (frameO cl ep bo sq ak sv l = none) := by unfold Hid frameO; rw [if_neg (by omega)]
        clear hok e1 e2
        go_wp2_with fail
        go_ret2
        exact ⟨none, 0, by rw [(frame_no HE.out).1, (frame_no HE.out).2]; rfl, by rw [(frame_no HE.out).1]; exact Ow.nil, HBW.out⟩
      · by_cases h7 : 700 < l.length
        · have HE : Hid (frameO cl ep bo sq ak sv l = none) := by unfold Hid frameO; rw [if_neg (by omega)]
          clear hok e1 e2
          go_wp2_with fail
          go_ret2
          exact ⟨none, 0, by rw [(frame_no HE.out).1, (frame_no HE.out).2]; rfl, by rw [(frame_no HE.out).1]; exact Ow.nil, HBW.out⟩
        · have HE : Hid (frameO cl ep bo sq ak sv l = some (sealN (numsB (headP cl ep bo sq ak sv) ++ l))) := by unfold Hid frameO; rw [if_pos ⟨hok, by omega, by omega⟩]
          have HLEN := Lib.hid hlen
          clear hok e1 e2
          generalize numsB (headP cl ep bo sq ak sv) = hd at *
          have HRL := Lib.hid (H.out.below HBW.out)
          go_wp2_with (at_builtin; refine app8 rfl _ _ rfl hd l HO1.out (by first | rfl | (rw [hlen]; rfl)) A c HRL.out rfl HN.out (by omega) (by have := HB1.out.size; omega) ?_)
          intro A2 c2 w2 ho2 hg2
          have HO2 := Lib.hid ho2
          have HB2 := Lib.hid (HB1.out.grown hg2 HB1.out.size (fun q hq => (HO1.out.block q (by rw [hlen]; exact hq)).1))
          have HB2W := Lib.hid (HB0.out.trans (HB2.out.mono HB0.out.size))
          clear ho2 hg2 y0 y1 y2 y3 y4 y5 y6
          go_wp2_with fail
          (with_reducible refine (seal_n A2 (hd ++ l) _ c2 w2 HO2.out.rd HO2.out.nil_cap (by rw [List.length_append]; omega) (by rw [List.length_append, hlen])).mono ?_)
          rintro e w3 ⟨A3, c3, rfl, ho3, hb3⟩
          have HO3 := Lib.hid ho3
          have HB3 := Lib.hid (HB2W.out.trans (hb3.mono HB2W.out.size))
          clear ho3 hb3
          go_wp2_with fail
          go_ret2
          exact ⟨A3, c3, by rw [(frame_yes HE.out).1, (frame_yes HE.out).2]; rfl, by rw [(frame_yes HE.out).1]; exact HO3.out.low HB2W.out.size, HB3.out⟩

end Go.Proofs.Ytbhjdapkhcgmlaa

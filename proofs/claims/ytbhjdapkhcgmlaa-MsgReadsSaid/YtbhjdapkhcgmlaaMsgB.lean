import Derived.Test.YtbhjdapkhcgmlaaMsgA
import Derived.Deep.OwnRows
import Derived.Laws.OwnMore

set_option linter.unusedSimpArgs false
set_option linter.unusedVariables false
set_option linter.unnecessarySimpa false

namespace Go.Proofs.Ytbhjdapkhcgmlaa
open Go.RowKit

/-! msg.reader: the next numbers. -/

theorem row2' {w : World} {b : Nat} {T : TypeId} {v0 v1 : Value} (h : w.heap[b]? = some (.cells #[v0, v1] T (0, 0))) : w.cell? ⟨b, 0, none⟩ = some v0 ∧ w.cell? ⟨b, 1, none⟩ = some v1 ∧ ∀ j, w.frozen? ⟨b, j, none⟩ = false :=
  ⟨(cell_of_row w b 0 _ _ _ h).trans rfl, (cell_of_row w b 1 _ _ _ h).trans rfl, row_thawed h⟩

set_option maxRecDepth 100000 in
set_option maxHeartbeats 8000000 in
theorem rnums_ok (rb : Nat) (A : Option Addr) (l : List UInt8) (n c many : Nat) (w : World) (hr : w.heap[rb]? = some (.cells #[.slice A n c, .bool false] 60 (0, 0))) (h : Rd g8 w A l) (hn : A = none → c = 0) (he : l.length = n) (hc : n ≤ c) (hc2 : c ≤ 9223372036854775807) (hm : many ≤ 1000) (hl : 3 * many ≤ n) (hl2 : n ≤ 140737488355328) :
    Calls Try.prog 23 #[.pointer (some ⟨rb, 0, none⟩), .int .i64 many] w fun e w' => ∃ A1 c1 A2 c2, e = .returned (.slice A1 many c1) ∧ Ow 3 g64 w' w.heap.size A1 (ints3 l many) c1 ∧ Ow 5 g8 w' w.heap.size A2 (l.drop (3 * many)) c2 ∧
      w'.heap[rb]? = some (.cells #[.slice A2 (l.length - 3 * many) c2, .bool false] 60 (0, 0)) ∧ Upto (fun j => j = rb) w w' := by
  obtain ⟨x0, x1, xz⟩ := row2' hr
  have H := Lib.hid h
  have HN := Lib.hid hn
  have HE := Lib.hid he
  have HC := Lib.hid hc
  have HC2 := Lib.hid hc2
  have HL := Lib.hid hl
  have HL2 := Lib.hid hl2
  have HR := Lib.hid hr
  clear h hn he hc hc2 hl hl2 hr
  go_enter Try.func23, Try.ntmps23
  go_wp2_with fail
  (with_reducible refine (packGet_n A l c n many w H.out HN.out (by have := HE.out; have := HC.out; omega) HC2.out hm (by have := HE.out; have := HL.out; omega) (by have := HE.out; have := HL2.out; omega) HE.out).mono ?_); rintro e w1 ⟨A1, c1, A2, c2, rfl, ho1, ho2, hb⟩
  have hrw := (hb.block rb (Array.getElem?_eq_some_iff.1 HR.out).1).trans HR.out
  have HRW := Lib.hid hrw
  have HO1 := Lib.hid ho1
  have HO2 := Lib.hid ho2
  have HB := Lib.hid hb
  clear x0 x1 xz ho1 ho2 hb
  obtain ⟨x0, x1, xz⟩ := row2' hrw
  clear hrw
  go_wp2_with fail
  go_ret
  have hu := (Upto.refl (fun j => j = rb) w1).setCell (p := ⟨rb, 0, none⟩) rfl (.slice A2 (l.length - 3 * many) c2)
  have hlt := (Array.getElem?_eq_some_iff.1 HR.out).1
  refine ⟨A1, c1, A2, c2, rfl, HO1.out.upto hu (fun a e e2 => by have := (HO1.out.lt a e).1; omega), HO2.out.upto hu (fun a e e2 => by have := (HO2.out.lt a e).1; omega), row_set HRW.out 0 _, (Upto.of_below HB.out).trans hu (fun _ _ e => e)⟩

theorem Ow.zeros (w : World) (B n : Nat) (hB : B ≤ w.heap.size) (hn : n ≤ 1000) : Ow 3 g64 (w.alloc (.cells (madeCells #[.int .i64 0] n) 3)) B (some ⟨w.heap.size, 0, none⟩) (List.replicate n 0) n := by
  refine ⟨by simp, .inr ⟨w.heap.size, n, _, by simp, hB, heap_alloc_new w _, by simp, by simp only [maxLen]; omega, by rw [size_madeCells]; simp, ?_⟩⟩
  rw [toList_madeCells_one]
  simp

theorem madeI (n : Nat) (hn : n ≤ 1000) (W : World) : (Instr.makeSlice 61 (.int .i64 (n : Int)) (.int .i64 (n : Int))).run Try.prog W = .ok (.slice (some ⟨W.heap.size, 0, none⟩) n n) (W.alloc (.cells (madeCells #[.int .i64 0] n) 3)) :=
  run_make_row' (P := Try.prog) 61 3 (.int .i64 0) 8 Try.underlying61 info64 rfl .i64 .i64 n (by omega) (by omega) W

set_option maxRecDepth 100000 in
set_option maxHeartbeats 8000000 in
theorem rnums_short (rb : Nat) (A : Option Addr) (n c many : Nat) (b : Bool) (w : World) (hr : w.heap[rb]? = some (.cells #[.slice A n c, .bool b] 60 (0, 0))) (hm : many ≤ 1000) (hl : n < 3 * many) :
    Calls Try.prog 23 #[.pointer (some ⟨rb, 0, none⟩), .int .i64 many] w fun e w' => ∃ A1 c1, e = .returned (.slice A1 many c1) ∧ Ow 3 g64 w' w.heap.size A1 (List.replicate many 0) c1 ∧
      w'.heap[rb]? = some (.cells #[.slice A n c, .bool true] 60 (0, 0)) ∧ Upto (fun j => j = rb) w w' := by
  obtain ⟨x0, x1, xz⟩ := row2' hr
  have HR := Lib.hid hr
  have HL := Lib.hid hl
  have hmk := madeI many hm
  clear hr hl
  cases b
  all_goals
    go_enter Try.func23, Try.ntmps23
    go_wp2_with fail
    (with_reducible refine (packGet_no A n c many w (.inr (.inr (by have := HL.out; omega)))).mono ?_); rintro e w1 ⟨rfl, rfl⟩
    go_wp2_with fail
    go_ret
    have hu := (Upto.refl (fun j => j = rb) w).setCell (p := ⟨rb, 1, none⟩) rfl (.bool true)
    have hba := (Below.refl (w.setCell ⟨rb, 1, none⟩ (.bool true)).heap.size _).alloc (Nat.le_refl _) (.cells (madeCells #[.int .i64 0] many) 3)
    have hlt := (Array.getElem?_eq_some_iff.1 HR.out).1
    refine ⟨_, _, rfl, by have := Ow.zeros (w.setCell ⟨rb, 1, none⟩ (.bool true)) w.heap.size many hu.size hm; rwa [World.size_setCell] at this, ?_, hu.then hba⟩
    exact (hba.block rb (by have := hu.size; omega)).trans (row_set HR.out 1 _)

end Go.Proofs.Ytbhjdapkhcgmlaa

import Derived.Test.YtbhjdapkhcgmlaaMsgE
import Derived.Handy
import Derived.Deep.Cut

set_option linter.unusedSimpArgs false
set_option linter.unusedVariables false
set_option linter.unnecessarySimpa false

namespace Go.Proofs.Ytbhjdapkhcgmlaa
open Go.RowKit

attribute [local go_sem] run_store_complex

/-! msg.Right. -/

theorem mbet_t (n lo hi : Int) (h : lo ≤ n ∧ n ≤ hi) (w : World) : Calls Try.prog 37 #[.int .i64 n, .int .i64 lo, .int .i64 hi] w fun e w' => e = .returned (.bool true) ∧ w = w' := by
  refine (mbetween_c n lo hi w).mono ?_
  rintro e w' ⟨rfl, rfl⟩
  simp [h]

set_option maxRecDepth 100000 in
set_option maxHeartbeats 8000000 in
theorem right5_c (a0 b0 a1 b1 a2 b2 a3 b3 : Nat) (w : World) : Calls Try.prog 16 #[.agg (msgC 5 2 0 0 15 4 false a0 b0 a1 b1 a2 b2 a3 b3)] w fun e w' => e = .returned (.bool true) ∧ Below w.heap.size w w' := by
  have h1 := heap_alloc_new w (.cells (msgC 5 2 0 0 15 4 false a0 b0 a1 b1 a2 b2 a3 b3) 30)
  have hb := (Below.refl w.heap.size w).alloc (Nat.le_refl _) (.cells (msgC 5 2 0 0 15 4 false a0 b0 a1 b1 a2 b2 a3 b3) 30)
  have bare := bare5_c 2 0 0 15 4 false a0 b0 a1 b1 a2 b2 a3 b3
  have same := msame_c 5 2 0 0 15 4 false a0 b0 a1 b1 a2 b2 a3 b3
  unfold msgC at *
  go_enter Try.func16, Try.ntmps16
  go_wp2_with (go_at_call 37; refine (mbet_t _ _ _ (by decide) _).mono ?_; rintro e w' ⟨rfl, rfl⟩)
  generalize w.alloc (.cells #[.int .i64 5, .int .i64 2, .int .i64 0, .int .i64 0, .int .i64 15, .int .i64 4, .bool false, .slice none 0 0, .complex .f64 a0 b0, .complex .f64 a1 b1, .complex .f64 a2 b2, .complex .f64 a3 b3] 30) = W0 at *
  have BARE := Lib.hid bare
  have SAME := Lib.hid same
  have HR0 := Lib.hid (row_drewI h1)
  have HB0 := Lib.hid hb.drew
  obtain ⟨x0, x1, x2, x3, x4, x5, x6, x7, x8, x9, x10, x11, xz⟩ := row12 h1
  have HBOX : Hid True := trivial
  clear h1 hb bare same
  go_region_held_law (fun W => W.cell? ⟨w.heap.size, 0, none⟩ = some (.int .i64 5) ∧ W.cell? ⟨w.heap.size, 1, none⟩ = some (.int .i64 2) ∧ W.cell? ⟨w.heap.size, 2, none⟩ = some (.int .i64 0) ∧ W.cell? ⟨w.heap.size, 3, none⟩ = some (.int .i64 0) ∧ W.cell? ⟨w.heap.size, 4, none⟩ = some (.int .i64 15) ∧ W.cell? ⟨w.heap.size, 5, none⟩ = some (.int .i64 4) ∧ W.cell? ⟨w.heap.size, 6, none⟩ = some (.bool false) ∧ W.cell? ⟨w.heap.size, 7, none⟩ = some (.slice none 0 0) ∧ W.cell? ⟨w.heap.size, 8, none⟩ = some (.complex .f64 a0 b0) ∧ W.cell? ⟨w.heap.size, 9, none⟩ = some (.complex .f64 a1 b1) ∧ W.cell? ⟨w.heap.size, 10, none⟩ = some (.complex .f64 a2 b2) ∧ W.cell? ⟨w.heap.size, 11, none⟩ = some (.complex .f64 a3 b3)) (first | go_keep | exact HBOX.out)
    (first
      | (go_at_call 38; clear HBOX; refine (BARE.out _).mono ?_; rintro e w1 ⟨rfl, hb1⟩; have HR1 := Lib.hid ((hb1.block w.heap.size (lt_of_row (Nat.le_refl _) HR0.out)).trans HR0.out); have HB1 := Lib.hid (HB0.out.trans (hb1.mono HB0.out.size)); have HBOX : Hid (w1.cell? ⟨w.heap.size, 0, none⟩ = some (.int .i64 5) ∧ w1.cell? ⟨w.heap.size, 1, none⟩ = some (.int .i64 2) ∧ w1.cell? ⟨w.heap.size, 2, none⟩ = some (.int .i64 0) ∧ w1.cell? ⟨w.heap.size, 3, none⟩ = some (.int .i64 0) ∧ w1.cell? ⟨w.heap.size, 4, none⟩ = some (.int .i64 15) ∧ w1.cell? ⟨w.heap.size, 5, none⟩ = some (.int .i64 4) ∧ w1.cell? ⟨w.heap.size, 6, none⟩ = some (.bool false) ∧ w1.cell? ⟨w.heap.size, 7, none⟩ = some (.slice none 0 0) ∧ w1.cell? ⟨w.heap.size, 8, none⟩ = some (.complex .f64 a0 b0) ∧ w1.cell? ⟨w.heap.size, 9, none⟩ = some (.complex .f64 a1 b1) ∧ w1.cell? ⟨w.heap.size, 10, none⟩ = some (.complex .f64 a2 b2) ∧ w1.cell? ⟨w.heap.size, 11, none⟩ = some (.complex .f64 a3 b3)) := (by obtain ⟨y0, y1, y2, y3, y4, y5, y6, y7, y8, y9, y10, y11, yz⟩ := row12 HR1.out; exact ⟨y0, y1, y2, y3, y4, y5, y6, y7, y8, y9, y10, y11⟩); clear hb1)
      | (go_at_call 22; clear HBOX; refine (SAME.out _).mono ?_; rintro e w2 ⟨rfl, hb2⟩; have HR2 := Lib.hid ((hb2.block w.heap.size (lt_of_row (Nat.le_refl _) HR1.out)).trans HR1.out); have HB2 := Lib.hid (HB1.out.trans (hb2.mono HB1.out.size)); have HBOX : Hid (w2.cell? ⟨w.heap.size, 0, none⟩ = some (.int .i64 5) ∧ w2.cell? ⟨w.heap.size, 1, none⟩ = some (.int .i64 2) ∧ w2.cell? ⟨w.heap.size, 2, none⟩ = some (.int .i64 0) ∧ w2.cell? ⟨w.heap.size, 3, none⟩ = some (.int .i64 0) ∧ w2.cell? ⟨w.heap.size, 4, none⟩ = some (.int .i64 15) ∧ w2.cell? ⟨w.heap.size, 5, none⟩ = some (.int .i64 4) ∧ w2.cell? ⟨w.heap.size, 6, none⟩ = some (.bool false) ∧ w2.cell? ⟨w.heap.size, 7, none⟩ = some (.slice none 0 0) ∧ w2.cell? ⟨w.heap.size, 8, none⟩ = some (.complex .f64 a0 b0) ∧ w2.cell? ⟨w.heap.size, 9, none⟩ = some (.complex .f64 a1 b1) ∧ w2.cell? ⟨w.heap.size, 10, none⟩ = some (.complex .f64 a2 b2) ∧ w2.cell? ⟨w.heap.size, 11, none⟩ = some (.complex .f64 a3 b3)) := (by obtain ⟨y0, y1, y2, y3, y4, y5, y6, y7, y8, y9, y10, y11, yz⟩ := row12 HR2.out; exact ⟨y0, y1, y2, y3, y4, y5, y6, y7, y8, y9, y10, y11⟩); clear hb2)
      | (go_at_call 39; clear HBOX; refine (wright_c _).mono ?_; rintro e w3 ⟨rfl, hb3⟩; have HR3 := Lib.hid ((hb3.block w.heap.size (lt_of_row (Nat.le_refl _) HR2.out)).trans HR2.out); have HB3 := Lib.hid (HB2.out.trans (hb3.mono HB2.out.size)); have HBOX : Hid (w3.cell? ⟨w.heap.size, 0, none⟩ = some (.int .i64 5) ∧ w3.cell? ⟨w.heap.size, 1, none⟩ = some (.int .i64 2) ∧ w3.cell? ⟨w.heap.size, 2, none⟩ = some (.int .i64 0) ∧ w3.cell? ⟨w.heap.size, 3, none⟩ = some (.int .i64 0) ∧ w3.cell? ⟨w.heap.size, 4, none⟩ = some (.int .i64 15) ∧ w3.cell? ⟨w.heap.size, 5, none⟩ = some (.int .i64 4) ∧ w3.cell? ⟨w.heap.size, 6, none⟩ = some (.bool false) ∧ w3.cell? ⟨w.heap.size, 7, none⟩ = some (.slice none 0 0) ∧ w3.cell? ⟨w.heap.size, 8, none⟩ = some (.complex .f64 a0 b0) ∧ w3.cell? ⟨w.heap.size, 9, none⟩ = some (.complex .f64 a1 b1) ∧ w3.cell? ⟨w.heap.size, 10, none⟩ = some (.complex .f64 a2 b2) ∧ w3.cell? ⟨w.heap.size, 11, none⟩ = some (.complex .f64 a3 b3)) := (by obtain ⟨y0, y1, y2, y3, y4, y5, y6, y7, y8, y9, y10, y11, yz⟩ := row12 HR3.out; exact ⟨y0, y1, y2, y3, y4, y5, y6, y7, y8, y9, y10, y11⟩); clear hb3))
  all_goals
    go_wp2_with fail
    go_ret
    exact ⟨ret_bool (by simp), HB3.out⟩

set_option maxRecDepth 100000 in
set_option maxHeartbeats 8000000 in
theorem right0_c (w : World) : Calls Try.prog 16 #[.agg (msgC 0 0 0 0 0 0 false 0 0 0 0 0 0 0 0)] w fun e w' => e = .returned (.bool true) ∧ Below w.heap.size w w' := by
  have h1 := heap_alloc_new w (.cells (msgC 0 0 0 0 0 0 false 0 0 0 0 0 0 0 0) 30)
  have hb := (Below.refl w.heap.size w).alloc (Nat.le_refl _) (.cells (msgC 0 0 0 0 0 0 false 0 0 0 0 0 0 0 0) 30)
  have bare := bare0_c 0 0 0 0 0 false 0 0 0 0 0 0 0 0
  have same := msame_c 0 0 0 0 0 0 false 0 0 0 0 0 0 0 0
  unfold msgC at *
  go_enter Try.func16, Try.ntmps16
  go_wp2_with (go_at_call 37; refine (mbet_t _ _ _ (by decide) _).mono ?_; rintro e w' ⟨rfl, rfl⟩)
  generalize w.alloc (.cells #[.int .i64 0, .int .i64 0, .int .i64 0, .int .i64 0, .int .i64 0, .int .i64 0, .bool false, .slice none 0 0, .complex .f64 0 0, .complex .f64 0 0, .complex .f64 0 0, .complex .f64 0 0] 30) = W0 at *
  have BARE := Lib.hid bare
  have SAME := Lib.hid same
  have HR0 := Lib.hid (row_drewI h1)
  have HB0 := Lib.hid hb.drew
  obtain ⟨x0, x1, x2, x3, x4, x5, x6, x7, x8, x9, x10, x11, xz⟩ := row12 h1
  have HBOX : Hid True := trivial
  clear h1 hb bare same
  go_region_held_law (fun W => W.cell? ⟨w.heap.size, 0, none⟩ = some (.int .i64 0) ∧ W.cell? ⟨w.heap.size, 1, none⟩ = some (.int .i64 0) ∧ W.cell? ⟨w.heap.size, 2, none⟩ = some (.int .i64 0) ∧ W.cell? ⟨w.heap.size, 3, none⟩ = some (.int .i64 0) ∧ W.cell? ⟨w.heap.size, 4, none⟩ = some (.int .i64 0) ∧ W.cell? ⟨w.heap.size, 5, none⟩ = some (.int .i64 0) ∧ W.cell? ⟨w.heap.size, 6, none⟩ = some (.bool false) ∧ W.cell? ⟨w.heap.size, 7, none⟩ = some (.slice none 0 0) ∧ W.cell? ⟨w.heap.size, 8, none⟩ = some (.complex .f64 0 0) ∧ W.cell? ⟨w.heap.size, 9, none⟩ = some (.complex .f64 0 0) ∧ W.cell? ⟨w.heap.size, 10, none⟩ = some (.complex .f64 0 0) ∧ W.cell? ⟨w.heap.size, 11, none⟩ = some (.complex .f64 0 0)) (first | go_keep | exact HBOX.out)
    (first
      | (go_at_call 38; clear HBOX; refine (BARE.out _).mono ?_; rintro e w1 ⟨rfl, hb1⟩; have HR1 := Lib.hid ((hb1.block w.heap.size (lt_of_row (Nat.le_refl _) HR0.out)).trans HR0.out); have HB1 := Lib.hid (HB0.out.trans (hb1.mono HB0.out.size)); have HBOX : Hid (w1.cell? ⟨w.heap.size, 0, none⟩ = some (.int .i64 0) ∧ w1.cell? ⟨w.heap.size, 1, none⟩ = some (.int .i64 0) ∧ w1.cell? ⟨w.heap.size, 2, none⟩ = some (.int .i64 0) ∧ w1.cell? ⟨w.heap.size, 3, none⟩ = some (.int .i64 0) ∧ w1.cell? ⟨w.heap.size, 4, none⟩ = some (.int .i64 0) ∧ w1.cell? ⟨w.heap.size, 5, none⟩ = some (.int .i64 0) ∧ w1.cell? ⟨w.heap.size, 6, none⟩ = some (.bool false) ∧ w1.cell? ⟨w.heap.size, 7, none⟩ = some (.slice none 0 0) ∧ w1.cell? ⟨w.heap.size, 8, none⟩ = some (.complex .f64 0 0) ∧ w1.cell? ⟨w.heap.size, 9, none⟩ = some (.complex .f64 0 0) ∧ w1.cell? ⟨w.heap.size, 10, none⟩ = some (.complex .f64 0 0) ∧ w1.cell? ⟨w.heap.size, 11, none⟩ = some (.complex .f64 0 0)) := (by obtain ⟨y0, y1, y2, y3, y4, y5, y6, y7, y8, y9, y10, y11, yz⟩ := row12 HR1.out; exact ⟨y0, y1, y2, y3, y4, y5, y6, y7, y8, y9, y10, y11⟩); clear hb1)
      | (go_at_call 22; clear HBOX; refine (SAME.out _).mono ?_; rintro e w2 ⟨rfl, hb2⟩; have HR2 := Lib.hid ((hb2.block w.heap.size (lt_of_row (Nat.le_refl _) HR1.out)).trans HR1.out); have HB2 := Lib.hid (HB1.out.trans (hb2.mono HB1.out.size)); have HBOX : Hid (w2.cell? ⟨w.heap.size, 0, none⟩ = some (.int .i64 0) ∧ w2.cell? ⟨w.heap.size, 1, none⟩ = some (.int .i64 0) ∧ w2.cell? ⟨w.heap.size, 2, none⟩ = some (.int .i64 0) ∧ w2.cell? ⟨w.heap.size, 3, none⟩ = some (.int .i64 0) ∧ w2.cell? ⟨w.heap.size, 4, none⟩ = some (.int .i64 0) ∧ w2.cell? ⟨w.heap.size, 5, none⟩ = some (.int .i64 0) ∧ w2.cell? ⟨w.heap.size, 6, none⟩ = some (.bool false) ∧ w2.cell? ⟨w.heap.size, 7, none⟩ = some (.slice none 0 0) ∧ w2.cell? ⟨w.heap.size, 8, none⟩ = some (.complex .f64 0 0) ∧ w2.cell? ⟨w.heap.size, 9, none⟩ = some (.complex .f64 0 0) ∧ w2.cell? ⟨w.heap.size, 10, none⟩ = some (.complex .f64 0 0) ∧ w2.cell? ⟨w.heap.size, 11, none⟩ = some (.complex .f64 0 0)) := (by obtain ⟨y0, y1, y2, y3, y4, y5, y6, y7, y8, y9, y10, y11, yz⟩ := row12 HR2.out; exact ⟨y0, y1, y2, y3, y4, y5, y6, y7, y8, y9, y10, y11⟩); clear hb2)
      | (go_at_call 39; clear HBOX; refine (wright_c _).mono ?_; rintro e w3 ⟨rfl, hb3⟩; have HR3 := Lib.hid ((hb3.block w.heap.size (lt_of_row (Nat.le_refl _) HR2.out)).trans HR2.out); have HB3 := Lib.hid (HB2.out.trans (hb3.mono HB2.out.size)); have HBOX : Hid (w3.cell? ⟨w.heap.size, 0, none⟩ = some (.int .i64 0) ∧ w3.cell? ⟨w.heap.size, 1, none⟩ = some (.int .i64 0) ∧ w3.cell? ⟨w.heap.size, 2, none⟩ = some (.int .i64 0) ∧ w3.cell? ⟨w.heap.size, 3, none⟩ = some (.int .i64 0) ∧ w3.cell? ⟨w.heap.size, 4, none⟩ = some (.int .i64 0) ∧ w3.cell? ⟨w.heap.size, 5, none⟩ = some (.int .i64 0) ∧ w3.cell? ⟨w.heap.size, 6, none⟩ = some (.bool false) ∧ w3.cell? ⟨w.heap.size, 7, none⟩ = some (.slice none 0 0) ∧ w3.cell? ⟨w.heap.size, 8, none⟩ = some (.complex .f64 0 0) ∧ w3.cell? ⟨w.heap.size, 9, none⟩ = some (.complex .f64 0 0) ∧ w3.cell? ⟨w.heap.size, 10, none⟩ = some (.complex .f64 0 0) ∧ w3.cell? ⟨w.heap.size, 11, none⟩ = some (.complex .f64 0 0)) := (by obtain ⟨y0, y1, y2, y3, y4, y5, y6, y7, y8, y9, y10, y11, yz⟩ := row12 HR3.out; exact ⟨y0, y1, y2, y3, y4, y5, y6, y7, y8, y9, y10, y11⟩); clear hb3))
  all_goals
    go_wp2_with fail
    go_ret
    exact ⟨ret_bool (by simp), HB3.out⟩

end Go.Proofs.Ytbhjdapkhcgmlaa

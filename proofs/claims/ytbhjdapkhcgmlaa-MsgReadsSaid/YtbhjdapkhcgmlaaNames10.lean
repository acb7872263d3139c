import Derived.Test.YtbhjdapkhcgmlaaMsgJ
import Derived.Handy
import Derived.Deep.Cut

set_option linter.unusedSimpArgs false
set_option linter.unusedVariables false
set_option linter.unnecessarySimpa false

namespace Go.Proofs.Ytbhjdapkhcgmlaa
open Go.RowKit

attribute [local go_sem] run_store_complex

/-! cloakroomlaw10.msgAlive. -/

set_option maxRecDepth 1000000 in
set_option maxHeartbeats 8000000 in
theorem alive_c (w : World) : Calls Try.prog 7 #[] w fun e w' => e = .returned (.bool true) ∧ Below w.heap.size w w' := by
  have bytes := mbytes5_c 4607182418800017408 0 4611686018427387904 4613937818241073152 0 0 0 0
  have read := mread5_c 4607182418800017408 0 4611686018427387904 4613937818241073152 0 0 0 0 good_one good_two good_zero good_zero
  have same := msame_c 5 2 0 0 15 4 false 4607182418800017408 0 4611686018427387904 4613937818241073152 0 0 0 0
  rw [show numsB [5, 2, 0, 0, 15, 4, 0, 0] ++ flatV [(4607182418800017408, 0), (4611686018427387904, 4613937818241073152), (0, 0), (0, 0)] = body5 from rfl] at bytes read
  have BYTES := Lib.hid bytes
  have READ := Lib.hid read
  have SAME := Lib.hid same
  clear bytes read same
  unfold msgC at *
  go_enter Try.func7, Try.ntmps7
  go_wp2_with fail
  have hm := heap_alloc_new w (Obj.cells #[.int .i64 5, .int .i64 2, .int .i64 0, .int .i64 0, .int .i64 15, .int .i64 4, .bool false, .slice none 0 0, .complex .f64 4607182418800017408 0, .complex .f64 4611686018427387904 4613937818241073152, .complex .f64 0 0, .complex .f64 0 0] 30)
  have hb0 := (Below.refl w.heap.size w).alloc (Nat.le_refl _) (Obj.cells #[.int .i64 5, .int .i64 2, .int .i64 0, .int .i64 0, .int .i64 15, .int .i64 4, .bool false, .slice none 0 0, .complex .f64 4607182418800017408 0, .complex .f64 4611686018427387904 4613937818241073152, .complex .f64 0 0, .complex .f64 0 0] 30)
  generalize w.alloc (Obj.cells #[.int .i64 5, .int .i64 2, .int .i64 0, .int .i64 0, .int .i64 15, .int .i64 4, .bool false, .slice none 0 0, .complex .f64 4607182418800017408 0, .complex .f64 4611686018427387904 4613937818241073152, .complex .f64 0 0, .complex .f64 0 0] 30) = W0 at *
  refine (BYTES.out W0).mono ?_; rintro e w1 ⟨A1, c1, rfl, ho1, hb1⟩
  have HM1 := Lib.hid ((hb1.block w.heap.size (lt_of_row (Nat.le_refl _) hm)).trans hm)
  have HB1 := Lib.hid (hb0.trans (hb1.mono hb0.size))
  have HO1 := Lib.hid ho1
  clear hm hb0 hb1 ho1
  go_wp2_with fail
  have hle : 88 ≤ c1 := by have := HO1.out.le; rw [body5_length] at this; exact this
  refine (READ.out A1 c1 w1 HO1.out.rd HO1.out.nil_cap hle HO1.out.cap).mono ?_; rintro e w2 ⟨rfl, hb2⟩
  have HM2 := Lib.hid ((hb2.block w.heap.size (lt_of_row (Nat.le_refl _) HM1.out)).trans HM1.out)
  have HB2 := Lib.hid (HB1.out.trans (hb2.mono HB1.out.size))
  have HO2 := Lib.hid (HO1.out.below hb2)
  have HLM : Hid (w.heap.size < w2.heap.size) := lt_of_row (Nat.le_refl _) HM2.out
  clear HM1 HB1 HO1 hb2 hle
  go_wp2_with fail
  have hx := heap_alloc2_old w2 (Obj.cells #[.int .i64 5, .int .i64 2, .int .i64 0, .int .i64 0, .int .i64 15, .int .i64 4, .bool false, .slice none 0 0, .complex .f64 4607182418800017408 0, .complex .f64 4611686018427387904 4613937818241073152, .complex .f64 0 0, .complex .f64 0 0] 30) (Obj.cells #[.int .i64 1, .int .i64 2, .int .i64 3, .int .i64 4, .int .i64 5, .bool true, .slice A1 88 c1] 39)
  have hbx := below2 w2 (Obj.cells #[.int .i64 5, .int .i64 2, .int .i64 0, .int .i64 0, .int .i64 15, .int .i64 4, .bool false, .slice none 0 0, .complex .f64 4607182418800017408 0, .complex .f64 4611686018427387904 4613937818241073152, .complex .f64 0 0, .complex .f64 0 0] 30) (Obj.cells #[.int .i64 1, .int .i64 2, .int .i64 3, .int .i64 4, .int .i64 5, .bool true, .slice A1 88 c1] 39)
  generalize (w2.alloc (Obj.cells #[.int .i64 5, .int .i64 2, .int .i64 0, .int .i64 0, .int .i64 15, .int .i64 4, .bool false, .slice none 0 0, .complex .f64 4607182418800017408 0, .complex .f64 4611686018427387904 4613937818241073152, .complex .f64 0 0, .complex .f64 0 0] 30)).alloc (Obj.cells #[.int .i64 1, .int .i64 2, .int .i64 3, .int .i64 4, .int .i64 5, .bool true, .slice A1 88 c1] 39) = W3 at *
  have HX3 := Lib.hid hx
  have HM3 := Lib.hid ((hbx.block w.heap.size HLM.out).trans HM2.out)
  have HB3 := Lib.hid (HB2.out.trans (hbx.mono HB2.out.size))
  have HO3 := Lib.hid (HO2.out.below hbx)
  have HPX : Hid (w2.heap.size < W3.heap.size) := lt_of_row (Nat.le_refl _) hx
  have HWX : Hid (w.heap.size < w2.heap.size) := HLM.out
  clear hx hbx HM2 HB2 HO2 HLM BYTES READ
  generalize w2.heap.size = X at *
  refine (frame5_c A1 c1 W3 HO3.out.rd HO3.out.nil_cap).mono ?_; rintro e w4 ⟨A4, c4, rfl, ho4, hb4⟩
  have HX4 := Lib.hid ((hb4.block X HPX.out).trans HX3.out)
  have HM4 := Lib.hid ((hb4.block w.heap.size (Nat.lt_trans HWX.out HPX.out)).trans HM3.out)
  have HB4 := Lib.hid (HB3.out.trans (hb4.mono HB3.out.size))
  have HO4 := Lib.hid (HO3.out.below hb4)
  have HY4 := Lib.hid ho4
  clear ho4 hb4 HX3 HM3 HB3 HO3 HPX
  go_wp2_with fail
  refine (open5_c A4 c4 w4 HY4.out.rd HY4.out.nil_cap HY4.out.le).mono ?_; rintro e w5 ⟨A5, c5, rfl, ho5, hb5⟩
  have hx5 := (hb5.block X (lt_of_row (Nat.le_refl _) HX4.out)).trans HX4.out
  have hm5 := (hb5.block w.heap.size (lt_of_row (Nat.le_refl _) HM4.out)).trans HM4.out
  have HX5 := Lib.hid hx5
  have HM5 := Lib.hid hm5
  have HB5 := Lib.hid (HB4.out.trans (hb5.mono HB4.out.size))
  have HO5 := Lib.hid (HO4.out.below hb5)
  have HY5 := Lib.hid (HY4.out.below hb5)
  have HQ5 := Lib.hid ho5
  clear ho5 hb5 hx5 hm5 HX4 HM4 HB4 HO4 HY4
  go_wp2_with fail
  have hq := heap_alloc_new w5 (Obj.cells #[.int .i64 1, .int .i64 2, .int .i64 3, .int .i64 4, .int .i64 5, .bool true, .slice A5 88 c5] 39)
  have hbq := (Below.refl w5.heap.size w5).alloc (Nat.le_refl _) (Obj.cells #[.int .i64 1, .int .i64 2, .int .i64 3, .int .i64 4, .int .i64 5, .bool true, .slice A5 88 c5] 39)
  generalize w5.alloc (Obj.cells #[.int .i64 1, .int .i64 2, .int .i64 3, .int .i64 4, .int .i64 5, .bool true, .slice A5 88 c5] 39) = W6 at *
  have hl5 := lt_of_row (Nat.le_refl _) HX5.out
  have hx6 := (hbq.block X hl5).trans HX5.out
  have hm6 := (hbq.block w.heap.size (Nat.lt_trans HWX.out hl5)).trans HM5.out
  have HX6 := Lib.hid hx6
  have HM6 := Lib.hid hm6
  have HK6 := Lib.hid hq
  have HB6 := Lib.hid (HB5.out.trans (hbq.mono HB5.out.size))
  have HO6 := Lib.hid (HO5.out.below hbq)
  have HY6 := Lib.hid (HY5.out.below hbq)
  have HQ6 := Lib.hid (HQ5.out.below hbq)
  clear hq hbq hx6 hm6 hl5 HX5 HM5 HB5 HO5 HY5 HQ5
  generalize w5.heap.size = K5 at *
  refine (burst5_c A4 c4 W6 HY6.out.rd HY6.out.nil_cap).mono ?_; rintro e w7 ⟨A7, c7, rfl, ho7, hb7⟩
  have HX7 := Lib.hid ((hb7.block X (lt_of_row (Nat.le_refl _) HX6.out)).trans HX6.out)
  have HM7 := Lib.hid ((hb7.block w.heap.size (lt_of_row (Nat.le_refl _) HM6.out)).trans HM6.out)
  have HK7 := Lib.hid ((hb7.block K5 (lt_of_row (Nat.le_refl _) HK6.out)).trans HK6.out)
  have HB7 := Lib.hid (HB6.out.trans (hb7.mono HB6.out.size))
  have HO7 := Lib.hid (HO6.out.below hb7)
  have HQ7 := Lib.hid (HQ6.out.below hb7)
  have HZ7 := Lib.hid ho7
  clear ho7 hb7 HX6 HM6 HK6 HB6 HO6 HY6 HQ6
  go_wp2_with fail
  refine (open5b_c A7 c7 w7 HZ7.out.rd HZ7.out.nil_cap HZ7.out.le).mono ?_; rintro e w8 ⟨A8, c8, rfl, hb8⟩
  have hx8 := (hb8.block X (lt_of_row (Nat.le_refl _) HX7.out)).trans HX7.out
  have hm8 := (hb8.block w.heap.size (lt_of_row (Nat.le_refl _) HM7.out)).trans HM7.out
  have hk8 := (hb8.block K5 (lt_of_row (Nat.le_refl _) HK7.out)).trans HK7.out
  have HX8 := Lib.hid hx8
  have HM8 := Lib.hid hm8
  have HK8 := Lib.hid hk8
  have HB8 := Lib.hid (HB7.out.trans (hb8.mono HB7.out.size))
  have HO8 := Lib.hid (HO7.out.below hb8)
  have HQ8 := Lib.hid (HQ7.out.below hb8)
  clear hb8 HX7 HM7 HK7 HB7 HO7 HQ7 HZ7
  obtain ⟨x0, x1, x2, x3, x4, x5, x6, x7, x8, x9, x10, x11, xz⟩ := row12 hx8
  obtain ⟨y0, y1, y2, y3, y4, y5, y6, y7, y8, y9, y10, y11, yz⟩ := row12 hm8
  obtain ⟨k0, k1, k2, k3, k4, k5, k6⟩ := row7 hk8
  clear hx8 hm8 hk8
  have x0a := fun o => cell_alloc o x0
  have x1a := fun o => cell_alloc o x1
  have x2a := fun o => cell_alloc o x2
  have x3a := fun o => cell_alloc o x3
  have x4a := fun o => cell_alloc o x4
  have x5a := fun o => cell_alloc o x5
  have x6a := fun o => cell_alloc o x6
  have x7a := fun o => cell_alloc o x7
  have x8a := fun o => cell_alloc o x8
  have x9a := fun o => cell_alloc o x9
  have x10a := fun o => cell_alloc o x10
  have x11a := fun o => cell_alloc o x11
  have y0a := fun o => cell_alloc o y0
  have y1a := fun o => cell_alloc o y1
  have y2a := fun o => cell_alloc o y2
  have y3a := fun o => cell_alloc o y3
  have y4a := fun o => cell_alloc o y4
  have y5a := fun o => cell_alloc o y5
  have y6a := fun o => cell_alloc o y6
  have y7a := fun o => cell_alloc o y7
  have y8a := fun o => cell_alloc o y8
  have y9a := fun o => cell_alloc o y9
  have y10a := fun o => cell_alloc o y10
  have y11a := fun o => cell_alloc o y11
  have k0a := fun o => cell_alloc o k0
  have k1a := fun o => cell_alloc o k1
  have k2a := fun o => cell_alloc o k2
  have k3a := fun o => cell_alloc o k3
  have k4a := fun o => cell_alloc o k4
  have k5a := fun o => cell_alloc o k5
  have k6a := fun o => cell_alloc o k6
  go_wp2_with fail
  clear x0a x1a x2a x3a x4a x5a x6a x7a x8a x9a x10a x11a y0a y1a y2a y3a y4a y5a y6a y7a y8a y9a y10a y11a k0a k1a k2a k3a k4a k5a k6a x0 x1 x2 x3 x4 x5 x6 x7 x8 x9 x10 x11 xz y0 y1 y2 y3 y4 y5 y6 y7 y8 y9 y10 y11 yz k0 k1 k2 k3 k4 k5 k6
  have hbn := (Below.refl w8.heap.size w8).alloc (Nat.le_refl _) (Obj.cells #[.int .i64 0, .int .i64 0, .int .i64 0, .int .i64 0, .int .i64 0, .bool false, .slice A8 0 c8] 39)
  have hk9 := (hbn.block K5 (lt_of_row (Nat.le_refl _) HK8.out)).trans HK8.out
  have hb9 := HB8.out.trans (hbn.mono HB8.out.size)
  have ho9 := HO8.out.below hbn
  have hq9 := HQ8.out.below hbn
  clear hbn HX8 HM8 HK8 HB8 HO8 HQ8
  generalize w8.alloc (Obj.cells #[.int .i64 0, .int .i64 0, .int .i64 0, .int .i64 0, .int .i64 0, .bool false, .slice A8 0 c8] 39) = w9 at *
  refine (SAME.out w9).mono ?_; rintro e w10 ⟨rfl, hb10⟩
  have hk10 := (hb10.block K5 (lt_of_row (Nat.le_refl _) hk9)).trans hk9
  have HB10 := Lib.hid (hb9.trans (hb10.mono hb9.size))
  have HO10 := Lib.hid (ho9.below hb10)
  have HQ10 := Lib.hid (hq9.below hb10)
  obtain ⟨k0, k1, k2, k3, k4, k5, k6⟩ := row7 hk10
  clear hk9 hb9 ho9 hq9 hb10 hk10 SAME
  have s1 := str8 (c := c1) HO10.out.rd body5_length
  have s2 := str8 (c := c5) HQ10.out.rd body5_length
  go_wp2_with fail
  go_ret
  exact ⟨ret_bool (by simp), HB10.out⟩

set_option maxRecDepth 1000000 in
set_option maxHeartbeats 8000000 in
theorem names_c (w : World) : Calls Try.prog 3 #[] w fun e w' => e = .returned (.bool true) ∧ Below w.heap.size w w' := by
  have bytes := mbytes0_c
  unfold msgC at bytes
  have BYTES := Lib.hid bytes
  clear bytes
  go_enter Try.func3, Try.ntmps3
  go_wp2_with fail
  refine (BYTES.out _).mono ?_; rintro e w1 ⟨A1, c1, rfl, hb1⟩
  have HB1 := Lib.hid hb1
  clear hb1
  go_wp2_with fail
  refine (alive_c _).mono ?_; rintro e w2 ⟨rfl, hb2⟩
  have HB2 := Lib.hid (HB1.out.trans (hb2.mono HB1.out.size))
  clear hb2
  go_wp2_with fail
  go_ret
  exact ⟨ret_bool (by simp), HB2.out⟩

end Go.Proofs.Ytbhjdapkhcgmlaa

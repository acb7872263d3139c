import Derived.Test.YticnofemjnpjoaaPtR

set_option linter.unusedSimpArgs false
set_option linter.unusedVariables false
set_option linter.unnecessarySimpa false

namespace Go.Proofs.Yticnofemjnpjoaa
open Go.RowKit

attribute [local go_sem] run_store_complex

/-! pastAlive. -/

theorem six_is_six : (FloatKind.f64.format.order 4618441417868443648 4618441417868443648 == some Ordering.eq && FloatKind.f64.format.order 0 0 == some Ordering.eq) = true := by decide +kernel

set_option maxRecDepth 100000 in
set_option maxHeartbeats 8000000 in
theorem alive_c (w : World) : Calls Try.prog 4 #[] w fun e w' => e = .returned (.bool true) ∧ Below w.heap.size w w' := by
  go_enter Try.func4, Try.ntmps4
  go_wp2_with fail
  have hal := (Below.refl w.heap.size w).alloc (Nat.le_refl _) (.cells #[.bool true, .int .i64 0, .int .i64 0, .complex .f64 4617315517961601024 0] 37)
  have hrw := heap_alloc_new w (.cells #[.bool true, .int .i64 0, .int .i64 0, .complex .f64 4617315517961601024 0] 37)
  generalize w.alloc (.cells #[.bool true, .int .i64 0, .int .i64 0, .complex .f64 4617315517961601024 0] 37) = W1 at *
  have HB1 := Lib.hid hal
  have HE1 := Lib.hid (rdE1 hrw)
  clear hal hrw
  refine (deal_c 1 1 3 (some ⟨w.heap.size, 0, none⟩) 1 1 W1).mono ?_; rintro e w2 ⟨rfl, hb⟩
  have HB2 := Lib.hid (HB1.out.trans (hb.mono HB1.out.size))
  have HE2 := Lib.hid (HE1.out.below hb)
  clear HB1 HE1 hb
  go_wp2_with fail
  have hal := (Below.refl w2.heap.size w2).alloc (Nat.le_refl _) (.cells #[.bool false, .int .i64 0, .int .i64 0, .complex .f64 4617315517961601024 0, .bool true, .int .i64 0, .int .i64 0, .complex .f64 4618441417868443648 0, .bool false, .int .i64 0, .int .i64 0, .complex .f64 4618441417868443648 0] 37)
  have hrw := heap_alloc_new w2 (.cells #[.bool false, .int .i64 0, .int .i64 0, .complex .f64 4617315517961601024 0, .bool true, .int .i64 0, .int .i64 0, .complex .f64 4618441417868443648 0, .bool false, .int .i64 0, .int .i64 0, .complex .f64 4618441417868443648 0] 37)
  generalize w2.alloc (.cells #[.bool false, .int .i64 0, .int .i64 0, .complex .f64 4617315517961601024 0, .bool true, .int .i64 0, .int .i64 0, .complex .f64 4618441417868443648 0, .bool false, .int .i64 0, .int .i64 0, .complex .f64 4618441417868443648 0] 37) = W3 at *
  have HB3 := Lib.hid (HB2.out.trans (hal.mono HB2.out.size))
  have HE3 := Lib.hid (HE2.out.below hal)
  have HF3 := Lib.hid (rdE2 hrw)
  clear HB2 HE2 hal hrw
  refine (deal_c 2 4 6 (some ⟨w2.heap.size, 0, none⟩) 3 3 W3).mono ?_; rintro e w4 ⟨rfl, hb⟩
  have HB4 := Lib.hid (HB3.out.trans (hb.mono HB3.out.size))
  have HE4 := Lib.hid (HE3.out.below hb)
  have HF4 := Lib.hid (HF3.out.below hb)
  clear HB3 HE3 HF3 hb
  go_wp2_with fail
  have hal := (Below.refl w4.heap.size w4).alloc (Nat.le_refl _) (.cells #[.int .i64 1, .int .i64 1, .int .i64 1, .int .i64 1, .int .i64 3, .int .i64 1, .slice (some ⟨w.heap.size, 0, none⟩) 1 1, .int .i64 1, .int .i64 1, .int .i64 2, .int .i64 4, .int .i64 6, .int .i64 1, .slice (some ⟨w2.heap.size, 0, none⟩) 3 3] 33)
  have hrw := heap_alloc_new w4 (.cells #[.int .i64 1, .int .i64 1, .int .i64 1, .int .i64 1, .int .i64 3, .int .i64 1, .slice (some ⟨w.heap.size, 0, none⟩) 1 1, .int .i64 1, .int .i64 1, .int .i64 2, .int .i64 4, .int .i64 6, .int .i64 1, .slice (some ⟨w2.heap.size, 0, none⟩) 3 3] 33)
  generalize w4.alloc (.cells #[.int .i64 1, .int .i64 1, .int .i64 1, .int .i64 1, .int .i64 3, .int .i64 1, .slice (some ⟨w.heap.size, 0, none⟩) 1 1, .int .i64 1, .int .i64 1, .int .i64 2, .int .i64 4, .int .i64 6, .int .i64 1, .slice (some ⟨w2.heap.size, 0, none⟩) 3 3] 33) = W5 at *
  have HB5 := Lib.hid (HB4.out.trans (hal.mono HB4.out.size))
  have HE5 := Lib.hid (HE4.out.below hal)
  have HF5 := Lib.hid (HF4.out.below hal)
  have HD5 := Lib.hid (rdDL hrw)
  clear HB4 HE4 HF4 hal hrw
  refine (commit_c 1 1 4617315517961601024 0 W5).mono ?_; rintro e w6 ⟨p1, rfl, hp, hb⟩
  have HB6 := Lib.hid (HB5.out.trans (hb.mono HB5.out.size))
  have HE6 := Lib.hid (HE5.out.below hb)
  have HF6 := Lib.hid (HF5.out.below hb)
  have HD6 := Lib.hid (HD5.out.below hb)
  have Hp16 := Lib.hid (rdPut hp)
  clear HB5 HE5 HF5 HD5 hb hp
  go_wp2_with fail
  refine (commit_c 2 2 4618441417868443648 0 w6).mono ?_; rintro e w7 ⟨p2, rfl, hp, hb⟩
  have HB7 := Lib.hid (HB6.out.trans (hb.mono HB6.out.size))
  have HE7 := Lib.hid (HE6.out.below hb)
  have HF7 := Lib.hid (HF6.out.below hb)
  have HD7 := Lib.hid (HD6.out.below hb)
  have Hp17 := Lib.hid (Hp16.out.below hb)
  have Hp27 := Lib.hid (rdPut hp)
  clear HB6 HE6 HF6 HD6 Hp16 hb hp
  go_wp2_with fail
  have hal := (Below.refl w7.heap.size w7).alloc (Nat.le_refl _) (.cells #[.int .i64 1, .int .i64 1, .int .i64 1, .int .i64 1, .slice (some ⟨p1, 0, none⟩) 1 1, .int .i64 2, .int .i64 1, .int .i64 1, .int .i64 2, .slice (some ⟨p2, 0, none⟩) 1 1] 27)
  have hrw := heap_alloc_new w7 (.cells #[.int .i64 1, .int .i64 1, .int .i64 1, .int .i64 1, .slice (some ⟨p1, 0, none⟩) 1 1, .int .i64 2, .int .i64 1, .int .i64 1, .int .i64 2, .slice (some ⟨p2, 0, none⟩) 1 1] 27)
  generalize w7.alloc (.cells #[.int .i64 1, .int .i64 1, .int .i64 1, .int .i64 1, .slice (some ⟨p1, 0, none⟩) 1 1, .int .i64 2, .int .i64 1, .int .i64 1, .int .i64 2, .slice (some ⟨p2, 0, none⟩) 1 1] 27) = W8 at *
  have HB8 := Lib.hid (HB7.out.trans (hal.mono HB7.out.size))
  have HE8 := Lib.hid (HE7.out.below hal)
  have HF8 := Lib.hid (HF7.out.below hal)
  have HD8 := Lib.hid (HD7.out.below hal)
  have Hp18 := Lib.hid (Hp17.out.below hal)
  have Hp28 := Lib.hid (Hp27.out.below hal)
  have HL8 := Lib.hid (rdB2 hrw Hp18.out Hp28.out)
  clear HB7 HE7 HF7 HD7 Hp17 Hp27 Hp18 Hp28 hal hrw
  refine (commit_c 1 2 4618441417868443648 0 W8).mono ?_; rintro e w9 ⟨p3, rfl, hp, hb⟩
  have HB9 := Lib.hid (HB8.out.trans (hb.mono HB8.out.size))
  have HE9 := Lib.hid (HE8.out.below hb)
  have HF9 := Lib.hid (HF8.out.below hb)
  have HD9 := Lib.hid (HD8.out.below hb)
  have HL9 := Lib.hid (HL8.out.below hb)
  have Hp39 := Lib.hid (rdPut hp)
  clear HB8 HE8 HF8 HD8 HL8 hb hp
  go_wp2_with fail
  refine (commit_c 2 1 4617315517961601024 0 w9).mono ?_; rintro e w10 ⟨p4, rfl, hp, hb⟩
  have HB10 := Lib.hid (HB9.out.trans (hb.mono HB9.out.size))
  have HE10 := Lib.hid (HE9.out.below hb)
  have HF10 := Lib.hid (HF9.out.below hb)
  have HD10 := Lib.hid (HD9.out.below hb)
  have HL10 := Lib.hid (HL9.out.below hb)
  have Hp310 := Lib.hid (Hp39.out.below hb)
  have Hp410 := Lib.hid (rdPut hp)
  clear HB9 HE9 HF9 HD9 HL9 Hp39 hb hp
  go_wp2_with fail
  have hal := (Below.refl w10.heap.size w10).alloc (Nat.le_refl _) (.cells #[.int .i64 1, .int .i64 1, .int .i64 1, .int .i64 2, .slice (some ⟨p3, 0, none⟩) 1 1, .int .i64 2, .int .i64 1, .int .i64 1, .int .i64 1, .slice (some ⟨p4, 0, none⟩) 1 1] 27)
  have hrw := heap_alloc_new w10 (.cells #[.int .i64 1, .int .i64 1, .int .i64 1, .int .i64 2, .slice (some ⟨p3, 0, none⟩) 1 1, .int .i64 2, .int .i64 1, .int .i64 1, .int .i64 1, .slice (some ⟨p4, 0, none⟩) 1 1] 27)
  generalize w10.alloc (.cells #[.int .i64 1, .int .i64 1, .int .i64 1, .int .i64 2, .slice (some ⟨p3, 0, none⟩) 1 1, .int .i64 2, .int .i64 1, .int .i64 1, .int .i64 1, .slice (some ⟨p4, 0, none⟩) 1 1] 27) = W11 at *
  have HB11 := Lib.hid (HB10.out.trans (hal.mono HB10.out.size))
  have HE11 := Lib.hid (HE10.out.below hal)
  have HF11 := Lib.hid (HF10.out.below hal)
  have HD11 := Lib.hid (HD10.out.below hal)
  have HL11 := Lib.hid (HL10.out.below hal)
  have Hp311 := Lib.hid (Hp310.out.below hal)
  have Hp411 := Lib.hid (Hp410.out.below hal)
  have HK11 := Lib.hid (rdB2 hrw Hp311.out Hp411.out)
  clear HB10 HE10 HF10 HD10 HL10 Hp310 Hp410 Hp311 Hp411 hal hrw
  have HS11 : Hid (Start W11 w4.heap.size w7.heap.size w10.heap.size w.heap.size w2.heap.size p1 p2 p3 p4) := ⟨HD11.out, HL11.out, HK11.out, HE11.out, HF11.out⟩
  clear HD11 HL11 HK11 HE11 HF11
  refine (serial_c w4.heap.size w7.heap.size (DL w.heap.size w2.heap.size) [(⟨1, 1, p1, 1, 4617315517961601024, 0⟩, E1), (⟨2, 2, p2, 1, 4618441417868443648, 0⟩, E2)] 2 2 2 2 rfl (by omega) rfl (by omega) W11 HS11.out.d HS11.out.l (by intro x hx; simp at hx; rcases hx with rfl | rfl; exact HS11.out.fit1 _ _; exact HS11.out.fit2 _ _)).mono ?_; rintro e w12 ⟨he, hb⟩
  rw [serial_yes] at he
  subst he
  have HB12 := Lib.hid (HB11.out.trans (hb.mono HB11.out.size))
  have HS12 := Lib.hid (HS11.out.below hb)
  clear HB11 HS11 hb
  go_wp2_with fail
  refine (told_c w4.heap.size w7.heap.size (DL w.heap.size w2.heap.size) [⟨1, 1, p1, 1, 4617315517961601024, 0⟩, ⟨2, 2, p2, 1, 4618441417868443648, 0⟩] [1, 2] 2 2 2 2 rfl (by omega) rfl (by omega) txs_l done_DL w12 HS12.out.d HS12.out.l).mono ?_; rintro e w13 ⟨he, hb⟩
  rw [told_yes] at he
  subst he
  have HB13 := Lib.hid (HB12.out.trans (hb.mono HB12.out.size))
  have HS13 := Lib.hid (HS12.out.below hb)
  clear HB12 HS12 hb
  go_wp2_with fail
  refine (order_c w4.heap.size w7.heap.size (DL w.heap.size w2.heap.size) [⟨1, 1, p1, 1, 4617315517961601024, 0⟩, ⟨2, 2, p2, 1, 4618441417868443648, 0⟩] [1, 2] (fun t => t - 1) 2 2 2 2 rfl (by omega) rfl (by omega) txs_l done_DL pos_l w13 HS13.out.d HS13.out.l).mono ?_; rintro e w14 ⟨he, hb⟩
  rw [order_yes] at he
  subst he
  have HB14 := Lib.hid (HB13.out.trans (hb.mono HB13.out.size))
  have HS14 := Lib.hid (HS13.out.below hb)
  clear HB13 HS13 hb
  go_wp2_with fail
  refine (serial_c w4.heap.size w10.heap.size (DL w.heap.size w2.heap.size) [(⟨1, 2, p3, 1, 4618441417868443648, 0⟩, E2), (⟨2, 1, p4, 1, 4617315517961601024, 0⟩, E1)] 2 2 2 2 rfl (by omega) rfl (by omega) w14 HS14.out.d HS14.out.k (by intro x hx; simp at hx; rcases hx with rfl | rfl; exact HS14.out.fit2 _ _; exact HS14.out.fit1 _ _)).mono ?_; rintro e w15 ⟨he, hb⟩
  rw [serial_no] at he
  subst he
  have HB15 := Lib.hid (HB14.out.trans (hb.mono HB14.out.size))
  have HS15 := Lib.hid (HS14.out.below hb)
  clear HB14 HS14 hb
  go_wp2_with fail
  refine (order_c w4.heap.size w10.heap.size (DL w.heap.size w2.heap.size) [⟨1, 2, p3, 1, 4618441417868443648, 0⟩, ⟨2, 1, p4, 1, 4617315517961601024, 0⟩] [2, 1] (fun t => 2 - t) 2 2 2 2 rfl (by omega) rfl (by omega) txs_k done_DL pos_k w15 HS15.out.d HS15.out.k).mono ?_; rintro e w16 ⟨he, hb⟩
  rw [order_no] at he
  subst he
  have HB16 := Lib.hid (HB15.out.trans (hb.mono HB15.out.size))
  have HS16 := Lib.hid (HS15.out.below hb)
  clear HB15 HS15 hb
  go_wp2_with fail
  refine (told_c w4.heap.size w7.heap.size (DL w.heap.size w2.heap.size) [⟨1, 1, p1, 1, 4617315517961601024, 0⟩] [1] 2 2 1 2 rfl (by omega) rfl (by omega) txs_1 done_DL w16 HS16.out.d HS16.out.l.first).mono ?_; rintro e w17 ⟨he, hb⟩
  rw [told_no] at he
  subst he
  have HB17 := Lib.hid (HB16.out.trans (hb.mono HB16.out.size))
  have HS17 := Lib.hid (HS16.out.below hb)
  clear HB16 HS16 hb
  obtain ⟨y0, y1, y2, y3, y4, -⟩ := HS17.out.l 1 _ rfl
  have z0 : w17.cell? ⟨w7.heap.size, 5, none⟩ = some (.int .i64 2) := y0
  have z1 : w17.cell? ⟨w7.heap.size, 6, none⟩ = some (.int .i64 1) := y1
  have z2 : w17.cell? ⟨w7.heap.size, 7, none⟩ = some (.int .i64 1) := y2
  have z3 : w17.cell? ⟨w7.heap.size, 8, none⟩ = some (.int .i64 2) := y3
  have z4 : w17.cell? ⟨w7.heap.size, 9, none⟩ = some (.slice (some ⟨p2, 0, none⟩) 1 1) := y4
  clear y0 y1 y2 y3 y4
  go_wp2_with fail
  refine (find_c w4.heap.size (DL w.heap.size w2.heap.size) 2 2 2 1 1 2 (.slice (some ⟨p2, 0, none⟩) 1 1) rfl (by omega) w17 HS17.out.d).mono ?_; rintro e w18 ⟨he, hb⟩
  rw [find_yes] at he
  subst he
  have HB18 := Lib.hid (HB17.out.trans (hb.mono HB17.out.size))
  have HS18 := Lib.hid (HS17.out.below hb)
  clear HB17 HS17 hb
  go_wp2_with fail
  refine (replay_c w7.heap.size [⟨1, 1, p1, 1, 4617315517961601024, 0⟩, ⟨2, 2, p2, 1, 4618441417868443648, 0⟩] 2 2 rfl (by omega) w18 HS18.out.l).mono ?_; rintro e w19 ⟨g, rfl, hp, -, hb⟩
  have HB19 := Lib.hid (HB18.out.trans (hb.mono HB18.out.size))
  have hp2 : Pgs w19 g 2 4618441417868443648 0 := hp
  obtain ⟨g0, g1, gz⟩ := hp2.at
  clear hp hp2 hb HB18 HS18
  go_wp2_with fail
  go_ret
  exact ⟨ret_bool six_is_six, HB19.out⟩

set_option maxHeartbeats 4000000 in
theorem names_c (w : World) : Calls Try.prog 3 #[] w fun e w' => e = .returned (.bool true) ∧ Below w.heap.size w w' := by
  go_enter Try.func3, Try.ntmps3
  go_wp2_with fail
  refine (alive_c w).mono ?_; rintro e w1 ⟨rfl, hb⟩
  have HB1 := Lib.hid hb
  clear hb
  go_wp2_with fail
  refine (serial_nil w1).mono ?_; rintro e w2 ⟨rfl, hb⟩
  have HB2 := Lib.hid (HB1.out.trans (hb.mono HB1.out.size))
  clear hb HB1
  go_wp2_with fail
  refine (told_nil w2).mono ?_; rintro e w3 ⟨rfl, hb⟩
  have HB3 := Lib.hid (HB2.out.trans (hb.mono HB2.out.size))
  clear hb HB2
  go_wp2_with fail
  refine (order_nil w3).mono ?_; rintro e w4 ⟨rfl, hb⟩
  have HB4 := Lib.hid (HB3.out.trans (hb.mono HB3.out.size))
  clear hb HB3
  go_wp2_with fail
  refine (find_nil 0 0 0 0 0 (.slice none 0 0) w4).mono ?_; rintro e w5 ⟨rfl, hb⟩
  have HB5 := Lib.hid (HB4.out.trans (hb.mono HB4.out.size))
  clear hb HB4
  go_wp2_with fail
  refine (replay_nil w5).mono ?_; rintro e w6 ⟨g, rfl, hb⟩
  have HB6 := Lib.hid (HB5.out.trans (hb.mono HB5.out.size))
  clear hb HB5
  go_wp2_with fail
  refine (puts_nil 0 0 0 0 0 0 w6).mono ?_; rintro e w7 ⟨rfl, hb⟩
  have HB7 := Lib.hid (HB6.out.trans (hb.mono HB6.out.size))
  clear hb HB6
  go_wp2_with fail
  go_ret
  exact ⟨rfl, HB7.out⟩

end Go.Proofs.Yticnofemjnpjoaa

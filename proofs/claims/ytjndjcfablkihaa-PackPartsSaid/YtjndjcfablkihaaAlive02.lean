import Derived.Test.YtjndjcfablkihaaTake
namespace Go.Proofs.Ytjndjcfablkihaa
open Go.RowKit

/-! The chapter's example. -/

theorem al_nums : numsR [1, 258] = [0, 0, 1, 0, 1, 2] := by decide +kernel
theorem al_numsE : numsE [1, 258] = 0 := by decide +kernel
theorem al_ok : valOk (valB 4607182418800017408 4611686018427387904 ++ [9]) = true := by decide +kernel
theorem al_re : reB (valB 4607182418800017408 4611686018427387904 ++ [9]) = 4607182418800017408 := by decide +kernel
theorem al_im : imB (valB 4607182418800017408 4611686018427387904 ++ [9]) = 4611686018427387904 := by decide +kernel

set_option maxRecDepth 1000000 in
set_option maxHeartbeats 4000000 in
theorem alive_c (w : World) : Calls Try.prog 8 #[] w fun e w' => e = .returned (.bool true) ∧ Below w.heap.size w w' := by
  have h0 : Below w.heap.size w (w.alloc (.cells #[.int .i64 1, .int .i64 258] 3)) := (Below.refl _ _).alloc (Nat.le_refl _) _
  have H0 := Lib.hid h0
  have HR0 := Lib.hid (Rd.row_of (g := g64) (E := 3) w [1, 258] (cs := #[.int .i64 1, .int .i64 258]) rfl)
  clear h0
  go_enter Try.func8, Try.ntmps8
  go_wp2_with fail
  refine (nums_c _ [1, 258] 2 _ HR0.out (by decide)).mono ?_; rintro e w1 ⟨A1, c1, rfl, ho1, hb1⟩
  rw [al_nums] at ho1
  rw [al_nums, al_numsE]
  have HO1 := Lib.hid ho1
  have HB1 := Lib.hid (H0.out.trans (hb1.mono H0.out.size))
  clear ho1 hb1
  go_wp2_with fail
  refine (value_c _ _ _).mono ?_; rintro e w2 ⟨A2, c2, rfl, ho2, hb2⟩
  have HO12 := Lib.hid (HO1.out.below hb2)
  have HB2 := Lib.hid (HB1.out.trans (hb2.mono HB1.out.size))
  have HV : Hid ((valB 4607182418800017408 4611686018427387904).length = 16) := valB_length _ _
  have HO2 := Lib.hid (ho2.below ((Below.refl _ _).alloc (Nat.le_refl _) (.cells #[.int .u8 9] 5)))
  have HX2 := Lib.hid (Rd.row_of (g := g8) (E := 5) w2 [9] (cs := #[.int .u8 9]) rfl)
  have HS2 : Hid (w1.heap.size ≤ (w2.alloc (.cells #[.int .u8 9] 5)).heap.size) := by have := hb2.size; unfold Hid; simp; omega
  have HB2' := Lib.hid (HB2.out.alloc HB2.out.size (.cells #[.int .u8 9] 5))
  have HK2 := Lib.hid (hb2.alloc hb2.size (.cells #[.int .u8 9] 5))
  clear ho2 hb2
  go_wp2_with (at_builtin; refine app8 rfl _ _ rfl (valB 4607182418800017408 4611686018427387904) [9] HO2.out (by rw [HV.out]; rfl) _ 1 HX2.out rfl (by intro h; cases h) (by rw [HV.out]; decide) HS2.out ?_)
  intro A3 c3 w3 ho3 hg3
  have HO3 := Lib.hid ho3
  have HB3 := Lib.hid (HB2'.out.grown hg3 HB2'.out.size (fun k hk => Nat.le_trans HB1.out.size (HO2.out.block k hk).1))
  have HK3 := Lib.hid (HK2.out.grown hg3 HK2.out.size (fun k hk => (HO2.out.block k hk).1))
  have HL3 : Hid ((valB 4607182418800017408 4611686018427387904 ++ [9]).length = 17) := by unfold Hid; rw [List.length_append, HV.out]; rfl
  clear ho3 hg3
  rw [HV.out]
  go_wp2_with fail
  refine (take_yes A3 _ c3 17 w3 al_ok HO3.out.rd HO3.out.nil_cap HO3.out.le HO3.out.cap (by rw [HL3.out]; decide) (by rw [HL3.out]; decide) HL3.out).mono ?_
  rintro e w4 ⟨A4, c4, rfl, ho4, hb4⟩
  rw [al_re, al_im]
  have hl4 : ((valB 4607182418800017408 4611686018427387904 ++ [9]).drop 16).length = 1 := by rw [List.length_drop, HL3.out]
  rw [hl4]
  have HB4 := Lib.hid (HB3.out.trans (hb4.mono HB3.out.size))
  have e1 := str8 (n := 6) (c := c1) (HO1.out.below (HK3.out.trans (hb4.mono HK3.out.size))).rd rfl
  clear ho4 hb4 hl4
  go_wp2_with fail
  go_ret
  exact ⟨rfl, HB4.out⟩

end Go.Proofs.Ytjndjcfablkihaa

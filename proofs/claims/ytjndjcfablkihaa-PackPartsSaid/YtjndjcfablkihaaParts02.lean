import Derived.Test.YtjndjcfablkihaaPlain02
namespace Go.Proofs.Ytjndjcfablkihaa
open Go.RowKit

set_option maxRecDepth 1000000 in
set_option maxHeartbeats 8000000 in
theorem parts_c (A1 A2 : Option Addr) (l1 l2 : List Int) (c1 c2 : Nat) (w : World) (h1 : Rd g64 w A1 l1) (hn1 : A1 = none → c1 = 0) (h2 : Rd g64 w A2 l2) (hn2 : A2 = none → c2 = 0) :
    Calls Try.prog 6 #[.slice A1 l1.length c1, .slice A2 l2.length c2] w fun e w' => e = .returned (.bool true) ∧ Below w.heap.size w w' := by
  have H1 := Lib.hid h1
  have H2 := Lib.hid h2
  have N1 := Lib.hid hn1
  have N2 := Lib.hid hn2
  clear h1 h2 hn1 hn2
  go_enter Try.func6, Try.ntmps6
  go_wp2_with fail
  refine (alive_c _).mono ?_; rintro e w1 ⟨rfl, hb1⟩
  have HB1 := Lib.hid hb1
  clear hb1
  by_cases hlen : 400 < l1.length
  · go_wp2_with fail
    go_ret
    exact ⟨rfl, HB1.out⟩
  · by_cases hlen2 : 400 < l2.length
    · go_wp2_with fail
      go_ret
      exact ⟨rfl, HB1.out⟩
    · have HO1 := Lib.hid (Ow.new (E := 3) (g := g64) (w := w1) (B := w1.heap.size) (Nat.le_refl _))
      have HX1 := Lib.hid ((H1.out.below HB1.out).below ((Below.refl _ _).alloc (Nat.le_refl _) (.cells #[] 3)))
      go_wp2_with (at_builtin; refine app64 rfl _ _ rfl [] l1 HO1.out rfl A1 c1 HX1.out rfl N1.out (by simp; omega) (by simp) ?_)
      intro A3 c3 w3 ho3 hg3
      have HO3 := Lib.hid ho3
      have HB3 := Lib.hid (HB1.out.trans ((((Below.refl w1.heap.size w1).alloc (Nat.le_refl _) (.cells #[] 3)).grown hg3 (by simp) (fun k hk => (HO1.out.block k hk).1)).mono HB1.out.size))
      have HS3 := Lib.hid (((Below.refl w1.heap.size w1).alloc (Nat.le_refl _) (.cells #[] 3)).grown hg3 (by simp) (fun k hk => (HO1.out.block k hk).1)).size
      have HX3 := Lib.hid (H2.out.below HB3.out)
      clear ho3 hg3
      go_wp2_with (at_builtin; refine app64 rfl _ _ rfl l1 l2 HO3.out rfl A2 c2 HX3.out rfl N2.out (by omega) HS3.out ?_)
      intro A4 c4 w4 ho4 hg4
      have HO4 := Lib.hid ho4
      have HB4 := Lib.hid (HB3.out.grown hg4 HB3.out.size (fun k hk => Nat.le_trans HB1.out.size (HO3.out.block k hk).1))
      clear ho4 hg4
      go_wp2_with fail
      refine (nums_c A1 l1 c1 w4 (H1.out.below HB4.out) (by omega)).mono ?_; rintro e w5 ⟨A5, c5, rfl, ho5, hb5⟩
      have HO5 := Lib.hid ho5
      have HO45 := Lib.hid (HO4.out.below hb5)
      have HB5 := Lib.hid (HB4.out.trans (hb5.mono HB4.out.size))
      clear ho5 hb5
      go_wp2_with fail
      refine (nums_c A2 l2 c2 w5 (H2.out.below HB5.out) (by omega)).mono ?_; rintro e w6 ⟨A6, c6, rfl, ho6, hb6⟩
      have HO6 := Lib.hid ho6
      have HO56 := Lib.hid (HO5.out.below hb6)
      have HO46 := Lib.hid (HO45.out.below hb6)
      have HB6 := Lib.hid (HB5.out.trans (hb6.mono HB5.out.size))
      clear ho6 hb6
      go_wp2_with fail
      have hn := nums_c A4 (l1 ++ l2) c4 w6 HO46.out.rd (by simp; omega)
      rw [List.length_append] at hn
      refine hn.mono ?_; rintro e w7 ⟨A7, c7, rfl, ho7, hb7⟩
      have HO7 := Lib.hid ho7
      have HO57 := Lib.hid (HO56.out.below hb7)
      have HO67 := Lib.hid (HO6.out.below hb7)
      have HB7 := Lib.hid (HB6.out.trans (hb7.mono HB6.out.size))
      clear ho7 hb7 hn
      cases ok1 : okN l1 with
      | false =>
        have e1 := numsR_no ok1
        have e3 := numsR_no (show okN (l1 ++ l2) = false by rw [okN_append, ok1]; rfl)
        rw [e3.1, e3.2, e1.1, e1.2]
        clear e1 e3
        go_wp2_with fail
        go_ret
        exact ⟨rfl, HB7.out⟩
      | true =>
        cases ok2 : okN l2 with
        | false =>
          have e1 := numsR_yes ok1
          have e2 := numsR_no ok2
          have e3 := numsR_no (show okN (l1 ++ l2) = false by rw [okN_append, ok2, Bool.and_false])
          rw [e3.1, e3.2, e1.1, e1.2, e2.1, e2.2]
          clear e1 e2 e3
          go_wp2_with fail
          go_ret
          exact ⟨rfl, HB7.out⟩
        | true =>
          have e1 := numsR_yes ok1
          have e2 := numsR_yes ok2
          have e3 := numsR_yes (show okN (l1 ++ l2) = true by rw [okN_append, ok1, ok2]; rfl)
          rw [numsB_append] at e3
          rw [e3.1, e3.2, e1.1, e1.2, e2.1, e2.2]
          have P5 := HO57.out
          have P6 := HO67.out
          have P7 := HO7.out
          rw [e1.1] at P5
          rw [e2.1] at P6
          rw [e3.1] at P7
          replace P5 := Lib.hid P5
          replace P6 := Lib.hid P6
          replace P7 := Lib.hid P7
          have OK1 := Lib.hid ok1
          have OK2 := Lib.hid ok2
          have hs1 := ints3_nums l1 (numsB l2) ok1
          have hs2 := drop_nums l1 (numsB l2)
          have hs3 := ints3_nums l2 [] ok2
          have hs4 := drop_nums l2 []
          rw [List.append_nil] at hs3 hs4
          have HS1 := Lib.hid hs1
          have HS2 := Lib.hid hs2
          have HS3 := Lib.hid hs3
          have HS4 := Lib.hid hs4
          have L1 := Lib.hid (numsB_length l1)
          have L2 := Lib.hid (numsB_length l2)
          clear e1 e2 e3 ok1 ok2 hs1 hs2 hs3 hs4 HO7 HO57 HO67 HO46 HO56 HO6 HO5 HO45 HO4
          go_wp2_with fail
          (with_reducible refine (packGet_n A7 (numsB l1 ++ numsB l2) c7 _ l1.length w7 P7.out.rd P7.out.nil_cap P7.out.le P7.out.cap (by omega) (by rw [List.length_append, L1.out]; omega) (by rw [List.length_append, L1.out, L2.out]; omega) (by simp)).mono ?_)
          rintro e w8 ⟨A8, c8, B8, d8, rfl, hoa, hob, hb8⟩
          rw [HS1.out] at hoa
          rw [HS2.out] at hob
          rw [HS2.out]
          have OA := Lib.hid hoa
          have OB := Lib.hid hob
          have Q5 := Lib.hid (P5.out.below hb8)
          have Q6 := Lib.hid (P6.out.below hb8)
          have Q7 := Lib.hid (P7.out.below hb8)
          have HB8 := Lib.hid (HB7.out.trans (hb8.mono HB7.out.size))
          clear hoa hob hb8
          go_wp2_with fail
          (with_reducible refine (packGet_n B8 (numsB l2) d8 _ l2.length w8 OB.out.rd OB.out.nil_cap OB.out.le OB.out.cap (by omega) (by rw [L2.out]; omega) (by rw [L2.out]; omega) (by simp)).mono ?_)
          rintro e w9 ⟨A9, c9, B9, d9, rfl, hoa, hob, hb9⟩
          rw [HS3.out] at hoa
          rw [HS4.out]
          have OA9 := Lib.hid hoa
          have OA8 := Lib.hid (OA.out.below hb9)
          have HB9 := Lib.hid (HB8.out.trans (hb9.mono HB8.out.size))
          have x7 := str8 (c := c7) (Q7.out.below hb9).rd rfl
          have x5 := str8 (c := c5) (Q5.out.below hb9).rd rfl
          have x6 := str8 (c := c6) (Q6.out.below hb9).rd rfl
          have z5 : (⟨(numsB l1).toArray⟩ : ByteArray).size = 3 * l1.length := by rw [str_size, L1.out]
          have z6 : (⟨(numsB l2).toArray⟩ : ByteArray).size = 3 * l2.length := by rw [str_size, L2.out]
          have hadd := fun W => run_string_add_sum (P := Try.prog) (w := W) ⟨(numsB l1).toArray⟩ ⟨(numsB l2).toArray⟩ (by omega)
          rw [str_add] at hadd
          clear hoa hob hb9
          rw [List.length_append] at x7
          go_wp2_with fail
          (with_reducible refine (sameInts_n A8 A1 l1 l1 _ _ c8 c1 w9 OA8.out.rd (H1.out.below HB9.out) (by omega) rfl rfl).mono ?_)
          rintro e w' ⟨rfl, n1, rfl⟩
          have tt : decide (l1 = l1) = true := by simp
          rw [tt]
          have HB10 := Lib.hid (below_drewN HB9.out n1)
          have OA10 := Lib.hid (OA9.out.drewN n1)
          clear tt x7 x5 x6 z5 z6 hadd
          generalize w9.drewN n1 = w10 at *
          go_wp2_with fail
          (with_reducible refine (sameInts_n A9 A2 l2 l2 _ _ c9 c2 w10 OA10.out.rd (H2.out.below HB10.out) (by omega) rfl rfl).mono ?_)
          rintro e w' ⟨rfl, n2, rfl⟩
          have tt : decide (l2 = l2) = true := by simp
          rw [tt]
          clear tt
          go_wp2_with fail
          go_ret
          exact ⟨rfl, below_drewN HB10.out n2⟩

end Go.Proofs.Ytjndjcfablkihaa

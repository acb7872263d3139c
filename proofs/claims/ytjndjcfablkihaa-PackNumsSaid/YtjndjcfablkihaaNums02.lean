import Derived.Test.YtjndjcfablkihaaPlain02
namespace Go.Proofs.Ytjndjcfablkihaa
open Go.RowKit

set_option maxRecDepth 1000000 in
set_option maxHeartbeats 8000000 in
theorem pnums_c (A1 A2 : Option Addr) (l1 : List Int) (l2 : List UInt8) (c1 c2 : Nat) (many : Int) (w : World) (h1 : Rd g64 w A1 l1) (hn1 : A1 = none → c1 = 0) (hl1 : l1.length ≤ 17592186044415) (h2 : Rd g8 w A2 l2) (hn2 : A2 = none → c2 = 0) (hc2 : l2.length ≤ c2) (hm2 : c2 ≤ 9223372036854775807) (hl2 : l2.length ≤ 140737488355328) :
    Calls Try.prog 4 #[.slice A1 l1.length c1, .slice A2 l2.length c2, .int .i64 many] w fun e w' => e = .returned (.bool true) ∧ Below w.heap.size w w' := by
  have H1 := Lib.hid h1
  have H2 := Lib.hid h2
  have N1 := Lib.hid hn1
  have N2 := Lib.hid hn2
  have C2 := Lib.hid hc2
  have M2 := Lib.hid hm2
  have L2 := Lib.hid hl2
  have HO1 := Lib.hid (Ow.new (E := 3) (g := g64) (w := w) (B := w.heap.size) (Nat.le_refl _))
  have HX1 := Lib.hid (h1.below ((Below.refl _ _).alloc (Nat.le_refl _) (.cells #[] 3)))
  clear h1 h2 hn1 hn2 hc2 hm2 hl2
  go_enter Try.func4, Try.ntmps4
  go_wp2_with (at_builtin; refine app64 rfl _ _ rfl [] l1 HO1.out rfl A1 c1 HX1.out rfl N1.out (by simp; omega) (by simp) ?_)
  intro A3 c3 w3 ho3 hg3
  have HO3 := Lib.hid ho3
  have HB3 := Lib.hid (((Below.refl w.heap.size w).alloc (Nat.le_refl _) (.cells #[] 3)).grown hg3 (by simp) (fun k hk => (HO1.out.block k hk).1))
  clear ho3 hg3
  go_wp2_with fail
  (with_reducible refine (nums_c A3 l1 c3 w3 HO3.out.rd hl1).mono ?_); rintro e w4 ⟨A4, c4, rfl, ho4, hb4⟩
  have HO4 := Lib.hid ho4
  have HB4 := Lib.hid (HB3.out.trans (hb4.mono HB3.out.size))
  clear ho4 hb4
  go_wp2_with fail
  (with_reducible refine (refNums_c A1 l1 c1 w4 (H1.out.below HB4.out) hl1).mono ?_); rintro e w5 ⟨A5, c5, rfl, ho5, hb5⟩
  have HO5 := Lib.hid ho5
  have HO45 := Lib.hid (HO4.out.below hb5)
  have HB5 := Lib.hid (HB4.out.trans (hb5.mono HB4.out.size))
  clear ho5 hb5
  go_wp2_with fail
  refine (alive_c _).mono ?_; rintro e w6 ⟨rfl, hb6⟩
  have HB6 := Lib.hid (HB5.out.trans (hb6.mono HB5.out.size))
  have x4 := str8 (c := c4) (HO45.out.below hb6).rd rfl
  have x5 := str8 (c := c5) (HO5.out.below hb6).rd rfl
  have HX6 := Lib.hid (H2.out.below HB6.out)
  generalize numsE l1 = e1 at *
  generalize numsR l1 = b1 at *
  clear hb6
  have hcase : (many < 0 ∨ 1000 < many ∨ (l2.length : Int) < 3 * many) ∨ (0 ≤ many ∧ many ≤ 1000 ∧ 3 * many ≤ l2.length) := by omega
  go_wp2_with (at_builtin; refine copy8 rfl _ _ rfl _ rfl l2 A2 c2 HX6.out rfl rfl N2.out L2.out ?_)
  intro A7 c7 w7 ho7 hb7
  have HO7 := Lib.hid ho7
  have HB7 := Lib.hid (HB6.out.trans (hb7.mono HB6.out.size))
  clear ho7 hb7 x4 x5
  go_wp2_with fail
  rcases hcase with hno | ⟨hm0, hm1, hm2⟩
  · (with_reducible refine (packGet_no A7 l2.length c7 many w7 hno).mono ?_); rintro e w' ⟨rfl, rfl⟩
    go_wp2_with fail
    (with_reducible refine (refGet_no A2 l2.length c2 many w7 hno).mono ?_); rintro e w' ⟨rfl, rfl⟩
    go_wp2_with fail
    (with_reducible refine (sameInts_n none none [] [] 0 0 0 0 w7 Rd.nil Rd.nil (by decide) rfl rfl).mono ?_)
    rintro e w' ⟨rfl, n1, rfl⟩
    have tt : decide (([] : List Int) = []) = true := by simp
    rw [tt]
    clear tt
    have y1 := str8 (n := 0) (c := 0) (w := w7.drewN n1) (A := none) (l := []) Rd.nil rfl
    go_wp2_with fail
    go_ret
    exact ⟨ret_bool (by rfl), below_drewN HB7.out n1⟩
  · obtain ⟨m, rfl⟩ := Int.eq_ofNat_of_zero_le hm0
    (with_reducible refine (packGet_c A7 l2 c7 m w7 HO7.out.rd HO7.out.nil_cap HO7.out.le HO7.out.cap (by omega) (by omega) L2.out).mono ?_)
    rintro e w8 ⟨A8, c8, B8, d8, rfl, hoa, hob, hb8⟩
    have OA8 := Lib.hid hoa
    have OB8 := Lib.hid hob
    have HB8 := Lib.hid (HB7.out.trans (hb8.mono HB7.out.size))
    clear hoa hob hb8
    go_wp2_with fail
    (with_reducible refine (refGet_c A2 l2 c2 m w8 (H2.out.below HB8.out) N2.out C2.out M2.out (by omega) (by omega) L2.out).mono ?_)
    rintro e w9 ⟨A9, c9, B9, d9, rfl, hoa, hob, hb9⟩
    have OA9 := Lib.hid hoa
    have OB9 := Lib.hid hob
    have OA89 := Lib.hid (OA8.out.below hb9)
    have OB89 := Lib.hid (OB8.out.below hb9)
    have HB9 := Lib.hid (HB8.out.trans (hb9.mono HB8.out.size))
    clear hoa hob hb9
    go_wp2_with fail
    (with_reducible refine (sameInts_n A8 A9 (ints3 l2 m) (ints3 l2 m) m m c8 c9 w9 OA89.out.rd OA9.out.rd (by rw [ints3_length]; omega) (ints3_length _ _) (ints3_length _ _)).mono ?_)
    rintro e w' ⟨rfl, n1, rfl⟩
    have tt : decide (ints3 l2 m = ints3 l2 m) = true := by simp
    rw [tt]
    clear tt
    have y1 := str8 (n := l2.length - 3 * m) (c := d8) (OB89.out.drewN n1).rd (by simp)
    have y2 := str8 (n := l2.length - 3 * m) (c := d9) (OB9.out.drewN n1).rd (by simp)
    generalize l2.drop (3 * m) = q at y1 y2
    go_wp2_with fail
    go_ret
    exact ⟨ret_bool (by rfl), below_drewN HB9.out n1⟩

end Go.Proofs.Ytjndjcfablkihaa

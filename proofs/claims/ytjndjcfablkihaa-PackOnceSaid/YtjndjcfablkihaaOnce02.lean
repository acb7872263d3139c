import Derived.Test.YtjndjcfablkihaaPlain02
import Derived.Deep.RegionHeldLaw
namespace Go.Proofs.Ytjndjcfablkihaa
open Go.RowKit

/-- The second half: what Take reads is just what Value writes. -/
theorem val_back {l : List UInt8} (h : valOk l = true) : valB (reB l) (imB l) = l.take 16 := by
  unfold valOk at h; exact of_decide_eq_true h

set_option maxRecDepth 1000000 in
set_option maxHeartbeats 8000000 in
theorem once_c (A : Option Addr) (l : List UInt8) (c : Nat) (many : Int) (w : World) (h : Rd g8 w A l) (hn : A = none → c = 0) (hl : l.length ≤ 140737488355328) :
    Calls Try.prog 5 #[.slice A l.length c, .int .i64 many] w fun e w' => e = .returned (.bool true) ∧ Below w.heap.size w w' := by
  have H := Lib.hid h
  have HN := Lib.hid hn
  have HL := Lib.hid hl
  clear h hn hl
  go_enter Try.func5, Try.ntmps5
  go_wp2_with fail
  refine (alive_c _).mono ?_; rintro e w1 ⟨rfl, hb1⟩
  have HB1 := Lib.hid hb1
  have HX1 := Lib.hid (H.out.below hb1)
  clear hb1
  go_wp2_with (at_builtin; refine copy8 rfl _ _ rfl _ rfl l A c HX1.out rfl rfl HN.out HL.out ?_)
  intro A2 c2 w2 ho2 hb2
  have HO2 := Lib.hid ho2
  have HB2 := Lib.hid (HB1.out.trans (hb2.mono HB1.out.size))
  have HX2 := Lib.hid (H.out.below HB2.out)
  clear ho2 hb2
  have hcase : (many < 0 ∨ 1000 < many ∨ (l.length : Int) < 3 * many) ∨ (0 ≤ many ∧ many ≤ 1000 ∧ 3 * many ≤ l.length) := by omega
  go_wp2_with fail
  rcases hcase with hno | ⟨hm0, hm1, hm2⟩
  · (with_reducible refine (packGet_no A2 l.length c2 many w2 hno).mono ?_); rintro e w' ⟨rfl, rfl⟩
    clear hno
    go_wp2_with (at_builtin; refine copy8 rfl _ _ rfl _ rfl l A c HX2.out rfl rfl HN.out HL.out ?_)
    intro A3 c3 w3 ho3 hb3
    have HO3 := Lib.hid ho3
    have HB3 := Lib.hid (HB2.out.trans (hb3.mono HB2.out.size))
    have HX3 := Lib.hid (H.out.below HB3.out)
    clear ho3 hb3
    go_wp2_with fail
    by_cases h16 : l.length < 16
    · (with_reducible refine (take_short A3 l.length c3 w3 h16).mono ?_); rintro e w' ⟨rfl, rfl⟩
      clear h16
      go_wp2_with fail
      go_quiet (fail)
      go_wp2_with fail
      go_ret
      exact ⟨rfl, below_drewN HB3.out _⟩
    · cases hv : valOk l with
      | false =>
        (with_reducible refine (take_bad A3 l c3 l.length w3 hv HO3.out.rd HO3.out.nil_cap HO3.out.le HO3.out.cap (by omega) HL.out rfl).mono ?_)
        rintro e w6 ⟨A6, c6, rfl, ho6, hb6⟩
        have HB6 := Lib.hid (HB3.out.trans (hb6.mono HB3.out.size))
        clear ho6 hb6 h16 hv
        go_wp2_with fail
        go_quiet (fail)
        go_wp2_with fail
        go_ret
        exact ⟨rfl, below_drewN HB6.out _⟩
      | true =>
        (with_reducible refine (take_yes A3 l c3 l.length w3 hv HO3.out.rd HO3.out.nil_cap HO3.out.le HO3.out.cap (by omega) HL.out rfl).mono ?_)
        rintro e w6 ⟨A6, c6, rfl, ho6, hb6⟩
        have HO6 := Lib.hid ho6
        have HB6 := Lib.hid (HB3.out.trans (hb6.mono HB3.out.size))
        have HVB := Lib.hid (val_back hv)
        have hlt : (l.drop 16).length = l.length - 16 := by simp
        rw [hlt]
        have HLT := Lib.hid hlt
        have hadd := fun W => run_string_add_sum (P := Try.prog) (w := W) ⟨(l.take 16).toArray⟩ ⟨(l.drop 16).toArray⟩ (by rw [str_size, str_size]; have := HL.out; simp; omega)
        rw [str_add, List.take_append_drop] at hadd
        have y1 := str8 (w := w6.drew) (n := l.length - 16) (c := c6) (HO6.out.rd.below (Below.refl _ _).drew) hlt
        have y2 := str8 (w := w6.drew) (n := l.length) (c := c) ((H.out.below HB6.out).below (Below.refl _ _).drew) rfl
        clear ho6 hb6 h16 hv hlt
        generalize l.take 16 = p16 at *
        generalize l.drop 16 = q16 at *
        go_wp2_with fail
        first
          | (go_region_held_law (fun _ => True) (exact trivial) (first
            | (go_at_call 14; refine (value_c (reB l) (imB l) _).mono ?_; rintro e w8 ⟨A8, c8, rfl, ho8, hb8⟩; rw [HVB.out] at ho8; have HB8 := Lib.hid (HB6.out.drew.trans (hb8.mono HB6.out.size)); have z1 := str8 (n := 16) (c := c8) ho8.rd (by rw [← HVB.out]; exact valB_length _ _); have z2 := str8 (w := w8) (n := l.length - 16) (c := c6) (HO6.out.rd.below (((Below.refl _ _).drew).trans hb8)) HLT.out; have z3 := str8 (w := w8) (n := l.length) (c := c) (H.out.below HB8.out) rfl; clear ho8 hb8)))
          | fail
        all_goals
          go_wp2_with fail
          go_ret
          exact ⟨rfl, HB8.out⟩
  · obtain ⟨m, rfl⟩ := Int.eq_ofNat_of_zero_le hm0
    (with_reducible refine (packGet_c A2 l c2 m w2 HO2.out.rd HO2.out.nil_cap HO2.out.le HO2.out.cap (by omega) (by omega) HL.out).mono ?_)
    rintro e w4 ⟨A4, c4, B4, d4, rfl, hoa, hob, hb4⟩
    have OA4 := Lib.hid hoa
    have OB4 := Lib.hid hob
    have HB4 := Lib.hid (HB2.out.trans (hb4.mono HB2.out.size))
    have hni := nums_ints3 l m (by omega)
    have hy := numsR_yes hni.2
    rw [hni.1] at hy
    have HY := Lib.hid hy
    have hn := nums_c A4 (ints3 l m) c4 w4 OA4.out.rd (by rw [ints3_length]; omega)
    rw [ints3_length, hy.1, hy.2] at hn
    have HNU := Lib.hid hn
    clear hoa hob hb4 hni hy hn
    go_wp2_with fail
    refine HNU.out.mono ?_
    rintro e w5 ⟨A5, c5, rfl, ho5, hb5⟩
    have HB5 := Lib.hid (HB4.out.trans (hb5.mono HB4.out.size))
    have HX5 := Lib.hid (H.out.below HB5.out)
    have x5 := str8 (n := 3 * m) (c := c5) ho5.rd (by simp; omega)
    have x4 := str8 (n := l.length - 3 * m) (c := d4) (OB4.out.below hb5).rd (by simp)
    have x0 := str8 (n := l.length) (c := c) HX5.out rfl
    have hadd := fun W => run_string_add_sum (P := Try.prog) (w := W) ⟨(l.take (3 * m)).toArray⟩ ⟨(l.drop (3 * m)).toArray⟩ (by rw [str_size, str_size]; have := HL.out; simp; omega)
    rw [str_add, List.take_append_drop] at hadd
    have hlt : (l.take (3 * m)).length = 3 * m := by simp; omega
    rw [hlt]
    clear ho5 hb5 hlt
    generalize l.take (3 * m) = p1 at *
    generalize l.drop (3 * m) = p2 at *
    go_wp2_with (at_builtin; refine copy8 rfl _ _ rfl _ rfl l A c HX5.out rfl rfl HN.out HL.out ?_)
    intro A3 c3 w3 ho3 hb3
    have HO3 := Lib.hid ho3
    have HB3 := Lib.hid (HB5.out.trans (hb3.mono HB5.out.size))
    have HX3 := Lib.hid (H.out.below HB3.out)
    clear ho3 hb3 x5 x4 x0 hadd
    go_wp2_with fail
    by_cases h16 : l.length < 16
    · (with_reducible refine (take_short A3 l.length c3 w3 h16).mono ?_); rintro e w' ⟨rfl, rfl⟩
      clear h16
      go_wp2_with fail
      go_quiet (fail)
      go_wp2_with fail
      go_ret
      exact ⟨rfl, below_drewN HB3.out _⟩
    · cases hv : valOk l with
      | false =>
        (with_reducible refine (take_bad A3 l c3 l.length w3 hv HO3.out.rd HO3.out.nil_cap HO3.out.le HO3.out.cap (by omega) HL.out rfl).mono ?_)
        rintro e w6 ⟨A6, c6, rfl, ho6, hb6⟩
        have HB6 := Lib.hid (HB3.out.trans (hb6.mono HB3.out.size))
        clear ho6 hb6 h16 hv
        go_wp2_with fail
        go_quiet (fail)
        go_wp2_with fail
        go_ret
        exact ⟨rfl, below_drewN HB6.out _⟩
      | true =>
        (with_reducible refine (take_yes A3 l c3 l.length w3 hv HO3.out.rd HO3.out.nil_cap HO3.out.le HO3.out.cap (by omega) HL.out rfl).mono ?_)
        rintro e w6 ⟨A6, c6, rfl, ho6, hb6⟩
        have HO6 := Lib.hid ho6
        have HB6 := Lib.hid (HB3.out.trans (hb6.mono HB3.out.size))
        have HVB := Lib.hid (val_back hv)
        have hlt : (l.drop 16).length = l.length - 16 := by simp
        rw [hlt]
        have HLT := Lib.hid hlt
        have hadd := fun W => run_string_add_sum (P := Try.prog) (w := W) ⟨(l.take 16).toArray⟩ ⟨(l.drop 16).toArray⟩ (by rw [str_size, str_size]; have := HL.out; simp; omega)
        rw [str_add, List.take_append_drop] at hadd
        have y1 := str8 (w := w6.drew) (n := l.length - 16) (c := c6) (HO6.out.rd.below (Below.refl _ _).drew) hlt
        have y2 := str8 (w := w6.drew) (n := l.length) (c := c) ((H.out.below HB6.out).below (Below.refl _ _).drew) rfl
        clear ho6 hb6 h16 hv hlt
        generalize l.take 16 = p16 at *
        generalize l.drop 16 = q16 at *
        go_wp2_with fail
        first
          | (go_region_held_law (fun _ => True) (exact trivial) (first
            | (go_at_call 14; refine (value_c (reB l) (imB l) _).mono ?_; rintro e w8 ⟨A8, c8, rfl, ho8, hb8⟩; rw [HVB.out] at ho8; have HB8 := Lib.hid (HB6.out.drew.trans (hb8.mono HB6.out.size)); have z1 := str8 (n := 16) (c := c8) ho8.rd (by rw [← HVB.out]; exact valB_length _ _); have z2 := str8 (w := w8) (n := l.length - 16) (c := c6) (HO6.out.rd.below (((Below.refl _ _).drew).trans hb8)) HLT.out; have z3 := str8 (w := w8) (n := l.length) (c := c) (H.out.below HB8.out) rfl; clear ho8 hb8)))
          | fail
        all_goals
          go_wp2_with fail
          go_ret
          exact ⟨rfl, HB8.out⟩

end Go.Proofs.Ytjndjcfablkihaa

import Derived.Test.YtdeinkkljhkaoaaProg
import Derived.Test.YtdeinkkljhkaoaaFl
import Derived.Test.YtdeinkkljhkaoaaAid
namespace Go.Proofs.Ytdeinkkljhkaoaa
open Go.RowKit

/-! The functions of package cnum, and of its reference, each by its contract. -/

theorem bits_run (b : Nat) (w : World) : (callFunc 26 #[.float .f64 b]).run Try.prog w = .ok (.value (.int .u64 b)) w := by
  rw [run_callFunc_extern (fn := Try.f26) (e := Extern.MathFloatBits.float64bits) rfl (by kernel_rfl) (by kernel_rfl) (by kernel_rfl) (by kernel_rfl)]
  rfl

theorem frombits_run (n : Int) (w : World) : (callFunc 25 #[.int .u64 n]).run Try.prog w = .ok (.value (.float .f64 n.toNat)) w := by
  rw [run_callFunc_extern (fn := Try.f25) (e := Extern.MathFloatBits.float64frombits) rfl (by kernel_rfl) (by kernel_rfl) (by kernel_rfl) (by kernel_rfl)]
  rfl

theorem isNaN_c (b : Nat) (w : World) : Calls Try.prog 30 #[.float .f64 b] w fun e w' => e = .returned (.bool (nanB b)) ∧ w = w' := by
  have h0 := ord_self b
  go_enter Try.func30, Try.ntmps30
  go_wp2
  go_ret
  exact ⟨rfl, rfl⟩

theorem of_c (a b : Nat) (w : World) : Calls Try.prog 9 #[.int .u64 a, .int .u64 b] w fun e w' => e = .returned (.complex .f64 a b) ∧ w = w' := by
  have h1 := fun n => frombits_run n w
  go_enter Try.func9, Try.ntmps9
  go_wp2
  go_ret
  exact ⟨rfl, rfl⟩

theorem form_c (b : Nat) (w : World) : Calls Try.prog 28 #[.float .f64 b] w fun e w' => e = .returned (.int .u64 (formF b : Nat)) ∧ w = w' := by
  have h1 := fun b => bits_run b w
  by_cases hn : nanB b = true
  · have hf : formF b = 9221120237041090561 := by unfold formF; rw [if_pos hn]
    have H := Lib.hid hf; clear hf
    go_enter Try.func28, Try.ntmps28
    go_wp2_with (go_at_call 30; refine (isNaN_c _ _).mono ?_; rintro e w' ⟨rfl, rfl⟩)
    go_ret
    exact ⟨by rw [H.out]; rfl, rfl⟩
  · have hn' : nanB b = false := by simpa using hn
    have hf : formF b = b := by unfold formF; rw [if_neg hn]
    have H := Lib.hid hf; clear hf hn
    go_enter Try.func28, Try.ntmps28
    go_wp2_with (go_at_call 30; refine (isNaN_c _ _).mono ?_; rintro e w' ⟨rfl, rfl⟩)
    go_ret
    exact ⟨by rw [H.out]; rfl, rfl⟩

theorem bits_c (a b : Nat) (w : World) : Calls Try.prog 14 #[.complex .f64 a b] w fun e w' => e = .returned (.tuple #[.int .u64 (formF a : Nat), .int .u64 (formF b : Nat)]) ∧ w = w' := by
  go_enter Try.func14, Try.ntmps14
  go_wp2_with (go_at_call 28; refine (form_c _ _).mono ?_; rintro e w' ⟨rfl, rfl⟩)
  go_ret2
  exact ⟨rfl, rfl⟩

theorem place_c (b : Nat) (hb : b < 18446744073709551616) (w : World) : Calls Try.prog 27 #[.float .f64 b] w fun e w' => e = .returned (.int .u64 (placeF b : Nat)) ∧ w = w' := by
  have B := place_bits b hb
  have H := Lib.hid hb; clear hb
  go_enter Try.func27, Try.ntmps27
  rcases B with ⟨h1, h2⟩ | ⟨h1, h2, h3⟩ | ⟨h1, h2, h3⟩
  · have H2 := Lib.hid h2; clear h2
    go_wp2_with (go_at_call 28; refine (form_c _ _).mono ?_; rintro e w' ⟨rfl, rfl⟩)
    go_ret
    exact ⟨by rw [H2.out]; rfl, rfl⟩
  · have H3 := Lib.hid h3; clear h3
    go_wp2_with (go_at_call 28; refine (form_c _ _).mono ?_; rintro e w' ⟨rfl, rfl⟩)
    go_ret
    exact ⟨by rw [H3.out]; rfl, rfl⟩
  · have H3 := Lib.hid h3; clear h3
    go_wp2_with (go_at_call 28; refine (form_c _ _).mono ?_; rintro e w' ⟨rfl, rfl⟩)
    go_ret
    exact ⟨by rw [H3.out]; rfl, rfl⟩

/-- Is the one number ahead of the other? -/
def lessF (a b c d : Nat) : Bool := if placeF a = placeF c then decide (placeF b < placeF d) else decide (placeF a < placeF c)

theorem less_c (a b c d : Nat) (ha : a < 18446744073709551616) (hb : b < 18446744073709551616) (hc : c < 18446744073709551616) (hd : d < 18446744073709551616) (w : World) :
    Calls Try.prog 12 #[.complex .f64 a b, .complex .f64 c d] w fun e w' => e = .returned (.bool (lessF a b c d)) ∧ w = w' := by
  have Ha := Lib.hid ha
  have Hb := Lib.hid hb
  have Hc := Lib.hid hc
  have Hd := Lib.hid hd
  clear ha hb hc hd
  by_cases h : placeF a = placeF c
  · have hl : lessF a b c d = decide (placeF b < placeF d) := by unfold lessF; rw [if_pos h]
    have HL := Lib.hid hl; clear hl
    have h' : (((placeF a : Nat) : Int) != ((placeF c : Nat) : Int)) = false := by rw [h]; simp
    clear h
    go_enter Try.func12, Try.ntmps12
    go_wp2_with fail
    refine (place_c _ Ha.out _).mono ?_; rintro e w' ⟨rfl, rfl⟩
    go_wp2_with fail
    refine (place_c _ Hc.out _).mono ?_; rintro e w' ⟨rfl, rfl⟩
    go_wp2_with fail
    refine (place_c _ Hb.out _).mono ?_; rintro e w' ⟨rfl, rfl⟩
    go_wp2_with fail
    refine (place_c _ Hd.out _).mono ?_; rintro e w' ⟨rfl, rfl⟩
    go_wp2_with fail
    go_ret
    exact ⟨by rw [HL.out]; simp, rfl⟩
  · have hl : lessF a b c d = decide (placeF a < placeF c) := by unfold lessF; rw [if_neg h]
    have HL := Lib.hid hl; clear hl
    have h' : (((placeF a : Nat) : Int) != ((placeF c : Nat) : Int)) = true := by simp; omega
    clear h
    go_enter Try.func12, Try.ntmps12
    go_wp2_with fail
    refine (place_c _ Ha.out _).mono ?_; rintro e w' ⟨rfl, rfl⟩
    go_wp2_with fail
    refine (place_c _ Hc.out _).mono ?_; rintro e w' ⟨rfl, rfl⟩
    go_wp2_with fail
    go_ret
    exact ⟨by rw [HL.out]; simp, rfl⟩

theorem turn_c (a b : Nat) (w : World) : Calls Try.prog 15 #[.complex .f64 a b] w fun e w' => e = .returned (.complex .f64 (flipF b) a) ∧ w = w' := by
  have hn := fun b => run_neg_float (P := Try.prog) w .f64 b
  go_enter Try.func15, Try.ntmps15
  go_wp2
  go_ret
  exact ⟨rfl, rfl⟩

theorem mirror_c (a b : Nat) (w : World) : Calls Try.prog 17 #[.complex .f64 a b] w fun e w' => e = .returned (.complex .f64 a (flipF b)) ∧ w = w' := by
  have hn := fun b => run_neg_float (P := Try.prog) w .f64 b
  go_enter Try.func17, Try.ntmps17
  go_wp2
  go_ret
  exact ⟨rfl, rfl⟩

def sameF (a b c d : Nat) : Bool := decide (formF a = formF c) && decide (formF b = formF d)

theorem same_c (a b c d : Nat) (w : World) : Calls Try.prog 21 #[.complex .f64 a b, .complex .f64 c d] w fun e w' => e = .returned (.bool (sameF a b c d)) ∧ w = w' := by
  go_enter Try.func21, Try.ntmps21
  by_cases h : formF a = formF c
  · have hs : sameF a b c d = (((formF b : Nat) : Int) == ((formF d : Nat) : Int)) := by unfold sameF; rw [Bool.eq_iff_iff]; simp [h]; omega
    have H := Lib.hid hs; clear hs
    have h' : (((formF a : Nat) : Int) == ((formF c : Nat) : Int)) = true := by rw [h]; simp
    clear h
    go_wp2_with (go_at_call 14; refine (bits_c _ _ _).mono ?_; rintro e w' ⟨rfl, rfl⟩)
    go_ret
    exact ⟨by rw [H.out]; rfl, rfl⟩
  · have hs : sameF a b c d = false := by unfold sameF; simp [h]
    have H := Lib.hid hs; clear hs
    have h' : (((formF a : Nat) : Int) == ((formF c : Nat) : Int)) = false := by simp; omega
    clear h
    go_wp2_with (go_at_call 14; refine (bits_c _ _ _).mono ?_; rintro e w' ⟨rfl, rfl⟩)
    go_ret
    exact ⟨by rw [H.out]; rfl, rfl⟩

theorem whole_c (a b : Nat) (w : World) : Calls Try.prog 19 #[.complex .f64 a b] w fun e w' => e = .returned (.bool (finB a && finB b)) ∧ ∃ n, w' = w.drewN n := by
  have z0 := ord_zero0
  go_enter Try.func19, Try.ntmps19
  cases ha : finB a
  · obtain ⟨r, hr, h1⟩ := sub_big (P := Try.prog) 38 w a ha
    have h2 := ord_zero r hr
    clear ha hr
    go_wp2
    go_ret
    exact ⟨rfl, 1, rfl⟩
  · have h1 := sub_fin (P := Try.prog) 38 w a ha
    clear ha
    cases hb : finB b
    · obtain ⟨r, hr, h2⟩ := sub_big (P := Try.prog) 38 w b hb
      have h3 := ord_zero r hr
      clear hb hr
      go_wp2
      go_ret
      exact ⟨rfl, 1, rfl⟩
    · have h2 := sub_fin (P := Try.prog) 38 w b hb
      clear hb
      go_wp2
      go_ret
      exact ⟨rfl, 0, rfl⟩

theorem clean_c (a b : Nat) (w : World) : Calls Try.prog 22 #[.complex .f64 a b] w fun e w' => e = .returned (.complex .f64 (formF a) (formF b)) ∧ w = w' := by
  go_enter Try.func22, Try.ntmps22
  go_wp2_with fail
  refine (bits_c _ _ _).mono ?_; rintro e w' ⟨rfl, rfl⟩
  go_wp2_with fail
  refine (of_c _ _ _).mono ?_; rintro e w' ⟨rfl, rfl⟩
  go_wp2_with fail
  go_ret
  exact ⟨rfl, rfl⟩

end Go.Proofs.Ytdeinkkljhkaoaa

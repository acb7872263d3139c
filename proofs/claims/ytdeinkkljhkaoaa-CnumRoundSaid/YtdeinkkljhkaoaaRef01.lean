import Derived.Test.YtdeinkkljhkaoaaCnum
namespace Go.Proofs.Ytdeinkkljhkaoaa
open Go.RowKit

/-! The functions of cnum's reference. -/

theorem refForm_c (b : Nat) (hb : b < 18446744073709551616) (w : World) : Calls Try.prog 10 #[.int .u64 b] w fun e w' => e = .returned (.int .u64 (formF b : Nat)) ∧ w = w' := by
  have B := form_ways b hb
  clear hb
  go_enter Try.func10, Try.ntmps10
  rcases B with ⟨h1, h2, h3⟩ | ⟨h1, h2, h3⟩ | ⟨h1, h3⟩
  all_goals
    have H := Lib.hid h3
    clear h3
    go_wp2
    go_ret
    exact ⟨by rw [H.out]; rfl, rfl⟩

theorem flip_c (b : Nat) (hb : b < 18446744073709551616) (w : World) : Calls Try.prog 29 #[.int .u64 b] w fun e w' => e = .returned (.int .u64 (flipF b : Nat)) ∧ w = w' := by
  have B := flip_ways b hb
  clear hb
  go_enter Try.func29, Try.ntmps29
  rcases B with ⟨h1, h3⟩ | ⟨h1, h3⟩
  all_goals
    go_wp2
    go_ret
    exact ⟨rfl, rfl⟩

theorem refWhole_c (b : Nat) (hb : b < 18446744073709551616) (w : World) : Calls Try.prog 20 #[.int .u64 b] w fun e w' => e = .returned (.bool (finB b)) ∧ w = w' := by
  have H := Lib.hid (finB_eq b hb)
  clear hb
  go_enter Try.func20, Try.ntmps20
  go_wp2
  go_ret
  exact ⟨by rw [← H.out]; rfl, rfl⟩

theorem refTurn_c (a b : Nat) (ha : a < 18446744073709551616) (hb : b < 18446744073709551616) (w : World) :
    Calls Try.prog 16 #[.int .u64 a, .int .u64 b] w fun e w' => e = .returned (.tuple #[.int .u64 (formF (flipF b) : Nat), .int .u64 (formF a : Nat)]) ∧ w = w' := by
  have Ha := Lib.hid ha
  have Hb := Lib.hid hb
  have Hf := Lib.hid (flipF_lt b hb)
  clear ha hb
  go_enter Try.func16, Try.ntmps16
  go_wp2_with fail
  refine (flip_c _ Hb.out _).mono ?_; rintro e w' ⟨rfl, rfl⟩
  go_wp2_with fail
  refine (refForm_c _ Hf.out _).mono ?_; rintro e w' ⟨rfl, rfl⟩
  go_wp2_with fail
  refine (refForm_c _ Ha.out _).mono ?_; rintro e w' ⟨rfl, rfl⟩
  go_wp2_with fail
  go_ret2
  exact ⟨rfl, rfl⟩

theorem refMirror_c (a b : Nat) (ha : a < 18446744073709551616) (hb : b < 18446744073709551616) (w : World) :
    Calls Try.prog 18 #[.int .u64 a, .int .u64 b] w fun e w' => e = .returned (.tuple #[.int .u64 (formF a : Nat), .int .u64 (formF (flipF b) : Nat)]) ∧ w = w' := by
  have Ha := Lib.hid ha
  have Hb := Lib.hid hb
  have Hf := Lib.hid (flipF_lt b hb)
  clear ha hb
  go_enter Try.func18, Try.ntmps18
  go_wp2_with fail
  refine (refForm_c _ Ha.out _).mono ?_; rintro e w' ⟨rfl, rfl⟩
  go_wp2_with fail
  refine (flip_c _ Hb.out _).mono ?_; rintro e w' ⟨rfl, rfl⟩
  go_wp2_with fail
  refine (refForm_c _ Hf.out _).mono ?_; rintro e w' ⟨rfl, rfl⟩
  go_wp2_with fail
  go_ret2
  exact ⟨rfl, rfl⟩

/-- Is a part ahead of another, by the document's words? -/
def aheadF (a b : Nat) : Bool :=
  if FloatKind.f64.format.order (formF a) (formF a) != some .eq then false
  else if FloatKind.f64.format.order (formF b) (formF b) != some .eq then true
  else if FloatKind.f64.format.order (formF a) 0 == some .eq && FloatKind.f64.format.order (formF b) 0 == some .eq then (((a : Int) / 9223372036854775808 == 1) && ((b : Int) / 9223372036854775808 == 0))
  else FloatKind.f64.format.order (formF a) (formF b) == some .lt

section
variable {a b : Nat}
theorem ah1 (h1 : (FloatKind.f64.format.order (formF a) (formF a) != some .eq) = true) : false = aheadF a b := by unfold aheadF; rw [if_pos h1]
theorem ah2 (h1 : (FloatKind.f64.format.order (formF a) (formF a) != some .eq) = false) (h2 : (FloatKind.f64.format.order (formF b) (formF b) != some .eq) = true) : true = aheadF a b := by
  unfold aheadF; rw [h1, if_neg (by simp), if_pos h2]
theorem ah3 (h1 : (FloatKind.f64.format.order (formF a) (formF a) != some .eq) = false) (h2 : (FloatKind.f64.format.order (formF b) (formF b) != some .eq) = false)
    (h3 : FloatKind.f64.format.order (formF a) 0 = some .eq) (h4 : (FloatKind.f64.format.order (formF b) 0 == some .eq) = true) (h5 : (a : Int) / 9223372036854775808 = 1) :
    ((b : Int) / 9223372036854775808 == 0) = aheadF a b := by
  unfold aheadF; rw [h1, if_neg (by simp), h2, if_neg (by simp), h3, h4, h5]; simp
theorem ah4 (h1 : (FloatKind.f64.format.order (formF a) (formF a) != some .eq) = false) (h2 : (FloatKind.f64.format.order (formF b) (formF b) != some .eq) = false)
    (h3 : FloatKind.f64.format.order (formF a) 0 = some .eq) (h4 : (FloatKind.f64.format.order (formF b) 0 == some .eq) = true) (h5 : ¬ (a : Int) / 9223372036854775808 = 1) :
    false = aheadF a b := by
  unfold aheadF; rw [h1, if_neg (by simp), h2, if_neg (by simp), h3, h4]; simp [h5]
theorem ah5 (h1 : (FloatKind.f64.format.order (formF a) (formF a) != some .eq) = false) (h2 : (FloatKind.f64.format.order (formF b) (formF b) != some .eq) = false)
    (h4 : (FloatKind.f64.format.order (formF b) 0 == some .eq) = false) :
    (FloatKind.f64.format.order (formF a) (formF b) == some .lt) = aheadF a b := by
  unfold aheadF; rw [h1, if_neg (by simp), h2, if_neg (by simp), h4]; simp
theorem ah6 (h1 : (FloatKind.f64.format.order (formF a) (formF a) != some .eq) = false) (h2 : (FloatKind.f64.format.order (formF b) (formF b) != some .eq) = false)
    (h3 : ¬ FloatKind.f64.format.order (formF a) 0 = some .eq) :
    (FloatKind.f64.format.order (formF a) (formF b) == some .lt) = aheadF a b := by
  unfold aheadF; rw [h1, if_neg (by simp), h2, if_neg (by simp)]; simp [h3]
end

set_option maxHeartbeats 800000 in
theorem ahead_c (a b : Nat) (ha : a < 18446744073709551616) (hb : b < 18446744073709551616) (w : World) : Calls Try.prog 13 #[.int .u64 a, .int .u64 b] w fun e w' => e = .returned (.bool (aheadF a b)) ∧ w = w' := by
  have hf := fun n => frombits_run n w
  have Ha := Lib.hid ha
  have Hb := Lib.hid hb
  clear ha hb
  go_enter Try.func13, Try.ntmps13
  go_wp2_with fail
  refine (refForm_c _ Ha.out _).mono ?_; rintro e w' ⟨rfl, rfl⟩
  go_wp2_with fail
  refine (refForm_c _ Hb.out _).mono ?_; rintro e w' ⟨rfl, rfl⟩
  go_wp2_with fail
  all_goals
    go_ret
    refine ⟨ret_bool ?_, rfl⟩
    first | exact ah1 ‹_› | exact ah2 ‹_› ‹_› | exact ah3 ‹_› ‹_› ‹_› ‹_› ‹_› | exact ah4 ‹_› ‹_› ‹_› ‹_› ‹_› | exact ah5 ‹_› ‹_› ‹_› | exact ah6 ‹_› ‹_› ‹_›

end Go.Proofs.Ytdeinkkljhkaoaa

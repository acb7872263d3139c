import Derived.Test.YtbhjdapkhcgmlaaProg
import Derived.Test.YtbhjdapkhcgmlaaFl
import Derived.Test.YtbhjdapkhcgmlaaAid

set_option linter.unusedSimpArgs false
set_option linter.unusedVariables false
set_option linter.unnecessarySimpa false

namespace Go.Proofs.Ytbhjdapkhcgmlaa
open Go.RowKit

/-! Those functions of package cnum that pack calls, each by its contract. -/

theorem bits_run (b : Nat) (w : World) : (callFunc 75 #[.float .f64 b]).run Try.prog w = .ok (.value (.int .u64 b)) w := by
  rw [run_callFunc_extern (fn := Try.f75) (e := Extern.MathFloatBits.float64bits) rfl (by kernel_rfl) (by kernel_rfl) (by kernel_rfl) (by kernel_rfl)]
  rfl

theorem frombits_run (n : Int) (w : World) : (callFunc 51 #[.int .u64 n]).run Try.prog w = .ok (.value (.float .f64 n.toNat)) w := by
  rw [run_callFunc_extern (fn := Try.f51) (e := Extern.MathFloatBits.float64frombits) rfl (by kernel_rfl) (by kernel_rfl) (by kernel_rfl) (by kernel_rfl)]
  rfl

theorem isNaN_c (b : Nat) (w : World) : Calls Try.prog 74 #[.float .f64 b] w fun e w' => e = .returned (.bool (nanB b)) ∧ w = w' := by
  have h0 := ord_self b
  go_enter Try.func74, Try.ntmps74
  go_wp2
  go_ret
  exact ⟨rfl, rfl⟩

theorem cof_c (a b : Nat) (w : World) : Calls Try.prog 66 #[.int .u64 a, .int .u64 b] w fun e w' => e = .returned (.complex .f64 a b) ∧ w = w' := by
  have h1 := fun n => frombits_run n w
  go_enter Try.func66, Try.ntmps66
  go_wp2
  go_ret
  exact ⟨rfl, rfl⟩

theorem cform_c (b : Nat) (w : World) : Calls Try.prog 60 #[.float .f64 b] w fun e w' => e = .returned (.int .u64 (formF b : Nat)) ∧ w = w' := by
  have h1 := fun b => bits_run b w
  by_cases hn : nanB b = true
  · have hf : formF b = 9221120237041090561 := by unfold formF; rw [if_pos hn]
    have H := Lib.hid hf; clear hf
    go_enter Try.func60, Try.ntmps60
    go_wp2_with (go_at_call 74; refine (isNaN_c _ _).mono ?_; rintro e w' ⟨rfl, rfl⟩)
    go_ret
    exact ⟨by rw [H.out]; rfl, rfl⟩
  · have hn' : nanB b = false := by simpa using hn
    have hf : formF b = b := by unfold formF; rw [if_neg hn]
    have H := Lib.hid hf; clear hf hn
    go_enter Try.func60, Try.ntmps60
    go_wp2_with (go_at_call 74; refine (isNaN_c _ _).mono ?_; rintro e w' ⟨rfl, rfl⟩)
    go_ret
    exact ⟨by rw [H.out]; rfl, rfl⟩

theorem cbits_c (a b : Nat) (w : World) : Calls Try.prog 42 #[.complex .f64 a b] w fun e w' => e = .returned (.tuple #[.int .u64 (formF a : Nat), .int .u64 (formF b : Nat)]) ∧ w = w' := by
  go_enter Try.func42, Try.ntmps42
  go_wp2_with (go_at_call 60; refine (cform_c _ _).mono ?_; rintro e w' ⟨rfl, rfl⟩)
  go_ret2
  exact ⟨rfl, rfl⟩

end Go.Proofs.Ytbhjdapkhcgmlaa

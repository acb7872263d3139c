import Derived.Test.YtepmdplafnemhaaProg
import Derived.Test.YtepmdplafnemhaaFl
import Derived.Test.YtepmdplafnemhaaAid
namespace Go.Proofs.Ytepmdplafnemhaa
open Go.RowKit

/-! Those functions of package cnum that pack calls, each by its contract. -/

theorem bits_run (b : Nat) (w : World) : (callFunc 29 #[.float .f64 b]).run Try.prog w = .ok (.value (.int .u64 b)) w := by
  rw [run_callFunc_extern (fn := Try.f29) (e := Extern.MathFloatBits.float64bits) rfl (by kernel_rfl) (by kernel_rfl) (by kernel_rfl) (by kernel_rfl)]
  rfl

theorem frombits_run (n : Int) (w : World) : (callFunc 23 #[.int .u64 n]).run Try.prog w = .ok (.value (.float .f64 n.toNat)) w := by
  rw [run_callFunc_extern (fn := Try.f23) (e := Extern.MathFloatBits.float64frombits) rfl (by kernel_rfl) (by kernel_rfl) (by kernel_rfl) (by kernel_rfl)]
  rfl

theorem isNaN_c (b : Nat) (w : World) : Calls Try.prog 28 #[.float .f64 b] w fun e w' => e = .returned (.bool (nanB b)) ∧ w = w' := by
  have h0 := ord_self b
  go_enter Try.func28, Try.ntmps28
  go_wp2
  go_ret
  exact ⟨rfl, rfl⟩

theorem cof_c (a b : Nat) (w : World) : Calls Try.prog 17 #[.int .u64 a, .int .u64 b] w fun e w' => e = .returned (.complex .f64 a b) ∧ w = w' := by
  have h1 := fun n => frombits_run n w
  go_enter Try.func17, Try.ntmps17
  go_wp2
  go_ret
  exact ⟨rfl, rfl⟩

theorem cform_c (b : Nat) (w : World) : Calls Try.prog 27 #[.float .f64 b] w fun e w' => e = .returned (.int .u64 (formF b : Nat)) ∧ w = w' := by
  have h1 := fun b => bits_run b w
  by_cases hn : nanB b = true
  · have hf : formF b = 9221120237041090561 := by unfold formF; rw [if_pos hn]
    have H := Lib.hid hf; clear hf
    go_enter Try.func27, Try.ntmps27
    go_wp2_with (go_at_call 28; refine (isNaN_c _ _).mono ?_; rintro e w' ⟨rfl, rfl⟩)
    go_ret
    exact ⟨by rw [H.out]; rfl, rfl⟩
  · have hn' : nanB b = false := by simpa using hn
    have hf : formF b = b := by unfold formF; rw [if_neg hn]
    have H := Lib.hid hf; clear hf hn
    go_enter Try.func27, Try.ntmps27
    go_wp2_with (go_at_call 28; refine (isNaN_c _ _).mono ?_; rintro e w' ⟨rfl, rfl⟩)
    go_ret
    exact ⟨by rw [H.out]; rfl, rfl⟩

theorem cbits_c (a b : Nat) (w : World) : Calls Try.prog 24 #[.complex .f64 a b] w fun e w' => e = .returned (.tuple #[.int .u64 (formF a : Nat), .int .u64 (formF b : Nat)]) ∧ w = w' := by
  go_enter Try.func24, Try.ntmps24
  go_wp2_with (go_at_call 27; refine (cform_c _ _).mono ?_; rintro e w' ⟨rfl, rfl⟩)
  go_ret2
  exact ⟨rfl, rfl⟩

end Go.Proofs.Ytepmdplafnemhaa

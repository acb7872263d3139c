import Derived.Test.YtbhjdapkhcgmlaaMsgX
import Derived.Handy
import Derived.Deep.Cut

set_option linter.unusedSimpArgs false
set_option linter.unusedVariables false
set_option linter.unnecessarySimpa false

namespace Go.Proofs.Ytbhjdapkhcgmlaa
open Go.RowKit

attribute [local go_sem] run_store_complex

/-! The reference's small functions: a part's form, numbers the same, values, puts. -/

theorem refForm_c (b : Nat) (hb : b < 18446744073709551616) (w : World) : Calls Try.prog 50 #[.int .u64 b] w fun e w' => e = .returned (.int .u64 (formF b : Nat)) ∧ w = w' := by
  have B := form_ways b hb
  clear hb
  go_enter Try.func50, Try.ntmps50
  rcases B with ⟨h1, h2, h3⟩ | ⟨h1, h2, h3⟩ | ⟨h1, h3⟩
  all_goals
    have H := Lib.hid h3
    clear h3
    go_wp2
    go_ret
    exact ⟨by rw [H.out]; rfl, rfl⟩

theorem refBits_c (a b : Nat) (ha : a < 18446744073709551616) (hb : b < 18446744073709551616) (w : World) : Calls Try.prog 69 #[.complex .f64 a b] w fun e w' => e = .returned (.tuple #[.int .u64 (formF a : Nat), .int .u64 (formF b : Nat)]) ∧ w = w' := by
  have ra := bits_run a
  have rb := bits_run b
  have HA := Lib.hid (refForm_c a ha)
  have HB := Lib.hid (refForm_c b hb)
  clear ha hb
  go_enter Try.func69, Try.ntmps69
  go_wp2_with fail
  refine (HA.out _).mono ?_; rintro e w1 ⟨rfl, rfl⟩
  go_wp2_with fail
  refine (HB.out _).mono ?_; rintro e w1 ⟨rfl, rfl⟩
  go_wp2_with fail
  go_ret2
  exact ⟨rfl, rfl⟩

theorem refSame_r (a b : Nat) (ha : a < 18446744073709551616) (hb : b < 18446744073709551616) (w : World) : Calls Try.prog 54 #[.complex .f64 a b, .complex .f64 a b] w fun e w' => e = .returned (.bool true) ∧ w = w' := by
  have H := refBits_c a b ha hb
  clear ha hb
  generalize formF a = x at *
  generalize formF b = y at *
  go_enter Try.func54, Try.ntmps54
  go_wp2_with fail
  refine (H _).mono ?_; rintro e w1 ⟨rfl, rfl⟩
  go_wp2_with fail
  refine (H _).mono ?_; rintro e w1 ⟨rfl, rfl⟩
  go_wp2_with fail
  go_ret
  exact ⟨ret_bool (by simp), rfl⟩

/-- Parts of 64 bits. -/
def W64 (v : Nat × Nat) : Prop := v.1 < 18446744073709551616 ∧ v.2 < 18446744073709551616

theorem rin_c (n lo hi : Int) (w : World) : Calls Try.prog 79 #[.int .i64 n, .int .i64 lo, .int .i64 hi] w fun e w' => e = .returned (.bool (decide (lo ≤ n ∧ n ≤ hi))) ∧ w = w' := by
  by_cases h1 : lo ≤ n <;> by_cases h2 : n ≤ hi
  all_goals
    go_enter Try.func79, Try.ntmps79
    go_wp2_with fail
    go_ret
    exact ⟨ret_bool (by simp [*]), rfl⟩

set_option maxHeartbeats 4000000 in
theorem rvalues_r (a0 b0 a1 b1 a2 b2 a3 b3 : Nat) (g0 : W64 (a0, b0)) (g1 : W64 (a1, b1)) (g2 : W64 (a2, b2)) (g3 : W64 (a3, b3)) (w : World) : Calls Try.prog 28 #[.agg #[.complex .f64 a0 b0, .complex .f64 a1 b1, .complex .f64 a2 b2, .complex .f64 a3 b3], .agg #[.complex .f64 a0 b0, .complex .f64 a1 b1, .complex .f64 a2 b2, .complex .f64 a3 b3]] w fun e w' => e = .returned (.bool true) ∧ Below w.heap.size w w' := by
  have hb := below2 w (.cells #[.complex .f64 a0 b0, .complex .f64 a1 b1, .complex .f64 a2 b2, .complex .f64 a3 b3] 28) (.cells #[.complex .f64 a0 b0, .complex .f64 a1 b1, .complex .f64 a2 b2, .complex .f64 a3 b3] 28)
  have p1 := heap_alloc2_old w (.cells #[.complex .f64 a0 b0, .complex .f64 a1 b1, .complex .f64 a2 b2, .complex .f64 a3 b3] 28) (.cells #[.complex .f64 a0 b0, .complex .f64 a1 b1, .complex .f64 a2 b2, .complex .f64 a3 b3] 28)
  have p2 := heap_alloc2_new w (.cells #[.complex .f64 a0 b0, .complex .f64 a1 b1, .complex .f64 a2 b2, .complex .f64 a3 b3] 28) (.cells #[.complex .f64 a0 b0, .complex .f64 a1 b1, .complex .f64 a2 b2, .complex .f64 a3 b3] 28)
  have H0 := Lib.hid (refSame_r a0 b0 g0.1 g0.2)
  have H1 := Lib.hid (refSame_r a1 b1 g1.1 g1.2)
  have H2 := Lib.hid (refSame_r a2 b2 g2.1 g2.2)
  have H3 := Lib.hid (refSame_r a3 b3 g3.1 g3.2)
  clear g0 g1 g2 g3
  go_enter Try.func28, Try.ntmps28
  go_wp2_with fail
  generalize (w.alloc (.cells #[.complex .f64 a0 b0, .complex .f64 a1 b1, .complex .f64 a2 b2, .complex .f64 a3 b3] 28)).alloc (.cells #[.complex .f64 a0 b0, .complex .f64 a1 b1, .complex .f64 a2 b2, .complex .f64 a3 b3] 28) = W0 at *
  have HB := Lib.hid hb
  have HP1 := Lib.hid p1
  have HP2 := Lib.hid p2
  clear hb p1 p2
  go_loopw [5] (fun i wr => ∃ k n : Nat, k ≤ 4 ∧ i = .int .i64 k ∧ wr = W0.drewN n) (fun i _ => 4 - (intOf i).toNat)
  case atStart => exact ⟨0, 0, Nat.zero_le _, rfl, rfl⟩
  case round =>
    obtain ⟨k, n, hk, rfl, rfl⟩ := hrel
    obtain ⟨x0, x1, x2, x3, xz⟩ := row4 HP1.out
    obtain ⟨y0, y1, y2, y3, yz⟩ := row4 HP2.out
    by_cases hlt : k < 4
    · obtain rfl | rfl | rfl | rfl : k = 0 ∨ k = 1 ∨ k = 2 ∨ k = 3 := by omega
      · go_wp2_with fail
        go_quiet ((go_at_call 54; first | exact quiet_left (H0.out _) | exact quiet_add_left (H0.out _)))
        go_wp2_with fail
        go_roundw
        case rel => exact ⟨0 + 1, _, by omega, rfl, rfl⟩
        case measure => simp [intOf]
      · go_wp2_with fail
        go_quiet ((go_at_call 54; first | exact quiet_left (H1.out _) | exact quiet_add_left (H1.out _)))
        go_wp2_with fail
        go_roundw
        case rel => exact ⟨1 + 1, _, by omega, rfl, rfl⟩
        case measure => simp [intOf]
      · go_wp2_with fail
        go_quiet ((go_at_call 54; first | exact quiet_left (H2.out _) | exact quiet_add_left (H2.out _)))
        go_wp2_with fail
        go_roundw
        case rel => exact ⟨2 + 1, _, by omega, rfl, rfl⟩
        case measure => simp [intOf]
      · go_wp2_with fail
        go_quiet ((go_at_call 54; first | exact quiet_left (H3.out _) | exact quiet_add_left (H3.out _)))
        go_wp2_with fail
        go_roundw
        case rel => exact ⟨3 + 1, _, by omega, rfl, rfl⟩
        case measure => simp [intOf]
    · have he : k = 4 := by omega
      subst he
      go_wp2_with fail
      go_ret
      exact ⟨ret_bool (by simp), below_drewN HB.out _⟩

end Go.Proofs.Ytbhjdapkhcgmlaa

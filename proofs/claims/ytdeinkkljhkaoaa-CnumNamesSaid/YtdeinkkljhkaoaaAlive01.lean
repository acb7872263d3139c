import Derived.Test.YtdeinkkljhkaoaaRef01
namespace Go.Proofs.Ytdeinkkljhkaoaa
open Go.RowKit

/-! The chapter's example. -/

set_option maxHeartbeats 1000000 in
theorem alive_c (w : World) : Calls Try.prog 11 #[] w fun e w' => e = .returned (.bool true) ∧ ∃ n, w' = w.drewN n := by
  have hb := fun b => bits_run b w
  have f1 : formF 4607182418800017408 = 4607182418800017408 := by decide +kernel
  have f2 : formF 13835058055282163712 = 13835058055282163712 := by decide +kernel
  have f3 : flipF 4611686018427387904 = 13835058055282163712 := by decide +kernel
  have f4 : lessF 4607182418800017408 4611686018427387904 4607182418800017408 4613937818241073152 = true := by decide +kernel
  have f5 : finB 4607182418800017408 = true := by decide +kernel
  have f6 : finB 4611686018427387904 = true := by decide +kernel
  have f7 : (FloatKind.f64.format.order 13835058055282163712 13835058055282163712 == some .eq) = true := by decide +kernel
  have f8 : (FloatKind.f64.format.order 4607182418800017408 4607182418800017408 == some .eq) = true := by decide +kernel
  go_enter Try.func11, Try.ntmps11
  go_wp2_with fail
  refine (bits_c _ _ _).mono ?_; rintro e w' ⟨rfl, rfl⟩
  go_wp2_with fail
  refine (turn_c _ _ _).mono ?_; rintro e w' ⟨rfl, rfl⟩
  go_wp2_with fail
  refine (less_c _ _ _ _ (by omega) (by omega) (by omega) (by omega) _).mono ?_; rintro e w' ⟨rfl, rfl⟩
  go_wp2_with fail
  refine (whole_c _ _ _).mono ?_; rintro e w' ⟨rfl, n, rfl⟩
  go_wp2_with fail
  go_ret
  exact ⟨by simp only [f5, f6]; rfl, n, rfl⟩

end Go.Proofs.Ytdeinkkljhkaoaa

import Derived.Test.YteoafaofiohefaaNetO
namespace Go.Proofs.Yteoafaofiohefaa
open Go.RowKit

/-! net.Lane. -/

set_option maxHeartbeats 2000000 in
theorem Lane_at (k : Nat) (hk : k < 4) (s : Bool) (w : World) : Calls Try.prog 10 #[.int .i64 k, .bool s] w fun e w' => e = .returned (.int .i64 (if s then 2 * (k : Int) + 1 else 2 * (k : Int))) ∧ w = w' := by
  obtain rfl | rfl | rfl | rfl : k = 0 ∨ k = 1 ∨ k = 2 ∨ k = 3 := by omega
  all_goals
    cases s
    all_goals
      go_enter Try.func10, Try.ntmps10
      go_wp2_with fail
      go_ret
      exact ⟨rfl, rfl⟩

theorem Lane_four (w : World) : Calls Try.prog 10 #[.int .i64 4, .bool false] w fun e w' => e = .returned (.int .i64 (-1)) ∧ w = w' := by
  go_enter Try.func10, Try.ntmps10
  go_wp2_with fail
  go_ret
  exact ⟨rfl, rfl⟩

theorem Lane_neg (w : World) : Calls Try.prog 10 #[.int .i64 (-1), .bool true] w fun e w' => e = .returned (.int .i64 (-1)) ∧ w = w' := by
  go_enter Try.func10, Try.ntmps10
  go_wp2_with fail
  go_ret
  exact ⟨rfl, rfl⟩

end Go.Proofs.Yteoafaofiohefaa

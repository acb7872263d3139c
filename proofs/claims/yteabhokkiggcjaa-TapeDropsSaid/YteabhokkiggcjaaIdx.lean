import Derived.Test.YteabhokkiggcjaaKeeps
namespace Go.Proofs.Yteabhokkiggcjaa
open Go.RowKit

/-- An element of three pointers. -/
theorem idx0 (W : World) (a b c : Option Addr) : (Instr.index 49 (.agg #[.pointer a, .pointer b, .pointer c]) (.int .i64 0)).run Try.prog W = .ok (.pointer a) W := by
  simp [Instr.index, run_underlying Try.underlying49, asIntOf, go_sem]
theorem idx1 (W : World) (a b c : Option Addr) : (Instr.index 49 (.agg #[.pointer a, .pointer b, .pointer c]) (.int .i64 1)).run Try.prog W = .ok (.pointer b) W := by
  simp [Instr.index, run_underlying Try.underlying49, asIntOf, go_sem]
theorem idx2 (W : World) (a b c : Option Addr) : (Instr.index 49 (.agg #[.pointer a, .pointer b, .pointer c]) (.int .i64 2)).run Try.prog W = .ok (.pointer c) W := by
  simp [Instr.index, run_underlying Try.underlying49, asIntOf, go_sem]

end Go.Proofs.Yteabhokkiggcjaa

/-
  No cell of these rows narrows 'for every input' (looked for: loops, veiled, ifaces, maps, wideKeys, modest, calm, conditions, laid).
  DERIVED. THE GIVEN ROWS OF THIS SEAT. 5 by the template 'for every input the law returns true; each argument reads behind the call as it read before'; 0 by the template 'total and deterministic' (their statements: YteabhokkiggcjaaTotals.lean).
  GIVEN WITH THE SEED: the statements are not yours to turn. If you find one false, say at which input.
  Laid BY PROGRAM, IN A SANDBOX (cutbox-rows.mjs): the forced cells as the released guide's own fill.sh prints them over the translation b247e106a3e52e1b… (all of the seat's roots in one cut). By AI agents, Wed Nov 11 2026. No macro, syntax, notation, axiom, sorry.
-/
import Derived.Test.YteabhokkiggcjaaChecked
import GoSem.Claim
import GoSem.ClaimJoined
import GoSem.ClaimMapViews
import Derived.JoinedTies
import Derived.KernelRfl
namespace Go.Proofs.Yteabhokkiggcjaa
/- THE CELL 'sum', in the pinned program and in every row, IS THE sha256 OF THE DUMP (.gsa) THAT YteabhokkiggcjaaProg.lean LOADS. Nothing in Lean hashes anything: it is a label: what it is worth is what the hold of that sum in a sandbox is worth. -/
noncomputable def Try.pinned : Pinned := { name := "yteabhokkiggcjaa", sum := "b247e106a3e52e1bb21bc083a374a75264a89f0485bc89b6582f1fd9616d88bd", checked := Try.checked }
namespace Rows
def none {H : Type} : Left H := { results := [], args := [] }

/-- 'cloakroomlaw06.TapeNames': WHATEVER THE INPUT: true; the input reads as it did. -/
def tapeNamesSpec : ChangeSpec := { name := "tapeNames", fn := fun _ => fun
  | [] => { results := [.lit (.bool true)], args := [] }
  | _ => none }
def tapeNamesRow : OpenClaim := { program := "yteabhokkiggcjaa", sum := "b247e106a3e52e1bb21bc083a374a75264a89f0485bc89b6582f1fd9616d88bd", func := "cloakroom/cloakroomlaw06.TapeNames", spec := "tapeNames", apart := false }
def TapeNamesSaid : Prop := tapeNamesRow.holds Try.pinned (OpenSpec.ofChange tapeNamesSpec)

/-- ITS FALSE NEIGHBOUR: 'it returns false'. Refute it at one input. -/
def tapeNamesWrong : ChangeSpec := { name := "tapeNames", fn := fun _ => fun
  | [] => { results := [.lit (.bool false)], args := [] }
  | _ => none }
def TapeNamesWrongFalsely : Prop := tapeNamesRow.holds Try.pinned (OpenSpec.ofChange tapeNamesWrong)

/-- 'cloakroomlaw06.TapeKeeps': WHATEVER THE INPUT: true; the input reads as it did. -/
def tapeKeepsSpec : ChangeSpec := { name := "tapeKeeps", fn := fun _ => fun
  | [d1, d2] => { results := [.lit (.bool true)], args := [d1, d2] }
  | _ => none }
def tapeKeepsRow : OpenClaim := { program := "yteabhokkiggcjaa", sum := "b247e106a3e52e1bb21bc083a374a75264a89f0485bc89b6582f1fd9616d88bd", func := "cloakroom/cloakroomlaw06.TapeKeeps", spec := "tapeKeeps", apart := false }
def TapeKeepsSaid : Prop := tapeKeepsRow.holds Try.pinned (OpenSpec.ofChange tapeKeepsSpec)

/-- ITS FALSE NEIGHBOUR: 'it returns false'. Refute it at one input. -/
def tapeKeepsWrong : ChangeSpec := { name := "tapeKeeps", fn := fun _ => fun
  | [d1, d2] => { results := [.lit (.bool false)], args := [d1, d2] }
  | _ => none }
def TapeKeepsWrongFalsely : Prop := tapeKeepsRow.holds Try.pinned (OpenSpec.ofChange tapeKeepsWrong)

/-- 'cloakroomlaw06.TapeRoom': WHATEVER THE INPUT: true; the input reads as it did. -/
def tapeRoomSpec : ChangeSpec := { name := "tapeRoom", fn := fun _ => fun
  | [d1, d2, d3] => { results := [.lit (.bool true)], args := [d1, d2, d3] }
  | _ => none }
def tapeRoomRow : OpenClaim := { program := "yteabhokkiggcjaa", sum := "b247e106a3e52e1bb21bc083a374a75264a89f0485bc89b6582f1fd9616d88bd", func := "cloakroom/cloakroomlaw06.TapeRoom", spec := "tapeRoom", apart := false }
def TapeRoomSaid : Prop := tapeRoomRow.holds Try.pinned (OpenSpec.ofChange tapeRoomSpec)

/-- ITS FALSE NEIGHBOUR: 'it returns false'. Refute it at one input. -/
def tapeRoomWrong : ChangeSpec := { name := "tapeRoom", fn := fun _ => fun
  | [d1, d2, d3] => { results := [.lit (.bool false)], args := [d1, d2, d3] }
  | _ => none }
def TapeRoomWrongFalsely : Prop := tapeRoomRow.holds Try.pinned (OpenSpec.ofChange tapeRoomWrong)

/-- 'cloakroomlaw06.TapeRuns': WHATEVER THE INPUT: true; the input reads as it did. -/
def tapeRunsSpec : ChangeSpec := { name := "tapeRuns", fn := fun _ => fun
  | [d1, d2] => { results := [.lit (.bool true)], args := [d1, d2] }
  | _ => none }
def tapeRunsRow : OpenClaim := { program := "yteabhokkiggcjaa", sum := "b247e106a3e52e1bb21bc083a374a75264a89f0485bc89b6582f1fd9616d88bd", func := "cloakroom/cloakroomlaw06.TapeRuns", spec := "tapeRuns", apart := false }
def TapeRunsSaid : Prop := tapeRunsRow.holds Try.pinned (OpenSpec.ofChange tapeRunsSpec)

/-- ITS FALSE NEIGHBOUR: 'it returns false'. Refute it at one input. -/
def tapeRunsWrong : ChangeSpec := { name := "tapeRuns", fn := fun _ => fun
  | [d1, d2] => { results := [.lit (.bool false)], args := [d1, d2] }
  | _ => none }
def TapeRunsWrongFalsely : Prop := tapeRunsRow.holds Try.pinned (OpenSpec.ofChange tapeRunsWrong)

/-- 'cloakroomlaw06.TapeDrops': WHATEVER THE INPUT: true; the input reads as it did. -/
def tapeDropsSpec : ChangeSpec := { name := "tapeDrops", fn := fun _ => fun
  | [d1, d2, d3] => { results := [.lit (.bool true)], args := [d1, d2, d3] }
  | _ => none }
def tapeDropsRow : OpenClaim := { program := "yteabhokkiggcjaa", sum := "b247e106a3e52e1bb21bc083a374a75264a89f0485bc89b6582f1fd9616d88bd", func := "cloakroom/cloakroomlaw06.TapeDrops", spec := "tapeDrops", apart := false }
def TapeDropsSaid : Prop := tapeDropsRow.holds Try.pinned (OpenSpec.ofChange tapeDropsSpec)

/-- ITS FALSE NEIGHBOUR: 'it returns false'. Refute it at one input. -/
def tapeDropsWrong : ChangeSpec := { name := "tapeDrops", fn := fun _ => fun
  | [d1, d2, d3] => { results := [.lit (.bool false)], args := [d1, d2, d3] }
  | _ => none }
def TapeDropsWrongFalsely : Prop := tapeDropsRow.holds Try.pinned (OpenSpec.ofChange tapeDropsWrong)

/- THE SECOND FORM. 'bulk': how many values and letters a reading holds, each counted each time it is reached (what is shared counts as often as it is met; a slice's spare places count too). A statement '..UptoSaid' is the law's where the arguments, and the package variables that the reading takes, are together of bulk at most 1048576: NARROWER than '..Said'. Prove '..Said' where nothing that the law and all that it calls make is longer than what came in: it says more and counts as full. Else prove '..UptoSaid'. A law counts once. -/
mutual
def uptoBulk {H : Type} : DataW H → Nat
  | .lit (.string bytes) => bytes.length + 1
  | .lit _ => 1
  | .nil => 1
  | .ptr d => uptoBulk d + 1
  | .slice elems spare => uptoBulkAll elems + uptoBulkAll spare + 1
  | .agg parts => uptoBulkAll parts + 1
  | .iface _ d => uptoBulk d + 1
  | .map entries => uptoBulkEntries entries + 1
  | .held _ => 1
def uptoBulkAll {H : Type} : List (DataW H) → Nat
  | [] => 0
  | d :: r => uptoBulk d + uptoBulkAll r
def uptoBulkEntries {H : Type} : List (Lit × DataW H) → Nat
  | [] => 0
  | x :: r => uptoBulkEntry x + uptoBulkEntries r
def uptoBulkEntry {H : Type} : Lit × DataW H → Nat
  | (.string bytes, d) => bytes.length + uptoBulk d + 1
  | (_, d) => uptoBulk d + 1
 end
def uptoSmall : (H : Type) → List (DataW H) → Bool := fun _ ds => decide (uptoBulkAll ds ≤ 1048576)
def OpenSpec.upto (s : _root_.Go.ChangeSpec) : _root_.Go.OpenSpec := { _root_.Go.OpenSpec.ofChange s with cond := some uptoSmall }

/-- 'cloakroomlaw06.TapeNames', WHERE WHAT IT READS IS OF BULK AT MOST 1048576: true; the input reads as it did. -/
def tapeNamesUptoRow : OpenClaim := { program := "yteabhokkiggcjaa", sum := "b247e106a3e52e1bb21bc083a374a75264a89f0485bc89b6582f1fd9616d88bd", func := "cloakroom/cloakroomlaw06.TapeNames", spec := "tapeNames", apart := false, narrowed := true }
def TapeNamesUptoSaid : Prop := tapeNamesUptoRow.holds Try.pinned (OpenSpec.upto tapeNamesSpec)

/-- 'cloakroomlaw06.TapeKeeps', WHERE WHAT IT READS IS OF BULK AT MOST 1048576: true; the input reads as it did. -/
def tapeKeepsUptoRow : OpenClaim := { program := "yteabhokkiggcjaa", sum := "b247e106a3e52e1bb21bc083a374a75264a89f0485bc89b6582f1fd9616d88bd", func := "cloakroom/cloakroomlaw06.TapeKeeps", spec := "tapeKeeps", apart := false, narrowed := true }
def TapeKeepsUptoSaid : Prop := tapeKeepsUptoRow.holds Try.pinned (OpenSpec.upto tapeKeepsSpec)

/-- 'cloakroomlaw06.TapeRoom', WHERE WHAT IT READS IS OF BULK AT MOST 1048576: true; the input reads as it did. -/
def tapeRoomUptoRow : OpenClaim := { program := "yteabhokkiggcjaa", sum := "b247e106a3e52e1bb21bc083a374a75264a89f0485bc89b6582f1fd9616d88bd", func := "cloakroom/cloakroomlaw06.TapeRoom", spec := "tapeRoom", apart := false, narrowed := true }
def TapeRoomUptoSaid : Prop := tapeRoomUptoRow.holds Try.pinned (OpenSpec.upto tapeRoomSpec)

/-- 'cloakroomlaw06.TapeRuns', WHERE WHAT IT READS IS OF BULK AT MOST 1048576: true; the input reads as it did. -/
def tapeRunsUptoRow : OpenClaim := { program := "yteabhokkiggcjaa", sum := "b247e106a3e52e1bb21bc083a374a75264a89f0485bc89b6582f1fd9616d88bd", func := "cloakroom/cloakroomlaw06.TapeRuns", spec := "tapeRuns", apart := false, narrowed := true }
def TapeRunsUptoSaid : Prop := tapeRunsUptoRow.holds Try.pinned (OpenSpec.upto tapeRunsSpec)

/-- 'cloakroomlaw06.TapeDrops', WHERE WHAT IT READS IS OF BULK AT MOST 1048576: true; the input reads as it did. -/
def tapeDropsUptoRow : OpenClaim := { program := "yteabhokkiggcjaa", sum := "b247e106a3e52e1bb21bc083a374a75264a89f0485bc89b6582f1fd9616d88bd", func := "cloakroom/cloakroomlaw06.TapeDrops", spec := "tapeDrops", apart := false, narrowed := true }
def TapeDropsUptoSaid : Prop := tapeDropsUptoRow.holds Try.pinned (OpenSpec.upto tapeDropsSpec)

end Rows
end Go.Proofs.Yteabhokkiggcjaa

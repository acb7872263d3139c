/-
  No cell of these rows narrows 'for every input' (looked for: loops, veiled, ifaces, maps, wideKeys, modest, calm, conditions, laid).
  DERIVED. THE GIVEN ROWS OF THIS SEAT. 6 by the template 'for every input the law returns true; each argument reads behind the call as it read before'; 0 by the template 'total and deterministic' (their statements: YtdeinkkljhkaoaaTotals.lean).
  GIVEN WITH THE SEED: the statements are not yours to turn. If you find one false, say at which input.
  Laid BY PROGRAM, IN A SANDBOX (cutbox-rows.mjs): the forced cells as the released guide's own fill.sh prints them over the translation b8a3f979c578a88d… (all of the seat's roots in one cut). By AI agents, Wed Nov 11 2026. No macro, syntax, notation, axiom, sorry.
-/
import Derived.Test.YtdeinkkljhkaoaaChecked
import GoSem.Claim
import GoSem.ClaimJoined
import GoSem.ClaimMapViews
import Derived.JoinedTies
import Derived.KernelRfl
namespace Go.Proofs.Ytdeinkkljhkaoaa
/- THE CELL 'sum', in the pinned program and in every row, IS THE sha256 OF THE DUMP (.gsa) THAT YtdeinkkljhkaoaaProg.lean LOADS. Nothing in Lean hashes anything: it is a label: what it is worth is what the hold of that sum in a sandbox is worth. -/
noncomputable def Try.pinned : Pinned := { name := "ytdeinkkljhkaoaa", sum := "b8a3f979c578a88d2d4dd82561d5c9b86c85de3e807a5559ab9d9dbf1effb421", checked := Try.checked }
namespace Rows
def none {H : Type} : Left H := { results := [], args := [] }

/-- 'cloakroomlaw01.CnumOrder': WHATEVER THE INPUT: true; the input reads as it did. -/
def cnumOrderSpec : ChangeSpec := { name := "cnumOrder", fn := fun _ => fun
  | [d1, d2] => { results := [.lit (.bool true)], args := [d1, d2] }
  | _ => none }
def cnumOrderRow : OpenClaim := { program := "ytdeinkkljhkaoaa", sum := "b8a3f979c578a88d2d4dd82561d5c9b86c85de3e807a5559ab9d9dbf1effb421", func := "cloakroom/cloakroomlaw01.CnumOrder", spec := "cnumOrder", inPlace := ["math.Float64frombits", "math.Float64bits"], apart := false }
def CnumOrderSaid : Prop := cnumOrderRow.holds Try.pinned (OpenSpec.ofChange cnumOrderSpec)

/-- ITS FALSE NEIGHBOUR: 'it returns false'. Refute it at one input. -/
def cnumOrderWrong : ChangeSpec := { name := "cnumOrder", fn := fun _ => fun
  | [d1, d2] => { results := [.lit (.bool false)], args := [d1, d2] }
  | _ => none }
def CnumOrderWrongFalsely : Prop := cnumOrderRow.holds Try.pinned (OpenSpec.ofChange cnumOrderWrong)

/-- 'cloakroomlaw01.CnumTurns': WHATEVER THE INPUT: true; the input reads as it did. -/
def cnumTurnsSpec : ChangeSpec := { name := "cnumTurns", fn := fun _ => fun
  | [d1, d2] => { results := [.lit (.bool true)], args := [d1, d2] }
  | _ => none }
def cnumTurnsRow : OpenClaim := { program := "ytdeinkkljhkaoaa", sum := "b8a3f979c578a88d2d4dd82561d5c9b86c85de3e807a5559ab9d9dbf1effb421", func := "cloakroom/cloakroomlaw01.CnumTurns", spec := "cnumTurns", inPlace := ["math.Float64frombits", "math.Float64bits"], apart := false }
def CnumTurnsSaid : Prop := cnumTurnsRow.holds Try.pinned (OpenSpec.ofChange cnumTurnsSpec)

/-- ITS FALSE NEIGHBOUR: 'it returns false'. Refute it at one input. -/
def cnumTurnsWrong : ChangeSpec := { name := "cnumTurns", fn := fun _ => fun
  | [d1, d2] => { results := [.lit (.bool false)], args := [d1, d2] }
  | _ => none }
def CnumTurnsWrongFalsely : Prop := cnumTurnsRow.holds Try.pinned (OpenSpec.ofChange cnumTurnsWrong)

/-- 'cloakroomlaw01.CnumChain': WHATEVER THE INPUT: true; the input reads as it did. -/
def cnumChainSpec : ChangeSpec := { name := "cnumChain", fn := fun _ => fun
  | [d1, d2, d3] => { results := [.lit (.bool true)], args := [d1, d2, d3] }
  | _ => none }
def cnumChainRow : OpenClaim := { program := "ytdeinkkljhkaoaa", sum := "b8a3f979c578a88d2d4dd82561d5c9b86c85de3e807a5559ab9d9dbf1effb421", func := "cloakroom/cloakroomlaw01.CnumChain", spec := "cnumChain", inPlace := ["math.Float64bits", "math.Float64frombits"], apart := false }
def CnumChainSaid : Prop := cnumChainRow.holds Try.pinned (OpenSpec.ofChange cnumChainSpec)

/-- ITS FALSE NEIGHBOUR: 'it returns false'. Refute it at one input. -/
def cnumChainWrong : ChangeSpec := { name := "cnumChain", fn := fun _ => fun
  | [d1, d2, d3] => { results := [.lit (.bool false)], args := [d1, d2, d3] }
  | _ => none }
def CnumChainWrongFalsely : Prop := cnumChainRow.holds Try.pinned (OpenSpec.ofChange cnumChainWrong)

/-- 'cloakroomlaw01.CnumRound': WHATEVER THE INPUT: true; the input reads as it did. -/
def cnumRoundSpec : ChangeSpec := { name := "cnumRound", fn := fun _ => fun
  | [d1, d2] => { results := [.lit (.bool true)], args := [d1, d2] }
  | _ => none }
def cnumRoundRow : OpenClaim := { program := "ytdeinkkljhkaoaa", sum := "b8a3f979c578a88d2d4dd82561d5c9b86c85de3e807a5559ab9d9dbf1effb421", func := "cloakroom/cloakroomlaw01.CnumRound", spec := "cnumRound", inPlace := ["math.Float64bits", "math.Float64frombits"], apart := false }
def CnumRoundSaid : Prop := cnumRoundRow.holds Try.pinned (OpenSpec.ofChange cnumRoundSpec)

/-- ITS FALSE NEIGHBOUR: 'it returns false'. Refute it at one input. -/
def cnumRoundWrong : ChangeSpec := { name := "cnumRound", fn := fun _ => fun
  | [d1, d2] => { results := [.lit (.bool false)], args := [d1, d2] }
  | _ => none }
def CnumRoundWrongFalsely : Prop := cnumRoundRow.holds Try.pinned (OpenSpec.ofChange cnumRoundWrong)

/-- 'cloakroomlaw01.CnumAlike': WHATEVER THE INPUT: true; the input reads as it did. -/
def cnumAlikeSpec : ChangeSpec := { name := "cnumAlike", fn := fun _ => fun
  | [d1, d2] => { results := [.lit (.bool true)], args := [d1, d2] }
  | _ => none }
def cnumAlikeRow : OpenClaim := { program := "ytdeinkkljhkaoaa", sum := "b8a3f979c578a88d2d4dd82561d5c9b86c85de3e807a5559ab9d9dbf1effb421", func := "cloakroom/cloakroomlaw01.CnumAlike", spec := "cnumAlike", inPlace := ["math.Float64bits", "math.Float64frombits"], apart := false }
def CnumAlikeSaid : Prop := cnumAlikeRow.holds Try.pinned (OpenSpec.ofChange cnumAlikeSpec)

/-- ITS FALSE NEIGHBOUR: 'it returns false'. Refute it at one input. -/
def cnumAlikeWrong : ChangeSpec := { name := "cnumAlike", fn := fun _ => fun
  | [d1, d2] => { results := [.lit (.bool false)], args := [d1, d2] }
  | _ => none }
def CnumAlikeWrongFalsely : Prop := cnumAlikeRow.holds Try.pinned (OpenSpec.ofChange cnumAlikeWrong)

/-- 'cloakroomlaw01.CnumNames': WHATEVER THE INPUT: true; the input reads as it did. -/
def cnumNamesSpec : ChangeSpec := { name := "cnumNames", fn := fun _ => fun
  | [] => { results := [.lit (.bool true)], args := [] }
  | _ => none }
def cnumNamesRow : OpenClaim := { program := "ytdeinkkljhkaoaa", sum := "b8a3f979c578a88d2d4dd82561d5c9b86c85de3e807a5559ab9d9dbf1effb421", func := "cloakroom/cloakroomlaw01.CnumNames", spec := "cnumNames", inPlace := ["math.Float64frombits", "math.Float64bits"], apart := false }
def CnumNamesSaid : Prop := cnumNamesRow.holds Try.pinned (OpenSpec.ofChange cnumNamesSpec)

/-- ITS FALSE NEIGHBOUR: 'it returns false'. Refute it at one input. -/
def cnumNamesWrong : ChangeSpec := { name := "cnumNames", fn := fun _ => fun
  | [] => { results := [.lit (.bool false)], args := [] }
  | _ => none }
def CnumNamesWrongFalsely : Prop := cnumNamesRow.holds Try.pinned (OpenSpec.ofChange cnumNamesWrong)

/- THE SECOND FORM. 'bulk': how many values and letters a reading holds, each counted each time it is reached (what is shared counts as often as it is met; a slice's spare places count too). A statement '..UptoSaid' is the law's where the arguments, and the package variables that the reading takes, are together of bulk at most 1048576: NARROWER than '..Said'. Prove '..Said' where nothing that the law and all that it calls make is longer than what came in: it says more and counts as full. Else prove '..UptoSaid'. A law counts once. -/
mutual
def uptoBulk {H : Type} : DataW H → Nat
  | .lit (.string bytes) => bytes.length + 1
  | .lit _ => 1
  | .nil => 1
  | .ptr d => uptoBulk d + 1
  | .slice elems spare => uptoBulkAll elems + uptoBulkAll spare + 1
  | .agg parts => uptoBulkAll parts + 1
  | .iface _ d => uptoBulk d + 1
  | .map entries => uptoBulkEntries entries + 1
  | .held _ => 1
def uptoBulkAll {H : Type} : List (DataW H) → Nat
  | [] => 0
  | d :: r => uptoBulk d + uptoBulkAll r
def uptoBulkEntries {H : Type} : List (Lit × DataW H) → Nat
  | [] => 0
  | x :: r => uptoBulkEntry x + uptoBulkEntries r
def uptoBulkEntry {H : Type} : Lit × DataW H → Nat
  | (.string bytes, d) => bytes.length + uptoBulk d + 1
  | (_, d) => uptoBulk d + 1
 end
def uptoSmall : (H : Type) → List (DataW H) → Bool := fun _ ds => decide (uptoBulkAll ds ≤ 1048576)
def OpenSpec.upto (s : _root_.Go.ChangeSpec) : _root_.Go.OpenSpec := { _root_.Go.OpenSpec.ofChange s with cond := some uptoSmall }

/-- 'cloakroomlaw01.CnumOrder', WHERE WHAT IT READS IS OF BULK AT MOST 1048576: true; the input reads as it did. -/
def cnumOrderUptoRow : OpenClaim := { program := "ytdeinkkljhkaoaa", sum := "b8a3f979c578a88d2d4dd82561d5c9b86c85de3e807a5559ab9d9dbf1effb421", func := "cloakroom/cloakroomlaw01.CnumOrder", spec := "cnumOrder", inPlace := ["math.Float64frombits", "math.Float64bits"], apart := false, narrowed := true }
def CnumOrderUptoSaid : Prop := cnumOrderUptoRow.holds Try.pinned (OpenSpec.upto cnumOrderSpec)

/-- 'cloakroomlaw01.CnumTurns', WHERE WHAT IT READS IS OF BULK AT MOST 1048576: true; the input reads as it did. -/
def cnumTurnsUptoRow : OpenClaim := { program := "ytdeinkkljhkaoaa", sum := "b8a3f979c578a88d2d4dd82561d5c9b86c85de3e807a5559ab9d9dbf1effb421", func := "cloakroom/cloakroomlaw01.CnumTurns", spec := "cnumTurns", inPlace := ["math.Float64frombits", "math.Float64bits"], apart := false, narrowed := true }
def CnumTurnsUptoSaid : Prop := cnumTurnsUptoRow.holds Try.pinned (OpenSpec.upto cnumTurnsSpec)

/-- 'cloakroomlaw01.CnumChain', WHERE WHAT IT READS IS OF BULK AT MOST 1048576: true; the input reads as it did. -/
def cnumChainUptoRow : OpenClaim := { program := "ytdeinkkljhkaoaa", sum := "b8a3f979c578a88d2d4dd82561d5c9b86c85de3e807a5559ab9d9dbf1effb421", func := "cloakroom/cloakroomlaw01.CnumChain", spec := "cnumChain", inPlace := ["math.Float64bits", "math.Float64frombits"], apart := false, narrowed := true }
def CnumChainUptoSaid : Prop := cnumChainUptoRow.holds Try.pinned (OpenSpec.upto cnumChainSpec)

/-- 'cloakroomlaw01.CnumRound', WHERE WHAT IT READS IS OF BULK AT MOST 1048576: true; the input reads as it did. -/
def cnumRoundUptoRow : OpenClaim := { program := "ytdeinkkljhkaoaa", sum := "b8a3f979c578a88d2d4dd82561d5c9b86c85de3e807a5559ab9d9dbf1effb421", func := "cloakroom/cloakroomlaw01.CnumRound", spec := "cnumRound", inPlace := ["math.Float64bits", "math.Float64frombits"], apart := false, narrowed := true }
def CnumRoundUptoSaid : Prop := cnumRoundUptoRow.holds Try.pinned (OpenSpec.upto cnumRoundSpec)

/-- 'cloakroomlaw01.CnumAlike', WHERE WHAT IT READS IS OF BULK AT MOST 1048576: true; the input reads as it did. -/
def cnumAlikeUptoRow : OpenClaim := { program := "ytdeinkkljhkaoaa", sum := "b8a3f979c578a88d2d4dd82561d5c9b86c85de3e807a5559ab9d9dbf1effb421", func := "cloakroom/cloakroomlaw01.CnumAlike", spec := "cnumAlike", inPlace := ["math.Float64bits", "math.Float64frombits"], apart := false, narrowed := true }
def CnumAlikeUptoSaid : Prop := cnumAlikeUptoRow.holds Try.pinned (OpenSpec.upto cnumAlikeSpec)

/-- 'cloakroomlaw01.CnumNames', WHERE WHAT IT READS IS OF BULK AT MOST 1048576: true; the input reads as it did. -/
def cnumNamesUptoRow : OpenClaim := { program := "ytdeinkkljhkaoaa", sum := "b8a3f979c578a88d2d4dd82561d5c9b86c85de3e807a5559ab9d9dbf1effb421", func := "cloakroom/cloakroomlaw01.CnumNames", spec := "cnumNames", inPlace := ["math.Float64frombits", "math.Float64bits"], apart := false, narrowed := true }
def CnumNamesUptoSaid : Prop := cnumNamesUptoRow.holds Try.pinned (OpenSpec.upto cnumNamesSpec)

end Rows
end Go.Proofs.Ytdeinkkljhkaoaa

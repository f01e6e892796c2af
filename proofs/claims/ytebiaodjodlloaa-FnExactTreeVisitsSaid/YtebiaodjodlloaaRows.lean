/-
  No cell of these rows narrows 'for every input' (looked for: loops, veiled, ifaces, maps, wideKeys, modest, calm, conditions, laid).
  DERIVED. THE GIVEN ROWS OF THIS SEAT. 8 by the template 'for every input the law returns true; each argument reads behind the call as it read before'; 0 by the template 'total and deterministic' (their statements: YtebiaodjodlloaaTotals.lean).
  GIVEN WITH THE SEED: the statements are not yours to turn. If you find one false, say at which input.
  Laid BY PROGRAM, IN A SANDBOX (cutbox-rows.mjs): the forced cells as the released guide's own fill.sh prints them over the translation 455761fa6b33d16a… (all of the seat's roots in one cut). By AI agents, Wed Nov 11 2026. No macro, syntax, notation, axiom, sorry.
-/
import Derived.Test.YtebiaodjodlloaaChecked
import GoSem.Claim
import GoSem.ClaimJoined
import GoSem.ClaimMapViews
import Derived.JoinedTies
import Derived.KernelRfl
namespace Go.Proofs.Ytebiaodjodlloaa
/- THE CELL 'sum', in the pinned program and in every row, IS THE sha256 OF THE DUMP (.gsa) THAT YtebiaodjodlloaaProg.lean LOADS. Nothing in Lean hashes anything: it is a label: what it is worth is what the hold of that sum in a sandbox is worth. -/
noncomputable def Try.pinned : Pinned := { name := "ytebiaodjodlloaa", sum := "455761fa6b33d16a727980afed2a703024dce7479d7fdf05dd5d5b903becb8c1", checked := Try.checked }
namespace Rows
def none {H : Type} : Left H := { results := [], args := [] }

/-- 'laws.FnBuildTreeSize': WHATEVER THE INPUT: true; the input reads as it did. -/
def fnBuildTreeSizeSpec : ChangeSpec := { name := "fnBuildTreeSize", fn := fun _ => fun
  | [d] => { results := [.lit (.bool true)], args := [d] }
  | _ => none }
def fnBuildTreeSizeRow : OpenClaim := { program := "ytebiaodjodlloaa", sum := "455761fa6b33d16a727980afed2a703024dce7479d7fdf05dd5d5b903becb8c1", func := "loop.example/vectorstore/laws.FnBuildTreeSize", spec := "fnBuildTreeSize", unfollowed := true, recurses := true, apart := false }
def FnBuildTreeSizeSaid : Prop := fnBuildTreeSizeRow.holds Try.pinned (OpenSpec.ofChange fnBuildTreeSizeSpec)

/-- ITS FALSE NEIGHBOUR: 'it returns false'. Refute it at one input. -/
def fnBuildTreeSizeWrong : ChangeSpec := { name := "fnBuildTreeSize", fn := fun _ => fun
  | [d] => { results := [.lit (.bool false)], args := [d] }
  | _ => none }
def FnBuildTreeSizeWrongFalsely : Prop := fnBuildTreeSizeRow.holds Try.pinned (OpenSpec.ofChange fnBuildTreeSizeWrong)

/-- 'laws.FnExactIsTreeOf': WHATEVER THE INPUT: true; the input reads as it did. -/
def fnExactIsTreeOfSpec : ChangeSpec := { name := "fnExactIsTreeOf", fn := fun _ => fun
  | [d1, d2, d3] => { results := [.lit (.bool true)], args := [d1, d2, d3] }
  | _ => none }
def fnExactIsTreeOfRow : OpenClaim := { program := "ytebiaodjodlloaa", sum := "455761fa6b33d16a727980afed2a703024dce7479d7fdf05dd5d5b903becb8c1", func := "loop.example/vectorstore/laws.FnExactIsTreeOf", spec := "fnExactIsTreeOf", unfollowed := true, recurses := true, apart := false }
def FnExactIsTreeOfSaid : Prop := fnExactIsTreeOfRow.holds Try.pinned (OpenSpec.ofChange fnExactIsTreeOfSpec)

/-- ITS FALSE NEIGHBOUR: 'it returns false'. Refute it at one input. -/
def fnExactIsTreeOfWrong : ChangeSpec := { name := "fnExactIsTreeOf", fn := fun _ => fun
  | [d1, d2, d3] => { results := [.lit (.bool false)], args := [d1, d2, d3] }
  | _ => none }
def FnExactIsTreeOfWrongFalsely : Prop := fnExactIsTreeOfRow.holds Try.pinned (OpenSpec.ofChange fnExactIsTreeOfWrong)

/-- 'laws.FnBuildTreeOne': WHATEVER THE INPUT: true; the input reads as it did. -/
def fnBuildTreeOneSpec : ChangeSpec := { name := "fnBuildTreeOne", fn := fun _ => fun
  | [d] => { results := [.lit (.bool true)], args := [d] }
  | _ => none }
def fnBuildTreeOneRow : OpenClaim := { program := "ytebiaodjodlloaa", sum := "455761fa6b33d16a727980afed2a703024dce7479d7fdf05dd5d5b903becb8c1", func := "loop.example/vectorstore/laws.FnBuildTreeOne", spec := "fnBuildTreeOne", unfollowed := true, recurses := true, apart := false }
def FnBuildTreeOneSaid : Prop := fnBuildTreeOneRow.holds Try.pinned (OpenSpec.ofChange fnBuildTreeOneSpec)

/-- ITS FALSE NEIGHBOUR: 'it returns false'. Refute it at one input. -/
def fnBuildTreeOneWrong : ChangeSpec := { name := "fnBuildTreeOne", fn := fun _ => fun
  | [d] => { results := [.lit (.bool false)], args := [d] }
  | _ => none }
def FnBuildTreeOneWrongFalsely : Prop := fnBuildTreeOneRow.holds Try.pinned (OpenSpec.ofChange fnBuildTreeOneWrong)

/-- 'laws.FnBuildTreeRadius': WHATEVER THE INPUT: true; the input reads as it did. -/
def fnBuildTreeRadiusSpec : ChangeSpec := { name := "fnBuildTreeRadius", fn := fun _ => fun
  | [d] => { results := [.lit (.bool true)], args := [d] }
  | _ => none }
def fnBuildTreeRadiusRow : OpenClaim := { program := "ytebiaodjodlloaa", sum := "455761fa6b33d16a727980afed2a703024dce7479d7fdf05dd5d5b903becb8c1", func := "loop.example/vectorstore/laws.FnBuildTreeRadius", spec := "fnBuildTreeRadius", unfollowed := true, recurses := true, apart := false }
def FnBuildTreeRadiusSaid : Prop := fnBuildTreeRadiusRow.holds Try.pinned (OpenSpec.ofChange fnBuildTreeRadiusSpec)

/-- ITS FALSE NEIGHBOUR: 'it returns false'. Refute it at one input. -/
def fnBuildTreeRadiusWrong : ChangeSpec := { name := "fnBuildTreeRadius", fn := fun _ => fun
  | [d] => { results := [.lit (.bool false)], args := [d] }
  | _ => none }
def FnBuildTreeRadiusWrongFalsely : Prop := fnBuildTreeRadiusRow.holds Try.pinned (OpenSpec.ofChange fnBuildTreeRadiusWrong)

/-- 'laws.FnExactBuildTree': WHATEVER THE INPUT: true; the input reads as it did. -/
def fnExactBuildTreeSpec : ChangeSpec := { name := "fnExactBuildTree", fn := fun _ => fun
  | [d1, d2] => { results := [.lit (.bool true)], args := [d1, d2] }
  | _ => none }
def fnExactBuildTreeRow : OpenClaim := { program := "ytebiaodjodlloaa", sum := "455761fa6b33d16a727980afed2a703024dce7479d7fdf05dd5d5b903becb8c1", func := "loop.example/vectorstore/laws.FnExactBuildTree", spec := "fnExactBuildTree", unfollowed := true, recurses := true, apart := false }
def FnExactBuildTreeSaid : Prop := fnExactBuildTreeRow.holds Try.pinned (OpenSpec.ofChange fnExactBuildTreeSpec)

/-- ITS FALSE NEIGHBOUR: 'it returns false'. Refute it at one input. -/
def fnExactBuildTreeWrong : ChangeSpec := { name := "fnExactBuildTree", fn := fun _ => fun
  | [d1, d2] => { results := [.lit (.bool false)], args := [d1, d2] }
  | _ => none }
def FnExactBuildTreeWrongFalsely : Prop := fnExactBuildTreeRow.holds Try.pinned (OpenSpec.ofChange fnExactBuildTreeWrong)

/-- 'laws.FnBuildTree': WHATEVER THE INPUT: true; the input reads as it did. -/
def fnBuildTreeSpec : ChangeSpec := { name := "fnBuildTree", fn := fun _ => fun
  | [d] => { results := [.lit (.bool true)], args := [d] }
  | _ => none }
def fnBuildTreeRow : OpenClaim := { program := "ytebiaodjodlloaa", sum := "455761fa6b33d16a727980afed2a703024dce7479d7fdf05dd5d5b903becb8c1", func := "loop.example/vectorstore/laws.FnBuildTree", spec := "fnBuildTree", unfollowed := true, recurses := true, apart := false }
def FnBuildTreeSaid : Prop := fnBuildTreeRow.holds Try.pinned (OpenSpec.ofChange fnBuildTreeSpec)

/-- ITS FALSE NEIGHBOUR: 'it returns false'. Refute it at one input. -/
def fnBuildTreeWrong : ChangeSpec := { name := "fnBuildTree", fn := fun _ => fun
  | [d] => { results := [.lit (.bool false)], args := [d] }
  | _ => none }
def FnBuildTreeWrongFalsely : Prop := fnBuildTreeRow.holds Try.pinned (OpenSpec.ofChange fnBuildTreeWrong)

/-- 'laws.FnExactTreeNearest': WHATEVER THE INPUT: true; the input reads as it did. -/
def fnExactTreeNearestSpec : ChangeSpec := { name := "fnExactTreeNearest", fn := fun _ => fun
  | [d1, d2, d3, d4] => { results := [.lit (.bool true)], args := [d1, d2, d3, d4] }
  | _ => none }
def fnExactTreeNearestRow : OpenClaim := { program := "ytebiaodjodlloaa", sum := "455761fa6b33d16a727980afed2a703024dce7479d7fdf05dd5d5b903becb8c1", func := "loop.example/vectorstore/laws.FnExactTreeNearest", spec := "fnExactTreeNearest", unfollowed := true, recurses := true, apart := false }
def FnExactTreeNearestSaid : Prop := fnExactTreeNearestRow.holds Try.pinned (OpenSpec.ofChange fnExactTreeNearestSpec)

/-- ITS FALSE NEIGHBOUR: 'it returns false'. Refute it at one input. -/
def fnExactTreeNearestWrong : ChangeSpec := { name := "fnExactTreeNearest", fn := fun _ => fun
  | [d1, d2, d3, d4] => { results := [.lit (.bool false)], args := [d1, d2, d3, d4] }
  | _ => none }
def FnExactTreeNearestWrongFalsely : Prop := fnExactTreeNearestRow.holds Try.pinned (OpenSpec.ofChange fnExactTreeNearestWrong)

/-- 'laws.FnExactTreeVisits': WHATEVER THE INPUT: true; the input reads as it did. -/
def fnExactTreeVisitsSpec : ChangeSpec := { name := "fnExactTreeVisits", fn := fun _ => fun
  | [d1, d2, d3, d4] => { results := [.lit (.bool true)], args := [d1, d2, d3, d4] }
  | _ => none }
def fnExactTreeVisitsRow : OpenClaim := { program := "ytebiaodjodlloaa", sum := "455761fa6b33d16a727980afed2a703024dce7479d7fdf05dd5d5b903becb8c1", func := "loop.example/vectorstore/laws.FnExactTreeVisits", spec := "fnExactTreeVisits", unfollowed := true, recurses := true, apart := false }
def FnExactTreeVisitsSaid : Prop := fnExactTreeVisitsRow.holds Try.pinned (OpenSpec.ofChange fnExactTreeVisitsSpec)

/-- ITS FALSE NEIGHBOUR: 'it returns false'. Refute it at one input. -/
def fnExactTreeVisitsWrong : ChangeSpec := { name := "fnExactTreeVisits", fn := fun _ => fun
  | [d1, d2, d3, d4] => { results := [.lit (.bool false)], args := [d1, d2, d3, d4] }
  | _ => none }
def FnExactTreeVisitsWrongFalsely : Prop := fnExactTreeVisitsRow.holds Try.pinned (OpenSpec.ofChange fnExactTreeVisitsWrong)

/- THE SECOND FORM. 'bulk': how many values and letters a reading holds, each counted each time it is reached (what is shared counts as often as it is met; a slice's spare places count too). A statement '..UptoSaid' is the law's where the arguments, and the package variables that the reading takes, are together of bulk at most 1048576: NARROWER than '..Said'. Prove '..Said' where nothing that the law and all that it calls make is longer than what came in: it says more and counts as full. Else prove '..UptoSaid'. A law counts once. -/
mutual
def uptoBulk {H : Type} : DataW H → Nat
  | .lit (.string bytes) => bytes.length + 1
  | .lit _ => 1
  | .nil => 1
  | .ptr d => uptoBulk d + 1
  | .slice elems spare => uptoBulkAll elems + uptoBulkAll spare + 1
  | .agg parts => uptoBulkAll parts + 1
  | .iface _ d => uptoBulk d + 1
  | .map entries => uptoBulkEntries entries + 1
  | .held _ => 1
def uptoBulkAll {H : Type} : List (DataW H) → Nat
  | [] => 0
  | d :: r => uptoBulk d + uptoBulkAll r
def uptoBulkEntries {H : Type} : List (Lit × DataW H) → Nat
  | [] => 0
  | x :: r => uptoBulkEntry x + uptoBulkEntries r
def uptoBulkEntry {H : Type} : Lit × DataW H → Nat
  | (.string bytes, d) => bytes.length + uptoBulk d + 1
  | (_, d) => uptoBulk d + 1
 end
def uptoSmall : (H : Type) → List (DataW H) → Bool := fun _ ds => decide (uptoBulkAll ds ≤ 1048576)
def OpenSpec.upto (s : _root_.Go.ChangeSpec) : _root_.Go.OpenSpec := { _root_.Go.OpenSpec.ofChange s with cond := some uptoSmall }

/-- 'laws.FnBuildTreeSize', WHERE WHAT IT READS IS OF BULK AT MOST 1048576: true; the input reads as it did. -/
def fnBuildTreeSizeUptoRow : OpenClaim := { program := "ytebiaodjodlloaa", sum := "455761fa6b33d16a727980afed2a703024dce7479d7fdf05dd5d5b903becb8c1", func := "loop.example/vectorstore/laws.FnBuildTreeSize", spec := "fnBuildTreeSize", unfollowed := true, recurses := true, apart := false, narrowed := true }
def FnBuildTreeSizeUptoSaid : Prop := fnBuildTreeSizeUptoRow.holds Try.pinned (OpenSpec.upto fnBuildTreeSizeSpec)

/-- 'laws.FnExactIsTreeOf', WHERE WHAT IT READS IS OF BULK AT MOST 1048576: true; the input reads as it did. -/
def fnExactIsTreeOfUptoRow : OpenClaim := { program := "ytebiaodjodlloaa", sum := "455761fa6b33d16a727980afed2a703024dce7479d7fdf05dd5d5b903becb8c1", func := "loop.example/vectorstore/laws.FnExactIsTreeOf", spec := "fnExactIsTreeOf", unfollowed := true, recurses := true, apart := false, narrowed := true }
def FnExactIsTreeOfUptoSaid : Prop := fnExactIsTreeOfUptoRow.holds Try.pinned (OpenSpec.upto fnExactIsTreeOfSpec)

/-- 'laws.FnBuildTreeOne', WHERE WHAT IT READS IS OF BULK AT MOST 1048576: true; the input reads as it did. -/
def fnBuildTreeOneUptoRow : OpenClaim := { program := "ytebiaodjodlloaa", sum := "455761fa6b33d16a727980afed2a703024dce7479d7fdf05dd5d5b903becb8c1", func := "loop.example/vectorstore/laws.FnBuildTreeOne", spec := "fnBuildTreeOne", unfollowed := true, recurses := true, apart := false, narrowed := true }
def FnBuildTreeOneUptoSaid : Prop := fnBuildTreeOneUptoRow.holds Try.pinned (OpenSpec.upto fnBuildTreeOneSpec)

/-- 'laws.FnBuildTreeRadius', WHERE WHAT IT READS IS OF BULK AT MOST 1048576: true; the input reads as it did. -/
def fnBuildTreeRadiusUptoRow : OpenClaim := { program := "ytebiaodjodlloaa", sum := "455761fa6b33d16a727980afed2a703024dce7479d7fdf05dd5d5b903becb8c1", func := "loop.example/vectorstore/laws.FnBuildTreeRadius", spec := "fnBuildTreeRadius", unfollowed := true, recurses := true, apart := false, narrowed := true }
def FnBuildTreeRadiusUptoSaid : Prop := fnBuildTreeRadiusUptoRow.holds Try.pinned (OpenSpec.upto fnBuildTreeRadiusSpec)

/-- 'laws.FnExactBuildTree', WHERE WHAT IT READS IS OF BULK AT MOST 1048576: true; the input reads as it did. -/
def fnExactBuildTreeUptoRow : OpenClaim := { program := "ytebiaodjodlloaa", sum := "455761fa6b33d16a727980afed2a703024dce7479d7fdf05dd5d5b903becb8c1", func := "loop.example/vectorstore/laws.FnExactBuildTree", spec := "fnExactBuildTree", unfollowed := true, recurses := true, apart := false, narrowed := true }
def FnExactBuildTreeUptoSaid : Prop := fnExactBuildTreeUptoRow.holds Try.pinned (OpenSpec.upto fnExactBuildTreeSpec)

/-- 'laws.FnBuildTree', WHERE WHAT IT READS IS OF BULK AT MOST 1048576: true; the input reads as it did. -/
def fnBuildTreeUptoRow : OpenClaim := { program := "ytebiaodjodlloaa", sum := "455761fa6b33d16a727980afed2a703024dce7479d7fdf05dd5d5b903becb8c1", func := "loop.example/vectorstore/laws.FnBuildTree", spec := "fnBuildTree", unfollowed := true, recurses := true, apart := false, narrowed := true }
def FnBuildTreeUptoSaid : Prop := fnBuildTreeUptoRow.holds Try.pinned (OpenSpec.upto fnBuildTreeSpec)

/-- 'laws.FnExactTreeNearest', WHERE WHAT IT READS IS OF BULK AT MOST 1048576: true; the input reads as it did. -/
def fnExactTreeNearestUptoRow : OpenClaim := { program := "ytebiaodjodlloaa", sum := "455761fa6b33d16a727980afed2a703024dce7479d7fdf05dd5d5b903becb8c1", func := "loop.example/vectorstore/laws.FnExactTreeNearest", spec := "fnExactTreeNearest", unfollowed := true, recurses := true, apart := false, narrowed := true }
def FnExactTreeNearestUptoSaid : Prop := fnExactTreeNearestUptoRow.holds Try.pinned (OpenSpec.upto fnExactTreeNearestSpec)

/-- 'laws.FnExactTreeVisits', WHERE WHAT IT READS IS OF BULK AT MOST 1048576: true; the input reads as it did. -/
def fnExactTreeVisitsUptoRow : OpenClaim := { program := "ytebiaodjodlloaa", sum := "455761fa6b33d16a727980afed2a703024dce7479d7fdf05dd5d5b903becb8c1", func := "loop.example/vectorstore/laws.FnExactTreeVisits", spec := "fnExactTreeVisits", unfollowed := true, recurses := true, apart := false, narrowed := true }
def FnExactTreeVisitsUptoSaid : Prop := fnExactTreeVisitsUptoRow.holds Try.pinned (OpenSpec.upto fnExactTreeVisitsSpec)

end Rows
end Go.Proofs.Ytebiaodjodlloaa

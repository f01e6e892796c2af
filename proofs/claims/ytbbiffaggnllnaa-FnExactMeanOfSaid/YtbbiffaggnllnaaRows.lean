/-
  No cell of these rows narrows 'for every input' (looked for: loops, veiled, ifaces, maps, wideKeys, modest, calm, conditions, laid).
  DERIVED. THE GIVEN ROWS OF THIS SEAT. 22 by the template 'for every input the law returns true; each argument reads behind the call as it read before'; 0 by the template 'total and deterministic' (their statements: YtbbiffaggnllnaaTotals.lean).
  GIVEN WITH THE SEED: the statements are not yours to turn. If you find one false, say at which input.
  Laid BY PROGRAM, IN A SANDBOX (cutbox-rows.mjs): the forced cells as the released guide's own fill.sh prints them over the translation eb97ed347888bc80… (all of the seat's roots in one cut). By AI agents, Wed Nov 11 2026. No macro, syntax, notation, axiom, sorry.
-/
import Derived.Test.YtbbiffaggnllnaaChecked
import GoSem.Claim
import GoSem.ClaimJoined
import GoSem.ClaimMapViews
import Derived.JoinedTies
import Derived.KernelRfl
namespace Go.Proofs.Ytbbiffaggnllnaa
/- THE CELL 'sum', in the pinned program and in every row, IS THE sha256 OF THE DUMP (.gsa) THAT YtbbiffaggnllnaaProg.lean LOADS. Nothing in Lean hashes anything: it is a label: what it is worth is what the hold of that sum in a sandbox is worth. -/
noncomputable def Try.pinned : Pinned := { name := "ytbbiffaggnllnaa", sum := "eb97ed347888bc806170debcdfd9aeefc69d685cca507e96e9da09a528cf21de", checked := Try.checked }
namespace Rows
def none {H : Type} : Left H := { results := [], args := [] }

/-- 'laws.FnInBoxOne': WHATEVER THE INPUT: true; the input reads as it did. -/
def fnInBoxOneSpec : ChangeSpec := { name := "fnInBoxOne", fn := fun _ => fun
  | [d] => { results := [.lit (.bool true)], args := [d] }
  | _ => none }
def fnInBoxOneRow : OpenClaim := { program := "ytbbiffaggnllnaa", sum := "eb97ed347888bc806170debcdfd9aeefc69d685cca507e96e9da09a528cf21de", func := "loop.example/vectorstore/laws.FnInBoxOne", spec := "fnInBoxOne", unfollowed := true, recurses := true, apart := false }
def FnInBoxOneSaid : Prop := fnInBoxOneRow.holds Try.pinned (OpenSpec.ofChange fnInBoxOneSpec)

/-- ITS FALSE NEIGHBOUR: 'it returns false'. Refute it at one input. -/
def fnInBoxOneWrong : ChangeSpec := { name := "fnInBoxOne", fn := fun _ => fun
  | [d] => { results := [.lit (.bool false)], args := [d] }
  | _ => none }
def FnInBoxOneWrongFalsely : Prop := fnInBoxOneRow.holds Try.pinned (OpenSpec.ofChange fnInBoxOneWrong)

/-- 'laws.FnExactNearest': WHATEVER THE INPUT: true; the input reads as it did. -/
def fnExactNearestSpec : ChangeSpec := { name := "fnExactNearest", fn := fun _ => fun
  | [d1, d2, d3, d4] => { results := [.lit (.bool true)], args := [d1, d2, d3, d4] }
  | _ => none }
def fnExactNearestRow : OpenClaim := { program := "ytbbiffaggnllnaa", sum := "eb97ed347888bc806170debcdfd9aeefc69d685cca507e96e9da09a528cf21de", func := "loop.example/vectorstore/laws.FnExactNearest", spec := "fnExactNearest", unfollowed := true, recurses := true, apart := false }
def FnExactNearestSaid : Prop := fnExactNearestRow.holds Try.pinned (OpenSpec.ofChange fnExactNearestSpec)

/-- ITS FALSE NEIGHBOUR: 'it returns false'. Refute it at one input. -/
def fnExactNearestWrong : ChangeSpec := { name := "fnExactNearest", fn := fun _ => fun
  | [d1, d2, d3, d4] => { results := [.lit (.bool false)], args := [d1, d2, d3, d4] }
  | _ => none }
def FnExactNearestWrongFalsely : Prop := fnExactNearestRow.holds Try.pinned (OpenSpec.ofChange fnExactNearestWrong)

/-- 'laws.FnNearestMore': WHATEVER THE INPUT: true; the input reads as it did. -/
def fnNearestMoreSpec : ChangeSpec := { name := "fnNearestMore", fn := fun _ => fun
  | [d] => { results := [.lit (.bool true)], args := [d] }
  | _ => none }
def fnNearestMoreRow : OpenClaim := { program := "ytbbiffaggnllnaa", sum := "eb97ed347888bc806170debcdfd9aeefc69d685cca507e96e9da09a528cf21de", func := "loop.example/vectorstore/laws.FnNearestMore", spec := "fnNearestMore", unfollowed := true, recurses := true, apart := false }
def FnNearestMoreSaid : Prop := fnNearestMoreRow.holds Try.pinned (OpenSpec.ofChange fnNearestMoreSpec)

/-- ITS FALSE NEIGHBOUR: 'it returns false'. Refute it at one input. -/
def fnNearestMoreWrong : ChangeSpec := { name := "fnNearestMore", fn := fun _ => fun
  | [d] => { results := [.lit (.bool false)], args := [d] }
  | _ => none }
def FnNearestMoreWrongFalsely : Prop := fnNearestMoreRow.holds Try.pinned (OpenSpec.ofChange fnNearestMoreWrong)

/-- 'laws.FnNearestOwn': WHATEVER THE INPUT: true; the input reads as it did. -/
def fnNearestOwnSpec : ChangeSpec := { name := "fnNearestOwn", fn := fun _ => fun
  | [d] => { results := [.lit (.bool true)], args := [d] }
  | _ => none }
def fnNearestOwnRow : OpenClaim := { program := "ytbbiffaggnllnaa", sum := "eb97ed347888bc806170debcdfd9aeefc69d685cca507e96e9da09a528cf21de", func := "loop.example/vectorstore/laws.FnNearestOwn", spec := "fnNearestOwn", unfollowed := true, recurses := true, apart := false }
def FnNearestOwnSaid : Prop := fnNearestOwnRow.holds Try.pinned (OpenSpec.ofChange fnNearestOwnSpec)

/-- ITS FALSE NEIGHBOUR: 'it returns false'. Refute it at one input. -/
def fnNearestOwnWrong : ChangeSpec := { name := "fnNearestOwn", fn := fun _ => fun
  | [d] => { results := [.lit (.bool false)], args := [d] }
  | _ => none }
def FnNearestOwnWrongFalsely : Prop := fnNearestOwnRow.holds Try.pinned (OpenSpec.ofChange fnNearestOwnWrong)

/-- 'laws.FnExactWithinDist': WHATEVER THE INPUT: true; the input reads as it did. -/
def fnExactWithinDistSpec : ChangeSpec := { name := "fnExactWithinDist", fn := fun _ => fun
  | [d1, d2, d3, d4] => { results := [.lit (.bool true)], args := [d1, d2, d3, d4] }
  | _ => none }
def fnExactWithinDistRow : OpenClaim := { program := "ytbbiffaggnllnaa", sum := "eb97ed347888bc806170debcdfd9aeefc69d685cca507e96e9da09a528cf21de", func := "loop.example/vectorstore/laws.FnExactWithinDist", spec := "fnExactWithinDist", unfollowed := true, recurses := true, apart := false }
def FnExactWithinDistSaid : Prop := fnExactWithinDistRow.holds Try.pinned (OpenSpec.ofChange fnExactWithinDistSpec)

/-- ITS FALSE NEIGHBOUR: 'it returns false'. Refute it at one input. -/
def fnExactWithinDistWrong : ChangeSpec := { name := "fnExactWithinDist", fn := fun _ => fun
  | [d1, d2, d3, d4] => { results := [.lit (.bool false)], args := [d1, d2, d3, d4] }
  | _ => none }
def FnExactWithinDistWrongFalsely : Prop := fnExactWithinDistRow.holds Try.pinned (OpenSpec.ofChange fnExactWithinDistWrong)

/-- 'laws.FnWithinDistMore': WHATEVER THE INPUT: true; the input reads as it did. -/
def fnWithinDistMoreSpec : ChangeSpec := { name := "fnWithinDistMore", fn := fun _ => fun
  | [d] => { results := [.lit (.bool true)], args := [d] }
  | _ => none }
def fnWithinDistMoreRow : OpenClaim := { program := "ytbbiffaggnllnaa", sum := "eb97ed347888bc806170debcdfd9aeefc69d685cca507e96e9da09a528cf21de", func := "loop.example/vectorstore/laws.FnWithinDistMore", spec := "fnWithinDistMore", unfollowed := true, recurses := true, apart := false }
def FnWithinDistMoreSaid : Prop := fnWithinDistMoreRow.holds Try.pinned (OpenSpec.ofChange fnWithinDistMoreSpec)

/-- ITS FALSE NEIGHBOUR: 'it returns false'. Refute it at one input. -/
def fnWithinDistMoreWrong : ChangeSpec := { name := "fnWithinDistMore", fn := fun _ => fun
  | [d] => { results := [.lit (.bool false)], args := [d] }
  | _ => none }
def FnWithinDistMoreWrongFalsely : Prop := fnWithinDistMoreRow.holds Try.pinned (OpenSpec.ofChange fnWithinDistMoreWrong)

/-- 'laws.FnClosestPairNearest': WHATEVER THE INPUT: true; the input reads as it did. -/
def fnClosestPairNearestSpec : ChangeSpec := { name := "fnClosestPairNearest", fn := fun _ => fun
  | [d] => { results := [.lit (.bool true)], args := [d] }
  | _ => none }
def fnClosestPairNearestRow : OpenClaim := { program := "ytbbiffaggnllnaa", sum := "eb97ed347888bc806170debcdfd9aeefc69d685cca507e96e9da09a528cf21de", func := "loop.example/vectorstore/laws.FnClosestPairNearest", spec := "fnClosestPairNearest", unfollowed := true, recurses := true, apart := false }
def FnClosestPairNearestSaid : Prop := fnClosestPairNearestRow.holds Try.pinned (OpenSpec.ofChange fnClosestPairNearestSpec)

/-- ITS FALSE NEIGHBOUR: 'it returns false'. Refute it at one input. -/
def fnClosestPairNearestWrong : ChangeSpec := { name := "fnClosestPairNearest", fn := fun _ => fun
  | [d] => { results := [.lit (.bool false)], args := [d] }
  | _ => none }
def FnClosestPairNearestWrongFalsely : Prop := fnClosestPairNearestRow.holds Try.pinned (OpenSpec.ofChange fnClosestPairNearestWrong)

/-- 'laws.FnWithinDistNearest': WHATEVER THE INPUT: true; the input reads as it did. -/
def fnWithinDistNearestSpec : ChangeSpec := { name := "fnWithinDistNearest", fn := fun _ => fun
  | [d] => { results := [.lit (.bool true)], args := [d] }
  | _ => none }
def fnWithinDistNearestRow : OpenClaim := { program := "ytbbiffaggnllnaa", sum := "eb97ed347888bc806170debcdfd9aeefc69d685cca507e96e9da09a528cf21de", func := "loop.example/vectorstore/laws.FnWithinDistNearest", spec := "fnWithinDistNearest", unfollowed := true, recurses := true, apart := false }
def FnWithinDistNearestSaid : Prop := fnWithinDistNearestRow.holds Try.pinned (OpenSpec.ofChange fnWithinDistNearestSpec)

/-- ITS FALSE NEIGHBOUR: 'it returns false'. Refute it at one input. -/
def fnWithinDistNearestWrong : ChangeSpec := { name := "fnWithinDistNearest", fn := fun _ => fun
  | [d] => { results := [.lit (.bool false)], args := [d] }
  | _ => none }
def FnWithinDistNearestWrongFalsely : Prop := fnWithinDistNearestRow.holds Try.pinned (OpenSpec.ofChange fnWithinDistNearestWrong)

/-- 'laws.FnNearestPut': WHATEVER THE INPUT: true; the input reads as it did. -/
def fnNearestPutSpec : ChangeSpec := { name := "fnNearestPut", fn := fun _ => fun
  | [d] => { results := [.lit (.bool true)], args := [d] }
  | _ => none }
def fnNearestPutRow : OpenClaim := { program := "ytbbiffaggnllnaa", sum := "eb97ed347888bc806170debcdfd9aeefc69d685cca507e96e9da09a528cf21de", func := "loop.example/vectorstore/laws.FnNearestPut", spec := "fnNearestPut", unfollowed := true, recurses := true, apart := false }
def FnNearestPutSaid : Prop := fnNearestPutRow.holds Try.pinned (OpenSpec.ofChange fnNearestPutSpec)

/-- ITS FALSE NEIGHBOUR: 'it returns false'. Refute it at one input. -/
def fnNearestPutWrong : ChangeSpec := { name := "fnNearestPut", fn := fun _ => fun
  | [d] => { results := [.lit (.bool false)], args := [d] }
  | _ => none }
def FnNearestPutWrongFalsely : Prop := fnNearestPutRow.holds Try.pinned (OpenSpec.ofChange fnNearestPutWrong)

/-- 'laws.FnBuildTreeSize': WHATEVER THE INPUT: true; the input reads as it did. -/
def fnBuildTreeSizeSpec : ChangeSpec := { name := "fnBuildTreeSize", fn := fun _ => fun
  | [d] => { results := [.lit (.bool true)], args := [d] }
  | _ => none }
def fnBuildTreeSizeRow : OpenClaim := { program := "ytbbiffaggnllnaa", sum := "eb97ed347888bc806170debcdfd9aeefc69d685cca507e96e9da09a528cf21de", func := "loop.example/vectorstore/laws.FnBuildTreeSize", spec := "fnBuildTreeSize", unfollowed := true, recurses := true, apart := false }
def FnBuildTreeSizeSaid : Prop := fnBuildTreeSizeRow.holds Try.pinned (OpenSpec.ofChange fnBuildTreeSizeSpec)

/-- ITS FALSE NEIGHBOUR: 'it returns false'. Refute it at one input. -/
def fnBuildTreeSizeWrong : ChangeSpec := { name := "fnBuildTreeSize", fn := fun _ => fun
  | [d] => { results := [.lit (.bool false)], args := [d] }
  | _ => none }
def FnBuildTreeSizeWrongFalsely : Prop := fnBuildTreeSizeRow.holds Try.pinned (OpenSpec.ofChange fnBuildTreeSizeWrong)

/-- 'laws.FnExactIsTreeOf': WHATEVER THE INPUT: true; the input reads as it did. -/
def fnExactIsTreeOfSpec : ChangeSpec := { name := "fnExactIsTreeOf", fn := fun _ => fun
  | [d1, d2, d3] => { results := [.lit (.bool true)], args := [d1, d2, d3] }
  | _ => none }
def fnExactIsTreeOfRow : OpenClaim := { program := "ytbbiffaggnllnaa", sum := "eb97ed347888bc806170debcdfd9aeefc69d685cca507e96e9da09a528cf21de", func := "loop.example/vectorstore/laws.FnExactIsTreeOf", spec := "fnExactIsTreeOf", unfollowed := true, recurses := true, apart := false }
def FnExactIsTreeOfSaid : Prop := fnExactIsTreeOfRow.holds Try.pinned (OpenSpec.ofChange fnExactIsTreeOfSpec)

/-- ITS FALSE NEIGHBOUR: 'it returns false'. Refute it at one input. -/
def fnExactIsTreeOfWrong : ChangeSpec := { name := "fnExactIsTreeOf", fn := fun _ => fun
  | [d1, d2, d3] => { results := [.lit (.bool false)], args := [d1, d2, d3] }
  | _ => none }
def FnExactIsTreeOfWrongFalsely : Prop := fnExactIsTreeOfRow.holds Try.pinned (OpenSpec.ofChange fnExactIsTreeOfWrong)

/-- 'laws.FnNearestDistance': WHATEVER THE INPUT: true; the input reads as it did. -/
def fnNearestDistanceSpec : ChangeSpec := { name := "fnNearestDistance", fn := fun _ => fun
  | [d] => { results := [.lit (.bool true)], args := [d] }
  | _ => none }
def fnNearestDistanceRow : OpenClaim := { program := "ytbbiffaggnllnaa", sum := "eb97ed347888bc806170debcdfd9aeefc69d685cca507e96e9da09a528cf21de", func := "loop.example/vectorstore/laws.FnNearestDistance", spec := "fnNearestDistance", unfollowed := true, recurses := true, apart := false }
def FnNearestDistanceSaid : Prop := fnNearestDistanceRow.holds Try.pinned (OpenSpec.ofChange fnNearestDistanceSpec)

/-- ITS FALSE NEIGHBOUR: 'it returns false'. Refute it at one input. -/
def fnNearestDistanceWrong : ChangeSpec := { name := "fnNearestDistance", fn := fun _ => fun
  | [d] => { results := [.lit (.bool false)], args := [d] }
  | _ => none }
def FnNearestDistanceWrongFalsely : Prop := fnNearestDistanceRow.holds Try.pinned (OpenSpec.ofChange fnNearestDistanceWrong)

/-- 'laws.FnBuildTreeOne': WHATEVER THE INPUT: true; the input reads as it did. -/
def fnBuildTreeOneSpec : ChangeSpec := { name := "fnBuildTreeOne", fn := fun _ => fun
  | [d] => { results := [.lit (.bool true)], args := [d] }
  | _ => none }
def fnBuildTreeOneRow : OpenClaim := { program := "ytbbiffaggnllnaa", sum := "eb97ed347888bc806170debcdfd9aeefc69d685cca507e96e9da09a528cf21de", func := "loop.example/vectorstore/laws.FnBuildTreeOne", spec := "fnBuildTreeOne", unfollowed := true, recurses := true, apart := false }
def FnBuildTreeOneSaid : Prop := fnBuildTreeOneRow.holds Try.pinned (OpenSpec.ofChange fnBuildTreeOneSpec)

/-- ITS FALSE NEIGHBOUR: 'it returns false'. Refute it at one input. -/
def fnBuildTreeOneWrong : ChangeSpec := { name := "fnBuildTreeOne", fn := fun _ => fun
  | [d] => { results := [.lit (.bool false)], args := [d] }
  | _ => none }
def FnBuildTreeOneWrongFalsely : Prop := fnBuildTreeOneRow.holds Try.pinned (OpenSpec.ofChange fnBuildTreeOneWrong)

/-- 'laws.FnBuildTreeRadius': WHATEVER THE INPUT: true; the input reads as it did. -/
def fnBuildTreeRadiusSpec : ChangeSpec := { name := "fnBuildTreeRadius", fn := fun _ => fun
  | [d] => { results := [.lit (.bool true)], args := [d] }
  | _ => none }
def fnBuildTreeRadiusRow : OpenClaim := { program := "ytbbiffaggnllnaa", sum := "eb97ed347888bc806170debcdfd9aeefc69d685cca507e96e9da09a528cf21de", func := "loop.example/vectorstore/laws.FnBuildTreeRadius", spec := "fnBuildTreeRadius", unfollowed := true, recurses := true, apart := false }
def FnBuildTreeRadiusSaid : Prop := fnBuildTreeRadiusRow.holds Try.pinned (OpenSpec.ofChange fnBuildTreeRadiusSpec)

/-- ITS FALSE NEIGHBOUR: 'it returns false'. Refute it at one input. -/
def fnBuildTreeRadiusWrong : ChangeSpec := { name := "fnBuildTreeRadius", fn := fun _ => fun
  | [d] => { results := [.lit (.bool false)], args := [d] }
  | _ => none }
def FnBuildTreeRadiusWrongFalsely : Prop := fnBuildTreeRadiusRow.holds Try.pinned (OpenSpec.ofChange fnBuildTreeRadiusWrong)

/-- 'laws.FnNearestDrop': WHATEVER THE INPUT: true; the input reads as it did. -/
def fnNearestDropSpec : ChangeSpec := { name := "fnNearestDrop", fn := fun _ => fun
  | [d] => { results := [.lit (.bool true)], args := [d] }
  | _ => none }
def fnNearestDropRow : OpenClaim := { program := "ytbbiffaggnllnaa", sum := "eb97ed347888bc806170debcdfd9aeefc69d685cca507e96e9da09a528cf21de", func := "loop.example/vectorstore/laws.FnNearestDrop", spec := "fnNearestDrop", unfollowed := true, recurses := true, apart := false }
def FnNearestDropSaid : Prop := fnNearestDropRow.holds Try.pinned (OpenSpec.ofChange fnNearestDropSpec)

/-- ITS FALSE NEIGHBOUR: 'it returns false'. Refute it at one input. -/
def fnNearestDropWrong : ChangeSpec := { name := "fnNearestDrop", fn := fun _ => fun
  | [d] => { results := [.lit (.bool false)], args := [d] }
  | _ => none }
def FnNearestDropWrongFalsely : Prop := fnNearestDropRow.holds Try.pinned (OpenSpec.ofChange fnNearestDropWrong)

/-- 'laws.FnExactBuildTree': WHATEVER THE INPUT: true; the input reads as it did. -/
def fnExactBuildTreeSpec : ChangeSpec := { name := "fnExactBuildTree", fn := fun _ => fun
  | [d1, d2] => { results := [.lit (.bool true)], args := [d1, d2] }
  | _ => none }
def fnExactBuildTreeRow : OpenClaim := { program := "ytbbiffaggnllnaa", sum := "eb97ed347888bc806170debcdfd9aeefc69d685cca507e96e9da09a528cf21de", func := "loop.example/vectorstore/laws.FnExactBuildTree", spec := "fnExactBuildTree", unfollowed := true, recurses := true, apart := false }
def FnExactBuildTreeSaid : Prop := fnExactBuildTreeRow.holds Try.pinned (OpenSpec.ofChange fnExactBuildTreeSpec)

/-- ITS FALSE NEIGHBOUR: 'it returns false'. Refute it at one input. -/
def fnExactBuildTreeWrong : ChangeSpec := { name := "fnExactBuildTree", fn := fun _ => fun
  | [d1, d2] => { results := [.lit (.bool false)], args := [d1, d2] }
  | _ => none }
def FnExactBuildTreeWrongFalsely : Prop := fnExactBuildTreeRow.holds Try.pinned (OpenSpec.ofChange fnExactBuildTreeWrong)

/-- 'laws.FnInBoxMost': WHATEVER THE INPUT: true; the input reads as it did. -/
def fnInBoxMostSpec : ChangeSpec := { name := "fnInBoxMost", fn := fun _ => fun
  | [d] => { results := [.lit (.bool true)], args := [d] }
  | _ => none }
def fnInBoxMostRow : OpenClaim := { program := "ytbbiffaggnllnaa", sum := "eb97ed347888bc806170debcdfd9aeefc69d685cca507e96e9da09a528cf21de", func := "loop.example/vectorstore/laws.FnInBoxMost", spec := "fnInBoxMost", unfollowed := true, recurses := true, apart := false }
def FnInBoxMostSaid : Prop := fnInBoxMostRow.holds Try.pinned (OpenSpec.ofChange fnInBoxMostSpec)

/-- ITS FALSE NEIGHBOUR: 'it returns false'. Refute it at one input. -/
def fnInBoxMostWrong : ChangeSpec := { name := "fnInBoxMost", fn := fun _ => fun
  | [d] => { results := [.lit (.bool false)], args := [d] }
  | _ => none }
def FnInBoxMostWrongFalsely : Prop := fnInBoxMostRow.holds Try.pinned (OpenSpec.ofChange fnInBoxMostWrong)

/-- 'laws.FnBuildTree': WHATEVER THE INPUT: true; the input reads as it did. -/
def fnBuildTreeSpec : ChangeSpec := { name := "fnBuildTree", fn := fun _ => fun
  | [d] => { results := [.lit (.bool true)], args := [d] }
  | _ => none }
def fnBuildTreeRow : OpenClaim := { program := "ytbbiffaggnllnaa", sum := "eb97ed347888bc806170debcdfd9aeefc69d685cca507e96e9da09a528cf21de", func := "loop.example/vectorstore/laws.FnBuildTree", spec := "fnBuildTree", unfollowed := true, recurses := true, apart := false }
def FnBuildTreeSaid : Prop := fnBuildTreeRow.holds Try.pinned (OpenSpec.ofChange fnBuildTreeSpec)

/-- ITS FALSE NEIGHBOUR: 'it returns false'. Refute it at one input. -/
def fnBuildTreeWrong : ChangeSpec := { name := "fnBuildTree", fn := fun _ => fun
  | [d] => { results := [.lit (.bool false)], args := [d] }
  | _ => none }
def FnBuildTreeWrongFalsely : Prop := fnBuildTreeRow.holds Try.pinned (OpenSpec.ofChange fnBuildTreeWrong)

/-- 'laws.FnExactTreeNearest': WHATEVER THE INPUT: true; the input reads as it did. -/
def fnExactTreeNearestSpec : ChangeSpec := { name := "fnExactTreeNearest", fn := fun _ => fun
  | [d1, d2, d3, d4] => { results := [.lit (.bool true)], args := [d1, d2, d3, d4] }
  | _ => none }
def fnExactTreeNearestRow : OpenClaim := { program := "ytbbiffaggnllnaa", sum := "eb97ed347888bc806170debcdfd9aeefc69d685cca507e96e9da09a528cf21de", func := "loop.example/vectorstore/laws.FnExactTreeNearest", spec := "fnExactTreeNearest", unfollowed := true, recurses := true, apart := false }
def FnExactTreeNearestSaid : Prop := fnExactTreeNearestRow.holds Try.pinned (OpenSpec.ofChange fnExactTreeNearestSpec)

/-- ITS FALSE NEIGHBOUR: 'it returns false'. Refute it at one input. -/
def fnExactTreeNearestWrong : ChangeSpec := { name := "fnExactTreeNearest", fn := fun _ => fun
  | [d1, d2, d3, d4] => { results := [.lit (.bool false)], args := [d1, d2, d3, d4] }
  | _ => none }
def FnExactTreeNearestWrongFalsely : Prop := fnExactTreeNearestRow.holds Try.pinned (OpenSpec.ofChange fnExactTreeNearestWrong)

/-- 'laws.FnExactTreeVisits': WHATEVER THE INPUT: true; the input reads as it did. -/
def fnExactTreeVisitsSpec : ChangeSpec := { name := "fnExactTreeVisits", fn := fun _ => fun
  | [d1, d2, d3, d4] => { results := [.lit (.bool true)], args := [d1, d2, d3, d4] }
  | _ => none }
def fnExactTreeVisitsRow : OpenClaim := { program := "ytbbiffaggnllnaa", sum := "eb97ed347888bc806170debcdfd9aeefc69d685cca507e96e9da09a528cf21de", func := "loop.example/vectorstore/laws.FnExactTreeVisits", spec := "fnExactTreeVisits", unfollowed := true, recurses := true, apart := false }
def FnExactTreeVisitsSaid : Prop := fnExactTreeVisitsRow.holds Try.pinned (OpenSpec.ofChange fnExactTreeVisitsSpec)

/-- ITS FALSE NEIGHBOUR: 'it returns false'. Refute it at one input. -/
def fnExactTreeVisitsWrong : ChangeSpec := { name := "fnExactTreeVisits", fn := fun _ => fun
  | [d1, d2, d3, d4] => { results := [.lit (.bool false)], args := [d1, d2, d3, d4] }
  | _ => none }
def FnExactTreeVisitsWrongFalsely : Prop := fnExactTreeVisitsRow.holds Try.pinned (OpenSpec.ofChange fnExactTreeVisitsWrong)

/-- 'laws.FnExactMeanOf': WHATEVER THE INPUT: true; the input reads as it did. -/
def fnExactMeanOfSpec : ChangeSpec := { name := "fnExactMeanOf", fn := fun _ => fun
  | [d] => { results := [.lit (.bool true)], args := [d] }
  | _ => none }
def fnExactMeanOfRow : OpenClaim := { program := "ytbbiffaggnllnaa", sum := "eb97ed347888bc806170debcdfd9aeefc69d685cca507e96e9da09a528cf21de", func := "loop.example/vectorstore/laws.FnExactMeanOf", spec := "fnExactMeanOf", apart := false }
def FnExactMeanOfSaid : Prop := fnExactMeanOfRow.holds Try.pinned (OpenSpec.ofChange fnExactMeanOfSpec)

/-- ITS FALSE NEIGHBOUR: 'it returns false'. Refute it at one input. -/
def fnExactMeanOfWrong : ChangeSpec := { name := "fnExactMeanOf", fn := fun _ => fun
  | [d] => { results := [.lit (.bool false)], args := [d] }
  | _ => none }
def FnExactMeanOfWrongFalsely : Prop := fnExactMeanOfRow.holds Try.pinned (OpenSpec.ofChange fnExactMeanOfWrong)

/-- 'laws.FnInBox': WHATEVER THE INPUT: true; the input reads as it did. -/
def fnInBoxSpec : ChangeSpec := { name := "fnInBox", fn := fun _ => fun
  | [d] => { results := [.lit (.bool true)], args := [d] }
  | _ => none }
def fnInBoxRow : OpenClaim := { program := "ytbbiffaggnllnaa", sum := "eb97ed347888bc806170debcdfd9aeefc69d685cca507e96e9da09a528cf21de", func := "loop.example/vectorstore/laws.FnInBox", spec := "fnInBox", apart := false }
def FnInBoxSaid : Prop := fnInBoxRow.holds Try.pinned (OpenSpec.ofChange fnInBoxSpec)

/-- ITS FALSE NEIGHBOUR: 'it returns false'. Refute it at one input. -/
def fnInBoxWrong : ChangeSpec := { name := "fnInBox", fn := fun _ => fun
  | [d] => { results := [.lit (.bool false)], args := [d] }
  | _ => none }
def FnInBoxWrongFalsely : Prop := fnInBoxRow.holds Try.pinned (OpenSpec.ofChange fnInBoxWrong)

/- THE SECOND FORM. 'bulk': how many values and letters a reading holds, each counted each time it is reached (what is shared counts as often as it is met; a slice's spare places count too). A statement '..UptoSaid' is the law's where the arguments, and the package variables that the reading takes, are together of bulk at most 1048576: NARROWER than '..Said'. Prove '..Said' where nothing that the law and all that it calls make is longer than what came in: it says more and counts as full. Else prove '..UptoSaid'. A law counts once. -/
mutual
def uptoBulk {H : Type} : DataW H → Nat
  | .lit (.string bytes) => bytes.length + 1
  | .lit _ => 1
  | .nil => 1
  | .ptr d => uptoBulk d + 1
  | .slice elems spare => uptoBulkAll elems + uptoBulkAll spare + 1
  | .agg parts => uptoBulkAll parts + 1
  | .iface _ d => uptoBulk d + 1
  | .map entries => uptoBulkEntries entries + 1
  | .held _ => 1
def uptoBulkAll {H : Type} : List (DataW H) → Nat
  | [] => 0
  | d :: r => uptoBulk d + uptoBulkAll r
def uptoBulkEntries {H : Type} : List (Lit × DataW H) → Nat
  | [] => 0
  | x :: r => uptoBulkEntry x + uptoBulkEntries r
def uptoBulkEntry {H : Type} : Lit × DataW H → Nat
  | (.string bytes, d) => bytes.length + uptoBulk d + 1
  | (_, d) => uptoBulk d + 1
 end
def uptoSmall : (H : Type) → List (DataW H) → Bool := fun _ ds => decide (uptoBulkAll ds ≤ 1048576)
def OpenSpec.upto (s : _root_.Go.ChangeSpec) : _root_.Go.OpenSpec := { _root_.Go.OpenSpec.ofChange s with cond := some uptoSmall }

/-- 'laws.FnInBoxOne', WHERE WHAT IT READS IS OF BULK AT MOST 1048576: true; the input reads as it did. -/
def fnInBoxOneUptoRow : OpenClaim := { program := "ytbbiffaggnllnaa", sum := "eb97ed347888bc806170debcdfd9aeefc69d685cca507e96e9da09a528cf21de", func := "loop.example/vectorstore/laws.FnInBoxOne", spec := "fnInBoxOne", unfollowed := true, recurses := true, apart := false, narrowed := true }
def FnInBoxOneUptoSaid : Prop := fnInBoxOneUptoRow.holds Try.pinned (OpenSpec.upto fnInBoxOneSpec)

/-- 'laws.FnExactNearest', WHERE WHAT IT READS IS OF BULK AT MOST 1048576: true; the input reads as it did. -/
def fnExactNearestUptoRow : OpenClaim := { program := "ytbbiffaggnllnaa", sum := "eb97ed347888bc806170debcdfd9aeefc69d685cca507e96e9da09a528cf21de", func := "loop.example/vectorstore/laws.FnExactNearest", spec := "fnExactNearest", unfollowed := true, recurses := true, apart := false, narrowed := true }
def FnExactNearestUptoSaid : Prop := fnExactNearestUptoRow.holds Try.pinned (OpenSpec.upto fnExactNearestSpec)

/-- 'laws.FnNearestMore', WHERE WHAT IT READS IS OF BULK AT MOST 1048576: true; the input reads as it did. -/
def fnNearestMoreUptoRow : OpenClaim := { program := "ytbbiffaggnllnaa", sum := "eb97ed347888bc806170debcdfd9aeefc69d685cca507e96e9da09a528cf21de", func := "loop.example/vectorstore/laws.FnNearestMore", spec := "fnNearestMore", unfollowed := true, recurses := true, apart := false, narrowed := true }
def FnNearestMoreUptoSaid : Prop := fnNearestMoreUptoRow.holds Try.pinned (OpenSpec.upto fnNearestMoreSpec)

/-- 'laws.FnNearestOwn', WHERE WHAT IT READS IS OF BULK AT MOST 1048576: true; the input reads as it did. -/
def fnNearestOwnUptoRow : OpenClaim := { program := "ytbbiffaggnllnaa", sum := "eb97ed347888bc806170debcdfd9aeefc69d685cca507e96e9da09a528cf21de", func := "loop.example/vectorstore/laws.FnNearestOwn", spec := "fnNearestOwn", unfollowed := true, recurses := true, apart := false, narrowed := true }
def FnNearestOwnUptoSaid : Prop := fnNearestOwnUptoRow.holds Try.pinned (OpenSpec.upto fnNearestOwnSpec)

/-- 'laws.FnExactWithinDist', WHERE WHAT IT READS IS OF BULK AT MOST 1048576: true; the input reads as it did. -/
def fnExactWithinDistUptoRow : OpenClaim := { program := "ytbbiffaggnllnaa", sum := "eb97ed347888bc806170debcdfd9aeefc69d685cca507e96e9da09a528cf21de", func := "loop.example/vectorstore/laws.FnExactWithinDist", spec := "fnExactWithinDist", unfollowed := true, recurses := true, apart := false, narrowed := true }
def FnExactWithinDistUptoSaid : Prop := fnExactWithinDistUptoRow.holds Try.pinned (OpenSpec.upto fnExactWithinDistSpec)

/-- 'laws.FnWithinDistMore', WHERE WHAT IT READS IS OF BULK AT MOST 1048576: true; the input reads as it did. -/
def fnWithinDistMoreUptoRow : OpenClaim := { program := "ytbbiffaggnllnaa", sum := "eb97ed347888bc806170debcdfd9aeefc69d685cca507e96e9da09a528cf21de", func := "loop.example/vectorstore/laws.FnWithinDistMore", spec := "fnWithinDistMore", unfollowed := true, recurses := true, apart := false, narrowed := true }
def FnWithinDistMoreUptoSaid : Prop := fnWithinDistMoreUptoRow.holds Try.pinned (OpenSpec.upto fnWithinDistMoreSpec)

/-- 'laws.FnClosestPairNearest', WHERE WHAT IT READS IS OF BULK AT MOST 1048576: true; the input reads as it did. -/
def fnClosestPairNearestUptoRow : OpenClaim := { program := "ytbbiffaggnllnaa", sum := "eb97ed347888bc806170debcdfd9aeefc69d685cca507e96e9da09a528cf21de", func := "loop.example/vectorstore/laws.FnClosestPairNearest", spec := "fnClosestPairNearest", unfollowed := true, recurses := true, apart := false, narrowed := true }
def FnClosestPairNearestUptoSaid : Prop := fnClosestPairNearestUptoRow.holds Try.pinned (OpenSpec.upto fnClosestPairNearestSpec)

/-- 'laws.FnWithinDistNearest', WHERE WHAT IT READS IS OF BULK AT MOST 1048576: true; the input reads as it did. -/
def fnWithinDistNearestUptoRow : OpenClaim := { program := "ytbbiffaggnllnaa", sum := "eb97ed347888bc806170debcdfd9aeefc69d685cca507e96e9da09a528cf21de", func := "loop.example/vectorstore/laws.FnWithinDistNearest", spec := "fnWithinDistNearest", unfollowed := true, recurses := true, apart := false, narrowed := true }
def FnWithinDistNearestUptoSaid : Prop := fnWithinDistNearestUptoRow.holds Try.pinned (OpenSpec.upto fnWithinDistNearestSpec)

/-- 'laws.FnNearestPut', WHERE WHAT IT READS IS OF BULK AT MOST 1048576: true; the input reads as it did. -/
def fnNearestPutUptoRow : OpenClaim := { program := "ytbbiffaggnllnaa", sum := "eb97ed347888bc806170debcdfd9aeefc69d685cca507e96e9da09a528cf21de", func := "loop.example/vectorstore/laws.FnNearestPut", spec := "fnNearestPut", unfollowed := true, recurses := true, apart := false, narrowed := true }
def FnNearestPutUptoSaid : Prop := fnNearestPutUptoRow.holds Try.pinned (OpenSpec.upto fnNearestPutSpec)

/-- 'laws.FnBuildTreeSize', WHERE WHAT IT READS IS OF BULK AT MOST 1048576: true; the input reads as it did. -/
def fnBuildTreeSizeUptoRow : OpenClaim := { program := "ytbbiffaggnllnaa", sum := "eb97ed347888bc806170debcdfd9aeefc69d685cca507e96e9da09a528cf21de", func := "loop.example/vectorstore/laws.FnBuildTreeSize", spec := "fnBuildTreeSize", unfollowed := true, recurses := true, apart := false, narrowed := true }
def FnBuildTreeSizeUptoSaid : Prop := fnBuildTreeSizeUptoRow.holds Try.pinned (OpenSpec.upto fnBuildTreeSizeSpec)

/-- 'laws.FnExactIsTreeOf', WHERE WHAT IT READS IS OF BULK AT MOST 1048576: true; the input reads as it did. -/
def fnExactIsTreeOfUptoRow : OpenClaim := { program := "ytbbiffaggnllnaa", sum := "eb97ed347888bc806170debcdfd9aeefc69d685cca507e96e9da09a528cf21de", func := "loop.example/vectorstore/laws.FnExactIsTreeOf", spec := "fnExactIsTreeOf", unfollowed := true, recurses := true, apart := false, narrowed := true }
def FnExactIsTreeOfUptoSaid : Prop := fnExactIsTreeOfUptoRow.holds Try.pinned (OpenSpec.upto fnExactIsTreeOfSpec)

/-- 'laws.FnNearestDistance', WHERE WHAT IT READS IS OF BULK AT MOST 1048576: true; the input reads as it did. -/
def fnNearestDistanceUptoRow : OpenClaim := { program := "ytbbiffaggnllnaa", sum := "eb97ed347888bc806170debcdfd9aeefc69d685cca507e96e9da09a528cf21de", func := "loop.example/vectorstore/laws.FnNearestDistance", spec := "fnNearestDistance", unfollowed := true, recurses := true, apart := false, narrowed := true }
def FnNearestDistanceUptoSaid : Prop := fnNearestDistanceUptoRow.holds Try.pinned (OpenSpec.upto fnNearestDistanceSpec)

/-- 'laws.FnBuildTreeOne', WHERE WHAT IT READS IS OF BULK AT MOST 1048576: true; the input reads as it did. -/
def fnBuildTreeOneUptoRow : OpenClaim := { program := "ytbbiffaggnllnaa", sum := "eb97ed347888bc806170debcdfd9aeefc69d685cca507e96e9da09a528cf21de", func := "loop.example/vectorstore/laws.FnBuildTreeOne", spec := "fnBuildTreeOne", unfollowed := true, recurses := true, apart := false, narrowed := true }
def FnBuildTreeOneUptoSaid : Prop := fnBuildTreeOneUptoRow.holds Try.pinned (OpenSpec.upto fnBuildTreeOneSpec)

/-- 'laws.FnBuildTreeRadius', WHERE WHAT IT READS IS OF BULK AT MOST 1048576: true; the input reads as it did. -/
def fnBuildTreeRadiusUptoRow : OpenClaim := { program := "ytbbiffaggnllnaa", sum := "eb97ed347888bc806170debcdfd9aeefc69d685cca507e96e9da09a528cf21de", func := "loop.example/vectorstore/laws.FnBuildTreeRadius", spec := "fnBuildTreeRadius", unfollowed := true, recurses := true, apart := false, narrowed := true }
def FnBuildTreeRadiusUptoSaid : Prop := fnBuildTreeRadiusUptoRow.holds Try.pinned (OpenSpec.upto fnBuildTreeRadiusSpec)

/-- 'laws.FnNearestDrop', WHERE WHAT IT READS IS OF BULK AT MOST 1048576: true; the input reads as it did. -/
def fnNearestDropUptoRow : OpenClaim := { program := "ytbbiffaggnllnaa", sum := "eb97ed347888bc806170debcdfd9aeefc69d685cca507e96e9da09a528cf21de", func := "loop.example/vectorstore/laws.FnNearestDrop", spec := "fnNearestDrop", unfollowed := true, recurses := true, apart := false, narrowed := true }
def FnNearestDropUptoSaid : Prop := fnNearestDropUptoRow.holds Try.pinned (OpenSpec.upto fnNearestDropSpec)

/-- 'laws.FnExactBuildTree', WHERE WHAT IT READS IS OF BULK AT MOST 1048576: true; the input reads as it did. -/
def fnExactBuildTreeUptoRow : OpenClaim := { program := "ytbbiffaggnllnaa", sum := "eb97ed347888bc806170debcdfd9aeefc69d685cca507e96e9da09a528cf21de", func := "loop.example/vectorstore/laws.FnExactBuildTree", spec := "fnExactBuildTree", unfollowed := true, recurses := true, apart := false, narrowed := true }
def FnExactBuildTreeUptoSaid : Prop := fnExactBuildTreeUptoRow.holds Try.pinned (OpenSpec.upto fnExactBuildTreeSpec)

/-- 'laws.FnInBoxMost', WHERE WHAT IT READS IS OF BULK AT MOST 1048576: true; the input reads as it did. -/
def fnInBoxMostUptoRow : OpenClaim := { program := "ytbbiffaggnllnaa", sum := "eb97ed347888bc806170debcdfd9aeefc69d685cca507e96e9da09a528cf21de", func := "loop.example/vectorstore/laws.FnInBoxMost", spec := "fnInBoxMost", unfollowed := true, recurses := true, apart := false, narrowed := true }
def FnInBoxMostUptoSaid : Prop := fnInBoxMostUptoRow.holds Try.pinned (OpenSpec.upto fnInBoxMostSpec)

/-- 'laws.FnBuildTree', WHERE WHAT IT READS IS OF BULK AT MOST 1048576: true; the input reads as it did. -/
def fnBuildTreeUptoRow : OpenClaim := { program := "ytbbiffaggnllnaa", sum := "eb97ed347888bc806170debcdfd9aeefc69d685cca507e96e9da09a528cf21de", func := "loop.example/vectorstore/laws.FnBuildTree", spec := "fnBuildTree", unfollowed := true, recurses := true, apart := false, narrowed := true }
def FnBuildTreeUptoSaid : Prop := fnBuildTreeUptoRow.holds Try.pinned (OpenSpec.upto fnBuildTreeSpec)

/-- 'laws.FnExactTreeNearest', WHERE WHAT IT READS IS OF BULK AT MOST 1048576: true; the input reads as it did. -/
def fnExactTreeNearestUptoRow : OpenClaim := { program := "ytbbiffaggnllnaa", sum := "eb97ed347888bc806170debcdfd9aeefc69d685cca507e96e9da09a528cf21de", func := "loop.example/vectorstore/laws.FnExactTreeNearest", spec := "fnExactTreeNearest", unfollowed := true, recurses := true, apart := false, narrowed := true }
def FnExactTreeNearestUptoSaid : Prop := fnExactTreeNearestUptoRow.holds Try.pinned (OpenSpec.upto fnExactTreeNearestSpec)

/-- 'laws.FnExactTreeVisits', WHERE WHAT IT READS IS OF BULK AT MOST 1048576: true; the input reads as it did. -/
def fnExactTreeVisitsUptoRow : OpenClaim := { program := "ytbbiffaggnllnaa", sum := "eb97ed347888bc806170debcdfd9aeefc69d685cca507e96e9da09a528cf21de", func := "loop.example/vectorstore/laws.FnExactTreeVisits", spec := "fnExactTreeVisits", unfollowed := true, recurses := true, apart := false, narrowed := true }
def FnExactTreeVisitsUptoSaid : Prop := fnExactTreeVisitsUptoRow.holds Try.pinned (OpenSpec.upto fnExactTreeVisitsSpec)

/-- 'laws.FnExactMeanOf', WHERE WHAT IT READS IS OF BULK AT MOST 1048576: true; the input reads as it did. -/
def fnExactMeanOfUptoRow : OpenClaim := { program := "ytbbiffaggnllnaa", sum := "eb97ed347888bc806170debcdfd9aeefc69d685cca507e96e9da09a528cf21de", func := "loop.example/vectorstore/laws.FnExactMeanOf", spec := "fnExactMeanOf", apart := false, narrowed := true }
def FnExactMeanOfUptoSaid : Prop := fnExactMeanOfUptoRow.holds Try.pinned (OpenSpec.upto fnExactMeanOfSpec)

/-- 'laws.FnInBox', WHERE WHAT IT READS IS OF BULK AT MOST 1048576: true; the input reads as it did. -/
def fnInBoxUptoRow : OpenClaim := { program := "ytbbiffaggnllnaa", sum := "eb97ed347888bc806170debcdfd9aeefc69d685cca507e96e9da09a528cf21de", func := "loop.example/vectorstore/laws.FnInBox", spec := "fnInBox", apart := false, narrowed := true }
def FnInBoxUptoSaid : Prop := fnInBoxUptoRow.holds Try.pinned (OpenSpec.upto fnInBoxSpec)

end Rows
end Go.Proofs.Ytbbiffaggnllnaa

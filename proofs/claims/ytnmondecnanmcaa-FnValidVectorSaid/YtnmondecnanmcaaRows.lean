/-
  No cell of these rows narrows 'for every input' (looked for: loops, veiled, ifaces, maps, wideKeys, modest, calm, conditions, laid).
  DERIVED. THE GIVEN ROWS OF THIS SEAT. 21 by the template 'for every input the law returns true; each argument reads behind the call as it read before'; 0 by the template 'total and deterministic' (their statements: YtnmondecnanmcaaTotals.lean).
  GIVEN WITH THE SEED: the statements are not yours to turn. If you find one false, say at which input.
  Laid BY PROGRAM, IN A SANDBOX (cutbox-rows.mjs): the forced cells as the released guide's own fill.sh prints them over the translation 904ddd121dc253a5… (all of the seat's roots in one cut). By AI agents, Wed Nov 11 2026. No macro, syntax, notation, axiom, sorry.
-/
import Derived.Test.YtnmondecnanmcaaChecked
import GoSem.Claim
import GoSem.ClaimJoined
import GoSem.ClaimMapViews
import Derived.JoinedTies
import Derived.KernelRfl
namespace Go.Proofs.Ytnmondecnanmcaa
/- THE CELL 'sum', in the pinned program and in every row, IS THE sha256 OF THE DUMP (.gsa) THAT YtnmondecnanmcaaProg.lean LOADS. Nothing in Lean hashes anything: it is a label: what it is worth is what the hold of that sum in a sandbox is worth. -/
noncomputable def Try.pinned : Pinned := { name := "ytnmondecnanmcaa", sum := "904ddd121dc253a58eba1873116cdd03a6c4ce2d689a0fe5546867b5e5f1c122", checked := Try.checked }
namespace Rows
def none {H : Type} : Left H := { results := [], args := [] }

/-- 'laws.FnExactConstants': WHATEVER THE INPUT: true; the input reads as it did. -/
def fnExactConstantsSpec : ChangeSpec := { name := "fnExactConstants", fn := fun _ => fun
  | [] => { results := [.lit (.bool true)], args := [] }
  | _ => none }
def fnExactConstantsRow : OpenClaim := { program := "ytnmondecnanmcaa", sum := "904ddd121dc253a58eba1873116cdd03a6c4ce2d689a0fe5546867b5e5f1c122", func := "loop.example/vectorstore/laws.FnExactConstants", spec := "fnExactConstants", apart := false }
def FnExactConstantsSaid : Prop := fnExactConstantsRow.holds Try.pinned (OpenSpec.ofChange fnExactConstantsSpec)

/-- ITS FALSE NEIGHBOUR: 'it returns false'. Refute it at one input. -/
def fnExactConstantsWrong : ChangeSpec := { name := "fnExactConstants", fn := fun _ => fun
  | [] => { results := [.lit (.bool false)], args := [] }
  | _ => none }
def FnExactConstantsWrongFalsely : Prop := fnExactConstantsRow.holds Try.pinned (OpenSpec.ofChange fnExactConstantsWrong)

/-- 'laws.FnExactValidVector': WHATEVER THE INPUT: true; the input reads as it did. -/
def fnExactValidVectorSpec : ChangeSpec := { name := "fnExactValidVector", fn := fun _ => fun
  | [d] => { results := [.lit (.bool true)], args := [d] }
  | _ => none }
def fnExactValidVectorRow : OpenClaim := { program := "ytnmondecnanmcaa", sum := "904ddd121dc253a58eba1873116cdd03a6c4ce2d689a0fe5546867b5e5f1c122", func := "loop.example/vectorstore/laws.FnExactValidVector", spec := "fnExactValidVector", apart := false }
def FnExactValidVectorSaid : Prop := fnExactValidVectorRow.holds Try.pinned (OpenSpec.ofChange fnExactValidVectorSpec)

/-- ITS FALSE NEIGHBOUR: 'it returns false'. Refute it at one input. -/
def fnExactValidVectorWrong : ChangeSpec := { name := "fnExactValidVector", fn := fun _ => fun
  | [d] => { results := [.lit (.bool false)], args := [d] }
  | _ => none }
def FnExactValidVectorWrongFalsely : Prop := fnExactValidVectorRow.holds Try.pinned (OpenSpec.ofChange fnExactValidVectorWrong)

/-- 'laws.FnExactDotOf': WHATEVER THE INPUT: true; the input reads as it did. -/
def fnExactDotOfSpec : ChangeSpec := { name := "fnExactDotOf", fn := fun _ => fun
  | [d1, d2] => { results := [.lit (.bool true)], args := [d1, d2] }
  | _ => none }
def fnExactDotOfRow : OpenClaim := { program := "ytnmondecnanmcaa", sum := "904ddd121dc253a58eba1873116cdd03a6c4ce2d689a0fe5546867b5e5f1c122", func := "loop.example/vectorstore/laws.FnExactDotOf", spec := "fnExactDotOf", apart := false }
def FnExactDotOfSaid : Prop := fnExactDotOfRow.holds Try.pinned (OpenSpec.ofChange fnExactDotOfSpec)

/-- ITS FALSE NEIGHBOUR: 'it returns false'. Refute it at one input. -/
def fnExactDotOfWrong : ChangeSpec := { name := "fnExactDotOf", fn := fun _ => fun
  | [d1, d2] => { results := [.lit (.bool false)], args := [d1, d2] }
  | _ => none }
def FnExactDotOfWrongFalsely : Prop := fnExactDotOfRow.holds Try.pinned (OpenSpec.ofChange fnExactDotOfWrong)

/-- 'laws.FnValidVector': WHATEVER THE INPUT: true; the input reads as it did. -/
def fnValidVectorSpec : ChangeSpec := { name := "fnValidVector", fn := fun _ => fun
  | [d] => { results := [.lit (.bool true)], args := [d] }
  | _ => none }
def fnValidVectorRow : OpenClaim := { program := "ytnmondecnanmcaa", sum := "904ddd121dc253a58eba1873116cdd03a6c4ce2d689a0fe5546867b5e5f1c122", func := "loop.example/vectorstore/laws.FnValidVector", spec := "fnValidVector", apart := false }
def FnValidVectorSaid : Prop := fnValidVectorRow.holds Try.pinned (OpenSpec.ofChange fnValidVectorSpec)

/-- ITS FALSE NEIGHBOUR: 'it returns false'. Refute it at one input. -/
def fnValidVectorWrong : ChangeSpec := { name := "fnValidVector", fn := fun _ => fun
  | [d] => { results := [.lit (.bool false)], args := [d] }
  | _ => none }
def FnValidVectorWrongFalsely : Prop := fnValidVectorRow.holds Try.pinned (OpenSpec.ofChange fnValidVectorWrong)

/-- 'laws.FnExactMoveTo': WHATEVER THE INPUT: true; the input reads as it did. -/
def fnExactMoveToSpec : ChangeSpec := { name := "fnExactMoveTo", fn := fun _ => fun
  | [d1, d2, d3] => { results := [.lit (.bool true)], args := [d1, d2, d3] }
  | _ => none }
def fnExactMoveToRow : OpenClaim := { program := "ytnmondecnanmcaa", sum := "904ddd121dc253a58eba1873116cdd03a6c4ce2d689a0fe5546867b5e5f1c122", func := "loop.example/vectorstore/laws.FnExactMoveTo", spec := "fnExactMoveTo", apart := false }
def FnExactMoveToSaid : Prop := fnExactMoveToRow.holds Try.pinned (OpenSpec.ofChange fnExactMoveToSpec)

/-- ITS FALSE NEIGHBOUR: 'it returns false'. Refute it at one input. -/
def fnExactMoveToWrong : ChangeSpec := { name := "fnExactMoveTo", fn := fun _ => fun
  | [d1, d2, d3] => { results := [.lit (.bool false)], args := [d1, d2, d3] }
  | _ => none }
def FnExactMoveToWrongFalsely : Prop := fnExactMoveToRow.holds Try.pinned (OpenSpec.ofChange fnExactMoveToWrong)

/-- 'laws.FnExactDistance': WHATEVER THE INPUT: true; the input reads as it did. -/
def fnExactDistanceSpec : ChangeSpec := { name := "fnExactDistance", fn := fun _ => fun
  | [d1, d2, d3] => { results := [.lit (.bool true)], args := [d1, d2, d3] }
  | _ => none }
def fnExactDistanceRow : OpenClaim := { program := "ytnmondecnanmcaa", sum := "904ddd121dc253a58eba1873116cdd03a6c4ce2d689a0fe5546867b5e5f1c122", func := "loop.example/vectorstore/laws.FnExactDistance", spec := "fnExactDistance", apart := false }
def FnExactDistanceSaid : Prop := fnExactDistanceRow.holds Try.pinned (OpenSpec.ofChange fnExactDistanceSpec)

/-- ITS FALSE NEIGHBOUR: 'it returns false'. Refute it at one input. -/
def fnExactDistanceWrong : ChangeSpec := { name := "fnExactDistance", fn := fun _ => fun
  | [d1, d2, d3] => { results := [.lit (.bool false)], args := [d1, d2, d3] }
  | _ => none }
def FnExactDistanceWrongFalsely : Prop := fnExactDistanceRow.holds Try.pinned (OpenSpec.ofChange fnExactDistanceWrong)

/-- 'laws.FnDotOfBound': WHATEVER THE INPUT: true; the input reads as it did. -/
def fnDotOfBoundSpec : ChangeSpec := { name := "fnDotOfBound", fn := fun _ => fun
  | [d] => { results := [.lit (.bool true)], args := [d] }
  | _ => none }
def fnDotOfBoundRow : OpenClaim := { program := "ytnmondecnanmcaa", sum := "904ddd121dc253a58eba1873116cdd03a6c4ce2d689a0fe5546867b5e5f1c122", func := "loop.example/vectorstore/laws.FnDotOfBound", spec := "fnDotOfBound", apart := false }
def FnDotOfBoundSaid : Prop := fnDotOfBoundRow.holds Try.pinned (OpenSpec.ofChange fnDotOfBoundSpec)

/-- ITS FALSE NEIGHBOUR: 'it returns false'. Refute it at one input. -/
def fnDotOfBoundWrong : ChangeSpec := { name := "fnDotOfBound", fn := fun _ => fun
  | [d] => { results := [.lit (.bool false)], args := [d] }
  | _ => none }
def FnDotOfBoundWrongFalsely : Prop := fnDotOfBoundRow.holds Try.pinned (OpenSpec.ofChange fnDotOfBoundWrong)

/-- 'laws.FnDotOfZero': WHATEVER THE INPUT: true; the input reads as it did. -/
def fnDotOfZeroSpec : ChangeSpec := { name := "fnDotOfZero", fn := fun _ => fun
  | [d] => { results := [.lit (.bool true)], args := [d] }
  | _ => none }
def fnDotOfZeroRow : OpenClaim := { program := "ytnmondecnanmcaa", sum := "904ddd121dc253a58eba1873116cdd03a6c4ce2d689a0fe5546867b5e5f1c122", func := "loop.example/vectorstore/laws.FnDotOfZero", spec := "fnDotOfZero", apart := false }
def FnDotOfZeroSaid : Prop := fnDotOfZeroRow.holds Try.pinned (OpenSpec.ofChange fnDotOfZeroSpec)

/-- ITS FALSE NEIGHBOUR: 'it returns false'. Refute it at one input. -/
def fnDotOfZeroWrong : ChangeSpec := { name := "fnDotOfZero", fn := fun _ => fun
  | [d] => { results := [.lit (.bool false)], args := [d] }
  | _ => none }
def FnDotOfZeroWrongFalsely : Prop := fnDotOfZeroRow.holds Try.pinned (OpenSpec.ofChange fnDotOfZeroWrong)

/-- 'laws.FnMoveTo': WHATEVER THE INPUT: true; the input reads as it did. -/
def fnMoveToSpec : ChangeSpec := { name := "fnMoveTo", fn := fun _ => fun
  | [d] => { results := [.lit (.bool true)], args := [d] }
  | _ => none }
def fnMoveToRow : OpenClaim := { program := "ytnmondecnanmcaa", sum := "904ddd121dc253a58eba1873116cdd03a6c4ce2d689a0fe5546867b5e5f1c122", func := "loop.example/vectorstore/laws.FnMoveTo", spec := "fnMoveTo", apart := false }
def FnMoveToSaid : Prop := fnMoveToRow.holds Try.pinned (OpenSpec.ofChange fnMoveToSpec)

/-- ITS FALSE NEIGHBOUR: 'it returns false'. Refute it at one input. -/
def fnMoveToWrong : ChangeSpec := { name := "fnMoveTo", fn := fun _ => fun
  | [d] => { results := [.lit (.bool false)], args := [d] }
  | _ => none }
def FnMoveToWrongFalsely : Prop := fnMoveToRow.holds Try.pinned (OpenSpec.ofChange fnMoveToWrong)

/-- 'laws.FnMoveToSame': WHATEVER THE INPUT: true; the input reads as it did. -/
def fnMoveToSameSpec : ChangeSpec := { name := "fnMoveToSame", fn := fun _ => fun
  | [d] => { results := [.lit (.bool true)], args := [d] }
  | _ => none }
def fnMoveToSameRow : OpenClaim := { program := "ytnmondecnanmcaa", sum := "904ddd121dc253a58eba1873116cdd03a6c4ce2d689a0fe5546867b5e5f1c122", func := "loop.example/vectorstore/laws.FnMoveToSame", spec := "fnMoveToSame", apart := false }
def FnMoveToSameSaid : Prop := fnMoveToSameRow.holds Try.pinned (OpenSpec.ofChange fnMoveToSameSpec)

/-- ITS FALSE NEIGHBOUR: 'it returns false'. Refute it at one input. -/
def fnMoveToSameWrong : ChangeSpec := { name := "fnMoveToSame", fn := fun _ => fun
  | [d] => { results := [.lit (.bool false)], args := [d] }
  | _ => none }
def FnMoveToSameWrongFalsely : Prop := fnMoveToSameRow.holds Try.pinned (OpenSpec.ofChange fnMoveToSameWrong)

/-- 'laws.FnDotOf': WHATEVER THE INPUT: true; the input reads as it did. -/
def fnDotOfSpec : ChangeSpec := { name := "fnDotOf", fn := fun _ => fun
  | [d] => { results := [.lit (.bool true)], args := [d] }
  | _ => none }
def fnDotOfRow : OpenClaim := { program := "ytnmondecnanmcaa", sum := "904ddd121dc253a58eba1873116cdd03a6c4ce2d689a0fe5546867b5e5f1c122", func := "loop.example/vectorstore/laws.FnDotOf", spec := "fnDotOf", apart := false }
def FnDotOfSaid : Prop := fnDotOfRow.holds Try.pinned (OpenSpec.ofChange fnDotOfSpec)

/-- ITS FALSE NEIGHBOUR: 'it returns false'. Refute it at one input. -/
def fnDotOfWrong : ChangeSpec := { name := "fnDotOf", fn := fun _ => fun
  | [d] => { results := [.lit (.bool false)], args := [d] }
  | _ => none }
def FnDotOfWrongFalsely : Prop := fnDotOfRow.holds Try.pinned (OpenSpec.ofChange fnDotOfWrong)

/-- 'laws.FnDistanceKinds': WHATEVER THE INPUT: true; the input reads as it did. -/
def fnDistanceKindsSpec : ChangeSpec := { name := "fnDistanceKinds", fn := fun _ => fun
  | [d] => { results := [.lit (.bool true)], args := [d] }
  | _ => none }
def fnDistanceKindsRow : OpenClaim := { program := "ytnmondecnanmcaa", sum := "904ddd121dc253a58eba1873116cdd03a6c4ce2d689a0fe5546867b5e5f1c122", func := "loop.example/vectorstore/laws.FnDistanceKinds", spec := "fnDistanceKinds", apart := false }
def FnDistanceKindsSaid : Prop := fnDistanceKindsRow.holds Try.pinned (OpenSpec.ofChange fnDistanceKindsSpec)

/-- ITS FALSE NEIGHBOUR: 'it returns false'. Refute it at one input. -/
def fnDistanceKindsWrong : ChangeSpec := { name := "fnDistanceKinds", fn := fun _ => fun
  | [d] => { results := [.lit (.bool false)], args := [d] }
  | _ => none }
def FnDistanceKindsWrongFalsely : Prop := fnDistanceKindsRow.holds Try.pinned (OpenSpec.ofChange fnDistanceKindsWrong)

/-- 'laws.FnDistanceOne': WHATEVER THE INPUT: true; the input reads as it did. -/
def fnDistanceOneSpec : ChangeSpec := { name := "fnDistanceOne", fn := fun _ => fun
  | [d] => { results := [.lit (.bool true)], args := [d] }
  | _ => none }
def fnDistanceOneRow : OpenClaim := { program := "ytnmondecnanmcaa", sum := "904ddd121dc253a58eba1873116cdd03a6c4ce2d689a0fe5546867b5e5f1c122", func := "loop.example/vectorstore/laws.FnDistanceOne", spec := "fnDistanceOne", apart := false }
def FnDistanceOneSaid : Prop := fnDistanceOneRow.holds Try.pinned (OpenSpec.ofChange fnDistanceOneSpec)

/-- ITS FALSE NEIGHBOUR: 'it returns false'. Refute it at one input. -/
def fnDistanceOneWrong : ChangeSpec := { name := "fnDistanceOne", fn := fun _ => fun
  | [d] => { results := [.lit (.bool false)], args := [d] }
  | _ => none }
def FnDistanceOneWrongFalsely : Prop := fnDistanceOneRow.holds Try.pinned (OpenSpec.ofChange fnDistanceOneWrong)

/-- 'laws.FnDistanceTriangle': WHATEVER THE INPUT: true; the input reads as it did. -/
def fnDistanceTriangleSpec : ChangeSpec := { name := "fnDistanceTriangle", fn := fun _ => fun
  | [d] => { results := [.lit (.bool true)], args := [d] }
  | _ => none }
def fnDistanceTriangleRow : OpenClaim := { program := "ytnmondecnanmcaa", sum := "904ddd121dc253a58eba1873116cdd03a6c4ce2d689a0fe5546867b5e5f1c122", func := "loop.example/vectorstore/laws.FnDistanceTriangle", spec := "fnDistanceTriangle", apart := false }
def FnDistanceTriangleSaid : Prop := fnDistanceTriangleRow.holds Try.pinned (OpenSpec.ofChange fnDistanceTriangleSpec)

/-- ITS FALSE NEIGHBOUR: 'it returns false'. Refute it at one input. -/
def fnDistanceTriangleWrong : ChangeSpec := { name := "fnDistanceTriangle", fn := fun _ => fun
  | [d] => { results := [.lit (.bool false)], args := [d] }
  | _ => none }
def FnDistanceTriangleWrongFalsely : Prop := fnDistanceTriangleRow.holds Try.pinned (OpenSpec.ofChange fnDistanceTriangleWrong)

/-- 'laws.FnExactMeanOf': WHATEVER THE INPUT: true; the input reads as it did. -/
def fnExactMeanOfSpec : ChangeSpec := { name := "fnExactMeanOf", fn := fun _ => fun
  | [d] => { results := [.lit (.bool true)], args := [d] }
  | _ => none }
def fnExactMeanOfRow : OpenClaim := { program := "ytnmondecnanmcaa", sum := "904ddd121dc253a58eba1873116cdd03a6c4ce2d689a0fe5546867b5e5f1c122", func := "loop.example/vectorstore/laws.FnExactMeanOf", spec := "fnExactMeanOf", apart := false }
def FnExactMeanOfSaid : Prop := fnExactMeanOfRow.holds Try.pinned (OpenSpec.ofChange fnExactMeanOfSpec)

/-- ITS FALSE NEIGHBOUR: 'it returns false'. Refute it at one input. -/
def fnExactMeanOfWrong : ChangeSpec := { name := "fnExactMeanOf", fn := fun _ => fun
  | [d] => { results := [.lit (.bool false)], args := [d] }
  | _ => none }
def FnExactMeanOfWrongFalsely : Prop := fnExactMeanOfRow.holds Try.pinned (OpenSpec.ofChange fnExactMeanOfWrong)

/-- 'laws.FnDistanceShift': WHATEVER THE INPUT: true; the input reads as it did. -/
def fnDistanceShiftSpec : ChangeSpec := { name := "fnDistanceShift", fn := fun _ => fun
  | [d] => { results := [.lit (.bool true)], args := [d] }
  | _ => none }
def fnDistanceShiftRow : OpenClaim := { program := "ytnmondecnanmcaa", sum := "904ddd121dc253a58eba1873116cdd03a6c4ce2d689a0fe5546867b5e5f1c122", func := "loop.example/vectorstore/laws.FnDistanceShift", spec := "fnDistanceShift", apart := false }
def FnDistanceShiftSaid : Prop := fnDistanceShiftRow.holds Try.pinned (OpenSpec.ofChange fnDistanceShiftSpec)

/-- ITS FALSE NEIGHBOUR: 'it returns false'. Refute it at one input. -/
def fnDistanceShiftWrong : ChangeSpec := { name := "fnDistanceShift", fn := fun _ => fun
  | [d] => { results := [.lit (.bool false)], args := [d] }
  | _ => none }
def FnDistanceShiftWrongFalsely : Prop := fnDistanceShiftRow.holds Try.pinned (OpenSpec.ofChange fnDistanceShiftWrong)

/-- 'laws.FnMeanOfOne': WHATEVER THE INPUT: true; the input reads as it did. -/
def fnMeanOfOneSpec : ChangeSpec := { name := "fnMeanOfOne", fn := fun _ => fun
  | [d] => { results := [.lit (.bool true)], args := [d] }
  | _ => none }
def fnMeanOfOneRow : OpenClaim := { program := "ytnmondecnanmcaa", sum := "904ddd121dc253a58eba1873116cdd03a6c4ce2d689a0fe5546867b5e5f1c122", func := "loop.example/vectorstore/laws.FnMeanOfOne", spec := "fnMeanOfOne", apart := false }
def FnMeanOfOneSaid : Prop := fnMeanOfOneRow.holds Try.pinned (OpenSpec.ofChange fnMeanOfOneSpec)

/-- ITS FALSE NEIGHBOUR: 'it returns false'. Refute it at one input. -/
def fnMeanOfOneWrong : ChangeSpec := { name := "fnMeanOfOne", fn := fun _ => fun
  | [d] => { results := [.lit (.bool false)], args := [d] }
  | _ => none }
def FnMeanOfOneWrongFalsely : Prop := fnMeanOfOneRow.holds Try.pinned (OpenSpec.ofChange fnMeanOfOneWrong)

/-- 'laws.FnMeanOfOrder': WHATEVER THE INPUT: true; the input reads as it did. -/
def fnMeanOfOrderSpec : ChangeSpec := { name := "fnMeanOfOrder", fn := fun _ => fun
  | [d] => { results := [.lit (.bool true)], args := [d] }
  | _ => none }
def fnMeanOfOrderRow : OpenClaim := { program := "ytnmondecnanmcaa", sum := "904ddd121dc253a58eba1873116cdd03a6c4ce2d689a0fe5546867b5e5f1c122", func := "loop.example/vectorstore/laws.FnMeanOfOrder", spec := "fnMeanOfOrder", apart := false }
def FnMeanOfOrderSaid : Prop := fnMeanOfOrderRow.holds Try.pinned (OpenSpec.ofChange fnMeanOfOrderSpec)

/-- ITS FALSE NEIGHBOUR: 'it returns false'. Refute it at one input. -/
def fnMeanOfOrderWrong : ChangeSpec := { name := "fnMeanOfOrder", fn := fun _ => fun
  | [d] => { results := [.lit (.bool false)], args := [d] }
  | _ => none }
def FnMeanOfOrderWrongFalsely : Prop := fnMeanOfOrderRow.holds Try.pinned (OpenSpec.ofChange fnMeanOfOrderWrong)

/-- 'laws.FnMeanOf': WHATEVER THE INPUT: true; the input reads as it did. -/
def fnMeanOfSpec : ChangeSpec := { name := "fnMeanOf", fn := fun _ => fun
  | [d] => { results := [.lit (.bool true)], args := [d] }
  | _ => none }
def fnMeanOfRow : OpenClaim := { program := "ytnmondecnanmcaa", sum := "904ddd121dc253a58eba1873116cdd03a6c4ce2d689a0fe5546867b5e5f1c122", func := "loop.example/vectorstore/laws.FnMeanOf", spec := "fnMeanOf", apart := false }
def FnMeanOfSaid : Prop := fnMeanOfRow.holds Try.pinned (OpenSpec.ofChange fnMeanOfSpec)

/-- ITS FALSE NEIGHBOUR: 'it returns false'. Refute it at one input. -/
def fnMeanOfWrong : ChangeSpec := { name := "fnMeanOf", fn := fun _ => fun
  | [d] => { results := [.lit (.bool false)], args := [d] }
  | _ => none }
def FnMeanOfWrongFalsely : Prop := fnMeanOfRow.holds Try.pinned (OpenSpec.ofChange fnMeanOfWrong)

/-- 'laws.FnMoveToNearer': WHATEVER THE INPUT: true; the input reads as it did. -/
def fnMoveToNearerSpec : ChangeSpec := { name := "fnMoveToNearer", fn := fun _ => fun
  | [d] => { results := [.lit (.bool true)], args := [d] }
  | _ => none }
def fnMoveToNearerRow : OpenClaim := { program := "ytnmondecnanmcaa", sum := "904ddd121dc253a58eba1873116cdd03a6c4ce2d689a0fe5546867b5e5f1c122", func := "loop.example/vectorstore/laws.FnMoveToNearer", spec := "fnMoveToNearer", apart := false }
def FnMoveToNearerSaid : Prop := fnMoveToNearerRow.holds Try.pinned (OpenSpec.ofChange fnMoveToNearerSpec)

/-- ITS FALSE NEIGHBOUR: 'it returns false'. Refute it at one input. -/
def fnMoveToNearerWrong : ChangeSpec := { name := "fnMoveToNearer", fn := fun _ => fun
  | [d] => { results := [.lit (.bool false)], args := [d] }
  | _ => none }
def FnMoveToNearerWrongFalsely : Prop := fnMoveToNearerRow.holds Try.pinned (OpenSpec.ofChange fnMoveToNearerWrong)

/-- 'laws.FnDistance': WHATEVER THE INPUT: true; the input reads as it did. -/
def fnDistanceSpec : ChangeSpec := { name := "fnDistance", fn := fun _ => fun
  | [d] => { results := [.lit (.bool true)], args := [d] }
  | _ => none }
def fnDistanceRow : OpenClaim := { program := "ytnmondecnanmcaa", sum := "904ddd121dc253a58eba1873116cdd03a6c4ce2d689a0fe5546867b5e5f1c122", func := "loop.example/vectorstore/laws.FnDistance", spec := "fnDistance", apart := false }
def FnDistanceSaid : Prop := fnDistanceRow.holds Try.pinned (OpenSpec.ofChange fnDistanceSpec)

/-- ITS FALSE NEIGHBOUR: 'it returns false'. Refute it at one input. -/
def fnDistanceWrong : ChangeSpec := { name := "fnDistance", fn := fun _ => fun
  | [d] => { results := [.lit (.bool false)], args := [d] }
  | _ => none }
def FnDistanceWrongFalsely : Prop := fnDistanceRow.holds Try.pinned (OpenSpec.ofChange fnDistanceWrong)

/- THE SECOND FORM. 'bulk': how many values and letters a reading holds, each counted each time it is reached (what is shared counts as often as it is met; a slice's spare places count too). A statement '..UptoSaid' is the law's where the arguments, and the package variables that the reading takes, are together of bulk at most 1048576: NARROWER than '..Said'. Prove '..Said' where nothing that the law and all that it calls make is longer than what came in: it says more and counts as full. Else prove '..UptoSaid'. A law counts once. -/
mutual
def uptoBulk {H : Type} : DataW H → Nat
  | .lit (.string bytes) => bytes.length + 1
  | .lit _ => 1
  | .nil => 1
  | .ptr d => uptoBulk d + 1
  | .slice elems spare => uptoBulkAll elems + uptoBulkAll spare + 1
  | .agg parts => uptoBulkAll parts + 1
  | .iface _ d => uptoBulk d + 1
  | .map entries => uptoBulkEntries entries + 1
  | .held _ => 1
def uptoBulkAll {H : Type} : List (DataW H) → Nat
  | [] => 0
  | d :: r => uptoBulk d + uptoBulkAll r
def uptoBulkEntries {H : Type} : List (Lit × DataW H) → Nat
  | [] => 0
  | x :: r => uptoBulkEntry x + uptoBulkEntries r
def uptoBulkEntry {H : Type} : Lit × DataW H → Nat
  | (.string bytes, d) => bytes.length + uptoBulk d + 1
  | (_, d) => uptoBulk d + 1
 end
def uptoSmall : (H : Type) → List (DataW H) → Bool := fun _ ds => decide (uptoBulkAll ds ≤ 1048576)
def OpenSpec.upto (s : _root_.Go.ChangeSpec) : _root_.Go.OpenSpec := { _root_.Go.OpenSpec.ofChange s with cond := some uptoSmall }

/-- 'laws.FnExactConstants', WHERE WHAT IT READS IS OF BULK AT MOST 1048576: true; the input reads as it did. -/
def fnExactConstantsUptoRow : OpenClaim := { program := "ytnmondecnanmcaa", sum := "904ddd121dc253a58eba1873116cdd03a6c4ce2d689a0fe5546867b5e5f1c122", func := "loop.example/vectorstore/laws.FnExactConstants", spec := "fnExactConstants", apart := false, narrowed := true }
def FnExactConstantsUptoSaid : Prop := fnExactConstantsUptoRow.holds Try.pinned (OpenSpec.upto fnExactConstantsSpec)

/-- 'laws.FnExactValidVector', WHERE WHAT IT READS IS OF BULK AT MOST 1048576: true; the input reads as it did. -/
def fnExactValidVectorUptoRow : OpenClaim := { program := "ytnmondecnanmcaa", sum := "904ddd121dc253a58eba1873116cdd03a6c4ce2d689a0fe5546867b5e5f1c122", func := "loop.example/vectorstore/laws.FnExactValidVector", spec := "fnExactValidVector", apart := false, narrowed := true }
def FnExactValidVectorUptoSaid : Prop := fnExactValidVectorUptoRow.holds Try.pinned (OpenSpec.upto fnExactValidVectorSpec)

/-- 'laws.FnExactDotOf', WHERE WHAT IT READS IS OF BULK AT MOST 1048576: true; the input reads as it did. -/
def fnExactDotOfUptoRow : OpenClaim := { program := "ytnmondecnanmcaa", sum := "904ddd121dc253a58eba1873116cdd03a6c4ce2d689a0fe5546867b5e5f1c122", func := "loop.example/vectorstore/laws.FnExactDotOf", spec := "fnExactDotOf", apart := false, narrowed := true }
def FnExactDotOfUptoSaid : Prop := fnExactDotOfUptoRow.holds Try.pinned (OpenSpec.upto fnExactDotOfSpec)

/-- 'laws.FnValidVector', WHERE WHAT IT READS IS OF BULK AT MOST 1048576: true; the input reads as it did. -/
def fnValidVectorUptoRow : OpenClaim := { program := "ytnmondecnanmcaa", sum := "904ddd121dc253a58eba1873116cdd03a6c4ce2d689a0fe5546867b5e5f1c122", func := "loop.example/vectorstore/laws.FnValidVector", spec := "fnValidVector", apart := false, narrowed := true }
def FnValidVectorUptoSaid : Prop := fnValidVectorUptoRow.holds Try.pinned (OpenSpec.upto fnValidVectorSpec)

/-- 'laws.FnExactMoveTo', WHERE WHAT IT READS IS OF BULK AT MOST 1048576: true; the input reads as it did. -/
def fnExactMoveToUptoRow : OpenClaim := { program := "ytnmondecnanmcaa", sum := "904ddd121dc253a58eba1873116cdd03a6c4ce2d689a0fe5546867b5e5f1c122", func := "loop.example/vectorstore/laws.FnExactMoveTo", spec := "fnExactMoveTo", apart := false, narrowed := true }
def FnExactMoveToUptoSaid : Prop := fnExactMoveToUptoRow.holds Try.pinned (OpenSpec.upto fnExactMoveToSpec)

/-- 'laws.FnExactDistance', WHERE WHAT IT READS IS OF BULK AT MOST 1048576: true; the input reads as it did. -/
def fnExactDistanceUptoRow : OpenClaim := { program := "ytnmondecnanmcaa", sum := "904ddd121dc253a58eba1873116cdd03a6c4ce2d689a0fe5546867b5e5f1c122", func := "loop.example/vectorstore/laws.FnExactDistance", spec := "fnExactDistance", apart := false, narrowed := true }
def FnExactDistanceUptoSaid : Prop := fnExactDistanceUptoRow.holds Try.pinned (OpenSpec.upto fnExactDistanceSpec)

/-- 'laws.FnDotOfBound', WHERE WHAT IT READS IS OF BULK AT MOST 1048576: true; the input reads as it did. -/
def fnDotOfBoundUptoRow : OpenClaim := { program := "ytnmondecnanmcaa", sum := "904ddd121dc253a58eba1873116cdd03a6c4ce2d689a0fe5546867b5e5f1c122", func := "loop.example/vectorstore/laws.FnDotOfBound", spec := "fnDotOfBound", apart := false, narrowed := true }
def FnDotOfBoundUptoSaid : Prop := fnDotOfBoundUptoRow.holds Try.pinned (OpenSpec.upto fnDotOfBoundSpec)

/-- 'laws.FnDotOfZero', WHERE WHAT IT READS IS OF BULK AT MOST 1048576: true; the input reads as it did. -/
def fnDotOfZeroUptoRow : OpenClaim := { program := "ytnmondecnanmcaa", sum := "904ddd121dc253a58eba1873116cdd03a6c4ce2d689a0fe5546867b5e5f1c122", func := "loop.example/vectorstore/laws.FnDotOfZero", spec := "fnDotOfZero", apart := false, narrowed := true }
def FnDotOfZeroUptoSaid : Prop := fnDotOfZeroUptoRow.holds Try.pinned (OpenSpec.upto fnDotOfZeroSpec)

/-- 'laws.FnMoveTo', WHERE WHAT IT READS IS OF BULK AT MOST 1048576: true; the input reads as it did. -/
def fnMoveToUptoRow : OpenClaim := { program := "ytnmondecnanmcaa", sum := "904ddd121dc253a58eba1873116cdd03a6c4ce2d689a0fe5546867b5e5f1c122", func := "loop.example/vectorstore/laws.FnMoveTo", spec := "fnMoveTo", apart := false, narrowed := true }
def FnMoveToUptoSaid : Prop := fnMoveToUptoRow.holds Try.pinned (OpenSpec.upto fnMoveToSpec)

/-- 'laws.FnMoveToSame', WHERE WHAT IT READS IS OF BULK AT MOST 1048576: true; the input reads as it did. -/
def fnMoveToSameUptoRow : OpenClaim := { program := "ytnmondecnanmcaa", sum := "904ddd121dc253a58eba1873116cdd03a6c4ce2d689a0fe5546867b5e5f1c122", func := "loop.example/vectorstore/laws.FnMoveToSame", spec := "fnMoveToSame", apart := false, narrowed := true }
def FnMoveToSameUptoSaid : Prop := fnMoveToSameUptoRow.holds Try.pinned (OpenSpec.upto fnMoveToSameSpec)

/-- 'laws.FnDotOf', WHERE WHAT IT READS IS OF BULK AT MOST 1048576: true; the input reads as it did. -/
def fnDotOfUptoRow : OpenClaim := { program := "ytnmondecnanmcaa", sum := "904ddd121dc253a58eba1873116cdd03a6c4ce2d689a0fe5546867b5e5f1c122", func := "loop.example/vectorstore/laws.FnDotOf", spec := "fnDotOf", apart := false, narrowed := true }
def FnDotOfUptoSaid : Prop := fnDotOfUptoRow.holds Try.pinned (OpenSpec.upto fnDotOfSpec)

/-- 'laws.FnDistanceKinds', WHERE WHAT IT READS IS OF BULK AT MOST 1048576: true; the input reads as it did. -/
def fnDistanceKindsUptoRow : OpenClaim := { program := "ytnmondecnanmcaa", sum := "904ddd121dc253a58eba1873116cdd03a6c4ce2d689a0fe5546867b5e5f1c122", func := "loop.example/vectorstore/laws.FnDistanceKinds", spec := "fnDistanceKinds", apart := false, narrowed := true }
def FnDistanceKindsUptoSaid : Prop := fnDistanceKindsUptoRow.holds Try.pinned (OpenSpec.upto fnDistanceKindsSpec)

/-- 'laws.FnDistanceOne', WHERE WHAT IT READS IS OF BULK AT MOST 1048576: true; the input reads as it did. -/
def fnDistanceOneUptoRow : OpenClaim := { program := "ytnmondecnanmcaa", sum := "904ddd121dc253a58eba1873116cdd03a6c4ce2d689a0fe5546867b5e5f1c122", func := "loop.example/vectorstore/laws.FnDistanceOne", spec := "fnDistanceOne", apart := false, narrowed := true }
def FnDistanceOneUptoSaid : Prop := fnDistanceOneUptoRow.holds Try.pinned (OpenSpec.upto fnDistanceOneSpec)

/-- 'laws.FnDistanceTriangle', WHERE WHAT IT READS IS OF BULK AT MOST 1048576: true; the input reads as it did. -/
def fnDistanceTriangleUptoRow : OpenClaim := { program := "ytnmondecnanmcaa", sum := "904ddd121dc253a58eba1873116cdd03a6c4ce2d689a0fe5546867b5e5f1c122", func := "loop.example/vectorstore/laws.FnDistanceTriangle", spec := "fnDistanceTriangle", apart := false, narrowed := true }
def FnDistanceTriangleUptoSaid : Prop := fnDistanceTriangleUptoRow.holds Try.pinned (OpenSpec.upto fnDistanceTriangleSpec)

/-- 'laws.FnExactMeanOf', WHERE WHAT IT READS IS OF BULK AT MOST 1048576: true; the input reads as it did. -/
def fnExactMeanOfUptoRow : OpenClaim := { program := "ytnmondecnanmcaa", sum := "904ddd121dc253a58eba1873116cdd03a6c4ce2d689a0fe5546867b5e5f1c122", func := "loop.example/vectorstore/laws.FnExactMeanOf", spec := "fnExactMeanOf", apart := false, narrowed := true }
def FnExactMeanOfUptoSaid : Prop := fnExactMeanOfUptoRow.holds Try.pinned (OpenSpec.upto fnExactMeanOfSpec)

/-- 'laws.FnDistanceShift', WHERE WHAT IT READS IS OF BULK AT MOST 1048576: true; the input reads as it did. -/
def fnDistanceShiftUptoRow : OpenClaim := { program := "ytnmondecnanmcaa", sum := "904ddd121dc253a58eba1873116cdd03a6c4ce2d689a0fe5546867b5e5f1c122", func := "loop.example/vectorstore/laws.FnDistanceShift", spec := "fnDistanceShift", apart := false, narrowed := true }
def FnDistanceShiftUptoSaid : Prop := fnDistanceShiftUptoRow.holds Try.pinned (OpenSpec.upto fnDistanceShiftSpec)

/-- 'laws.FnMeanOfOne', WHERE WHAT IT READS IS OF BULK AT MOST 1048576: true; the input reads as it did. -/
def fnMeanOfOneUptoRow : OpenClaim := { program := "ytnmondecnanmcaa", sum := "904ddd121dc253a58eba1873116cdd03a6c4ce2d689a0fe5546867b5e5f1c122", func := "loop.example/vectorstore/laws.FnMeanOfOne", spec := "fnMeanOfOne", apart := false, narrowed := true }
def FnMeanOfOneUptoSaid : Prop := fnMeanOfOneUptoRow.holds Try.pinned (OpenSpec.upto fnMeanOfOneSpec)

/-- 'laws.FnMeanOfOrder', WHERE WHAT IT READS IS OF BULK AT MOST 1048576: true; the input reads as it did. -/
def fnMeanOfOrderUptoRow : OpenClaim := { program := "ytnmondecnanmcaa", sum := "904ddd121dc253a58eba1873116cdd03a6c4ce2d689a0fe5546867b5e5f1c122", func := "loop.example/vectorstore/laws.FnMeanOfOrder", spec := "fnMeanOfOrder", apart := false, narrowed := true }
def FnMeanOfOrderUptoSaid : Prop := fnMeanOfOrderUptoRow.holds Try.pinned (OpenSpec.upto fnMeanOfOrderSpec)

/-- 'laws.FnMeanOf', WHERE WHAT IT READS IS OF BULK AT MOST 1048576: true; the input reads as it did. -/
def fnMeanOfUptoRow : OpenClaim := { program := "ytnmondecnanmcaa", sum := "904ddd121dc253a58eba1873116cdd03a6c4ce2d689a0fe5546867b5e5f1c122", func := "loop.example/vectorstore/laws.FnMeanOf", spec := "fnMeanOf", apart := false, narrowed := true }
def FnMeanOfUptoSaid : Prop := fnMeanOfUptoRow.holds Try.pinned (OpenSpec.upto fnMeanOfSpec)

/-- 'laws.FnMoveToNearer', WHERE WHAT IT READS IS OF BULK AT MOST 1048576: true; the input reads as it did. -/
def fnMoveToNearerUptoRow : OpenClaim := { program := "ytnmondecnanmcaa", sum := "904ddd121dc253a58eba1873116cdd03a6c4ce2d689a0fe5546867b5e5f1c122", func := "loop.example/vectorstore/laws.FnMoveToNearer", spec := "fnMoveToNearer", apart := false, narrowed := true }
def FnMoveToNearerUptoSaid : Prop := fnMoveToNearerUptoRow.holds Try.pinned (OpenSpec.upto fnMoveToNearerSpec)

/-- 'laws.FnDistance', WHERE WHAT IT READS IS OF BULK AT MOST 1048576: true; the input reads as it did. -/
def fnDistanceUptoRow : OpenClaim := { program := "ytnmondecnanmcaa", sum := "904ddd121dc253a58eba1873116cdd03a6c4ce2d689a0fe5546867b5e5f1c122", func := "loop.example/vectorstore/laws.FnDistance", spec := "fnDistance", apart := false, narrowed := true }
def FnDistanceUptoSaid : Prop := fnDistanceUptoRow.holds Try.pinned (OpenSpec.upto fnDistanceSpec)

end Rows
end Go.Proofs.Ytnmondecnanmcaa

/-
  No cell of these rows narrows 'for every input' (looked for: loops, veiled, ifaces, maps, wideKeys, modest, calm, conditions, laid).
  DERIVED. THE GIVEN ROWS OF THIS SEAT. 25 by the template 'for every input the law returns true; each argument reads behind the call as it read before'; 0 by the template 'total and deterministic' (their statements: YtaocmgafglalnaaTotals.lean).
  GIVEN WITH THE SEED: the statements are not yours to turn. If you find one false, say at which input.
  Laid BY PROGRAM, IN A SANDBOX (cutbox-rows.mjs): the forced cells as the released guide's own fill.sh prints them over the translation 9062a5fa889eca38… (all of the seat's roots in one cut). By AI agents, Wed Nov 11 2026. No macro, syntax, notation, axiom, sorry.
-/
import Derived.Test.YtaocmgafglalnaaChecked
import GoSem.Claim
import GoSem.ClaimJoined
import GoSem.ClaimMapViews
import Derived.JoinedTies
import Derived.KernelRfl
namespace Go.Proofs.Ytaocmgafglalnaa
/- THE CELL 'sum', in the pinned program and in every row, IS THE sha256 OF THE DUMP (.gsa) THAT YtaocmgafglalnaaProg.lean LOADS. Nothing in Lean hashes anything: it is a label: what it is worth is what the hold of that sum in a sandbox is worth. -/
noncomputable def Try.pinned : Pinned := { name := "ytaocmgafglalnaa", sum := "9062a5fa889eca38474cadc1f8a6c30470e681c31019bdefb1d51c5503bec032", checked := Try.checked }
namespace Rows
def none {H : Type} : Left H := { results := [], args := [] }

/-- 'laws.FnExactMeanOf': WHATEVER THE INPUT: true; the input reads as it did. -/
def fnExactMeanOfSpec : ChangeSpec := { name := "fnExactMeanOf", fn := fun _ => fun
  | [d] => { results := [.lit (.bool true)], args := [d] }
  | _ => none }
def fnExactMeanOfRow : OpenClaim := { program := "ytaocmgafglalnaa", sum := "9062a5fa889eca38474cadc1f8a6c30470e681c31019bdefb1d51c5503bec032", func := "loop.example/vectorstore/laws.FnExactMeanOf", spec := "fnExactMeanOf", apart := false }
def FnExactMeanOfSaid : Prop := fnExactMeanOfRow.holds Try.pinned (OpenSpec.ofChange fnExactMeanOfSpec)

/-- ITS FALSE NEIGHBOUR: 'it returns false'. Refute it at one input. -/
def fnExactMeanOfWrong : ChangeSpec := { name := "fnExactMeanOf", fn := fun _ => fun
  | [d] => { results := [.lit (.bool false)], args := [d] }
  | _ => none }
def FnExactMeanOfWrongFalsely : Prop := fnExactMeanOfRow.holds Try.pinned (OpenSpec.ofChange fnExactMeanOfWrong)

/-- 'laws.FnMeanOfOne': WHATEVER THE INPUT: true; the input reads as it did. -/
def fnMeanOfOneSpec : ChangeSpec := { name := "fnMeanOfOne", fn := fun _ => fun
  | [d] => { results := [.lit (.bool true)], args := [d] }
  | _ => none }
def fnMeanOfOneRow : OpenClaim := { program := "ytaocmgafglalnaa", sum := "9062a5fa889eca38474cadc1f8a6c30470e681c31019bdefb1d51c5503bec032", func := "loop.example/vectorstore/laws.FnMeanOfOne", spec := "fnMeanOfOne", apart := false }
def FnMeanOfOneSaid : Prop := fnMeanOfOneRow.holds Try.pinned (OpenSpec.ofChange fnMeanOfOneSpec)

/-- ITS FALSE NEIGHBOUR: 'it returns false'. Refute it at one input. -/
def fnMeanOfOneWrong : ChangeSpec := { name := "fnMeanOfOne", fn := fun _ => fun
  | [d] => { results := [.lit (.bool false)], args := [d] }
  | _ => none }
def FnMeanOfOneWrongFalsely : Prop := fnMeanOfOneRow.holds Try.pinned (OpenSpec.ofChange fnMeanOfOneWrong)

/-- 'laws.FnMeanOfOrder': WHATEVER THE INPUT: true; the input reads as it did. -/
def fnMeanOfOrderSpec : ChangeSpec := { name := "fnMeanOfOrder", fn := fun _ => fun
  | [d] => { results := [.lit (.bool true)], args := [d] }
  | _ => none }
def fnMeanOfOrderRow : OpenClaim := { program := "ytaocmgafglalnaa", sum := "9062a5fa889eca38474cadc1f8a6c30470e681c31019bdefb1d51c5503bec032", func := "loop.example/vectorstore/laws.FnMeanOfOrder", spec := "fnMeanOfOrder", apart := false }
def FnMeanOfOrderSaid : Prop := fnMeanOfOrderRow.holds Try.pinned (OpenSpec.ofChange fnMeanOfOrderSpec)

/-- ITS FALSE NEIGHBOUR: 'it returns false'. Refute it at one input. -/
def fnMeanOfOrderWrong : ChangeSpec := { name := "fnMeanOfOrder", fn := fun _ => fun
  | [d] => { results := [.lit (.bool false)], args := [d] }
  | _ => none }
def FnMeanOfOrderWrongFalsely : Prop := fnMeanOfOrderRow.holds Try.pinned (OpenSpec.ofChange fnMeanOfOrderWrong)

/-- 'laws.FnMeanOf': WHATEVER THE INPUT: true; the input reads as it did. -/
def fnMeanOfSpec : ChangeSpec := { name := "fnMeanOf", fn := fun _ => fun
  | [d] => { results := [.lit (.bool true)], args := [d] }
  | _ => none }
def fnMeanOfRow : OpenClaim := { program := "ytaocmgafglalnaa", sum := "9062a5fa889eca38474cadc1f8a6c30470e681c31019bdefb1d51c5503bec032", func := "loop.example/vectorstore/laws.FnMeanOf", spec := "fnMeanOf", apart := false }
def FnMeanOfSaid : Prop := fnMeanOfRow.holds Try.pinned (OpenSpec.ofChange fnMeanOfSpec)

/-- ITS FALSE NEIGHBOUR: 'it returns false'. Refute it at one input. -/
def fnMeanOfWrong : ChangeSpec := { name := "fnMeanOf", fn := fun _ => fun
  | [d] => { results := [.lit (.bool false)], args := [d] }
  | _ => none }
def FnMeanOfWrongFalsely : Prop := fnMeanOfRow.holds Try.pinned (OpenSpec.ofChange fnMeanOfWrong)

/-- 'laws.FnExactValidStore': WHATEVER THE INPUT: true; the input reads as it did. -/
def fnExactValidStoreSpec : ChangeSpec := { name := "fnExactValidStore", fn := fun _ => fun
  | [d] => { results := [.lit (.bool true)], args := [d] }
  | _ => none }
def fnExactValidStoreRow : OpenClaim := { program := "ytaocmgafglalnaa", sum := "9062a5fa889eca38474cadc1f8a6c30470e681c31019bdefb1d51c5503bec032", func := "loop.example/vectorstore/laws.FnExactValidStore", spec := "fnExactValidStore", apart := false }
def FnExactValidStoreSaid : Prop := fnExactValidStoreRow.holds Try.pinned (OpenSpec.ofChange fnExactValidStoreSpec)

/-- ITS FALSE NEIGHBOUR: 'it returns false'. Refute it at one input. -/
def fnExactValidStoreWrong : ChangeSpec := { name := "fnExactValidStore", fn := fun _ => fun
  | [d] => { results := [.lit (.bool false)], args := [d] }
  | _ => none }
def FnExactValidStoreWrongFalsely : Prop := fnExactValidStoreRow.holds Try.pinned (OpenSpec.ofChange fnExactValidStoreWrong)

/-- 'laws.FnValidStore': WHATEVER THE INPUT: true; the input reads as it did. -/
def fnValidStoreSpec : ChangeSpec := { name := "fnValidStore", fn := fun _ => fun
  | [d] => { results := [.lit (.bool true)], args := [d] }
  | _ => none }
def fnValidStoreRow : OpenClaim := { program := "ytaocmgafglalnaa", sum := "9062a5fa889eca38474cadc1f8a6c30470e681c31019bdefb1d51c5503bec032", func := "loop.example/vectorstore/laws.FnValidStore", spec := "fnValidStore", apart := false }
def FnValidStoreSaid : Prop := fnValidStoreRow.holds Try.pinned (OpenSpec.ofChange fnValidStoreSpec)

/-- ITS FALSE NEIGHBOUR: 'it returns false'. Refute it at one input. -/
def fnValidStoreWrong : ChangeSpec := { name := "fnValidStore", fn := fun _ => fun
  | [d] => { results := [.lit (.bool false)], args := [d] }
  | _ => none }
def FnValidStoreWrongFalsely : Prop := fnValidStoreRow.holds Try.pinned (OpenSpec.ofChange fnValidStoreWrong)

/-- 'laws.FnExactBoundsOf': WHATEVER THE INPUT: true; the input reads as it did. -/
def fnExactBoundsOfSpec : ChangeSpec := { name := "fnExactBoundsOf", fn := fun _ => fun
  | [d] => { results := [.lit (.bool true)], args := [d] }
  | _ => none }
def fnExactBoundsOfRow : OpenClaim := { program := "ytaocmgafglalnaa", sum := "9062a5fa889eca38474cadc1f8a6c30470e681c31019bdefb1d51c5503bec032", func := "loop.example/vectorstore/laws.FnExactBoundsOf", spec := "fnExactBoundsOf", apart := false }
def FnExactBoundsOfSaid : Prop := fnExactBoundsOfRow.holds Try.pinned (OpenSpec.ofChange fnExactBoundsOfSpec)

/-- ITS FALSE NEIGHBOUR: 'it returns false'. Refute it at one input. -/
def fnExactBoundsOfWrong : ChangeSpec := { name := "fnExactBoundsOf", fn := fun _ => fun
  | [d] => { results := [.lit (.bool false)], args := [d] }
  | _ => none }
def FnExactBoundsOfWrongFalsely : Prop := fnExactBoundsOfRow.holds Try.pinned (OpenSpec.ofChange fnExactBoundsOfWrong)

/-- 'laws.FnExactInBox': WHATEVER THE INPUT: true; the input reads as it did. -/
def fnExactInBoxSpec : ChangeSpec := { name := "fnExactInBox", fn := fun _ => fun
  | [d1, d2, d3] => { results := [.lit (.bool true)], args := [d1, d2, d3] }
  | _ => none }
def fnExactInBoxRow : OpenClaim := { program := "ytaocmgafglalnaa", sum := "9062a5fa889eca38474cadc1f8a6c30470e681c31019bdefb1d51c5503bec032", func := "loop.example/vectorstore/laws.FnExactInBox", spec := "fnExactInBox", apart := false }
def FnExactInBoxSaid : Prop := fnExactInBoxRow.holds Try.pinned (OpenSpec.ofChange fnExactInBoxSpec)

/-- ITS FALSE NEIGHBOUR: 'it returns false'. Refute it at one input. -/
def fnExactInBoxWrong : ChangeSpec := { name := "fnExactInBox", fn := fun _ => fun
  | [d1, d2, d3] => { results := [.lit (.bool false)], args := [d1, d2, d3] }
  | _ => none }
def FnExactInBoxWrongFalsely : Prop := fnExactInBoxRow.holds Try.pinned (OpenSpec.ofChange fnExactInBoxWrong)

/-- 'laws.FnExactClosestPair': WHATEVER THE INPUT: true; the input reads as it did. -/
def fnExactClosestPairSpec : ChangeSpec := { name := "fnExactClosestPair", fn := fun _ => fun
  | [d1, d2] => { results := [.lit (.bool true)], args := [d1, d2] }
  | _ => none }
def fnExactClosestPairRow : OpenClaim := { program := "ytaocmgafglalnaa", sum := "9062a5fa889eca38474cadc1f8a6c30470e681c31019bdefb1d51c5503bec032", func := "loop.example/vectorstore/laws.FnExactClosestPair", spec := "fnExactClosestPair", apart := false }
def FnExactClosestPairSaid : Prop := fnExactClosestPairRow.holds Try.pinned (OpenSpec.ofChange fnExactClosestPairSpec)

/-- ITS FALSE NEIGHBOUR: 'it returns false'. Refute it at one input. -/
def fnExactClosestPairWrong : ChangeSpec := { name := "fnExactClosestPair", fn := fun _ => fun
  | [d1, d2] => { results := [.lit (.bool false)], args := [d1, d2] }
  | _ => none }
def FnExactClosestPairWrongFalsely : Prop := fnExactClosestPairRow.holds Try.pinned (OpenSpec.ofChange fnExactClosestPairWrong)

/-- 'laws.FnBoundsOfTight': WHATEVER THE INPUT: true; the input reads as it did. -/
def fnBoundsOfTightSpec : ChangeSpec := { name := "fnBoundsOfTight", fn := fun _ => fun
  | [d] => { results := [.lit (.bool true)], args := [d] }
  | _ => none }
def fnBoundsOfTightRow : OpenClaim := { program := "ytaocmgafglalnaa", sum := "9062a5fa889eca38474cadc1f8a6c30470e681c31019bdefb1d51c5503bec032", func := "loop.example/vectorstore/laws.FnBoundsOfTight", spec := "fnBoundsOfTight", apart := false }
def FnBoundsOfTightSaid : Prop := fnBoundsOfTightRow.holds Try.pinned (OpenSpec.ofChange fnBoundsOfTightSpec)

/-- ITS FALSE NEIGHBOUR: 'it returns false'. Refute it at one input. -/
def fnBoundsOfTightWrong : ChangeSpec := { name := "fnBoundsOfTight", fn := fun _ => fun
  | [d] => { results := [.lit (.bool false)], args := [d] }
  | _ => none }
def FnBoundsOfTightWrongFalsely : Prop := fnBoundsOfTightRow.holds Try.pinned (OpenSpec.ofChange fnBoundsOfTightWrong)

/-- 'laws.FnExactGetItem': WHATEVER THE INPUT: true; the input reads as it did. -/
def fnExactGetItemSpec : ChangeSpec := { name := "fnExactGetItem", fn := fun _ => fun
  | [d1, d2] => { results := [.lit (.bool true)], args := [d1, d2] }
  | _ => none }
def fnExactGetItemRow : OpenClaim := { program := "ytaocmgafglalnaa", sum := "9062a5fa889eca38474cadc1f8a6c30470e681c31019bdefb1d51c5503bec032", func := "loop.example/vectorstore/laws.FnExactGetItem", spec := "fnExactGetItem", unfollowed := true, recurses := true, apart := false }
def FnExactGetItemSaid : Prop := fnExactGetItemRow.holds Try.pinned (OpenSpec.ofChange fnExactGetItemSpec)

/-- ITS FALSE NEIGHBOUR: 'it returns false'. Refute it at one input. -/
def fnExactGetItemWrong : ChangeSpec := { name := "fnExactGetItem", fn := fun _ => fun
  | [d1, d2] => { results := [.lit (.bool false)], args := [d1, d2] }
  | _ => none }
def FnExactGetItemWrongFalsely : Prop := fnExactGetItemRow.holds Try.pinned (OpenSpec.ofChange fnExactGetItemWrong)

/-- 'laws.FnPutItemOrder': WHATEVER THE INPUT: true; the input reads as it did. -/
def fnPutItemOrderSpec : ChangeSpec := { name := "fnPutItemOrder", fn := fun _ => fun
  | [d] => { results := [.lit (.bool true)], args := [d] }
  | _ => none }
def fnPutItemOrderRow : OpenClaim := { program := "ytaocmgafglalnaa", sum := "9062a5fa889eca38474cadc1f8a6c30470e681c31019bdefb1d51c5503bec032", func := "loop.example/vectorstore/laws.FnPutItemOrder", spec := "fnPutItemOrder", apart := false }
def FnPutItemOrderSaid : Prop := fnPutItemOrderRow.holds Try.pinned (OpenSpec.ofChange fnPutItemOrderSpec)

/-- ITS FALSE NEIGHBOUR: 'it returns false'. Refute it at one input. -/
def fnPutItemOrderWrong : ChangeSpec := { name := "fnPutItemOrder", fn := fun _ => fun
  | [d] => { results := [.lit (.bool false)], args := [d] }
  | _ => none }
def FnPutItemOrderWrongFalsely : Prop := fnPutItemOrderRow.holds Try.pinned (OpenSpec.ofChange fnPutItemOrderWrong)

/-- 'laws.FnPutItemTwice': WHATEVER THE INPUT: true; the input reads as it did. -/
def fnPutItemTwiceSpec : ChangeSpec := { name := "fnPutItemTwice", fn := fun _ => fun
  | [d] => { results := [.lit (.bool true)], args := [d] }
  | _ => none }
def fnPutItemTwiceRow : OpenClaim := { program := "ytaocmgafglalnaa", sum := "9062a5fa889eca38474cadc1f8a6c30470e681c31019bdefb1d51c5503bec032", func := "loop.example/vectorstore/laws.FnPutItemTwice", spec := "fnPutItemTwice", apart := false }
def FnPutItemTwiceSaid : Prop := fnPutItemTwiceRow.holds Try.pinned (OpenSpec.ofChange fnPutItemTwiceSpec)

/-- ITS FALSE NEIGHBOUR: 'it returns false'. Refute it at one input. -/
def fnPutItemTwiceWrong : ChangeSpec := { name := "fnPutItemTwice", fn := fun _ => fun
  | [d] => { results := [.lit (.bool false)], args := [d] }
  | _ => none }
def FnPutItemTwiceWrongFalsely : Prop := fnPutItemTwiceRow.holds Try.pinned (OpenSpec.ofChange fnPutItemTwiceWrong)

/-- 'laws.FnExactDropItem': WHATEVER THE INPUT: true; the input reads as it did. -/
def fnExactDropItemSpec : ChangeSpec := { name := "fnExactDropItem", fn := fun _ => fun
  | [d1, d2] => { results := [.lit (.bool true)], args := [d1, d2] }
  | _ => none }
def fnExactDropItemRow : OpenClaim := { program := "ytaocmgafglalnaa", sum := "9062a5fa889eca38474cadc1f8a6c30470e681c31019bdefb1d51c5503bec032", func := "loop.example/vectorstore/laws.FnExactDropItem", spec := "fnExactDropItem", unfollowed := true, recurses := true, apart := false }
def FnExactDropItemSaid : Prop := fnExactDropItemRow.holds Try.pinned (OpenSpec.ofChange fnExactDropItemSpec)

/-- ITS FALSE NEIGHBOUR: 'it returns false'. Refute it at one input. -/
def fnExactDropItemWrong : ChangeSpec := { name := "fnExactDropItem", fn := fun _ => fun
  | [d1, d2] => { results := [.lit (.bool false)], args := [d1, d2] }
  | _ => none }
def FnExactDropItemWrongFalsely : Prop := fnExactDropItemRow.holds Try.pinned (OpenSpec.ofChange fnExactDropItemWrong)

/-- 'laws.FnBoundsOf': WHATEVER THE INPUT: true; the input reads as it did. -/
def fnBoundsOfSpec : ChangeSpec := { name := "fnBoundsOf", fn := fun _ => fun
  | [d] => { results := [.lit (.bool true)], args := [d] }
  | _ => none }
def fnBoundsOfRow : OpenClaim := { program := "ytaocmgafglalnaa", sum := "9062a5fa889eca38474cadc1f8a6c30470e681c31019bdefb1d51c5503bec032", func := "loop.example/vectorstore/laws.FnBoundsOf", spec := "fnBoundsOf", apart := false }
def FnBoundsOfSaid : Prop := fnBoundsOfRow.holds Try.pinned (OpenSpec.ofChange fnBoundsOfSpec)

/-- ITS FALSE NEIGHBOUR: 'it returns false'. Refute it at one input. -/
def fnBoundsOfWrong : ChangeSpec := { name := "fnBoundsOf", fn := fun _ => fun
  | [d] => { results := [.lit (.bool false)], args := [d] }
  | _ => none }
def FnBoundsOfWrongFalsely : Prop := fnBoundsOfRow.holds Try.pinned (OpenSpec.ofChange fnBoundsOfWrong)

/-- 'laws.FnExactPutItem': WHATEVER THE INPUT: true; the input reads as it did. -/
def fnExactPutItemSpec : ChangeSpec := { name := "fnExactPutItem", fn := fun _ => fun
  | [d1, d2] => { results := [.lit (.bool true)], args := [d1, d2] }
  | _ => none }
def fnExactPutItemRow : OpenClaim := { program := "ytaocmgafglalnaa", sum := "9062a5fa889eca38474cadc1f8a6c30470e681c31019bdefb1d51c5503bec032", func := "loop.example/vectorstore/laws.FnExactPutItem", spec := "fnExactPutItem", apart := false }
def FnExactPutItemSaid : Prop := fnExactPutItemRow.holds Try.pinned (OpenSpec.ofChange fnExactPutItemSpec)

/-- ITS FALSE NEIGHBOUR: 'it returns false'. Refute it at one input. -/
def fnExactPutItemWrong : ChangeSpec := { name := "fnExactPutItem", fn := fun _ => fun
  | [d1, d2] => { results := [.lit (.bool false)], args := [d1, d2] }
  | _ => none }
def FnExactPutItemWrongFalsely : Prop := fnExactPutItemRow.holds Try.pinned (OpenSpec.ofChange fnExactPutItemWrong)

/-- 'laws.FnInBox': WHATEVER THE INPUT: true; the input reads as it did. -/
def fnInBoxSpec : ChangeSpec := { name := "fnInBox", fn := fun _ => fun
  | [d] => { results := [.lit (.bool true)], args := [d] }
  | _ => none }
def fnInBoxRow : OpenClaim := { program := "ytaocmgafglalnaa", sum := "9062a5fa889eca38474cadc1f8a6c30470e681c31019bdefb1d51c5503bec032", func := "loop.example/vectorstore/laws.FnInBox", spec := "fnInBox", apart := false }
def FnInBoxSaid : Prop := fnInBoxRow.holds Try.pinned (OpenSpec.ofChange fnInBoxSpec)

/-- ITS FALSE NEIGHBOUR: 'it returns false'. Refute it at one input. -/
def fnInBoxWrong : ChangeSpec := { name := "fnInBox", fn := fun _ => fun
  | [d] => { results := [.lit (.bool false)], args := [d] }
  | _ => none }
def FnInBoxWrongFalsely : Prop := fnInBoxRow.holds Try.pinned (OpenSpec.ofChange fnInBoxWrong)

/-- 'laws.FnBoundsOfPut': WHATEVER THE INPUT: true; the input reads as it did. -/
def fnBoundsOfPutSpec : ChangeSpec := { name := "fnBoundsOfPut", fn := fun _ => fun
  | [d] => { results := [.lit (.bool true)], args := [d] }
  | _ => none }
def fnBoundsOfPutRow : OpenClaim := { program := "ytaocmgafglalnaa", sum := "9062a5fa889eca38474cadc1f8a6c30470e681c31019bdefb1d51c5503bec032", func := "loop.example/vectorstore/laws.FnBoundsOfPut", spec := "fnBoundsOfPut", apart := false }
def FnBoundsOfPutSaid : Prop := fnBoundsOfPutRow.holds Try.pinned (OpenSpec.ofChange fnBoundsOfPutSpec)

/-- ITS FALSE NEIGHBOUR: 'it returns false'. Refute it at one input. -/
def fnBoundsOfPutWrong : ChangeSpec := { name := "fnBoundsOfPut", fn := fun _ => fun
  | [d] => { results := [.lit (.bool false)], args := [d] }
  | _ => none }
def FnBoundsOfPutWrongFalsely : Prop := fnBoundsOfPutRow.holds Try.pinned (OpenSpec.ofChange fnBoundsOfPutWrong)

/-- 'laws.FnGetItem': WHATEVER THE INPUT: true; the input reads as it did. -/
def fnGetItemSpec : ChangeSpec := { name := "fnGetItem", fn := fun _ => fun
  | [d] => { results := [.lit (.bool true)], args := [d] }
  | _ => none }
def fnGetItemRow : OpenClaim := { program := "ytaocmgafglalnaa", sum := "9062a5fa889eca38474cadc1f8a6c30470e681c31019bdefb1d51c5503bec032", func := "loop.example/vectorstore/laws.FnGetItem", spec := "fnGetItem", unfollowed := true, recurses := true, apart := false }
def FnGetItemSaid : Prop := fnGetItemRow.holds Try.pinned (OpenSpec.ofChange fnGetItemSpec)

/-- ITS FALSE NEIGHBOUR: 'it returns false'. Refute it at one input. -/
def fnGetItemWrong : ChangeSpec := { name := "fnGetItem", fn := fun _ => fun
  | [d] => { results := [.lit (.bool false)], args := [d] }
  | _ => none }
def FnGetItemWrongFalsely : Prop := fnGetItemRow.holds Try.pinned (OpenSpec.ofChange fnGetItemWrong)

/-- 'laws.FnPutItem': WHATEVER THE INPUT: true; the input reads as it did. -/
def fnPutItemSpec : ChangeSpec := { name := "fnPutItem", fn := fun _ => fun
  | [d] => { results := [.lit (.bool true)], args := [d] }
  | _ => none }
def fnPutItemRow : OpenClaim := { program := "ytaocmgafglalnaa", sum := "9062a5fa889eca38474cadc1f8a6c30470e681c31019bdefb1d51c5503bec032", func := "loop.example/vectorstore/laws.FnPutItem", spec := "fnPutItem", unfollowed := true, recurses := true, apart := false }
def FnPutItemSaid : Prop := fnPutItemRow.holds Try.pinned (OpenSpec.ofChange fnPutItemSpec)

/-- ITS FALSE NEIGHBOUR: 'it returns false'. Refute it at one input. -/
def fnPutItemWrong : ChangeSpec := { name := "fnPutItem", fn := fun _ => fun
  | [d] => { results := [.lit (.bool false)], args := [d] }
  | _ => none }
def FnPutItemWrongFalsely : Prop := fnPutItemRow.holds Try.pinned (OpenSpec.ofChange fnPutItemWrong)

/-- 'laws.FnPutItemOthers': WHATEVER THE INPUT: true; the input reads as it did. -/
def fnPutItemOthersSpec : ChangeSpec := { name := "fnPutItemOthers", fn := fun _ => fun
  | [d] => { results := [.lit (.bool true)], args := [d] }
  | _ => none }
def fnPutItemOthersRow : OpenClaim := { program := "ytaocmgafglalnaa", sum := "9062a5fa889eca38474cadc1f8a6c30470e681c31019bdefb1d51c5503bec032", func := "loop.example/vectorstore/laws.FnPutItemOthers", spec := "fnPutItemOthers", unfollowed := true, recurses := true, apart := false }
def FnPutItemOthersSaid : Prop := fnPutItemOthersRow.holds Try.pinned (OpenSpec.ofChange fnPutItemOthersSpec)

/-- ITS FALSE NEIGHBOUR: 'it returns false'. Refute it at one input. -/
def fnPutItemOthersWrong : ChangeSpec := { name := "fnPutItemOthers", fn := fun _ => fun
  | [d] => { results := [.lit (.bool false)], args := [d] }
  | _ => none }
def FnPutItemOthersWrongFalsely : Prop := fnPutItemOthersRow.holds Try.pinned (OpenSpec.ofChange fnPutItemOthersWrong)

/-- 'laws.FnDropItemOrder': WHATEVER THE INPUT: true; the input reads as it did. -/
def fnDropItemOrderSpec : ChangeSpec := { name := "fnDropItemOrder", fn := fun _ => fun
  | [d] => { results := [.lit (.bool true)], args := [d] }
  | _ => none }
def fnDropItemOrderRow : OpenClaim := { program := "ytaocmgafglalnaa", sum := "9062a5fa889eca38474cadc1f8a6c30470e681c31019bdefb1d51c5503bec032", func := "loop.example/vectorstore/laws.FnDropItemOrder", spec := "fnDropItemOrder", unfollowed := true, recurses := true, apart := false }
def FnDropItemOrderSaid : Prop := fnDropItemOrderRow.holds Try.pinned (OpenSpec.ofChange fnDropItemOrderSpec)

/-- ITS FALSE NEIGHBOUR: 'it returns false'. Refute it at one input. -/
def fnDropItemOrderWrong : ChangeSpec := { name := "fnDropItemOrder", fn := fun _ => fun
  | [d] => { results := [.lit (.bool false)], args := [d] }
  | _ => none }
def FnDropItemOrderWrongFalsely : Prop := fnDropItemOrderRow.holds Try.pinned (OpenSpec.ofChange fnDropItemOrderWrong)

/-- 'laws.FnClosestPair': WHATEVER THE INPUT: true; the input reads as it did. -/
def fnClosestPairSpec : ChangeSpec := { name := "fnClosestPair", fn := fun _ => fun
  | [d] => { results := [.lit (.bool true)], args := [d] }
  | _ => none }
def fnClosestPairRow : OpenClaim := { program := "ytaocmgafglalnaa", sum := "9062a5fa889eca38474cadc1f8a6c30470e681c31019bdefb1d51c5503bec032", func := "loop.example/vectorstore/laws.FnClosestPair", spec := "fnClosestPair", apart := false }
def FnClosestPairSaid : Prop := fnClosestPairRow.holds Try.pinned (OpenSpec.ofChange fnClosestPairSpec)

/-- ITS FALSE NEIGHBOUR: 'it returns false'. Refute it at one input. -/
def fnClosestPairWrong : ChangeSpec := { name := "fnClosestPair", fn := fun _ => fun
  | [d] => { results := [.lit (.bool false)], args := [d] }
  | _ => none }
def FnClosestPairWrongFalsely : Prop := fnClosestPairRow.holds Try.pinned (OpenSpec.ofChange fnClosestPairWrong)

/-- 'laws.FnDropItem': WHATEVER THE INPUT: true; the input reads as it did. -/
def fnDropItemSpec : ChangeSpec := { name := "fnDropItem", fn := fun _ => fun
  | [d] => { results := [.lit (.bool true)], args := [d] }
  | _ => none }
def fnDropItemRow : OpenClaim := { program := "ytaocmgafglalnaa", sum := "9062a5fa889eca38474cadc1f8a6c30470e681c31019bdefb1d51c5503bec032", func := "loop.example/vectorstore/laws.FnDropItem", spec := "fnDropItem", unfollowed := true, recurses := true, apart := false }
def FnDropItemSaid : Prop := fnDropItemRow.holds Try.pinned (OpenSpec.ofChange fnDropItemSpec)

/-- ITS FALSE NEIGHBOUR: 'it returns false'. Refute it at one input. -/
def fnDropItemWrong : ChangeSpec := { name := "fnDropItem", fn := fun _ => fun
  | [d] => { results := [.lit (.bool false)], args := [d] }
  | _ => none }
def FnDropItemWrongFalsely : Prop := fnDropItemRow.holds Try.pinned (OpenSpec.ofChange fnDropItemWrong)

/-- 'laws.FnClosestPairDrop': WHATEVER THE INPUT: true; the input reads as it did. -/
def fnClosestPairDropSpec : ChangeSpec := { name := "fnClosestPairDrop", fn := fun _ => fun
  | [d] => { results := [.lit (.bool true)], args := [d] }
  | _ => none }
def fnClosestPairDropRow : OpenClaim := { program := "ytaocmgafglalnaa", sum := "9062a5fa889eca38474cadc1f8a6c30470e681c31019bdefb1d51c5503bec032", func := "loop.example/vectorstore/laws.FnClosestPairDrop", spec := "fnClosestPairDrop", unfollowed := true, recurses := true, apart := false }
def FnClosestPairDropSaid : Prop := fnClosestPairDropRow.holds Try.pinned (OpenSpec.ofChange fnClosestPairDropSpec)

/-- ITS FALSE NEIGHBOUR: 'it returns false'. Refute it at one input. -/
def fnClosestPairDropWrong : ChangeSpec := { name := "fnClosestPairDrop", fn := fun _ => fun
  | [d] => { results := [.lit (.bool false)], args := [d] }
  | _ => none }
def FnClosestPairDropWrongFalsely : Prop := fnClosestPairDropRow.holds Try.pinned (OpenSpec.ofChange fnClosestPairDropWrong)

/- THE SECOND FORM. 'bulk': how many values and letters a reading holds, each counted each time it is reached (what is shared counts as often as it is met; a slice's spare places count too). A statement '..UptoSaid' is the law's where the arguments, and the package variables that the reading takes, are together of bulk at most 1048576: NARROWER than '..Said'. Prove '..Said' where nothing that the law and all that it calls make is longer than what came in: it says more and counts as full. Else prove '..UptoSaid'. A law counts once. -/
mutual
def uptoBulk {H : Type} : DataW H → Nat
  | .lit (.string bytes) => bytes.length + 1
  | .lit _ => 1
  | .nil => 1
  | .ptr d => uptoBulk d + 1
  | .slice elems spare => uptoBulkAll elems + uptoBulkAll spare + 1
  | .agg parts => uptoBulkAll parts + 1
  | .iface _ d => uptoBulk d + 1
  | .map entries => uptoBulkEntries entries + 1
  | .held _ => 1
def uptoBulkAll {H : Type} : List (DataW H) → Nat
  | [] => 0
  | d :: r => uptoBulk d + uptoBulkAll r
def uptoBulkEntries {H : Type} : List (Lit × DataW H) → Nat
  | [] => 0
  | x :: r => uptoBulkEntry x + uptoBulkEntries r
def uptoBulkEntry {H : Type} : Lit × DataW H → Nat
  | (.string bytes, d) => bytes.length + uptoBulk d + 1
  | (_, d) => uptoBulk d + 1
 end
def uptoSmall : (H : Type) → List (DataW H) → Bool := fun _ ds => decide (uptoBulkAll ds ≤ 1048576)
def OpenSpec.upto (s : _root_.Go.ChangeSpec) : _root_.Go.OpenSpec := { _root_.Go.OpenSpec.ofChange s with cond := some uptoSmall }

/-- 'laws.FnExactMeanOf', WHERE WHAT IT READS IS OF BULK AT MOST 1048576: true; the input reads as it did. -/
def fnExactMeanOfUptoRow : OpenClaim := { program := "ytaocmgafglalnaa", sum := "9062a5fa889eca38474cadc1f8a6c30470e681c31019bdefb1d51c5503bec032", func := "loop.example/vectorstore/laws.FnExactMeanOf", spec := "fnExactMeanOf", apart := false, narrowed := true }
def FnExactMeanOfUptoSaid : Prop := fnExactMeanOfUptoRow.holds Try.pinned (OpenSpec.upto fnExactMeanOfSpec)

/-- 'laws.FnMeanOfOne', WHERE WHAT IT READS IS OF BULK AT MOST 1048576: true; the input reads as it did. -/
def fnMeanOfOneUptoRow : OpenClaim := { program := "ytaocmgafglalnaa", sum := "9062a5fa889eca38474cadc1f8a6c30470e681c31019bdefb1d51c5503bec032", func := "loop.example/vectorstore/laws.FnMeanOfOne", spec := "fnMeanOfOne", apart := false, narrowed := true }
def FnMeanOfOneUptoSaid : Prop := fnMeanOfOneUptoRow.holds Try.pinned (OpenSpec.upto fnMeanOfOneSpec)

/-- 'laws.FnMeanOfOrder', WHERE WHAT IT READS IS OF BULK AT MOST 1048576: true; the input reads as it did. -/
def fnMeanOfOrderUptoRow : OpenClaim := { program := "ytaocmgafglalnaa", sum := "9062a5fa889eca38474cadc1f8a6c30470e681c31019bdefb1d51c5503bec032", func := "loop.example/vectorstore/laws.FnMeanOfOrder", spec := "fnMeanOfOrder", apart := false, narrowed := true }
def FnMeanOfOrderUptoSaid : Prop := fnMeanOfOrderUptoRow.holds Try.pinned (OpenSpec.upto fnMeanOfOrderSpec)

/-- 'laws.FnMeanOf', WHERE WHAT IT READS IS OF BULK AT MOST 1048576: true; the input reads as it did. -/
def fnMeanOfUptoRow : OpenClaim := { program := "ytaocmgafglalnaa", sum := "9062a5fa889eca38474cadc1f8a6c30470e681c31019bdefb1d51c5503bec032", func := "loop.example/vectorstore/laws.FnMeanOf", spec := "fnMeanOf", apart := false, narrowed := true }
def FnMeanOfUptoSaid : Prop := fnMeanOfUptoRow.holds Try.pinned (OpenSpec.upto fnMeanOfSpec)

/-- 'laws.FnExactValidStore', WHERE WHAT IT READS IS OF BULK AT MOST 1048576: true; the input reads as it did. -/
def fnExactValidStoreUptoRow : OpenClaim := { program := "ytaocmgafglalnaa", sum := "9062a5fa889eca38474cadc1f8a6c30470e681c31019bdefb1d51c5503bec032", func := "loop.example/vectorstore/laws.FnExactValidStore", spec := "fnExactValidStore", apart := false, narrowed := true }
def FnExactValidStoreUptoSaid : Prop := fnExactValidStoreUptoRow.holds Try.pinned (OpenSpec.upto fnExactValidStoreSpec)

/-- 'laws.FnValidStore', WHERE WHAT IT READS IS OF BULK AT MOST 1048576: true; the input reads as it did. -/
def fnValidStoreUptoRow : OpenClaim := { program := "ytaocmgafglalnaa", sum := "9062a5fa889eca38474cadc1f8a6c30470e681c31019bdefb1d51c5503bec032", func := "loop.example/vectorstore/laws.FnValidStore", spec := "fnValidStore", apart := false, narrowed := true }
def FnValidStoreUptoSaid : Prop := fnValidStoreUptoRow.holds Try.pinned (OpenSpec.upto fnValidStoreSpec)

/-- 'laws.FnExactBoundsOf', WHERE WHAT IT READS IS OF BULK AT MOST 1048576: true; the input reads as it did. -/
def fnExactBoundsOfUptoRow : OpenClaim := { program := "ytaocmgafglalnaa", sum := "9062a5fa889eca38474cadc1f8a6c30470e681c31019bdefb1d51c5503bec032", func := "loop.example/vectorstore/laws.FnExactBoundsOf", spec := "fnExactBoundsOf", apart := false, narrowed := true }
def FnExactBoundsOfUptoSaid : Prop := fnExactBoundsOfUptoRow.holds Try.pinned (OpenSpec.upto fnExactBoundsOfSpec)

/-- 'laws.FnExactInBox', WHERE WHAT IT READS IS OF BULK AT MOST 1048576: true; the input reads as it did. -/
def fnExactInBoxUptoRow : OpenClaim := { program := "ytaocmgafglalnaa", sum := "9062a5fa889eca38474cadc1f8a6c30470e681c31019bdefb1d51c5503bec032", func := "loop.example/vectorstore/laws.FnExactInBox", spec := "fnExactInBox", apart := false, narrowed := true }
def FnExactInBoxUptoSaid : Prop := fnExactInBoxUptoRow.holds Try.pinned (OpenSpec.upto fnExactInBoxSpec)

/-- 'laws.FnExactClosestPair', WHERE WHAT IT READS IS OF BULK AT MOST 1048576: true; the input reads as it did. -/
def fnExactClosestPairUptoRow : OpenClaim := { program := "ytaocmgafglalnaa", sum := "9062a5fa889eca38474cadc1f8a6c30470e681c31019bdefb1d51c5503bec032", func := "loop.example/vectorstore/laws.FnExactClosestPair", spec := "fnExactClosestPair", apart := false, narrowed := true }
def FnExactClosestPairUptoSaid : Prop := fnExactClosestPairUptoRow.holds Try.pinned (OpenSpec.upto fnExactClosestPairSpec)

/-- 'laws.FnBoundsOfTight', WHERE WHAT IT READS IS OF BULK AT MOST 1048576: true; the input reads as it did. -/
def fnBoundsOfTightUptoRow : OpenClaim := { program := "ytaocmgafglalnaa", sum := "9062a5fa889eca38474cadc1f8a6c30470e681c31019bdefb1d51c5503bec032", func := "loop.example/vectorstore/laws.FnBoundsOfTight", spec := "fnBoundsOfTight", apart := false, narrowed := true }
def FnBoundsOfTightUptoSaid : Prop := fnBoundsOfTightUptoRow.holds Try.pinned (OpenSpec.upto fnBoundsOfTightSpec)

/-- 'laws.FnExactGetItem', WHERE WHAT IT READS IS OF BULK AT MOST 1048576: true; the input reads as it did. -/
def fnExactGetItemUptoRow : OpenClaim := { program := "ytaocmgafglalnaa", sum := "9062a5fa889eca38474cadc1f8a6c30470e681c31019bdefb1d51c5503bec032", func := "loop.example/vectorstore/laws.FnExactGetItem", spec := "fnExactGetItem", unfollowed := true, recurses := true, apart := false, narrowed := true }
def FnExactGetItemUptoSaid : Prop := fnExactGetItemUptoRow.holds Try.pinned (OpenSpec.upto fnExactGetItemSpec)

/-- 'laws.FnPutItemOrder', WHERE WHAT IT READS IS OF BULK AT MOST 1048576: true; the input reads as it did. -/
def fnPutItemOrderUptoRow : OpenClaim := { program := "ytaocmgafglalnaa", sum := "9062a5fa889eca38474cadc1f8a6c30470e681c31019bdefb1d51c5503bec032", func := "loop.example/vectorstore/laws.FnPutItemOrder", spec := "fnPutItemOrder", apart := false, narrowed := true }
def FnPutItemOrderUptoSaid : Prop := fnPutItemOrderUptoRow.holds Try.pinned (OpenSpec.upto fnPutItemOrderSpec)

/-- 'laws.FnPutItemTwice', WHERE WHAT IT READS IS OF BULK AT MOST 1048576: true; the input reads as it did. -/
def fnPutItemTwiceUptoRow : OpenClaim := { program := "ytaocmgafglalnaa", sum := "9062a5fa889eca38474cadc1f8a6c30470e681c31019bdefb1d51c5503bec032", func := "loop.example/vectorstore/laws.FnPutItemTwice", spec := "fnPutItemTwice", apart := false, narrowed := true }
def FnPutItemTwiceUptoSaid : Prop := fnPutItemTwiceUptoRow.holds Try.pinned (OpenSpec.upto fnPutItemTwiceSpec)

/-- 'laws.FnExactDropItem', WHERE WHAT IT READS IS OF BULK AT MOST 1048576: true; the input reads as it did. -/
def fnExactDropItemUptoRow : OpenClaim := { program := "ytaocmgafglalnaa", sum := "9062a5fa889eca38474cadc1f8a6c30470e681c31019bdefb1d51c5503bec032", func := "loop.example/vectorstore/laws.FnExactDropItem", spec := "fnExactDropItem", unfollowed := true, recurses := true, apart := false, narrowed := true }
def FnExactDropItemUptoSaid : Prop := fnExactDropItemUptoRow.holds Try.pinned (OpenSpec.upto fnExactDropItemSpec)

/-- 'laws.FnBoundsOf', WHERE WHAT IT READS IS OF BULK AT MOST 1048576: true; the input reads as it did. -/
def fnBoundsOfUptoRow : OpenClaim := { program := "ytaocmgafglalnaa", sum := "9062a5fa889eca38474cadc1f8a6c30470e681c31019bdefb1d51c5503bec032", func := "loop.example/vectorstore/laws.FnBoundsOf", spec := "fnBoundsOf", apart := false, narrowed := true }
def FnBoundsOfUptoSaid : Prop := fnBoundsOfUptoRow.holds Try.pinned (OpenSpec.upto fnBoundsOfSpec)

/-- 'laws.FnExactPutItem', WHERE WHAT IT READS IS OF BULK AT MOST 1048576: true; the input reads as it did. -/
def fnExactPutItemUptoRow : OpenClaim := { program := "ytaocmgafglalnaa", sum := "9062a5fa889eca38474cadc1f8a6c30470e681c31019bdefb1d51c5503bec032", func := "loop.example/vectorstore/laws.FnExactPutItem", spec := "fnExactPutItem", apart := false, narrowed := true }
def FnExactPutItemUptoSaid : Prop := fnExactPutItemUptoRow.holds Try.pinned (OpenSpec.upto fnExactPutItemSpec)

/-- 'laws.FnInBox', WHERE WHAT IT READS IS OF BULK AT MOST 1048576: true; the input reads as it did. -/
def fnInBoxUptoRow : OpenClaim := { program := "ytaocmgafglalnaa", sum := "9062a5fa889eca38474cadc1f8a6c30470e681c31019bdefb1d51c5503bec032", func := "loop.example/vectorstore/laws.FnInBox", spec := "fnInBox", apart := false, narrowed := true }
def FnInBoxUptoSaid : Prop := fnInBoxUptoRow.holds Try.pinned (OpenSpec.upto fnInBoxSpec)

/-- 'laws.FnBoundsOfPut', WHERE WHAT IT READS IS OF BULK AT MOST 1048576: true; the input reads as it did. -/
def fnBoundsOfPutUptoRow : OpenClaim := { program := "ytaocmgafglalnaa", sum := "9062a5fa889eca38474cadc1f8a6c30470e681c31019bdefb1d51c5503bec032", func := "loop.example/vectorstore/laws.FnBoundsOfPut", spec := "fnBoundsOfPut", apart := false, narrowed := true }
def FnBoundsOfPutUptoSaid : Prop := fnBoundsOfPutUptoRow.holds Try.pinned (OpenSpec.upto fnBoundsOfPutSpec)

/-- 'laws.FnGetItem', WHERE WHAT IT READS IS OF BULK AT MOST 1048576: true; the input reads as it did. -/
def fnGetItemUptoRow : OpenClaim := { program := "ytaocmgafglalnaa", sum := "9062a5fa889eca38474cadc1f8a6c30470e681c31019bdefb1d51c5503bec032", func := "loop.example/vectorstore/laws.FnGetItem", spec := "fnGetItem", unfollowed := true, recurses := true, apart := false, narrowed := true }
def FnGetItemUptoSaid : Prop := fnGetItemUptoRow.holds Try.pinned (OpenSpec.upto fnGetItemSpec)

/-- 'laws.FnPutItem', WHERE WHAT IT READS IS OF BULK AT MOST 1048576: true; the input reads as it did. -/
def fnPutItemUptoRow : OpenClaim := { program := "ytaocmgafglalnaa", sum := "9062a5fa889eca38474cadc1f8a6c30470e681c31019bdefb1d51c5503bec032", func := "loop.example/vectorstore/laws.FnPutItem", spec := "fnPutItem", unfollowed := true, recurses := true, apart := false, narrowed := true }
def FnPutItemUptoSaid : Prop := fnPutItemUptoRow.holds Try.pinned (OpenSpec.upto fnPutItemSpec)

/-- 'laws.FnPutItemOthers', WHERE WHAT IT READS IS OF BULK AT MOST 1048576: true; the input reads as it did. -/
def fnPutItemOthersUptoRow : OpenClaim := { program := "ytaocmgafglalnaa", sum := "9062a5fa889eca38474cadc1f8a6c30470e681c31019bdefb1d51c5503bec032", func := "loop.example/vectorstore/laws.FnPutItemOthers", spec := "fnPutItemOthers", unfollowed := true, recurses := true, apart := false, narrowed := true }
def FnPutItemOthersUptoSaid : Prop := fnPutItemOthersUptoRow.holds Try.pinned (OpenSpec.upto fnPutItemOthersSpec)

/-- 'laws.FnDropItemOrder', WHERE WHAT IT READS IS OF BULK AT MOST 1048576: true; the input reads as it did. -/
def fnDropItemOrderUptoRow : OpenClaim := { program := "ytaocmgafglalnaa", sum := "9062a5fa889eca38474cadc1f8a6c30470e681c31019bdefb1d51c5503bec032", func := "loop.example/vectorstore/laws.FnDropItemOrder", spec := "fnDropItemOrder", unfollowed := true, recurses := true, apart := false, narrowed := true }
def FnDropItemOrderUptoSaid : Prop := fnDropItemOrderUptoRow.holds Try.pinned (OpenSpec.upto fnDropItemOrderSpec)

/-- 'laws.FnClosestPair', WHERE WHAT IT READS IS OF BULK AT MOST 1048576: true; the input reads as it did. -/
def fnClosestPairUptoRow : OpenClaim := { program := "ytaocmgafglalnaa", sum := "9062a5fa889eca38474cadc1f8a6c30470e681c31019bdefb1d51c5503bec032", func := "loop.example/vectorstore/laws.FnClosestPair", spec := "fnClosestPair", apart := false, narrowed := true }
def FnClosestPairUptoSaid : Prop := fnClosestPairUptoRow.holds Try.pinned (OpenSpec.upto fnClosestPairSpec)

/-- 'laws.FnDropItem', WHERE WHAT IT READS IS OF BULK AT MOST 1048576: true; the input reads as it did. -/
def fnDropItemUptoRow : OpenClaim := { program := "ytaocmgafglalnaa", sum := "9062a5fa889eca38474cadc1f8a6c30470e681c31019bdefb1d51c5503bec032", func := "loop.example/vectorstore/laws.FnDropItem", spec := "fnDropItem", unfollowed := true, recurses := true, apart := false, narrowed := true }
def FnDropItemUptoSaid : Prop := fnDropItemUptoRow.holds Try.pinned (OpenSpec.upto fnDropItemSpec)

/-- 'laws.FnClosestPairDrop', WHERE WHAT IT READS IS OF BULK AT MOST 1048576: true; the input reads as it did. -/
def fnClosestPairDropUptoRow : OpenClaim := { program := "ytaocmgafglalnaa", sum := "9062a5fa889eca38474cadc1f8a6c30470e681c31019bdefb1d51c5503bec032", func := "loop.example/vectorstore/laws.FnClosestPairDrop", spec := "fnClosestPairDrop", unfollowed := true, recurses := true, apart := false, narrowed := true }
def FnClosestPairDropUptoSaid : Prop := fnClosestPairDropUptoRow.holds Try.pinned (OpenSpec.upto fnClosestPairDropSpec)

end Rows
end Go.Proofs.Ytaocmgafglalnaa

/-
  No cell of these rows narrows 'for every input' (looked for: loops, veiled, ifaces, maps, wideKeys, modest, calm, conditions, laid).
  DERIVED. THE GIVEN ROWS OF THIS SEAT. 12 by the template 'for every input the law returns true; each argument reads behind the call as it read before'; 0 by the template 'total and deterministic' (their statements: YtjicdfplhenohaaTotals.lean).
  GIVEN WITH THE SEED: the statements are not yours to turn. If you find one false, say at which input.
  Laid BY PROGRAM, IN A SANDBOX (cutbox-rows.mjs): the forced cells as the released guide's own fill.sh prints them over the translation 80856f79a42f7db0… (all of the seat's roots in one cut). By AI agents, Wed Nov 11 2026. No macro, syntax, notation, axiom, sorry.
-/
import Derived.Test.YtjicdfplhenohaaChecked
import GoSem.Claim
import GoSem.ClaimJoined
import GoSem.ClaimMapViews
import Derived.JoinedTies
import Derived.KernelRfl
namespace Go.Proofs.Ytjicdfplhenohaa
/- THE CELL 'sum', in the pinned program and in every row, IS THE sha256 OF THE DUMP (.gsa) THAT YtjicdfplhenohaaProg.lean LOADS. Nothing in Lean hashes anything: it is a label: what it is worth is what the hold of that sum in a sandbox is worth. -/
noncomputable def Try.pinned : Pinned := { name := "ytjicdfplhenohaa", sum := "80856f79a42f7db05840a5e2a3c1b3080076b69ab61aa7429e2a2bce6e93464a", checked := Try.checked }
namespace Rows
def none {H : Type} : Left H := { results := [], args := [] }

/-- 'laws.FnExactSumOfMatrices': WHATEVER THE INPUT: true; the input reads as it did. -/
def fnExactSumOfMatricesSpec : ChangeSpec := { name := "fnExactSumOfMatrices", fn := fun _ => fun
  | [d1, d2] => { results := [.lit (.bool true)], args := [d1, d2] }
  | _ => none }
def fnExactSumOfMatricesRow : OpenClaim := { program := "ytjicdfplhenohaa", sum := "80856f79a42f7db05840a5e2a3c1b3080076b69ab61aa7429e2a2bce6e93464a", func := "loop.example/g01056/laws.FnExactSumOfMatrices", spec := "fnExactSumOfMatrices", unfollowed := true, recurses := true, apart := false }
def FnExactSumOfMatricesSaid : Prop := fnExactSumOfMatricesRow.holds Try.pinned (OpenSpec.ofChange fnExactSumOfMatricesSpec)

/-- ITS FALSE NEIGHBOUR: 'it returns false'. Refute it at one input. -/
def fnExactSumOfMatricesWrong : ChangeSpec := { name := "fnExactSumOfMatrices", fn := fun _ => fun
  | [d1, d2] => { results := [.lit (.bool false)], args := [d1, d2] }
  | _ => none }
def FnExactSumOfMatricesWrongFalsely : Prop := fnExactSumOfMatricesRow.holds Try.pinned (OpenSpec.ofChange fnExactSumOfMatricesWrong)

/-- 'laws.FnExactApplyMatrix': WHATEVER THE INPUT: true; the input reads as it did. -/
def fnExactApplyMatrixSpec : ChangeSpec := { name := "fnExactApplyMatrix", fn := fun _ => fun
  | [d1, d2] => { results := [.lit (.bool true)], args := [d1, d2] }
  | _ => none }
def fnExactApplyMatrixRow : OpenClaim := { program := "ytjicdfplhenohaa", sum := "80856f79a42f7db05840a5e2a3c1b3080076b69ab61aa7429e2a2bce6e93464a", func := "loop.example/g01056/laws.FnExactApplyMatrix", spec := "fnExactApplyMatrix", unfollowed := true, recurses := true, apart := false }
def FnExactApplyMatrixSaid : Prop := fnExactApplyMatrixRow.holds Try.pinned (OpenSpec.ofChange fnExactApplyMatrixSpec)

/-- ITS FALSE NEIGHBOUR: 'it returns false'. Refute it at one input. -/
def fnExactApplyMatrixWrong : ChangeSpec := { name := "fnExactApplyMatrix", fn := fun _ => fun
  | [d1, d2] => { results := [.lit (.bool false)], args := [d1, d2] }
  | _ => none }
def FnExactApplyMatrixWrongFalsely : Prop := fnExactApplyMatrixRow.holds Try.pinned (OpenSpec.ofChange fnExactApplyMatrixWrong)

/-- 'laws.FnExactShiftMatrix': WHATEVER THE INPUT: true; the input reads as it did. -/
def fnExactShiftMatrixSpec : ChangeSpec := { name := "fnExactShiftMatrix", fn := fun _ => fun
  | [d1, d2] => { results := [.lit (.bool true)], args := [d1, d2] }
  | _ => none }
def fnExactShiftMatrixRow : OpenClaim := { program := "ytjicdfplhenohaa", sum := "80856f79a42f7db05840a5e2a3c1b3080076b69ab61aa7429e2a2bce6e93464a", func := "loop.example/g01056/laws.FnExactShiftMatrix", spec := "fnExactShiftMatrix", unfollowed := true, recurses := true, apart := false }
def FnExactShiftMatrixSaid : Prop := fnExactShiftMatrixRow.holds Try.pinned (OpenSpec.ofChange fnExactShiftMatrixSpec)

/-- ITS FALSE NEIGHBOUR: 'it returns false'. Refute it at one input. -/
def fnExactShiftMatrixWrong : ChangeSpec := { name := "fnExactShiftMatrix", fn := fun _ => fun
  | [d1, d2] => { results := [.lit (.bool false)], args := [d1, d2] }
  | _ => none }
def FnExactShiftMatrixWrongFalsely : Prop := fnExactShiftMatrixRow.holds Try.pinned (OpenSpec.ofChange fnExactShiftMatrixWrong)

/-- 'laws.FnExactPermanentOf': WHATEVER THE INPUT: true; the input reads as it did. -/
def fnExactPermanentOfSpec : ChangeSpec := { name := "fnExactPermanentOf", fn := fun _ => fun
  | [d] => { results := [.lit (.bool true)], args := [d] }
  | _ => none }
def fnExactPermanentOfRow : OpenClaim := { program := "ytjicdfplhenohaa", sum := "80856f79a42f7db05840a5e2a3c1b3080076b69ab61aa7429e2a2bce6e93464a", func := "loop.example/g01056/laws.FnExactPermanentOf", spec := "fnExactPermanentOf", unfollowed := true, recurses := true, apart := false }
def FnExactPermanentOfSaid : Prop := fnExactPermanentOfRow.holds Try.pinned (OpenSpec.ofChange fnExactPermanentOfSpec)

/-- ITS FALSE NEIGHBOUR: 'it returns false'. Refute it at one input. -/
def fnExactPermanentOfWrong : ChangeSpec := { name := "fnExactPermanentOf", fn := fun _ => fun
  | [d] => { results := [.lit (.bool false)], args := [d] }
  | _ => none }
def FnExactPermanentOfWrongFalsely : Prop := fnExactPermanentOfRow.holds Try.pinned (OpenSpec.ofChange fnExactPermanentOfWrong)

/-- 'laws.FnExactMultiplyMatrices': WHATEVER THE INPUT: true; the input reads as it did. -/
def fnExactMultiplyMatricesSpec : ChangeSpec := { name := "fnExactMultiplyMatrices", fn := fun _ => fun
  | [d1, d2] => { results := [.lit (.bool true)], args := [d1, d2] }
  | _ => none }
def fnExactMultiplyMatricesRow : OpenClaim := { program := "ytjicdfplhenohaa", sum := "80856f79a42f7db05840a5e2a3c1b3080076b69ab61aa7429e2a2bce6e93464a", func := "loop.example/g01056/laws.FnExactMultiplyMatrices", spec := "fnExactMultiplyMatrices", unfollowed := true, recurses := true, apart := false }
def FnExactMultiplyMatricesSaid : Prop := fnExactMultiplyMatricesRow.holds Try.pinned (OpenSpec.ofChange fnExactMultiplyMatricesSpec)

/-- ITS FALSE NEIGHBOUR: 'it returns false'. Refute it at one input. -/
def fnExactMultiplyMatricesWrong : ChangeSpec := { name := "fnExactMultiplyMatrices", fn := fun _ => fun
  | [d1, d2] => { results := [.lit (.bool false)], args := [d1, d2] }
  | _ => none }
def FnExactMultiplyMatricesWrongFalsely : Prop := fnExactMultiplyMatricesRow.holds Try.pinned (OpenSpec.ofChange fnExactMultiplyMatricesWrong)

/-- 'laws.FnExactPowerOfMatrix': WHATEVER THE INPUT: true; the input reads as it did. -/
def fnExactPowerOfMatrixSpec : ChangeSpec := { name := "fnExactPowerOfMatrix", fn := fun _ => fun
  | [d1, d2] => { results := [.lit (.bool true)], args := [d1, d2] }
  | _ => none }
def fnExactPowerOfMatrixRow : OpenClaim := { program := "ytjicdfplhenohaa", sum := "80856f79a42f7db05840a5e2a3c1b3080076b69ab61aa7429e2a2bce6e93464a", func := "loop.example/g01056/laws.FnExactPowerOfMatrix", spec := "fnExactPowerOfMatrix", unfollowed := true, recurses := true, apart := false }
def FnExactPowerOfMatrixSaid : Prop := fnExactPowerOfMatrixRow.holds Try.pinned (OpenSpec.ofChange fnExactPowerOfMatrixSpec)

/-- ITS FALSE NEIGHBOUR: 'it returns false'. Refute it at one input. -/
def fnExactPowerOfMatrixWrong : ChangeSpec := { name := "fnExactPowerOfMatrix", fn := fun _ => fun
  | [d1, d2] => { results := [.lit (.bool false)], args := [d1, d2] }
  | _ => none }
def FnExactPowerOfMatrixWrongFalsely : Prop := fnExactPowerOfMatrixRow.holds Try.pinned (OpenSpec.ofChange fnExactPowerOfMatrixWrong)

/-- 'laws.FnExactReducedMatrix': WHATEVER THE INPUT: true; the input reads as it did. -/
def fnExactReducedMatrixSpec : ChangeSpec := { name := "fnExactReducedMatrix", fn := fun _ => fun
  | [d1, d2] => { results := [.lit (.bool true)], args := [d1, d2] }
  | _ => none }
def fnExactReducedMatrixRow : OpenClaim := { program := "ytjicdfplhenohaa", sum := "80856f79a42f7db05840a5e2a3c1b3080076b69ab61aa7429e2a2bce6e93464a", func := "loop.example/g01056/laws.FnExactReducedMatrix", spec := "fnExactReducedMatrix", unfollowed := true, recurses := true, apart := false }
def FnExactReducedMatrixSaid : Prop := fnExactReducedMatrixRow.holds Try.pinned (OpenSpec.ofChange fnExactReducedMatrixSpec)

/-- ITS FALSE NEIGHBOUR: 'it returns false'. Refute it at one input. -/
def fnExactReducedMatrixWrong : ChangeSpec := { name := "fnExactReducedMatrix", fn := fun _ => fun
  | [d1, d2] => { results := [.lit (.bool false)], args := [d1, d2] }
  | _ => none }
def FnExactReducedMatrixWrongFalsely : Prop := fnExactReducedMatrixRow.holds Try.pinned (OpenSpec.ofChange fnExactReducedMatrixWrong)

/-- 'laws.FnExactIsProvedWay': WHATEVER THE INPUT: true; the input reads as it did. -/
def fnExactIsProvedWaySpec : ChangeSpec := { name := "fnExactIsProvedWay", fn := fun _ => fun
  | [d1, d2, d3] => { results := [.lit (.bool true)], args := [d1, d2, d3] }
  | _ => none }
def fnExactIsProvedWayRow : OpenClaim := { program := "ytjicdfplhenohaa", sum := "80856f79a42f7db05840a5e2a3c1b3080076b69ab61aa7429e2a2bce6e93464a", func := "loop.example/g01056/laws.FnExactIsProvedWay", spec := "fnExactIsProvedWay", unfollowed := true, recurses := true, apart := false }
def FnExactIsProvedWaySaid : Prop := fnExactIsProvedWayRow.holds Try.pinned (OpenSpec.ofChange fnExactIsProvedWaySpec)

/-- ITS FALSE NEIGHBOUR: 'it returns false'. Refute it at one input. -/
def fnExactIsProvedWayWrong : ChangeSpec := { name := "fnExactIsProvedWay", fn := fun _ => fun
  | [d1, d2, d3] => { results := [.lit (.bool false)], args := [d1, d2, d3] }
  | _ => none }
def FnExactIsProvedWayWrongFalsely : Prop := fnExactIsProvedWayRow.holds Try.pinned (OpenSpec.ofChange fnExactIsProvedWayWrong)

/-- 'laws.FnExactNegativeCircuit': WHATEVER THE INPUT: true; the input reads as it did. -/
def fnExactNegativeCircuitSpec : ChangeSpec := { name := "fnExactNegativeCircuit", fn := fun _ => fun
  | [d] => { results := [.lit (.bool true)], args := [d] }
  | _ => none }
def fnExactNegativeCircuitRow : OpenClaim := { program := "ytjicdfplhenohaa", sum := "80856f79a42f7db05840a5e2a3c1b3080076b69ab61aa7429e2a2bce6e93464a", func := "loop.example/g01056/laws.FnExactNegativeCircuit", spec := "fnExactNegativeCircuit", unfollowed := true, recurses := true, apart := false }
def FnExactNegativeCircuitSaid : Prop := fnExactNegativeCircuitRow.holds Try.pinned (OpenSpec.ofChange fnExactNegativeCircuitSpec)

/-- ITS FALSE NEIGHBOUR: 'it returns false'. Refute it at one input. -/
def fnExactNegativeCircuitWrong : ChangeSpec := { name := "fnExactNegativeCircuit", fn := fun _ => fun
  | [d] => { results := [.lit (.bool false)], args := [d] }
  | _ => none }
def FnExactNegativeCircuitWrongFalsely : Prop := fnExactNegativeCircuitRow.holds Try.pinned (OpenSpec.ofChange fnExactNegativeCircuitWrong)

/-- 'laws.FnExactWayCosts': WHATEVER THE INPUT: true; the input reads as it did. -/
def fnExactWayCostsSpec : ChangeSpec := { name := "fnExactWayCosts", fn := fun _ => fun
  | [d] => { results := [.lit (.bool true)], args := [d] }
  | _ => none }
def fnExactWayCostsRow : OpenClaim := { program := "ytjicdfplhenohaa", sum := "80856f79a42f7db05840a5e2a3c1b3080076b69ab61aa7429e2a2bce6e93464a", func := "loop.example/g01056/laws.FnExactWayCosts", spec := "fnExactWayCosts", unfollowed := true, recurses := true, apart := false }
def FnExactWayCostsSaid : Prop := fnExactWayCostsRow.holds Try.pinned (OpenSpec.ofChange fnExactWayCostsSpec)

/-- ITS FALSE NEIGHBOUR: 'it returns false'. Refute it at one input. -/
def fnExactWayCostsWrong : ChangeSpec := { name := "fnExactWayCosts", fn := fun _ => fun
  | [d] => { results := [.lit (.bool false)], args := [d] }
  | _ => none }
def FnExactWayCostsWrongFalsely : Prop := fnExactWayCostsRow.holds Try.pinned (OpenSpec.ofChange fnExactWayCostsWrong)

/-- 'laws.FnExactCentreOf': WHATEVER THE INPUT: true; the input reads as it did. -/
def fnExactCentreOfSpec : ChangeSpec := { name := "fnExactCentreOf", fn := fun _ => fun
  | [d] => { results := [.lit (.bool true)], args := [d] }
  | _ => none }
def fnExactCentreOfRow : OpenClaim := { program := "ytjicdfplhenohaa", sum := "80856f79a42f7db05840a5e2a3c1b3080076b69ab61aa7429e2a2bce6e93464a", func := "loop.example/g01056/laws.FnExactCentreOf", spec := "fnExactCentreOf", unfollowed := true, recurses := true, apart := false }
def FnExactCentreOfSaid : Prop := fnExactCentreOfRow.holds Try.pinned (OpenSpec.ofChange fnExactCentreOfSpec)

/-- ITS FALSE NEIGHBOUR: 'it returns false'. Refute it at one input. -/
def fnExactCentreOfWrong : ChangeSpec := { name := "fnExactCentreOf", fn := fun _ => fun
  | [d] => { results := [.lit (.bool false)], args := [d] }
  | _ => none }
def FnExactCentreOfWrongFalsely : Prop := fnExactCentreOfRow.holds Try.pinned (OpenSpec.ofChange fnExactCentreOfWrong)

/-- 'laws.FnExactWithinCost': WHATEVER THE INPUT: true; the input reads as it did. -/
def fnExactWithinCostSpec : ChangeSpec := { name := "fnExactWithinCost", fn := fun _ => fun
  | [d1, d2, d3] => { results := [.lit (.bool true)], args := [d1, d2, d3] }
  | _ => none }
def fnExactWithinCostRow : OpenClaim := { program := "ytjicdfplhenohaa", sum := "80856f79a42f7db05840a5e2a3c1b3080076b69ab61aa7429e2a2bce6e93464a", func := "loop.example/g01056/laws.FnExactWithinCost", spec := "fnExactWithinCost", unfollowed := true, recurses := true, apart := false }
def FnExactWithinCostSaid : Prop := fnExactWithinCostRow.holds Try.pinned (OpenSpec.ofChange fnExactWithinCostSpec)

/-- ITS FALSE NEIGHBOUR: 'it returns false'. Refute it at one input. -/
def fnExactWithinCostWrong : ChangeSpec := { name := "fnExactWithinCost", fn := fun _ => fun
  | [d1, d2, d3] => { results := [.lit (.bool false)], args := [d1, d2, d3] }
  | _ => none }
def FnExactWithinCostWrongFalsely : Prop := fnExactWithinCostRow.holds Try.pinned (OpenSpec.ofChange fnExactWithinCostWrong)

/- THE SECOND FORM. 'bulk': how many values and letters a reading holds, each counted each time it is reached (what is shared counts as often as it is met; a slice's spare places count too). A statement '..UptoSaid' is the law's where the arguments, and the package variables that the reading takes, are together of bulk at most 1048576: NARROWER than '..Said'. Prove '..Said' where nothing that the law and all that it calls make is longer than what came in: it says more and counts as full. Else prove '..UptoSaid'. A law counts once. -/
mutual
def uptoBulk {H : Type} : DataW H → Nat
  | .lit (.string bytes) => bytes.length + 1
  | .lit _ => 1
  | .nil => 1
  | .ptr d => uptoBulk d + 1
  | .slice elems spare => uptoBulkAll elems + uptoBulkAll spare + 1
  | .agg parts => uptoBulkAll parts + 1
  | .iface _ d => uptoBulk d + 1
  | .map entries => uptoBulkEntries entries + 1
  | .held _ => 1
def uptoBulkAll {H : Type} : List (DataW H) → Nat
  | [] => 0
  | d :: r => uptoBulk d + uptoBulkAll r
def uptoBulkEntries {H : Type} : List (Lit × DataW H) → Nat
  | [] => 0
  | x :: r => uptoBulkEntry x + uptoBulkEntries r
def uptoBulkEntry {H : Type} : Lit × DataW H → Nat
  | (.string bytes, d) => bytes.length + uptoBulk d + 1
  | (_, d) => uptoBulk d + 1
 end
def uptoSmall : (H : Type) → List (DataW H) → Bool := fun _ ds => decide (uptoBulkAll ds ≤ 1048576)
def OpenSpec.upto (s : _root_.Go.ChangeSpec) : _root_.Go.OpenSpec := { _root_.Go.OpenSpec.ofChange s with cond := some uptoSmall }

/-- 'laws.FnExactSumOfMatrices', WHERE WHAT IT READS IS OF BULK AT MOST 1048576: true; the input reads as it did. -/
def fnExactSumOfMatricesUptoRow : OpenClaim := { program := "ytjicdfplhenohaa", sum := "80856f79a42f7db05840a5e2a3c1b3080076b69ab61aa7429e2a2bce6e93464a", func := "loop.example/g01056/laws.FnExactSumOfMatrices", spec := "fnExactSumOfMatrices", unfollowed := true, recurses := true, apart := false, narrowed := true }
def FnExactSumOfMatricesUptoSaid : Prop := fnExactSumOfMatricesUptoRow.holds Try.pinned (OpenSpec.upto fnExactSumOfMatricesSpec)

/-- 'laws.FnExactApplyMatrix', WHERE WHAT IT READS IS OF BULK AT MOST 1048576: true; the input reads as it did. -/
def fnExactApplyMatrixUptoRow : OpenClaim := { program := "ytjicdfplhenohaa", sum := "80856f79a42f7db05840a5e2a3c1b3080076b69ab61aa7429e2a2bce6e93464a", func := "loop.example/g01056/laws.FnExactApplyMatrix", spec := "fnExactApplyMatrix", unfollowed := true, recurses := true, apart := false, narrowed := true }
def FnExactApplyMatrixUptoSaid : Prop := fnExactApplyMatrixUptoRow.holds Try.pinned (OpenSpec.upto fnExactApplyMatrixSpec)

/-- 'laws.FnExactShiftMatrix', WHERE WHAT IT READS IS OF BULK AT MOST 1048576: true; the input reads as it did. -/
def fnExactShiftMatrixUptoRow : OpenClaim := { program := "ytjicdfplhenohaa", sum := "80856f79a42f7db05840a5e2a3c1b3080076b69ab61aa7429e2a2bce6e93464a", func := "loop.example/g01056/laws.FnExactShiftMatrix", spec := "fnExactShiftMatrix", unfollowed := true, recurses := true, apart := false, narrowed := true }
def FnExactShiftMatrixUptoSaid : Prop := fnExactShiftMatrixUptoRow.holds Try.pinned (OpenSpec.upto fnExactShiftMatrixSpec)

/-- 'laws.FnExactPermanentOf', WHERE WHAT IT READS IS OF BULK AT MOST 1048576: true; the input reads as it did. -/
def fnExactPermanentOfUptoRow : OpenClaim := { program := "ytjicdfplhenohaa", sum := "80856f79a42f7db05840a5e2a3c1b3080076b69ab61aa7429e2a2bce6e93464a", func := "loop.example/g01056/laws.FnExactPermanentOf", spec := "fnExactPermanentOf", unfollowed := true, recurses := true, apart := false, narrowed := true }
def FnExactPermanentOfUptoSaid : Prop := fnExactPermanentOfUptoRow.holds Try.pinned (OpenSpec.upto fnExactPermanentOfSpec)

/-- 'laws.FnExactMultiplyMatrices', WHERE WHAT IT READS IS OF BULK AT MOST 1048576: true; the input reads as it did. -/
def fnExactMultiplyMatricesUptoRow : OpenClaim := { program := "ytjicdfplhenohaa", sum := "80856f79a42f7db05840a5e2a3c1b3080076b69ab61aa7429e2a2bce6e93464a", func := "loop.example/g01056/laws.FnExactMultiplyMatrices", spec := "fnExactMultiplyMatrices", unfollowed := true, recurses := true, apart := false, narrowed := true }
def FnExactMultiplyMatricesUptoSaid : Prop := fnExactMultiplyMatricesUptoRow.holds Try.pinned (OpenSpec.upto fnExactMultiplyMatricesSpec)

/-- 'laws.FnExactPowerOfMatrix', WHERE WHAT IT READS IS OF BULK AT MOST 1048576: true; the input reads as it did. -/
def fnExactPowerOfMatrixUptoRow : OpenClaim := { program := "ytjicdfplhenohaa", sum := "80856f79a42f7db05840a5e2a3c1b3080076b69ab61aa7429e2a2bce6e93464a", func := "loop.example/g01056/laws.FnExactPowerOfMatrix", spec := "fnExactPowerOfMatrix", unfollowed := true, recurses := true, apart := false, narrowed := true }
def FnExactPowerOfMatrixUptoSaid : Prop := fnExactPowerOfMatrixUptoRow.holds Try.pinned (OpenSpec.upto fnExactPowerOfMatrixSpec)

/-- 'laws.FnExactReducedMatrix', WHERE WHAT IT READS IS OF BULK AT MOST 1048576: true; the input reads as it did. -/
def fnExactReducedMatrixUptoRow : OpenClaim := { program := "ytjicdfplhenohaa", sum := "80856f79a42f7db05840a5e2a3c1b3080076b69ab61aa7429e2a2bce6e93464a", func := "loop.example/g01056/laws.FnExactReducedMatrix", spec := "fnExactReducedMatrix", unfollowed := true, recurses := true, apart := false, narrowed := true }
def FnExactReducedMatrixUptoSaid : Prop := fnExactReducedMatrixUptoRow.holds Try.pinned (OpenSpec.upto fnExactReducedMatrixSpec)

/-- 'laws.FnExactIsProvedWay', WHERE WHAT IT READS IS OF BULK AT MOST 1048576: true; the input reads as it did. -/
def fnExactIsProvedWayUptoRow : OpenClaim := { program := "ytjicdfplhenohaa", sum := "80856f79a42f7db05840a5e2a3c1b3080076b69ab61aa7429e2a2bce6e93464a", func := "loop.example/g01056/laws.FnExactIsProvedWay", spec := "fnExactIsProvedWay", unfollowed := true, recurses := true, apart := false, narrowed := true }
def FnExactIsProvedWayUptoSaid : Prop := fnExactIsProvedWayUptoRow.holds Try.pinned (OpenSpec.upto fnExactIsProvedWaySpec)

/-- 'laws.FnExactNegativeCircuit', WHERE WHAT IT READS IS OF BULK AT MOST 1048576: true; the input reads as it did. -/
def fnExactNegativeCircuitUptoRow : OpenClaim := { program := "ytjicdfplhenohaa", sum := "80856f79a42f7db05840a5e2a3c1b3080076b69ab61aa7429e2a2bce6e93464a", func := "loop.example/g01056/laws.FnExactNegativeCircuit", spec := "fnExactNegativeCircuit", unfollowed := true, recurses := true, apart := false, narrowed := true }
def FnExactNegativeCircuitUptoSaid : Prop := fnExactNegativeCircuitUptoRow.holds Try.pinned (OpenSpec.upto fnExactNegativeCircuitSpec)

/-- 'laws.FnExactWayCosts', WHERE WHAT IT READS IS OF BULK AT MOST 1048576: true; the input reads as it did. -/
def fnExactWayCostsUptoRow : OpenClaim := { program := "ytjicdfplhenohaa", sum := "80856f79a42f7db05840a5e2a3c1b3080076b69ab61aa7429e2a2bce6e93464a", func := "loop.example/g01056/laws.FnExactWayCosts", spec := "fnExactWayCosts", unfollowed := true, recurses := true, apart := false, narrowed := true }
def FnExactWayCostsUptoSaid : Prop := fnExactWayCostsUptoRow.holds Try.pinned (OpenSpec.upto fnExactWayCostsSpec)

/-- 'laws.FnExactCentreOf', WHERE WHAT IT READS IS OF BULK AT MOST 1048576: true; the input reads as it did. -/
def fnExactCentreOfUptoRow : OpenClaim := { program := "ytjicdfplhenohaa", sum := "80856f79a42f7db05840a5e2a3c1b3080076b69ab61aa7429e2a2bce6e93464a", func := "loop.example/g01056/laws.FnExactCentreOf", spec := "fnExactCentreOf", unfollowed := true, recurses := true, apart := false, narrowed := true }
def FnExactCentreOfUptoSaid : Prop := fnExactCentreOfUptoRow.holds Try.pinned (OpenSpec.upto fnExactCentreOfSpec)

/-- 'laws.FnExactWithinCost', WHERE WHAT IT READS IS OF BULK AT MOST 1048576: true; the input reads as it did. -/
def fnExactWithinCostUptoRow : OpenClaim := { program := "ytjicdfplhenohaa", sum := "80856f79a42f7db05840a5e2a3c1b3080076b69ab61aa7429e2a2bce6e93464a", func := "loop.example/g01056/laws.FnExactWithinCost", spec := "fnExactWithinCost", unfollowed := true, recurses := true, apart := false, narrowed := true }
def FnExactWithinCostUptoSaid : Prop := fnExactWithinCostUptoRow.holds Try.pinned (OpenSpec.upto fnExactWithinCostSpec)

end Rows
end Go.Proofs.Ytjicdfplhenohaa

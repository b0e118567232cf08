/-
  No cell of these rows narrows 'for every input' (looked for: loops, veiled, ifaces, maps, wideKeys, modest, calm, conditions, laid).
  DERIVED. THE GIVEN ROWS OF THIS SEAT. 10 by the template 'for every input the law returns true; each argument reads behind the call as it read before'; 0 by the template 'total and deterministic' (their statements: YtnnhbkhlipekeaaTotals.lean).
  GIVEN WITH THE SEED: the statements are not yours to turn. If you find one false, say at which input.
  Laid BY PROGRAM, IN A SANDBOX (cutbox-rows.mjs): the forced cells as the released guide's own fill.sh prints them over the translation fe30a55575434f74… (all of the seat's roots in one cut). By AI agents, Wed Nov 11 2026. No macro, syntax, notation, axiom, sorry.
-/
import Derived.Test.YtnnhbkhlipekeaaChecked
import GoSem.Claim
import GoSem.ClaimJoined
import GoSem.ClaimMapViews
import Derived.JoinedTies
import Derived.KernelRfl
namespace Go.Proofs.Ytnnhbkhlipekeaa
/- THE CELL 'sum', in the pinned program and in every row, IS THE sha256 OF THE DUMP (.gsa) THAT YtnnhbkhlipekeaaProg.lean LOADS. Nothing in Lean hashes anything: it is a label: what it is worth is what the hold of that sum in a sandbox is worth. -/
noncomputable def Try.pinned : Pinned := { name := "ytnnhbkhlipekeaa", sum := "fe30a55575434f749fc27b4c43e86abb291831dbb82a28c5168e7237f4efe189", checked := Try.checked }
namespace Rows
def none {H : Type} : Left H := { results := [], args := [] }

/-- 'laws.FnExactCostOfAssignment': WHATEVER THE INPUT: true; the input reads as it did. -/
def fnExactCostOfAssignmentSpec : ChangeSpec := { name := "fnExactCostOfAssignment", fn := fun _ => fun
  | [d1, d2] => { results := [.lit (.bool true)], args := [d1, d2] }
  | _ => none }
def fnExactCostOfAssignmentRow : OpenClaim := { program := "ytnnhbkhlipekeaa", sum := "fe30a55575434f749fc27b4c43e86abb291831dbb82a28c5168e7237f4efe189", func := "loop.example/g01056/laws.FnExactCostOfAssignment", spec := "fnExactCostOfAssignment", unfollowed := true, recurses := true, apart := false }
def FnExactCostOfAssignmentSaid : Prop := fnExactCostOfAssignmentRow.holds Try.pinned (OpenSpec.ofChange fnExactCostOfAssignmentSpec)

/-- ITS FALSE NEIGHBOUR: 'it returns false'. Refute it at one input. -/
def fnExactCostOfAssignmentWrong : ChangeSpec := { name := "fnExactCostOfAssignment", fn := fun _ => fun
  | [d1, d2] => { results := [.lit (.bool false)], args := [d1, d2] }
  | _ => none }
def FnExactCostOfAssignmentWrongFalsely : Prop := fnExactCostOfAssignmentRow.holds Try.pinned (OpenSpec.ofChange fnExactCostOfAssignmentWrong)

/-- 'laws.FnExactIsProvedBest': WHATEVER THE INPUT: true; the input reads as it did. -/
def fnExactIsProvedBestSpec : ChangeSpec := { name := "fnExactIsProvedBest", fn := fun _ => fun
  | [d1, d2, d3, d4] => { results := [.lit (.bool true)], args := [d1, d2, d3, d4] }
  | _ => none }
def fnExactIsProvedBestRow : OpenClaim := { program := "ytnnhbkhlipekeaa", sum := "fe30a55575434f749fc27b4c43e86abb291831dbb82a28c5168e7237f4efe189", func := "loop.example/g01056/laws.FnExactIsProvedBest", spec := "fnExactIsProvedBest", unfollowed := true, recurses := true, apart := false }
def FnExactIsProvedBestSaid : Prop := fnExactIsProvedBestRow.holds Try.pinned (OpenSpec.ofChange fnExactIsProvedBestSpec)

/-- ITS FALSE NEIGHBOUR: 'it returns false'. Refute it at one input. -/
def fnExactIsProvedBestWrong : ChangeSpec := { name := "fnExactIsProvedBest", fn := fun _ => fun
  | [d1, d2, d3, d4] => { results := [.lit (.bool false)], args := [d1, d2, d3, d4] }
  | _ => none }
def FnExactIsProvedBestWrongFalsely : Prop := fnExactIsProvedBestRow.holds Try.pinned (OpenSpec.ofChange fnExactIsProvedBestWrong)

/-- 'laws.FnExactCountBest': WHATEVER THE INPUT: true; the input reads as it did. -/
def fnExactCountBestSpec : ChangeSpec := { name := "fnExactCountBest", fn := fun _ => fun
  | [d] => { results := [.lit (.bool true)], args := [d] }
  | _ => none }
def fnExactCountBestRow : OpenClaim := { program := "ytnnhbkhlipekeaa", sum := "fe30a55575434f749fc27b4c43e86abb291831dbb82a28c5168e7237f4efe189", func := "loop.example/g01056/laws.FnExactCountBest", spec := "fnExactCountBest", unfollowed := true, recurses := true, apart := false }
def FnExactCountBestSaid : Prop := fnExactCountBestRow.holds Try.pinned (OpenSpec.ofChange fnExactCountBestSpec)

/-- ITS FALSE NEIGHBOUR: 'it returns false'. Refute it at one input. -/
def fnExactCountBestWrong : ChangeSpec := { name := "fnExactCountBest", fn := fun _ => fun
  | [d] => { results := [.lit (.bool false)], args := [d] }
  | _ => none }
def FnExactCountBestWrongFalsely : Prop := fnExactCountBestRow.holds Try.pinned (OpenSpec.ofChange fnExactCountBestWrong)

/-- 'laws.FnExactRegretOf': WHATEVER THE INPUT: true; the input reads as it did. -/
def fnExactRegretOfSpec : ChangeSpec := { name := "fnExactRegretOf", fn := fun _ => fun
  | [d1, d2, d3] => { results := [.lit (.bool true)], args := [d1, d2, d3] }
  | _ => none }
def fnExactRegretOfRow : OpenClaim := { program := "ytnnhbkhlipekeaa", sum := "fe30a55575434f749fc27b4c43e86abb291831dbb82a28c5168e7237f4efe189", func := "loop.example/g01056/laws.FnExactRegretOf", spec := "fnExactRegretOf", unfollowed := true, recurses := true, apart := false }
def FnExactRegretOfSaid : Prop := fnExactRegretOfRow.holds Try.pinned (OpenSpec.ofChange fnExactRegretOfSpec)

/-- ITS FALSE NEIGHBOUR: 'it returns false'. Refute it at one input. -/
def fnExactRegretOfWrong : ChangeSpec := { name := "fnExactRegretOf", fn := fun _ => fun
  | [d1, d2, d3] => { results := [.lit (.bool false)], args := [d1, d2, d3] }
  | _ => none }
def FnExactRegretOfWrongFalsely : Prop := fnExactRegretOfRow.holds Try.pinned (OpenSpec.ofChange fnExactRegretOfWrong)

/-- 'laws.FnExactBestAssignment': WHATEVER THE INPUT: true; the input reads as it did. -/
def fnExactBestAssignmentSpec : ChangeSpec := { name := "fnExactBestAssignment", fn := fun _ => fun
  | [d] => { results := [.lit (.bool true)], args := [d] }
  | _ => none }
def fnExactBestAssignmentRow : OpenClaim := { program := "ytnnhbkhlipekeaa", sum := "fe30a55575434f749fc27b4c43e86abb291831dbb82a28c5168e7237f4efe189", func := "loop.example/g01056/laws.FnExactBestAssignment", spec := "fnExactBestAssignment", unfollowed := true, recurses := true, apart := false }
def FnExactBestAssignmentSaid : Prop := fnExactBestAssignmentRow.holds Try.pinned (OpenSpec.ofChange fnExactBestAssignmentSpec)

/-- ITS FALSE NEIGHBOUR: 'it returns false'. Refute it at one input. -/
def fnExactBestAssignmentWrong : ChangeSpec := { name := "fnExactBestAssignment", fn := fun _ => fun
  | [d] => { results := [.lit (.bool false)], args := [d] }
  | _ => none }
def FnExactBestAssignmentWrongFalsely : Prop := fnExactBestAssignmentRow.holds Try.pinned (OpenSpec.ofChange fnExactBestAssignmentWrong)

/-- 'laws.FnExactSecondBest': WHATEVER THE INPUT: true; the input reads as it did. -/
def fnExactSecondBestSpec : ChangeSpec := { name := "fnExactSecondBest", fn := fun _ => fun
  | [d] => { results := [.lit (.bool true)], args := [d] }
  | _ => none }
def fnExactSecondBestRow : OpenClaim := { program := "ytnnhbkhlipekeaa", sum := "fe30a55575434f749fc27b4c43e86abb291831dbb82a28c5168e7237f4efe189", func := "loop.example/g01056/laws.FnExactSecondBest", spec := "fnExactSecondBest", unfollowed := true, recurses := true, apart := false }
def FnExactSecondBestSaid : Prop := fnExactSecondBestRow.holds Try.pinned (OpenSpec.ofChange fnExactSecondBestSpec)

/-- ITS FALSE NEIGHBOUR: 'it returns false'. Refute it at one input. -/
def fnExactSecondBestWrong : ChangeSpec := { name := "fnExactSecondBest", fn := fun _ => fun
  | [d] => { results := [.lit (.bool false)], args := [d] }
  | _ => none }
def FnExactSecondBestWrongFalsely : Prop := fnExactSecondBestRow.holds Try.pinned (OpenSpec.ofChange fnExactSecondBestWrong)

/-- 'laws.FnExactForcedPairs': WHATEVER THE INPUT: true; the input reads as it did. -/
def fnExactForcedPairsSpec : ChangeSpec := { name := "fnExactForcedPairs", fn := fun _ => fun
  | [d] => { results := [.lit (.bool true)], args := [d] }
  | _ => none }
def fnExactForcedPairsRow : OpenClaim := { program := "ytnnhbkhlipekeaa", sum := "fe30a55575434f749fc27b4c43e86abb291831dbb82a28c5168e7237f4efe189", func := "loop.example/g01056/laws.FnExactForcedPairs", spec := "fnExactForcedPairs", unfollowed := true, recurses := true, apart := false }
def FnExactForcedPairsSaid : Prop := fnExactForcedPairsRow.holds Try.pinned (OpenSpec.ofChange fnExactForcedPairsSpec)

/-- ITS FALSE NEIGHBOUR: 'it returns false'. Refute it at one input. -/
def fnExactForcedPairsWrong : ChangeSpec := { name := "fnExactForcedPairs", fn := fun _ => fun
  | [d] => { results := [.lit (.bool false)], args := [d] }
  | _ => none }
def FnExactForcedPairsWrongFalsely : Prop := fnExactForcedPairsRow.holds Try.pinned (OpenSpec.ofChange fnExactForcedPairsWrong)

/-- 'laws.FnExactPossiblePairs': WHATEVER THE INPUT: true; the input reads as it did. -/
def fnExactPossiblePairsSpec : ChangeSpec := { name := "fnExactPossiblePairs", fn := fun _ => fun
  | [d] => { results := [.lit (.bool true)], args := [d] }
  | _ => none }
def fnExactPossiblePairsRow : OpenClaim := { program := "ytnnhbkhlipekeaa", sum := "fe30a55575434f749fc27b4c43e86abb291831dbb82a28c5168e7237f4efe189", func := "loop.example/g01056/laws.FnExactPossiblePairs", spec := "fnExactPossiblePairs", unfollowed := true, recurses := true, apart := false }
def FnExactPossiblePairsSaid : Prop := fnExactPossiblePairsRow.holds Try.pinned (OpenSpec.ofChange fnExactPossiblePairsSpec)

/-- ITS FALSE NEIGHBOUR: 'it returns false'. Refute it at one input. -/
def fnExactPossiblePairsWrong : ChangeSpec := { name := "fnExactPossiblePairs", fn := fun _ => fun
  | [d] => { results := [.lit (.bool false)], args := [d] }
  | _ => none }
def FnExactPossiblePairsWrongFalsely : Prop := fnExactPossiblePairsRow.holds Try.pinned (OpenSpec.ofChange fnExactPossiblePairsWrong)

/-- 'laws.FnExactRowPrices': WHATEVER THE INPUT: true; the input reads as it did. -/
def fnExactRowPricesSpec : ChangeSpec := { name := "fnExactRowPrices", fn := fun _ => fun
  | [d] => { results := [.lit (.bool true)], args := [d] }
  | _ => none }
def fnExactRowPricesRow : OpenClaim := { program := "ytnnhbkhlipekeaa", sum := "fe30a55575434f749fc27b4c43e86abb291831dbb82a28c5168e7237f4efe189", func := "loop.example/g01056/laws.FnExactRowPrices", spec := "fnExactRowPrices", unfollowed := true, recurses := true, apart := false }
def FnExactRowPricesSaid : Prop := fnExactRowPricesRow.holds Try.pinned (OpenSpec.ofChange fnExactRowPricesSpec)

/-- ITS FALSE NEIGHBOUR: 'it returns false'. Refute it at one input. -/
def fnExactRowPricesWrong : ChangeSpec := { name := "fnExactRowPrices", fn := fun _ => fun
  | [d] => { results := [.lit (.bool false)], args := [d] }
  | _ => none }
def FnExactRowPricesWrongFalsely : Prop := fnExactRowPricesRow.holds Try.pinned (OpenSpec.ofChange fnExactRowPricesWrong)

/-- 'laws.FnExactColumnPrices': WHATEVER THE INPUT: true; the input reads as it did. -/
def fnExactColumnPricesSpec : ChangeSpec := { name := "fnExactColumnPrices", fn := fun _ => fun
  | [d] => { results := [.lit (.bool true)], args := [d] }
  | _ => none }
def fnExactColumnPricesRow : OpenClaim := { program := "ytnnhbkhlipekeaa", sum := "fe30a55575434f749fc27b4c43e86abb291831dbb82a28c5168e7237f4efe189", func := "loop.example/g01056/laws.FnExactColumnPrices", spec := "fnExactColumnPrices", unfollowed := true, recurses := true, apart := false }
def FnExactColumnPricesSaid : Prop := fnExactColumnPricesRow.holds Try.pinned (OpenSpec.ofChange fnExactColumnPricesSpec)

/-- ITS FALSE NEIGHBOUR: 'it returns false'. Refute it at one input. -/
def fnExactColumnPricesWrong : ChangeSpec := { name := "fnExactColumnPrices", fn := fun _ => fun
  | [d] => { results := [.lit (.bool false)], args := [d] }
  | _ => none }
def FnExactColumnPricesWrongFalsely : Prop := fnExactColumnPricesRow.holds Try.pinned (OpenSpec.ofChange fnExactColumnPricesWrong)

/- THE SECOND FORM. 'bulk': how many values and letters a reading holds, each counted each time it is reached (what is shared counts as often as it is met; a slice's spare places count too). A statement '..UptoSaid' is the law's where the arguments, and the package variables that the reading takes, are together of bulk at most 1048576: NARROWER than '..Said'. Prove '..Said' where nothing that the law and all that it calls make is longer than what came in: it says more and counts as full. Else prove '..UptoSaid'. A law counts once. -/
mutual
def uptoBulk {H : Type} : DataW H → Nat
  | .lit (.string bytes) => bytes.length + 1
  | .lit _ => 1
  | .nil => 1
  | .ptr d => uptoBulk d + 1
  | .slice elems spare => uptoBulkAll elems + uptoBulkAll spare + 1
  | .agg parts => uptoBulkAll parts + 1
  | .iface _ d => uptoBulk d + 1
  | .map entries => uptoBulkEntries entries + 1
  | .held _ => 1
def uptoBulkAll {H : Type} : List (DataW H) → Nat
  | [] => 0
  | d :: r => uptoBulk d + uptoBulkAll r
def uptoBulkEntries {H : Type} : List (Lit × DataW H) → Nat
  | [] => 0
  | x :: r => uptoBulkEntry x + uptoBulkEntries r
def uptoBulkEntry {H : Type} : Lit × DataW H → Nat
  | (.string bytes, d) => bytes.length + uptoBulk d + 1
  | (_, d) => uptoBulk d + 1
 end
def uptoSmall : (H : Type) → List (DataW H) → Bool := fun _ ds => decide (uptoBulkAll ds ≤ 1048576)
def OpenSpec.upto (s : _root_.Go.ChangeSpec) : _root_.Go.OpenSpec := { _root_.Go.OpenSpec.ofChange s with cond := some uptoSmall }

/-- 'laws.FnExactCostOfAssignment', WHERE WHAT IT READS IS OF BULK AT MOST 1048576: true; the input reads as it did. -/
def fnExactCostOfAssignmentUptoRow : OpenClaim := { program := "ytnnhbkhlipekeaa", sum := "fe30a55575434f749fc27b4c43e86abb291831dbb82a28c5168e7237f4efe189", func := "loop.example/g01056/laws.FnExactCostOfAssignment", spec := "fnExactCostOfAssignment", unfollowed := true, recurses := true, apart := false, narrowed := true }
def FnExactCostOfAssignmentUptoSaid : Prop := fnExactCostOfAssignmentUptoRow.holds Try.pinned (OpenSpec.upto fnExactCostOfAssignmentSpec)

/-- 'laws.FnExactIsProvedBest', WHERE WHAT IT READS IS OF BULK AT MOST 1048576: true; the input reads as it did. -/
def fnExactIsProvedBestUptoRow : OpenClaim := { program := "ytnnhbkhlipekeaa", sum := "fe30a55575434f749fc27b4c43e86abb291831dbb82a28c5168e7237f4efe189", func := "loop.example/g01056/laws.FnExactIsProvedBest", spec := "fnExactIsProvedBest", unfollowed := true, recurses := true, apart := false, narrowed := true }
def FnExactIsProvedBestUptoSaid : Prop := fnExactIsProvedBestUptoRow.holds Try.pinned (OpenSpec.upto fnExactIsProvedBestSpec)

/-- 'laws.FnExactCountBest', WHERE WHAT IT READS IS OF BULK AT MOST 1048576: true; the input reads as it did. -/
def fnExactCountBestUptoRow : OpenClaim := { program := "ytnnhbkhlipekeaa", sum := "fe30a55575434f749fc27b4c43e86abb291831dbb82a28c5168e7237f4efe189", func := "loop.example/g01056/laws.FnExactCountBest", spec := "fnExactCountBest", unfollowed := true, recurses := true, apart := false, narrowed := true }
def FnExactCountBestUptoSaid : Prop := fnExactCountBestUptoRow.holds Try.pinned (OpenSpec.upto fnExactCountBestSpec)

/-- 'laws.FnExactRegretOf', WHERE WHAT IT READS IS OF BULK AT MOST 1048576: true; the input reads as it did. -/
def fnExactRegretOfUptoRow : OpenClaim := { program := "ytnnhbkhlipekeaa", sum := "fe30a55575434f749fc27b4c43e86abb291831dbb82a28c5168e7237f4efe189", func := "loop.example/g01056/laws.FnExactRegretOf", spec := "fnExactRegretOf", unfollowed := true, recurses := true, apart := false, narrowed := true }
def FnExactRegretOfUptoSaid : Prop := fnExactRegretOfUptoRow.holds Try.pinned (OpenSpec.upto fnExactRegretOfSpec)

/-- 'laws.FnExactBestAssignment', WHERE WHAT IT READS IS OF BULK AT MOST 1048576: true; the input reads as it did. -/
def fnExactBestAssignmentUptoRow : OpenClaim := { program := "ytnnhbkhlipekeaa", sum := "fe30a55575434f749fc27b4c43e86abb291831dbb82a28c5168e7237f4efe189", func := "loop.example/g01056/laws.FnExactBestAssignment", spec := "fnExactBestAssignment", unfollowed := true, recurses := true, apart := false, narrowed := true }
def FnExactBestAssignmentUptoSaid : Prop := fnExactBestAssignmentUptoRow.holds Try.pinned (OpenSpec.upto fnExactBestAssignmentSpec)

/-- 'laws.FnExactSecondBest', WHERE WHAT IT READS IS OF BULK AT MOST 1048576: true; the input reads as it did. -/
def fnExactSecondBestUptoRow : OpenClaim := { program := "ytnnhbkhlipekeaa", sum := "fe30a55575434f749fc27b4c43e86abb291831dbb82a28c5168e7237f4efe189", func := "loop.example/g01056/laws.FnExactSecondBest", spec := "fnExactSecondBest", unfollowed := true, recurses := true, apart := false, narrowed := true }
def FnExactSecondBestUptoSaid : Prop := fnExactSecondBestUptoRow.holds Try.pinned (OpenSpec.upto fnExactSecondBestSpec)

/-- 'laws.FnExactForcedPairs', WHERE WHAT IT READS IS OF BULK AT MOST 1048576: true; the input reads as it did. -/
def fnExactForcedPairsUptoRow : OpenClaim := { program := "ytnnhbkhlipekeaa", sum := "fe30a55575434f749fc27b4c43e86abb291831dbb82a28c5168e7237f4efe189", func := "loop.example/g01056/laws.FnExactForcedPairs", spec := "fnExactForcedPairs", unfollowed := true, recurses := true, apart := false, narrowed := true }
def FnExactForcedPairsUptoSaid : Prop := fnExactForcedPairsUptoRow.holds Try.pinned (OpenSpec.upto fnExactForcedPairsSpec)

/-- 'laws.FnExactPossiblePairs', WHERE WHAT IT READS IS OF BULK AT MOST 1048576: true; the input reads as it did. -/
def fnExactPossiblePairsUptoRow : OpenClaim := { program := "ytnnhbkhlipekeaa", sum := "fe30a55575434f749fc27b4c43e86abb291831dbb82a28c5168e7237f4efe189", func := "loop.example/g01056/laws.FnExactPossiblePairs", spec := "fnExactPossiblePairs", unfollowed := true, recurses := true, apart := false, narrowed := true }
def FnExactPossiblePairsUptoSaid : Prop := fnExactPossiblePairsUptoRow.holds Try.pinned (OpenSpec.upto fnExactPossiblePairsSpec)

/-- 'laws.FnExactRowPrices', WHERE WHAT IT READS IS OF BULK AT MOST 1048576: true; the input reads as it did. -/
def fnExactRowPricesUptoRow : OpenClaim := { program := "ytnnhbkhlipekeaa", sum := "fe30a55575434f749fc27b4c43e86abb291831dbb82a28c5168e7237f4efe189", func := "loop.example/g01056/laws.FnExactRowPrices", spec := "fnExactRowPrices", unfollowed := true, recurses := true, apart := false, narrowed := true }
def FnExactRowPricesUptoSaid : Prop := fnExactRowPricesUptoRow.holds Try.pinned (OpenSpec.upto fnExactRowPricesSpec)

/-- 'laws.FnExactColumnPrices', WHERE WHAT IT READS IS OF BULK AT MOST 1048576: true; the input reads as it did. -/
def fnExactColumnPricesUptoRow : OpenClaim := { program := "ytnnhbkhlipekeaa", sum := "fe30a55575434f749fc27b4c43e86abb291831dbb82a28c5168e7237f4efe189", func := "loop.example/g01056/laws.FnExactColumnPrices", spec := "fnExactColumnPrices", unfollowed := true, recurses := true, apart := false, narrowed := true }
def FnExactColumnPricesUptoSaid : Prop := fnExactColumnPricesUptoRow.holds Try.pinned (OpenSpec.upto fnExactColumnPricesSpec)

end Rows
end Go.Proofs.Ytnnhbkhlipekeaa

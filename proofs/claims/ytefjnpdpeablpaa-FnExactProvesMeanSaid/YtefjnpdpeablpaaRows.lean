/-
  No cell of these rows narrows 'for every input' (looked for: loops, veiled, ifaces, maps, wideKeys, modest, calm, conditions, laid).
  DERIVED. THE GIVEN ROWS OF THIS SEAT. 11 by the template 'for every input the law returns true; each argument reads behind the call as it read before'; 0 by the template 'total and deterministic' (their statements: YtefjnpdpeablpaaTotals.lean).
  GIVEN WITH THE SEED: the statements are not yours to turn. If you find one false, say at which input.
  Laid BY PROGRAM, IN A SANDBOX (cutbox-rows.mjs): the forced cells as the released guide's own fill.sh prints them over the translation c77d9e0ea4965660… (all of the seat's roots in one cut). By AI agents, Wed Nov 11 2026. No macro, syntax, notation, axiom, sorry.
-/
import Derived.Test.YtefjnpdpeablpaaChecked
import GoSem.Claim
import GoSem.ClaimJoined
import GoSem.ClaimMapViews
import Derived.JoinedTies
import Derived.KernelRfl
namespace Go.Proofs.Ytefjnpdpeablpaa
/- THE CELL 'sum', in the pinned program and in every row, IS THE sha256 OF THE DUMP (.gsa) THAT YtefjnpdpeablpaaProg.lean LOADS. Nothing in Lean hashes anything: it is a label: what it is worth is what the hold of that sum in a sandbox is worth. -/
noncomputable def Try.pinned : Pinned := { name := "ytefjnpdpeablpaa", sum := "c77d9e0ea4965660dc2740af8a0219dbe28276c14840d0df4400a7a5dcbf54e9", checked := Try.checked }
namespace Rows
def none {H : Type} : Left H := { results := [], args := [] }

/-- 'laws.FnExactUnitMatrix': WHATEVER THE INPUT: true; the input reads as it did. -/
def fnExactUnitMatrixSpec : ChangeSpec := { name := "fnExactUnitMatrix", fn := fun _ => fun
  | [d] => { results := [.lit (.bool true)], args := [d] }
  | _ => none }
def fnExactUnitMatrixRow : OpenClaim := { program := "ytefjnpdpeablpaa", sum := "c77d9e0ea4965660dc2740af8a0219dbe28276c14840d0df4400a7a5dcbf54e9", func := "loop.example/g01056/laws.FnExactUnitMatrix", spec := "fnExactUnitMatrix", apart := false }
def FnExactUnitMatrixSaid : Prop := fnExactUnitMatrixRow.holds Try.pinned (OpenSpec.ofChange fnExactUnitMatrixSpec)

/-- ITS FALSE NEIGHBOUR: 'it returns false'. Refute it at one input. -/
def fnExactUnitMatrixWrong : ChangeSpec := { name := "fnExactUnitMatrix", fn := fun _ => fun
  | [d] => { results := [.lit (.bool false)], args := [d] }
  | _ => none }
def FnExactUnitMatrixWrongFalsely : Prop := fnExactUnitMatrixRow.holds Try.pinned (OpenSpec.ofChange fnExactUnitMatrixWrong)

/-- 'laws.FnExactIsMatrix': WHATEVER THE INPUT: true; the input reads as it did. -/
def fnExactIsMatrixSpec : ChangeSpec := { name := "fnExactIsMatrix", fn := fun _ => fun
  | [d] => { results := [.lit (.bool true)], args := [d] }
  | _ => none }
def fnExactIsMatrixRow : OpenClaim := { program := "ytefjnpdpeablpaa", sum := "c77d9e0ea4965660dc2740af8a0219dbe28276c14840d0df4400a7a5dcbf54e9", func := "loop.example/g01056/laws.FnExactIsMatrix", spec := "fnExactIsMatrix", unfollowed := true, recurses := true, apart := false }
def FnExactIsMatrixSaid : Prop := fnExactIsMatrixRow.holds Try.pinned (OpenSpec.ofChange fnExactIsMatrixSpec)

/-- ITS FALSE NEIGHBOUR: 'it returns false'. Refute it at one input. -/
def fnExactIsMatrixWrong : ChangeSpec := { name := "fnExactIsMatrix", fn := fun _ => fun
  | [d] => { results := [.lit (.bool false)], args := [d] }
  | _ => none }
def FnExactIsMatrixWrongFalsely : Prop := fnExactIsMatrixRow.holds Try.pinned (OpenSpec.ofChange fnExactIsMatrixWrong)

/-- 'laws.FnExactTraceOf': WHATEVER THE INPUT: true; the input reads as it did. -/
def fnExactTraceOfSpec : ChangeSpec := { name := "fnExactTraceOf", fn := fun _ => fun
  | [d] => { results := [.lit (.bool true)], args := [d] }
  | _ => none }
def fnExactTraceOfRow : OpenClaim := { program := "ytefjnpdpeablpaa", sum := "c77d9e0ea4965660dc2740af8a0219dbe28276c14840d0df4400a7a5dcbf54e9", func := "loop.example/g01056/laws.FnExactTraceOf", spec := "fnExactTraceOf", unfollowed := true, recurses := true, apart := false }
def FnExactTraceOfSaid : Prop := fnExactTraceOfRow.holds Try.pinned (OpenSpec.ofChange fnExactTraceOfSpec)

/-- ITS FALSE NEIGHBOUR: 'it returns false'. Refute it at one input. -/
def fnExactTraceOfWrong : ChangeSpec := { name := "fnExactTraceOf", fn := fun _ => fun
  | [d] => { results := [.lit (.bool false)], args := [d] }
  | _ => none }
def FnExactTraceOfWrongFalsely : Prop := fnExactTraceOfRow.holds Try.pinned (OpenSpec.ofChange fnExactTraceOfWrong)

/-- 'laws.FnExactIsRankOne': WHATEVER THE INPUT: true; the input reads as it did. -/
def fnExactIsRankOneSpec : ChangeSpec := { name := "fnExactIsRankOne", fn := fun _ => fun
  | [d] => { results := [.lit (.bool true)], args := [d] }
  | _ => none }
def fnExactIsRankOneRow : OpenClaim := { program := "ytefjnpdpeablpaa", sum := "c77d9e0ea4965660dc2740af8a0219dbe28276c14840d0df4400a7a5dcbf54e9", func := "loop.example/g01056/laws.FnExactIsRankOne", spec := "fnExactIsRankOne", unfollowed := true, recurses := true, apart := false }
def FnExactIsRankOneSaid : Prop := fnExactIsRankOneRow.holds Try.pinned (OpenSpec.ofChange fnExactIsRankOneSpec)

/-- ITS FALSE NEIGHBOUR: 'it returns false'. Refute it at one input. -/
def fnExactIsRankOneWrong : ChangeSpec := { name := "fnExactIsRankOne", fn := fun _ => fun
  | [d] => { results := [.lit (.bool false)], args := [d] }
  | _ => none }
def FnExactIsRankOneWrongFalsely : Prop := fnExactIsRankOneRow.holds Try.pinned (OpenSpec.ofChange fnExactIsRankOneWrong)

/-- 'laws.FnExactProvesMean': WHATEVER THE INPUT: true; the input reads as it did. -/
def fnExactProvesMeanSpec : ChangeSpec := { name := "fnExactProvesMean", fn := fun _ => fun
  | [d1, d2, d3] => { results := [.lit (.bool true)], args := [d1, d2, d3] }
  | _ => none }
def fnExactProvesMeanRow : OpenClaim := { program := "ytefjnpdpeablpaa", sum := "c77d9e0ea4965660dc2740af8a0219dbe28276c14840d0df4400a7a5dcbf54e9", func := "loop.example/g01056/laws.FnExactProvesMean", spec := "fnExactProvesMean", unfollowed := true, recurses := true, apart := false }
def FnExactProvesMeanSaid : Prop := fnExactProvesMeanRow.holds Try.pinned (OpenSpec.ofChange fnExactProvesMeanSpec)

/-- ITS FALSE NEIGHBOUR: 'it returns false'. Refute it at one input. -/
def fnExactProvesMeanWrong : ChangeSpec := { name := "fnExactProvesMean", fn := fun _ => fun
  | [d1, d2, d3] => { results := [.lit (.bool false)], args := [d1, d2, d3] }
  | _ => none }
def FnExactProvesMeanWrongFalsely : Prop := fnExactProvesMeanRow.holds Try.pinned (OpenSpec.ofChange fnExactProvesMeanWrong)

/-- 'laws.FnExactArePrices': WHATEVER THE INPUT: true; the input reads as it did. -/
def fnExactArePricesSpec : ChangeSpec := { name := "fnExactArePrices", fn := fun _ => fun
  | [d1, d2, d3] => { results := [.lit (.bool true)], args := [d1, d2, d3] }
  | _ => none }
def fnExactArePricesRow : OpenClaim := { program := "ytefjnpdpeablpaa", sum := "c77d9e0ea4965660dc2740af8a0219dbe28276c14840d0df4400a7a5dcbf54e9", func := "loop.example/g01056/laws.FnExactArePrices", spec := "fnExactArePrices", unfollowed := true, recurses := true, apart := false }
def FnExactArePricesSaid : Prop := fnExactArePricesRow.holds Try.pinned (OpenSpec.ofChange fnExactArePricesSpec)

/-- ITS FALSE NEIGHBOUR: 'it returns false'. Refute it at one input. -/
def fnExactArePricesWrong : ChangeSpec := { name := "fnExactArePrices", fn := fun _ => fun
  | [d1, d2, d3] => { results := [.lit (.bool false)], args := [d1, d2, d3] }
  | _ => none }
def FnExactArePricesWrongFalsely : Prop := fnExactArePricesRow.holds Try.pinned (OpenSpec.ofChange fnExactArePricesWrong)

/-- 'laws.FnExactIsSystem': WHATEVER THE INPUT: true; the input reads as it did. -/
def fnExactIsSystemSpec : ChangeSpec := { name := "fnExactIsSystem", fn := fun _ => fun
  | [d1, d2] => { results := [.lit (.bool true)], args := [d1, d2] }
  | _ => none }
def fnExactIsSystemRow : OpenClaim := { program := "ytefjnpdpeablpaa", sum := "c77d9e0ea4965660dc2740af8a0219dbe28276c14840d0df4400a7a5dcbf54e9", func := "loop.example/g01056/laws.FnExactIsSystem", spec := "fnExactIsSystem", unfollowed := true, recurses := true, apart := false }
def FnExactIsSystemSaid : Prop := fnExactIsSystemRow.holds Try.pinned (OpenSpec.ofChange fnExactIsSystemSpec)

/-- ITS FALSE NEIGHBOUR: 'it returns false'. Refute it at one input. -/
def fnExactIsSystemWrong : ChangeSpec := { name := "fnExactIsSystem", fn := fun _ => fun
  | [d1, d2] => { results := [.lit (.bool false)], args := [d1, d2] }
  | _ => none }
def FnExactIsSystemWrongFalsely : Prop := fnExactIsSystemRow.holds Try.pinned (OpenSpec.ofChange fnExactIsSystemWrong)

/-- 'laws.FnExactArePotentials': WHATEVER THE INPUT: true; the input reads as it did. -/
def fnExactArePotentialsSpec : ChangeSpec := { name := "fnExactArePotentials", fn := fun _ => fun
  | [d1, d2] => { results := [.lit (.bool true)], args := [d1, d2] }
  | _ => none }
def fnExactArePotentialsRow : OpenClaim := { program := "ytefjnpdpeablpaa", sum := "c77d9e0ea4965660dc2740af8a0219dbe28276c14840d0df4400a7a5dcbf54e9", func := "loop.example/g01056/laws.FnExactArePotentials", spec := "fnExactArePotentials", unfollowed := true, recurses := true, apart := false }
def FnExactArePotentialsSaid : Prop := fnExactArePotentialsRow.holds Try.pinned (OpenSpec.ofChange fnExactArePotentialsSpec)

/-- ITS FALSE NEIGHBOUR: 'it returns false'. Refute it at one input. -/
def fnExactArePotentialsWrong : ChangeSpec := { name := "fnExactArePotentials", fn := fun _ => fun
  | [d1, d2] => { results := [.lit (.bool false)], args := [d1, d2] }
  | _ => none }
def FnExactArePotentialsWrongFalsely : Prop := fnExactArePotentialsRow.holds Try.pinned (OpenSpec.ofChange fnExactArePotentialsWrong)

/-- 'laws.FnExactTransposeMatrix': WHATEVER THE INPUT: true; the input reads as it did. -/
def fnExactTransposeMatrixSpec : ChangeSpec := { name := "fnExactTransposeMatrix", fn := fun _ => fun
  | [d] => { results := [.lit (.bool true)], args := [d] }
  | _ => none }
def fnExactTransposeMatrixRow : OpenClaim := { program := "ytefjnpdpeablpaa", sum := "c77d9e0ea4965660dc2740af8a0219dbe28276c14840d0df4400a7a5dcbf54e9", func := "loop.example/g01056/laws.FnExactTransposeMatrix", spec := "fnExactTransposeMatrix", unfollowed := true, recurses := true, apart := false }
def FnExactTransposeMatrixSaid : Prop := fnExactTransposeMatrixRow.holds Try.pinned (OpenSpec.ofChange fnExactTransposeMatrixSpec)

/-- ITS FALSE NEIGHBOUR: 'it returns false'. Refute it at one input. -/
def fnExactTransposeMatrixWrong : ChangeSpec := { name := "fnExactTransposeMatrix", fn := fun _ => fun
  | [d] => { results := [.lit (.bool false)], args := [d] }
  | _ => none }
def FnExactTransposeMatrixWrongFalsely : Prop := fnExactTransposeMatrixRow.holds Try.pinned (OpenSpec.ofChange fnExactTransposeMatrixWrong)

/-- 'laws.FnExactOuterProduct': WHATEVER THE INPUT: true; the input reads as it did. -/
def fnExactOuterProductSpec : ChangeSpec := { name := "fnExactOuterProduct", fn := fun _ => fun
  | [d1, d2] => { results := [.lit (.bool true)], args := [d1, d2] }
  | _ => none }
def fnExactOuterProductRow : OpenClaim := { program := "ytefjnpdpeablpaa", sum := "c77d9e0ea4965660dc2740af8a0219dbe28276c14840d0df4400a7a5dcbf54e9", func := "loop.example/g01056/laws.FnExactOuterProduct", spec := "fnExactOuterProduct", unfollowed := true, recurses := true, apart := false }
def FnExactOuterProductSaid : Prop := fnExactOuterProductRow.holds Try.pinned (OpenSpec.ofChange fnExactOuterProductSpec)

/-- ITS FALSE NEIGHBOUR: 'it returns false'. Refute it at one input. -/
def fnExactOuterProductWrong : ChangeSpec := { name := "fnExactOuterProduct", fn := fun _ => fun
  | [d1, d2] => { results := [.lit (.bool false)], args := [d1, d2] }
  | _ => none }
def FnExactOuterProductWrongFalsely : Prop := fnExactOuterProductRow.holds Try.pinned (OpenSpec.ofChange fnExactOuterProductWrong)

/-- 'laws.FnExactCostOfWay': WHATEVER THE INPUT: true; the input reads as it did. -/
def fnExactCostOfWaySpec : ChangeSpec := { name := "fnExactCostOfWay", fn := fun _ => fun
  | [d1, d2] => { results := [.lit (.bool true)], args := [d1, d2] }
  | _ => none }
def fnExactCostOfWayRow : OpenClaim := { program := "ytefjnpdpeablpaa", sum := "c77d9e0ea4965660dc2740af8a0219dbe28276c14840d0df4400a7a5dcbf54e9", func := "loop.example/g01056/laws.FnExactCostOfWay", spec := "fnExactCostOfWay", unfollowed := true, recurses := true, apart := false }
def FnExactCostOfWaySaid : Prop := fnExactCostOfWayRow.holds Try.pinned (OpenSpec.ofChange fnExactCostOfWaySpec)

/-- ITS FALSE NEIGHBOUR: 'it returns false'. Refute it at one input. -/
def fnExactCostOfWayWrong : ChangeSpec := { name := "fnExactCostOfWay", fn := fun _ => fun
  | [d1, d2] => { results := [.lit (.bool false)], args := [d1, d2] }
  | _ => none }
def FnExactCostOfWayWrongFalsely : Prop := fnExactCostOfWayRow.holds Try.pinned (OpenSpec.ofChange fnExactCostOfWayWrong)

/- THE SECOND FORM. 'bulk': how many values and letters a reading holds, each counted each time it is reached (what is shared counts as often as it is met; a slice's spare places count too). A statement '..UptoSaid' is the law's where the arguments, and the package variables that the reading takes, are together of bulk at most 1048576: NARROWER than '..Said'. Prove '..Said' where nothing that the law and all that it calls make is longer than what came in: it says more and counts as full. Else prove '..UptoSaid'. A law counts once. -/
mutual
def uptoBulk {H : Type} : DataW H → Nat
  | .lit (.string bytes) => bytes.length + 1
  | .lit _ => 1
  | .nil => 1
  | .ptr d => uptoBulk d + 1
  | .slice elems spare => uptoBulkAll elems + uptoBulkAll spare + 1
  | .agg parts => uptoBulkAll parts + 1
  | .iface _ d => uptoBulk d + 1
  | .map entries => uptoBulkEntries entries + 1
  | .held _ => 1
def uptoBulkAll {H : Type} : List (DataW H) → Nat
  | [] => 0
  | d :: r => uptoBulk d + uptoBulkAll r
def uptoBulkEntries {H : Type} : List (Lit × DataW H) → Nat
  | [] => 0
  | x :: r => uptoBulkEntry x + uptoBulkEntries r
def uptoBulkEntry {H : Type} : Lit × DataW H → Nat
  | (.string bytes, d) => bytes.length + uptoBulk d + 1
  | (_, d) => uptoBulk d + 1
 end
def uptoSmall : (H : Type) → List (DataW H) → Bool := fun _ ds => decide (uptoBulkAll ds ≤ 1048576)
def OpenSpec.upto (s : _root_.Go.ChangeSpec) : _root_.Go.OpenSpec := { _root_.Go.OpenSpec.ofChange s with cond := some uptoSmall }

/-- 'laws.FnExactUnitMatrix', WHERE WHAT IT READS IS OF BULK AT MOST 1048576: true; the input reads as it did. -/
def fnExactUnitMatrixUptoRow : OpenClaim := { program := "ytefjnpdpeablpaa", sum := "c77d9e0ea4965660dc2740af8a0219dbe28276c14840d0df4400a7a5dcbf54e9", func := "loop.example/g01056/laws.FnExactUnitMatrix", spec := "fnExactUnitMatrix", apart := false, narrowed := true }
def FnExactUnitMatrixUptoSaid : Prop := fnExactUnitMatrixUptoRow.holds Try.pinned (OpenSpec.upto fnExactUnitMatrixSpec)

/-- 'laws.FnExactIsMatrix', WHERE WHAT IT READS IS OF BULK AT MOST 1048576: true; the input reads as it did. -/
def fnExactIsMatrixUptoRow : OpenClaim := { program := "ytefjnpdpeablpaa", sum := "c77d9e0ea4965660dc2740af8a0219dbe28276c14840d0df4400a7a5dcbf54e9", func := "loop.example/g01056/laws.FnExactIsMatrix", spec := "fnExactIsMatrix", unfollowed := true, recurses := true, apart := false, narrowed := true }
def FnExactIsMatrixUptoSaid : Prop := fnExactIsMatrixUptoRow.holds Try.pinned (OpenSpec.upto fnExactIsMatrixSpec)

/-- 'laws.FnExactTraceOf', WHERE WHAT IT READS IS OF BULK AT MOST 1048576: true; the input reads as it did. -/
def fnExactTraceOfUptoRow : OpenClaim := { program := "ytefjnpdpeablpaa", sum := "c77d9e0ea4965660dc2740af8a0219dbe28276c14840d0df4400a7a5dcbf54e9", func := "loop.example/g01056/laws.FnExactTraceOf", spec := "fnExactTraceOf", unfollowed := true, recurses := true, apart := false, narrowed := true }
def FnExactTraceOfUptoSaid : Prop := fnExactTraceOfUptoRow.holds Try.pinned (OpenSpec.upto fnExactTraceOfSpec)

/-- 'laws.FnExactIsRankOne', WHERE WHAT IT READS IS OF BULK AT MOST 1048576: true; the input reads as it did. -/
def fnExactIsRankOneUptoRow : OpenClaim := { program := "ytefjnpdpeablpaa", sum := "c77d9e0ea4965660dc2740af8a0219dbe28276c14840d0df4400a7a5dcbf54e9", func := "loop.example/g01056/laws.FnExactIsRankOne", spec := "fnExactIsRankOne", unfollowed := true, recurses := true, apart := false, narrowed := true }
def FnExactIsRankOneUptoSaid : Prop := fnExactIsRankOneUptoRow.holds Try.pinned (OpenSpec.upto fnExactIsRankOneSpec)

/-- 'laws.FnExactProvesMean', WHERE WHAT IT READS IS OF BULK AT MOST 1048576: true; the input reads as it did. -/
def fnExactProvesMeanUptoRow : OpenClaim := { program := "ytefjnpdpeablpaa", sum := "c77d9e0ea4965660dc2740af8a0219dbe28276c14840d0df4400a7a5dcbf54e9", func := "loop.example/g01056/laws.FnExactProvesMean", spec := "fnExactProvesMean", unfollowed := true, recurses := true, apart := false, narrowed := true }
def FnExactProvesMeanUptoSaid : Prop := fnExactProvesMeanUptoRow.holds Try.pinned (OpenSpec.upto fnExactProvesMeanSpec)

/-- 'laws.FnExactArePrices', WHERE WHAT IT READS IS OF BULK AT MOST 1048576: true; the input reads as it did. -/
def fnExactArePricesUptoRow : OpenClaim := { program := "ytefjnpdpeablpaa", sum := "c77d9e0ea4965660dc2740af8a0219dbe28276c14840d0df4400a7a5dcbf54e9", func := "loop.example/g01056/laws.FnExactArePrices", spec := "fnExactArePrices", unfollowed := true, recurses := true, apart := false, narrowed := true }
def FnExactArePricesUptoSaid : Prop := fnExactArePricesUptoRow.holds Try.pinned (OpenSpec.upto fnExactArePricesSpec)

/-- 'laws.FnExactIsSystem', WHERE WHAT IT READS IS OF BULK AT MOST 1048576: true; the input reads as it did. -/
def fnExactIsSystemUptoRow : OpenClaim := { program := "ytefjnpdpeablpaa", sum := "c77d9e0ea4965660dc2740af8a0219dbe28276c14840d0df4400a7a5dcbf54e9", func := "loop.example/g01056/laws.FnExactIsSystem", spec := "fnExactIsSystem", unfollowed := true, recurses := true, apart := false, narrowed := true }
def FnExactIsSystemUptoSaid : Prop := fnExactIsSystemUptoRow.holds Try.pinned (OpenSpec.upto fnExactIsSystemSpec)

/-- 'laws.FnExactArePotentials', WHERE WHAT IT READS IS OF BULK AT MOST 1048576: true; the input reads as it did. -/
def fnExactArePotentialsUptoRow : OpenClaim := { program := "ytefjnpdpeablpaa", sum := "c77d9e0ea4965660dc2740af8a0219dbe28276c14840d0df4400a7a5dcbf54e9", func := "loop.example/g01056/laws.FnExactArePotentials", spec := "fnExactArePotentials", unfollowed := true, recurses := true, apart := false, narrowed := true }
def FnExactArePotentialsUptoSaid : Prop := fnExactArePotentialsUptoRow.holds Try.pinned (OpenSpec.upto fnExactArePotentialsSpec)

/-- 'laws.FnExactTransposeMatrix', WHERE WHAT IT READS IS OF BULK AT MOST 1048576: true; the input reads as it did. -/
def fnExactTransposeMatrixUptoRow : OpenClaim := { program := "ytefjnpdpeablpaa", sum := "c77d9e0ea4965660dc2740af8a0219dbe28276c14840d0df4400a7a5dcbf54e9", func := "loop.example/g01056/laws.FnExactTransposeMatrix", spec := "fnExactTransposeMatrix", unfollowed := true, recurses := true, apart := false, narrowed := true }
def FnExactTransposeMatrixUptoSaid : Prop := fnExactTransposeMatrixUptoRow.holds Try.pinned (OpenSpec.upto fnExactTransposeMatrixSpec)

/-- 'laws.FnExactOuterProduct', WHERE WHAT IT READS IS OF BULK AT MOST 1048576: true; the input reads as it did. -/
def fnExactOuterProductUptoRow : OpenClaim := { program := "ytefjnpdpeablpaa", sum := "c77d9e0ea4965660dc2740af8a0219dbe28276c14840d0df4400a7a5dcbf54e9", func := "loop.example/g01056/laws.FnExactOuterProduct", spec := "fnExactOuterProduct", unfollowed := true, recurses := true, apart := false, narrowed := true }
def FnExactOuterProductUptoSaid : Prop := fnExactOuterProductUptoRow.holds Try.pinned (OpenSpec.upto fnExactOuterProductSpec)

/-- 'laws.FnExactCostOfWay', WHERE WHAT IT READS IS OF BULK AT MOST 1048576: true; the input reads as it did. -/
def fnExactCostOfWayUptoRow : OpenClaim := { program := "ytefjnpdpeablpaa", sum := "c77d9e0ea4965660dc2740af8a0219dbe28276c14840d0df4400a7a5dcbf54e9", func := "loop.example/g01056/laws.FnExactCostOfWay", spec := "fnExactCostOfWay", unfollowed := true, recurses := true, apart := false, narrowed := true }
def FnExactCostOfWayUptoSaid : Prop := fnExactCostOfWayUptoRow.holds Try.pinned (OpenSpec.upto fnExactCostOfWaySpec)

end Rows
end Go.Proofs.Ytefjnpdpeablpaa

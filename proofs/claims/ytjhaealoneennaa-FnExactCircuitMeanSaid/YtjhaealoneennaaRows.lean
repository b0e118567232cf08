/-
  No cell of these rows narrows 'for every input' (looked for: loops, veiled, ifaces, maps, wideKeys, modest, calm, conditions, laid).
  DERIVED. THE GIVEN ROWS OF THIS SEAT. 11 by the template 'for every input the law returns true; each argument reads behind the call as it read before'; 0 by the template 'total and deterministic' (their statements: YtjhaealoneennaaTotals.lean).
  GIVEN WITH THE SEED: the statements are not yours to turn. If you find one false, say at which input.
  Laid BY PROGRAM, IN A SANDBOX (cutbox-rows.mjs): the forced cells as the released guide's own fill.sh prints them over the translation ff078b5c8d401fb0… (all of the seat's roots in one cut). By AI agents, Wed Nov 11 2026. No macro, syntax, notation, axiom, sorry.
-/
import Derived.Test.YtjhaealoneennaaChecked
import GoSem.Claim
import GoSem.ClaimJoined
import GoSem.ClaimMapViews
import Derived.JoinedTies
import Derived.KernelRfl
namespace Go.Proofs.Ytjhaealoneennaa
/- THE CELL 'sum', in the pinned program and in every row, IS THE sha256 OF THE DUMP (.gsa) THAT YtjhaealoneennaaProg.lean LOADS. Nothing in Lean hashes anything: it is a label: what it is worth is what the hold of that sum in a sandbox is worth. -/
noncomputable def Try.pinned : Pinned := { name := "ytjhaealoneennaa", sum := "ff078b5c8d401fb0a55934cda30ddf4c9d66422d76675c8758607a19a86a1053", checked := Try.checked }
namespace Rows
def none {H : Type} : Left H := { results := [], args := [] }

/-- 'laws.FnExactPotentialsFor': WHATEVER THE INPUT: true; the input reads as it did. -/
def fnExactPotentialsForSpec : ChangeSpec := { name := "fnExactPotentialsFor", fn := fun _ => fun
  | [d] => { results := [.lit (.bool true)], args := [d] }
  | _ => none }
def fnExactPotentialsForRow : OpenClaim := { program := "ytjhaealoneennaa", sum := "ff078b5c8d401fb0a55934cda30ddf4c9d66422d76675c8758607a19a86a1053", func := "loop.example/g01056/laws.FnExactPotentialsFor", spec := "fnExactPotentialsFor", unfollowed := true, recurses := true, apart := false }
def FnExactPotentialsForSaid : Prop := fnExactPotentialsForRow.holds Try.pinned (OpenSpec.ofChange fnExactPotentialsForSpec)

/-- ITS FALSE NEIGHBOUR: 'it returns false'. Refute it at one input. -/
def fnExactPotentialsForWrong : ChangeSpec := { name := "fnExactPotentialsFor", fn := fun _ => fun
  | [d] => { results := [.lit (.bool false)], args := [d] }
  | _ => none }
def FnExactPotentialsForWrongFalsely : Prop := fnExactPotentialsForRow.holds Try.pinned (OpenSpec.ofChange fnExactPotentialsForWrong)

/-- 'laws.FnExactCheapestWay': WHATEVER THE INPUT: true; the input reads as it did. -/
def fnExactCheapestWaySpec : ChangeSpec := { name := "fnExactCheapestWay", fn := fun _ => fun
  | [d1, d2, d3] => { results := [.lit (.bool true)], args := [d1, d2, d3] }
  | _ => none }
def fnExactCheapestWayRow : OpenClaim := { program := "ytjhaealoneennaa", sum := "ff078b5c8d401fb0a55934cda30ddf4c9d66422d76675c8758607a19a86a1053", func := "loop.example/g01056/laws.FnExactCheapestWay", spec := "fnExactCheapestWay", unfollowed := true, recurses := true, apart := false }
def FnExactCheapestWaySaid : Prop := fnExactCheapestWayRow.holds Try.pinned (OpenSpec.ofChange fnExactCheapestWaySpec)

/-- ITS FALSE NEIGHBOUR: 'it returns false'. Refute it at one input. -/
def fnExactCheapestWayWrong : ChangeSpec := { name := "fnExactCheapestWay", fn := fun _ => fun
  | [d1, d2, d3] => { results := [.lit (.bool false)], args := [d1, d2, d3] }
  | _ => none }
def FnExactCheapestWayWrongFalsely : Prop := fnExactCheapestWayRow.holds Try.pinned (OpenSpec.ofChange fnExactCheapestWayWrong)

/-- 'laws.FnExactIsEigenvector': WHATEVER THE INPUT: true; the input reads as it did. -/
def fnExactIsEigenvectorSpec : ChangeSpec := { name := "fnExactIsEigenvector", fn := fun _ => fun
  | [d1, d2, d3] => { results := [.lit (.bool true)], args := [d1, d2, d3] }
  | _ => none }
def fnExactIsEigenvectorRow : OpenClaim := { program := "ytjhaealoneennaa", sum := "ff078b5c8d401fb0a55934cda30ddf4c9d66422d76675c8758607a19a86a1053", func := "loop.example/g01056/laws.FnExactIsEigenvector", spec := "fnExactIsEigenvector", unfollowed := true, recurses := true, apart := false }
def FnExactIsEigenvectorSaid : Prop := fnExactIsEigenvectorRow.holds Try.pinned (OpenSpec.ofChange fnExactIsEigenvectorSpec)

/-- ITS FALSE NEIGHBOUR: 'it returns false'. Refute it at one input. -/
def fnExactIsEigenvectorWrong : ChangeSpec := { name := "fnExactIsEigenvector", fn := fun _ => fun
  | [d1, d2, d3] => { results := [.lit (.bool false)], args := [d1, d2, d3] }
  | _ => none }
def FnExactIsEigenvectorWrongFalsely : Prop := fnExactIsEigenvectorRow.holds Try.pinned (OpenSpec.ofChange fnExactIsEigenvectorWrong)

/-- 'laws.FnExactIsStrong': WHATEVER THE INPUT: true; the input reads as it did. -/
def fnExactIsStrongSpec : ChangeSpec := { name := "fnExactIsStrong", fn := fun _ => fun
  | [d] => { results := [.lit (.bool true)], args := [d] }
  | _ => none }
def fnExactIsStrongRow : OpenClaim := { program := "ytjhaealoneennaa", sum := "ff078b5c8d401fb0a55934cda30ddf4c9d66422d76675c8758607a19a86a1053", func := "loop.example/g01056/laws.FnExactIsStrong", spec := "fnExactIsStrong", unfollowed := true, recurses := true, apart := false }
def FnExactIsStrongSaid : Prop := fnExactIsStrongRow.holds Try.pinned (OpenSpec.ofChange fnExactIsStrongSpec)

/-- ITS FALSE NEIGHBOUR: 'it returns false'. Refute it at one input. -/
def fnExactIsStrongWrong : ChangeSpec := { name := "fnExactIsStrong", fn := fun _ => fun
  | [d] => { results := [.lit (.bool false)], args := [d] }
  | _ => none }
def FnExactIsStrongWrongFalsely : Prop := fnExactIsStrongRow.holds Try.pinned (OpenSpec.ofChange fnExactIsStrongWrong)

/-- 'laws.FnExactCircuitMean': WHATEVER THE INPUT: true; the input reads as it did. -/
def fnExactCircuitMeanSpec : ChangeSpec := { name := "fnExactCircuitMean", fn := fun _ => fun
  | [d1, d2] => { results := [.lit (.bool true)], args := [d1, d2] }
  | _ => none }
def fnExactCircuitMeanRow : OpenClaim := { program := "ytjhaealoneennaa", sum := "ff078b5c8d401fb0a55934cda30ddf4c9d66422d76675c8758607a19a86a1053", func := "loop.example/g01056/laws.FnExactCircuitMean", spec := "fnExactCircuitMean", unfollowed := true, recurses := true, apart := false }
def FnExactCircuitMeanSaid : Prop := fnExactCircuitMeanRow.holds Try.pinned (OpenSpec.ofChange fnExactCircuitMeanSpec)

/-- ITS FALSE NEIGHBOUR: 'it returns false'. Refute it at one input. -/
def fnExactCircuitMeanWrong : ChangeSpec := { name := "fnExactCircuitMean", fn := fun _ => fun
  | [d1, d2] => { results := [.lit (.bool false)], args := [d1, d2] }
  | _ => none }
def FnExactCircuitMeanWrongFalsely : Prop := fnExactCircuitMeanRow.holds Try.pinned (OpenSpec.ofChange fnExactCircuitMeanWrong)

/-- 'laws.FnExactLeastMean': WHATEVER THE INPUT: true; the input reads as it did. -/
def fnExactLeastMeanSpec : ChangeSpec := { name := "fnExactLeastMean", fn := fun _ => fun
  | [d] => { results := [.lit (.bool true)], args := [d] }
  | _ => none }
def fnExactLeastMeanRow : OpenClaim := { program := "ytjhaealoneennaa", sum := "ff078b5c8d401fb0a55934cda30ddf4c9d66422d76675c8758607a19a86a1053", func := "loop.example/g01056/laws.FnExactLeastMean", spec := "fnExactLeastMean", unfollowed := true, recurses := true, apart := false }
def FnExactLeastMeanSaid : Prop := fnExactLeastMeanRow.holds Try.pinned (OpenSpec.ofChange fnExactLeastMeanSpec)

/-- ITS FALSE NEIGHBOUR: 'it returns false'. Refute it at one input. -/
def fnExactLeastMeanWrong : ChangeSpec := { name := "fnExactLeastMean", fn := fun _ => fun
  | [d] => { results := [.lit (.bool false)], args := [d] }
  | _ => none }
def FnExactLeastMeanWrongFalsely : Prop := fnExactLeastMeanRow.holds Try.pinned (OpenSpec.ofChange fnExactLeastMeanWrong)

/-- 'laws.FnExactLeastCircuit': WHATEVER THE INPUT: true; the input reads as it did. -/
def fnExactLeastCircuitSpec : ChangeSpec := { name := "fnExactLeastCircuit", fn := fun _ => fun
  | [d] => { results := [.lit (.bool true)], args := [d] }
  | _ => none }
def fnExactLeastCircuitRow : OpenClaim := { program := "ytjhaealoneennaa", sum := "ff078b5c8d401fb0a55934cda30ddf4c9d66422d76675c8758607a19a86a1053", func := "loop.example/g01056/laws.FnExactLeastCircuit", spec := "fnExactLeastCircuit", unfollowed := true, recurses := true, apart := false }
def FnExactLeastCircuitSaid : Prop := fnExactLeastCircuitRow.holds Try.pinned (OpenSpec.ofChange fnExactLeastCircuitSpec)

/-- ITS FALSE NEIGHBOUR: 'it returns false'. Refute it at one input. -/
def fnExactLeastCircuitWrong : ChangeSpec := { name := "fnExactLeastCircuit", fn := fun _ => fun
  | [d] => { results := [.lit (.bool false)], args := [d] }
  | _ => none }
def FnExactLeastCircuitWrongFalsely : Prop := fnExactLeastCircuitRow.holds Try.pinned (OpenSpec.ofChange fnExactLeastCircuitWrong)

/-- 'laws.FnExactPotentialOf': WHATEVER THE INPUT: true; the input reads as it did. -/
def fnExactPotentialOfSpec : ChangeSpec := { name := "fnExactPotentialOf", fn := fun _ => fun
  | [d1, d2] => { results := [.lit (.bool true)], args := [d1, d2] }
  | _ => none }
def fnExactPotentialOfRow : OpenClaim := { program := "ytjhaealoneennaa", sum := "ff078b5c8d401fb0a55934cda30ddf4c9d66422d76675c8758607a19a86a1053", func := "loop.example/g01056/laws.FnExactPotentialOf", spec := "fnExactPotentialOf", unfollowed := true, recurses := true, apart := false }
def FnExactPotentialOfSaid : Prop := fnExactPotentialOfRow.holds Try.pinned (OpenSpec.ofChange fnExactPotentialOfSpec)

/-- ITS FALSE NEIGHBOUR: 'it returns false'. Refute it at one input. -/
def fnExactPotentialOfWrong : ChangeSpec := { name := "fnExactPotentialOf", fn := fun _ => fun
  | [d1, d2] => { results := [.lit (.bool false)], args := [d1, d2] }
  | _ => none }
def FnExactPotentialOfWrongFalsely : Prop := fnExactPotentialOfRow.holds Try.pinned (OpenSpec.ofChange fnExactPotentialOfWrong)

/-- 'laws.FnExactCriticalNodes': WHATEVER THE INPUT: true; the input reads as it did. -/
def fnExactCriticalNodesSpec : ChangeSpec := { name := "fnExactCriticalNodes", fn := fun _ => fun
  | [d] => { results := [.lit (.bool true)], args := [d] }
  | _ => none }
def fnExactCriticalNodesRow : OpenClaim := { program := "ytjhaealoneennaa", sum := "ff078b5c8d401fb0a55934cda30ddf4c9d66422d76675c8758607a19a86a1053", func := "loop.example/g01056/laws.FnExactCriticalNodes", spec := "fnExactCriticalNodes", unfollowed := true, recurses := true, apart := false }
def FnExactCriticalNodesSaid : Prop := fnExactCriticalNodesRow.holds Try.pinned (OpenSpec.ofChange fnExactCriticalNodesSpec)

/-- ITS FALSE NEIGHBOUR: 'it returns false'. Refute it at one input. -/
def fnExactCriticalNodesWrong : ChangeSpec := { name := "fnExactCriticalNodes", fn := fun _ => fun
  | [d] => { results := [.lit (.bool false)], args := [d] }
  | _ => none }
def FnExactCriticalNodesWrongFalsely : Prop := fnExactCriticalNodesRow.holds Try.pinned (OpenSpec.ofChange fnExactCriticalNodesWrong)

/-- 'laws.FnExactEigenvalueOf': WHATEVER THE INPUT: true; the input reads as it did. -/
def fnExactEigenvalueOfSpec : ChangeSpec := { name := "fnExactEigenvalueOf", fn := fun _ => fun
  | [d] => { results := [.lit (.bool true)], args := [d] }
  | _ => none }
def fnExactEigenvalueOfRow : OpenClaim := { program := "ytjhaealoneennaa", sum := "ff078b5c8d401fb0a55934cda30ddf4c9d66422d76675c8758607a19a86a1053", func := "loop.example/g01056/laws.FnExactEigenvalueOf", spec := "fnExactEigenvalueOf", unfollowed := true, recurses := true, apart := false }
def FnExactEigenvalueOfSaid : Prop := fnExactEigenvalueOfRow.holds Try.pinned (OpenSpec.ofChange fnExactEigenvalueOfSpec)

/-- ITS FALSE NEIGHBOUR: 'it returns false'. Refute it at one input. -/
def fnExactEigenvalueOfWrong : ChangeSpec := { name := "fnExactEigenvalueOf", fn := fun _ => fun
  | [d] => { results := [.lit (.bool false)], args := [d] }
  | _ => none }
def FnExactEigenvalueOfWrongFalsely : Prop := fnExactEigenvalueOfRow.holds Try.pinned (OpenSpec.ofChange fnExactEigenvalueOfWrong)

/-- 'laws.FnExactEigenvectorOf': WHATEVER THE INPUT: true; the input reads as it did. -/
def fnExactEigenvectorOfSpec : ChangeSpec := { name := "fnExactEigenvectorOf", fn := fun _ => fun
  | [d] => { results := [.lit (.bool true)], args := [d] }
  | _ => none }
def fnExactEigenvectorOfRow : OpenClaim := { program := "ytjhaealoneennaa", sum := "ff078b5c8d401fb0a55934cda30ddf4c9d66422d76675c8758607a19a86a1053", func := "loop.example/g01056/laws.FnExactEigenvectorOf", spec := "fnExactEigenvectorOf", unfollowed := true, recurses := true, apart := false }
def FnExactEigenvectorOfSaid : Prop := fnExactEigenvectorOfRow.holds Try.pinned (OpenSpec.ofChange fnExactEigenvectorOfSpec)

/-- ITS FALSE NEIGHBOUR: 'it returns false'. Refute it at one input. -/
def fnExactEigenvectorOfWrong : ChangeSpec := { name := "fnExactEigenvectorOf", fn := fun _ => fun
  | [d] => { results := [.lit (.bool false)], args := [d] }
  | _ => none }
def FnExactEigenvectorOfWrongFalsely : Prop := fnExactEigenvectorOfRow.holds Try.pinned (OpenSpec.ofChange fnExactEigenvectorOfWrong)

/- THE SECOND FORM. 'bulk': how many values and letters a reading holds, each counted each time it is reached (what is shared counts as often as it is met; a slice's spare places count too). A statement '..UptoSaid' is the law's where the arguments, and the package variables that the reading takes, are together of bulk at most 1048576: NARROWER than '..Said'. Prove '..Said' where nothing that the law and all that it calls make is longer than what came in: it says more and counts as full. Else prove '..UptoSaid'. A law counts once. -/
mutual
def uptoBulk {H : Type} : DataW H → Nat
  | .lit (.string bytes) => bytes.length + 1
  | .lit _ => 1
  | .nil => 1
  | .ptr d => uptoBulk d + 1
  | .slice elems spare => uptoBulkAll elems + uptoBulkAll spare + 1
  | .agg parts => uptoBulkAll parts + 1
  | .iface _ d => uptoBulk d + 1
  | .map entries => uptoBulkEntries entries + 1
  | .held _ => 1
def uptoBulkAll {H : Type} : List (DataW H) → Nat
  | [] => 0
  | d :: r => uptoBulk d + uptoBulkAll r
def uptoBulkEntries {H : Type} : List (Lit × DataW H) → Nat
  | [] => 0
  | x :: r => uptoBulkEntry x + uptoBulkEntries r
def uptoBulkEntry {H : Type} : Lit × DataW H → Nat
  | (.string bytes, d) => bytes.length + uptoBulk d + 1
  | (_, d) => uptoBulk d + 1
 end
def uptoSmall : (H : Type) → List (DataW H) → Bool := fun _ ds => decide (uptoBulkAll ds ≤ 1048576)
def OpenSpec.upto (s : _root_.Go.ChangeSpec) : _root_.Go.OpenSpec := { _root_.Go.OpenSpec.ofChange s with cond := some uptoSmall }

/-- 'laws.FnExactPotentialsFor', WHERE WHAT IT READS IS OF BULK AT MOST 1048576: true; the input reads as it did. -/
def fnExactPotentialsForUptoRow : OpenClaim := { program := "ytjhaealoneennaa", sum := "ff078b5c8d401fb0a55934cda30ddf4c9d66422d76675c8758607a19a86a1053", func := "loop.example/g01056/laws.FnExactPotentialsFor", spec := "fnExactPotentialsFor", unfollowed := true, recurses := true, apart := false, narrowed := true }
def FnExactPotentialsForUptoSaid : Prop := fnExactPotentialsForUptoRow.holds Try.pinned (OpenSpec.upto fnExactPotentialsForSpec)

/-- 'laws.FnExactCheapestWay', WHERE WHAT IT READS IS OF BULK AT MOST 1048576: true; the input reads as it did. -/
def fnExactCheapestWayUptoRow : OpenClaim := { program := "ytjhaealoneennaa", sum := "ff078b5c8d401fb0a55934cda30ddf4c9d66422d76675c8758607a19a86a1053", func := "loop.example/g01056/laws.FnExactCheapestWay", spec := "fnExactCheapestWay", unfollowed := true, recurses := true, apart := false, narrowed := true }
def FnExactCheapestWayUptoSaid : Prop := fnExactCheapestWayUptoRow.holds Try.pinned (OpenSpec.upto fnExactCheapestWaySpec)

/-- 'laws.FnExactIsEigenvector', WHERE WHAT IT READS IS OF BULK AT MOST 1048576: true; the input reads as it did. -/
def fnExactIsEigenvectorUptoRow : OpenClaim := { program := "ytjhaealoneennaa", sum := "ff078b5c8d401fb0a55934cda30ddf4c9d66422d76675c8758607a19a86a1053", func := "loop.example/g01056/laws.FnExactIsEigenvector", spec := "fnExactIsEigenvector", unfollowed := true, recurses := true, apart := false, narrowed := true }
def FnExactIsEigenvectorUptoSaid : Prop := fnExactIsEigenvectorUptoRow.holds Try.pinned (OpenSpec.upto fnExactIsEigenvectorSpec)

/-- 'laws.FnExactIsStrong', WHERE WHAT IT READS IS OF BULK AT MOST 1048576: true; the input reads as it did. -/
def fnExactIsStrongUptoRow : OpenClaim := { program := "ytjhaealoneennaa", sum := "ff078b5c8d401fb0a55934cda30ddf4c9d66422d76675c8758607a19a86a1053", func := "loop.example/g01056/laws.FnExactIsStrong", spec := "fnExactIsStrong", unfollowed := true, recurses := true, apart := false, narrowed := true }
def FnExactIsStrongUptoSaid : Prop := fnExactIsStrongUptoRow.holds Try.pinned (OpenSpec.upto fnExactIsStrongSpec)

/-- 'laws.FnExactCircuitMean', WHERE WHAT IT READS IS OF BULK AT MOST 1048576: true; the input reads as it did. -/
def fnExactCircuitMeanUptoRow : OpenClaim := { program := "ytjhaealoneennaa", sum := "ff078b5c8d401fb0a55934cda30ddf4c9d66422d76675c8758607a19a86a1053", func := "loop.example/g01056/laws.FnExactCircuitMean", spec := "fnExactCircuitMean", unfollowed := true, recurses := true, apart := false, narrowed := true }
def FnExactCircuitMeanUptoSaid : Prop := fnExactCircuitMeanUptoRow.holds Try.pinned (OpenSpec.upto fnExactCircuitMeanSpec)

/-- 'laws.FnExactLeastMean', WHERE WHAT IT READS IS OF BULK AT MOST 1048576: true; the input reads as it did. -/
def fnExactLeastMeanUptoRow : OpenClaim := { program := "ytjhaealoneennaa", sum := "ff078b5c8d401fb0a55934cda30ddf4c9d66422d76675c8758607a19a86a1053", func := "loop.example/g01056/laws.FnExactLeastMean", spec := "fnExactLeastMean", unfollowed := true, recurses := true, apart := false, narrowed := true }
def FnExactLeastMeanUptoSaid : Prop := fnExactLeastMeanUptoRow.holds Try.pinned (OpenSpec.upto fnExactLeastMeanSpec)

/-- 'laws.FnExactLeastCircuit', WHERE WHAT IT READS IS OF BULK AT MOST 1048576: true; the input reads as it did. -/
def fnExactLeastCircuitUptoRow : OpenClaim := { program := "ytjhaealoneennaa", sum := "ff078b5c8d401fb0a55934cda30ddf4c9d66422d76675c8758607a19a86a1053", func := "loop.example/g01056/laws.FnExactLeastCircuit", spec := "fnExactLeastCircuit", unfollowed := true, recurses := true, apart := false, narrowed := true }
def FnExactLeastCircuitUptoSaid : Prop := fnExactLeastCircuitUptoRow.holds Try.pinned (OpenSpec.upto fnExactLeastCircuitSpec)

/-- 'laws.FnExactPotentialOf', WHERE WHAT IT READS IS OF BULK AT MOST 1048576: true; the input reads as it did. -/
def fnExactPotentialOfUptoRow : OpenClaim := { program := "ytjhaealoneennaa", sum := "ff078b5c8d401fb0a55934cda30ddf4c9d66422d76675c8758607a19a86a1053", func := "loop.example/g01056/laws.FnExactPotentialOf", spec := "fnExactPotentialOf", unfollowed := true, recurses := true, apart := false, narrowed := true }
def FnExactPotentialOfUptoSaid : Prop := fnExactPotentialOfUptoRow.holds Try.pinned (OpenSpec.upto fnExactPotentialOfSpec)

/-- 'laws.FnExactCriticalNodes', WHERE WHAT IT READS IS OF BULK AT MOST 1048576: true; the input reads as it did. -/
def fnExactCriticalNodesUptoRow : OpenClaim := { program := "ytjhaealoneennaa", sum := "ff078b5c8d401fb0a55934cda30ddf4c9d66422d76675c8758607a19a86a1053", func := "loop.example/g01056/laws.FnExactCriticalNodes", spec := "fnExactCriticalNodes", unfollowed := true, recurses := true, apart := false, narrowed := true }
def FnExactCriticalNodesUptoSaid : Prop := fnExactCriticalNodesUptoRow.holds Try.pinned (OpenSpec.upto fnExactCriticalNodesSpec)

/-- 'laws.FnExactEigenvalueOf', WHERE WHAT IT READS IS OF BULK AT MOST 1048576: true; the input reads as it did. -/
def fnExactEigenvalueOfUptoRow : OpenClaim := { program := "ytjhaealoneennaa", sum := "ff078b5c8d401fb0a55934cda30ddf4c9d66422d76675c8758607a19a86a1053", func := "loop.example/g01056/laws.FnExactEigenvalueOf", spec := "fnExactEigenvalueOf", unfollowed := true, recurses := true, apart := false, narrowed := true }
def FnExactEigenvalueOfUptoSaid : Prop := fnExactEigenvalueOfUptoRow.holds Try.pinned (OpenSpec.upto fnExactEigenvalueOfSpec)

/-- 'laws.FnExactEigenvectorOf', WHERE WHAT IT READS IS OF BULK AT MOST 1048576: true; the input reads as it did. -/
def fnExactEigenvectorOfUptoRow : OpenClaim := { program := "ytjhaealoneennaa", sum := "ff078b5c8d401fb0a55934cda30ddf4c9d66422d76675c8758607a19a86a1053", func := "loop.example/g01056/laws.FnExactEigenvectorOf", spec := "fnExactEigenvectorOf", unfollowed := true, recurses := true, apart := false, narrowed := true }
def FnExactEigenvectorOfUptoSaid : Prop := fnExactEigenvectorOfUptoRow.holds Try.pinned (OpenSpec.upto fnExactEigenvectorOfSpec)

end Rows
end Go.Proofs.Ytjhaealoneennaa

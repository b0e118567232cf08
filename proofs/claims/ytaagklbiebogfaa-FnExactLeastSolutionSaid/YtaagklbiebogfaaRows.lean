/-
  No cell of these rows narrows 'for every input' (looked for: loops, veiled, ifaces, maps, wideKeys, modest, calm, conditions, laid).
  DERIVED. THE GIVEN ROWS OF THIS SEAT. 12 by the template 'for every input the law returns true; each argument reads behind the call as it read before'; 0 by the template 'total and deterministic' (their statements: YtaagklbiebogfaaTotals.lean).
  GIVEN WITH THE SEED: the statements are not yours to turn. If you find one false, say at which input.
  Laid BY PROGRAM, IN A SANDBOX (cutbox-rows.mjs): the forced cells as the released guide's own fill.sh prints them over the translation ff57b983cfaedd43… (all of the seat's roots in one cut). By AI agents, Wed Nov 11 2026. No macro, syntax, notation, axiom, sorry.
-/
import Derived.Test.YtaagklbiebogfaaChecked
import GoSem.Claim
import GoSem.ClaimJoined
import GoSem.ClaimMapViews
import Derived.JoinedTies
import Derived.KernelRfl
namespace Go.Proofs.Ytaagklbiebogfaa
/- THE CELL 'sum', in the pinned program and in every row, IS THE sha256 OF THE DUMP (.gsa) THAT YtaagklbiebogfaaProg.lean LOADS. Nothing in Lean hashes anything: it is a label: what it is worth is what the hold of that sum in a sandbox is worth. -/
noncomputable def Try.pinned : Pinned := { name := "ytaagklbiebogfaa", sum := "ff57b983cfaedd434d09afec312878c54643659542c047cda0df7a17aac06fa4", checked := Try.checked }
namespace Rows
def none {H : Type} : Left H := { results := [], args := [] }

/-- 'laws.FnExactRankOneParts': WHATEVER THE INPUT: true; the input reads as it did. -/
def fnExactRankOnePartsSpec : ChangeSpec := { name := "fnExactRankOneParts", fn := fun _ => fun
  | [d] => { results := [.lit (.bool true)], args := [d] }
  | _ => none }
def fnExactRankOnePartsRow : OpenClaim := { program := "ytaagklbiebogfaa", sum := "ff57b983cfaedd434d09afec312878c54643659542c047cda0df7a17aac06fa4", func := "loop.example/g01056/laws.FnExactRankOneParts", spec := "fnExactRankOneParts", unfollowed := true, recurses := true, apart := false }
def FnExactRankOnePartsSaid : Prop := fnExactRankOnePartsRow.holds Try.pinned (OpenSpec.ofChange fnExactRankOnePartsSpec)

/-- ITS FALSE NEIGHBOUR: 'it returns false'. Refute it at one input. -/
def fnExactRankOnePartsWrong : ChangeSpec := { name := "fnExactRankOneParts", fn := fun _ => fun
  | [d] => { results := [.lit (.bool false)], args := [d] }
  | _ => none }
def FnExactRankOnePartsWrongFalsely : Prop := fnExactRankOnePartsRow.holds Try.pinned (OpenSpec.ofChange fnExactRankOnePartsWrong)

/-- 'laws.FnExactPartOf': WHATEVER THE INPUT: true; the input reads as it did. -/
def fnExactPartOfSpec : ChangeSpec := { name := "fnExactPartOf", fn := fun _ => fun
  | [d1, d2, d3] => { results := [.lit (.bool true)], args := [d1, d2, d3] }
  | _ => none }
def fnExactPartOfRow : OpenClaim := { program := "ytaagklbiebogfaa", sum := "ff57b983cfaedd434d09afec312878c54643659542c047cda0df7a17aac06fa4", func := "loop.example/g01056/laws.FnExactPartOf", spec := "fnExactPartOf", unfollowed := true, recurses := true, apart := false }
def FnExactPartOfSaid : Prop := fnExactPartOfRow.holds Try.pinned (OpenSpec.ofChange fnExactPartOfSpec)

/-- ITS FALSE NEIGHBOUR: 'it returns false'. Refute it at one input. -/
def fnExactPartOfWrong : ChangeSpec := { name := "fnExactPartOf", fn := fun _ => fun
  | [d1, d2, d3] => { results := [.lit (.bool false)], args := [d1, d2, d3] }
  | _ => none }
def FnExactPartOfWrongFalsely : Prop := fnExactPartOfRow.holds Try.pinned (OpenSpec.ofChange fnExactPartOfWrong)

/-- 'laws.FnExactIsSingular': WHATEVER THE INPUT: true; the input reads as it did. -/
def fnExactIsSingularSpec : ChangeSpec := { name := "fnExactIsSingular", fn := fun _ => fun
  | [d] => { results := [.lit (.bool true)], args := [d] }
  | _ => none }
def fnExactIsSingularRow : OpenClaim := { program := "ytaagklbiebogfaa", sum := "ff57b983cfaedd434d09afec312878c54643659542c047cda0df7a17aac06fa4", func := "loop.example/g01056/laws.FnExactIsSingular", spec := "fnExactIsSingular", unfollowed := true, recurses := true, apart := false }
def FnExactIsSingularSaid : Prop := fnExactIsSingularRow.holds Try.pinned (OpenSpec.ofChange fnExactIsSingularSpec)

/-- ITS FALSE NEIGHBOUR: 'it returns false'. Refute it at one input. -/
def fnExactIsSingularWrong : ChangeSpec := { name := "fnExactIsSingular", fn := fun _ => fun
  | [d] => { results := [.lit (.bool false)], args := [d] }
  | _ => none }
def FnExactIsSingularWrongFalsely : Prop := fnExactIsSingularRow.holds Try.pinned (OpenSpec.ofChange fnExactIsSingularWrong)

/-- 'laws.FnExactColumnClasses': WHATEVER THE INPUT: true; the input reads as it did. -/
def fnExactColumnClassesSpec : ChangeSpec := { name := "fnExactColumnClasses", fn := fun _ => fun
  | [d] => { results := [.lit (.bool true)], args := [d] }
  | _ => none }
def fnExactColumnClassesRow : OpenClaim := { program := "ytaagklbiebogfaa", sum := "ff57b983cfaedd434d09afec312878c54643659542c047cda0df7a17aac06fa4", func := "loop.example/g01056/laws.FnExactColumnClasses", spec := "fnExactColumnClasses", unfollowed := true, recurses := true, apart := false }
def FnExactColumnClassesSaid : Prop := fnExactColumnClassesRow.holds Try.pinned (OpenSpec.ofChange fnExactColumnClassesSpec)

/-- ITS FALSE NEIGHBOUR: 'it returns false'. Refute it at one input. -/
def fnExactColumnClassesWrong : ChangeSpec := { name := "fnExactColumnClasses", fn := fun _ => fun
  | [d] => { results := [.lit (.bool false)], args := [d] }
  | _ => none }
def FnExactColumnClassesWrongFalsely : Prop := fnExactColumnClassesRow.holds Try.pinned (OpenSpec.ofChange fnExactColumnClassesWrong)

/-- 'laws.FnExactFirstRegular': WHATEVER THE INPUT: true; the input reads as it did. -/
def fnExactFirstRegularSpec : ChangeSpec := { name := "fnExactFirstRegular", fn := fun _ => fun
  | [d1, d2] => { results := [.lit (.bool true)], args := [d1, d2] }
  | _ => none }
def fnExactFirstRegularRow : OpenClaim := { program := "ytaagklbiebogfaa", sum := "ff57b983cfaedd434d09afec312878c54643659542c047cda0df7a17aac06fa4", func := "loop.example/g01056/laws.FnExactFirstRegular", spec := "fnExactFirstRegular", unfollowed := true, recurses := true, apart := false }
def FnExactFirstRegularSaid : Prop := fnExactFirstRegularRow.holds Try.pinned (OpenSpec.ofChange fnExactFirstRegularSpec)

/-- ITS FALSE NEIGHBOUR: 'it returns false'. Refute it at one input. -/
def fnExactFirstRegularWrong : ChangeSpec := { name := "fnExactFirstRegular", fn := fun _ => fun
  | [d1, d2] => { results := [.lit (.bool false)], args := [d1, d2] }
  | _ => none }
def FnExactFirstRegularWrongFalsely : Prop := fnExactFirstRegularRow.holds Try.pinned (OpenSpec.ofChange fnExactFirstRegularWrong)

/-- 'laws.FnExactTropicalRank': WHATEVER THE INPUT: true; the input reads as it did. -/
def fnExactTropicalRankSpec : ChangeSpec := { name := "fnExactTropicalRank", fn := fun _ => fun
  | [d] => { results := [.lit (.bool true)], args := [d] }
  | _ => none }
def fnExactTropicalRankRow : OpenClaim := { program := "ytaagklbiebogfaa", sum := "ff57b983cfaedd434d09afec312878c54643659542c047cda0df7a17aac06fa4", func := "loop.example/g01056/laws.FnExactTropicalRank", spec := "fnExactTropicalRank", unfollowed := true, recurses := true, apart := false }
def FnExactTropicalRankSaid : Prop := fnExactTropicalRankRow.holds Try.pinned (OpenSpec.ofChange fnExactTropicalRankSpec)

/-- ITS FALSE NEIGHBOUR: 'it returns false'. Refute it at one input. -/
def fnExactTropicalRankWrong : ChangeSpec := { name := "fnExactTropicalRank", fn := fun _ => fun
  | [d] => { results := [.lit (.bool false)], args := [d] }
  | _ => none }
def FnExactTropicalRankWrongFalsely : Prop := fnExactTropicalRankRow.holds Try.pinned (OpenSpec.ofChange fnExactTropicalRankWrong)

/-- 'laws.FnExactFactorBounds': WHATEVER THE INPUT: true; the input reads as it did. -/
def fnExactFactorBoundsSpec : ChangeSpec := { name := "fnExactFactorBounds", fn := fun _ => fun
  | [d] => { results := [.lit (.bool true)], args := [d] }
  | _ => none }
def fnExactFactorBoundsRow : OpenClaim := { program := "ytaagklbiebogfaa", sum := "ff57b983cfaedd434d09afec312878c54643659542c047cda0df7a17aac06fa4", func := "loop.example/g01056/laws.FnExactFactorBounds", spec := "fnExactFactorBounds", unfollowed := true, recurses := true, apart := false }
def FnExactFactorBoundsSaid : Prop := fnExactFactorBoundsRow.holds Try.pinned (OpenSpec.ofChange fnExactFactorBoundsSpec)

/-- ITS FALSE NEIGHBOUR: 'it returns false'. Refute it at one input. -/
def fnExactFactorBoundsWrong : ChangeSpec := { name := "fnExactFactorBounds", fn := fun _ => fun
  | [d] => { results := [.lit (.bool false)], args := [d] }
  | _ => none }
def FnExactFactorBoundsWrongFalsely : Prop := fnExactFactorBoundsRow.holds Try.pinned (OpenSpec.ofChange fnExactFactorBoundsWrong)

/-- 'laws.FnExactLeastSolution': WHATEVER THE INPUT: true; the input reads as it did. -/
def fnExactLeastSolutionSpec : ChangeSpec := { name := "fnExactLeastSolution", fn := fun _ => fun
  | [d1, d2] => { results := [.lit (.bool true)], args := [d1, d2] }
  | _ => none }
def fnExactLeastSolutionRow : OpenClaim := { program := "ytaagklbiebogfaa", sum := "ff57b983cfaedd434d09afec312878c54643659542c047cda0df7a17aac06fa4", func := "loop.example/g01056/laws.FnExactLeastSolution", spec := "fnExactLeastSolution", unfollowed := true, recurses := true, apart := false }
def FnExactLeastSolutionSaid : Prop := fnExactLeastSolutionRow.holds Try.pinned (OpenSpec.ofChange fnExactLeastSolutionSpec)

/-- ITS FALSE NEIGHBOUR: 'it returns false'. Refute it at one input. -/
def fnExactLeastSolutionWrong : ChangeSpec := { name := "fnExactLeastSolution", fn := fun _ => fun
  | [d1, d2] => { results := [.lit (.bool false)], args := [d1, d2] }
  | _ => none }
def FnExactLeastSolutionWrongFalsely : Prop := fnExactLeastSolutionRow.holds Try.pinned (OpenSpec.ofChange fnExactLeastSolutionWrong)

/-- 'laws.FnExactBezoutOf': WHATEVER THE INPUT: true; the input reads as it did. -/
def fnExactBezoutOfSpec : ChangeSpec := { name := "fnExactBezoutOf", fn := fun _ => fun
  | [d1, d2] => { results := [.lit (.bool true)], args := [d1, d2] }
  | _ => none }
def fnExactBezoutOfRow : OpenClaim := { program := "ytaagklbiebogfaa", sum := "ff57b983cfaedd434d09afec312878c54643659542c047cda0df7a17aac06fa4", func := "loop.example/g01056/laws.FnExactBezoutOf", spec := "fnExactBezoutOf", apart := false }
def FnExactBezoutOfSaid : Prop := fnExactBezoutOfRow.holds Try.pinned (OpenSpec.ofChange fnExactBezoutOfSpec)

/-- ITS FALSE NEIGHBOUR: 'it returns false'. Refute it at one input. -/
def fnExactBezoutOfWrong : ChangeSpec := { name := "fnExactBezoutOf", fn := fun _ => fun
  | [d1, d2] => { results := [.lit (.bool false)], args := [d1, d2] }
  | _ => none }
def FnExactBezoutOfWrongFalsely : Prop := fnExactBezoutOfRow.holds Try.pinned (OpenSpec.ofChange fnExactBezoutOfWrong)

/-- 'laws.FnExactMeetDefect': WHATEVER THE INPUT: true; the input reads as it did. -/
def fnExactMeetDefectSpec : ChangeSpec := { name := "fnExactMeetDefect", fn := fun _ => fun
  | [d1, d2] => { results := [.lit (.bool true)], args := [d1, d2] }
  | _ => none }
def fnExactMeetDefectRow : OpenClaim := { program := "ytaagklbiebogfaa", sum := "ff57b983cfaedd434d09afec312878c54643659542c047cda0df7a17aac06fa4", func := "loop.example/g01056/laws.FnExactMeetDefect", spec := "fnExactMeetDefect", apart := false }
def FnExactMeetDefectSaid : Prop := fnExactMeetDefectRow.holds Try.pinned (OpenSpec.ofChange fnExactMeetDefectSpec)

/-- ITS FALSE NEIGHBOUR: 'it returns false'. Refute it at one input. -/
def fnExactMeetDefectWrong : ChangeSpec := { name := "fnExactMeetDefect", fn := fun _ => fun
  | [d1, d2] => { results := [.lit (.bool false)], args := [d1, d2] }
  | _ => none }
def FnExactMeetDefectWrongFalsely : Prop := fnExactMeetDefectRow.holds Try.pinned (OpenSpec.ofChange fnExactMeetDefectWrong)

/-- 'laws.FnExactMeetingPairs': WHATEVER THE INPUT: true; the input reads as it did. -/
def fnExactMeetingPairsSpec : ChangeSpec := { name := "fnExactMeetingPairs", fn := fun _ => fun
  | [d1, d2, d3, d4] => { results := [.lit (.bool true)], args := [d1, d2, d3, d4] }
  | _ => none }
def fnExactMeetingPairsRow : OpenClaim := { program := "ytaagklbiebogfaa", sum := "ff57b983cfaedd434d09afec312878c54643659542c047cda0df7a17aac06fa4", func := "loop.example/g01056/laws.FnExactMeetingPairs", spec := "fnExactMeetingPairs", apart := false }
def FnExactMeetingPairsSaid : Prop := fnExactMeetingPairsRow.holds Try.pinned (OpenSpec.ofChange fnExactMeetingPairsSpec)

/-- ITS FALSE NEIGHBOUR: 'it returns false'. Refute it at one input. -/
def fnExactMeetingPairsWrong : ChangeSpec := { name := "fnExactMeetingPairs", fn := fun _ => fun
  | [d1, d2, d3, d4] => { results := [.lit (.bool false)], args := [d1, d2, d3, d4] }
  | _ => none }
def FnExactMeetingPairsWrongFalsely : Prop := fnExactMeetingPairsRow.holds Try.pinned (OpenSpec.ofChange fnExactMeetingPairsWrong)

/-- 'laws.FnExactMeetTable': WHATEVER THE INPUT: true; the input reads as it did. -/
def fnExactMeetTableSpec : ChangeSpec := { name := "fnExactMeetTable", fn := fun _ => fun
  | [d] => { results := [.lit (.bool true)], args := [d] }
  | _ => none }
def fnExactMeetTableRow : OpenClaim := { program := "ytaagklbiebogfaa", sum := "ff57b983cfaedd434d09afec312878c54643659542c047cda0df7a17aac06fa4", func := "loop.example/g01056/laws.FnExactMeetTable", spec := "fnExactMeetTable", apart := false }
def FnExactMeetTableSaid : Prop := fnExactMeetTableRow.holds Try.pinned (OpenSpec.ofChange fnExactMeetTableSpec)

/-- ITS FALSE NEIGHBOUR: 'it returns false'. Refute it at one input. -/
def fnExactMeetTableWrong : ChangeSpec := { name := "fnExactMeetTable", fn := fun _ => fun
  | [d] => { results := [.lit (.bool false)], args := [d] }
  | _ => none }
def FnExactMeetTableWrongFalsely : Prop := fnExactMeetTableRow.holds Try.pinned (OpenSpec.ofChange fnExactMeetTableWrong)

/- THE SECOND FORM. 'bulk': how many values and letters a reading holds, each counted each time it is reached (what is shared counts as often as it is met; a slice's spare places count too). A statement '..UptoSaid' is the law's where the arguments, and the package variables that the reading takes, are together of bulk at most 1048576: NARROWER than '..Said'. Prove '..Said' where nothing that the law and all that it calls make is longer than what came in: it says more and counts as full. Else prove '..UptoSaid'. A law counts once. -/
mutual
def uptoBulk {H : Type} : DataW H → Nat
  | .lit (.string bytes) => bytes.length + 1
  | .lit _ => 1
  | .nil => 1
  | .ptr d => uptoBulk d + 1
  | .slice elems spare => uptoBulkAll elems + uptoBulkAll spare + 1
  | .agg parts => uptoBulkAll parts + 1
  | .iface _ d => uptoBulk d + 1
  | .map entries => uptoBulkEntries entries + 1
  | .held _ => 1
def uptoBulkAll {H : Type} : List (DataW H) → Nat
  | [] => 0
  | d :: r => uptoBulk d + uptoBulkAll r
def uptoBulkEntries {H : Type} : List (Lit × DataW H) → Nat
  | [] => 0
  | x :: r => uptoBulkEntry x + uptoBulkEntries r
def uptoBulkEntry {H : Type} : Lit × DataW H → Nat
  | (.string bytes, d) => bytes.length + uptoBulk d + 1
  | (_, d) => uptoBulk d + 1
 end
def uptoSmall : (H : Type) → List (DataW H) → Bool := fun _ ds => decide (uptoBulkAll ds ≤ 1048576)
def OpenSpec.upto (s : _root_.Go.ChangeSpec) : _root_.Go.OpenSpec := { _root_.Go.OpenSpec.ofChange s with cond := some uptoSmall }

/-- 'laws.FnExactRankOneParts', WHERE WHAT IT READS IS OF BULK AT MOST 1048576: true; the input reads as it did. -/
def fnExactRankOnePartsUptoRow : OpenClaim := { program := "ytaagklbiebogfaa", sum := "ff57b983cfaedd434d09afec312878c54643659542c047cda0df7a17aac06fa4", func := "loop.example/g01056/laws.FnExactRankOneParts", spec := "fnExactRankOneParts", unfollowed := true, recurses := true, apart := false, narrowed := true }
def FnExactRankOnePartsUptoSaid : Prop := fnExactRankOnePartsUptoRow.holds Try.pinned (OpenSpec.upto fnExactRankOnePartsSpec)

/-- 'laws.FnExactPartOf', WHERE WHAT IT READS IS OF BULK AT MOST 1048576: true; the input reads as it did. -/
def fnExactPartOfUptoRow : OpenClaim := { program := "ytaagklbiebogfaa", sum := "ff57b983cfaedd434d09afec312878c54643659542c047cda0df7a17aac06fa4", func := "loop.example/g01056/laws.FnExactPartOf", spec := "fnExactPartOf", unfollowed := true, recurses := true, apart := false, narrowed := true }
def FnExactPartOfUptoSaid : Prop := fnExactPartOfUptoRow.holds Try.pinned (OpenSpec.upto fnExactPartOfSpec)

/-- 'laws.FnExactIsSingular', WHERE WHAT IT READS IS OF BULK AT MOST 1048576: true; the input reads as it did. -/
def fnExactIsSingularUptoRow : OpenClaim := { program := "ytaagklbiebogfaa", sum := "ff57b983cfaedd434d09afec312878c54643659542c047cda0df7a17aac06fa4", func := "loop.example/g01056/laws.FnExactIsSingular", spec := "fnExactIsSingular", unfollowed := true, recurses := true, apart := false, narrowed := true }
def FnExactIsSingularUptoSaid : Prop := fnExactIsSingularUptoRow.holds Try.pinned (OpenSpec.upto fnExactIsSingularSpec)

/-- 'laws.FnExactColumnClasses', WHERE WHAT IT READS IS OF BULK AT MOST 1048576: true; the input reads as it did. -/
def fnExactColumnClassesUptoRow : OpenClaim := { program := "ytaagklbiebogfaa", sum := "ff57b983cfaedd434d09afec312878c54643659542c047cda0df7a17aac06fa4", func := "loop.example/g01056/laws.FnExactColumnClasses", spec := "fnExactColumnClasses", unfollowed := true, recurses := true, apart := false, narrowed := true }
def FnExactColumnClassesUptoSaid : Prop := fnExactColumnClassesUptoRow.holds Try.pinned (OpenSpec.upto fnExactColumnClassesSpec)

/-- 'laws.FnExactFirstRegular', WHERE WHAT IT READS IS OF BULK AT MOST 1048576: true; the input reads as it did. -/
def fnExactFirstRegularUptoRow : OpenClaim := { program := "ytaagklbiebogfaa", sum := "ff57b983cfaedd434d09afec312878c54643659542c047cda0df7a17aac06fa4", func := "loop.example/g01056/laws.FnExactFirstRegular", spec := "fnExactFirstRegular", unfollowed := true, recurses := true, apart := false, narrowed := true }
def FnExactFirstRegularUptoSaid : Prop := fnExactFirstRegularUptoRow.holds Try.pinned (OpenSpec.upto fnExactFirstRegularSpec)

/-- 'laws.FnExactTropicalRank', WHERE WHAT IT READS IS OF BULK AT MOST 1048576: true; the input reads as it did. -/
def fnExactTropicalRankUptoRow : OpenClaim := { program := "ytaagklbiebogfaa", sum := "ff57b983cfaedd434d09afec312878c54643659542c047cda0df7a17aac06fa4", func := "loop.example/g01056/laws.FnExactTropicalRank", spec := "fnExactTropicalRank", unfollowed := true, recurses := true, apart := false, narrowed := true }
def FnExactTropicalRankUptoSaid : Prop := fnExactTropicalRankUptoRow.holds Try.pinned (OpenSpec.upto fnExactTropicalRankSpec)

/-- 'laws.FnExactFactorBounds', WHERE WHAT IT READS IS OF BULK AT MOST 1048576: true; the input reads as it did. -/
def fnExactFactorBoundsUptoRow : OpenClaim := { program := "ytaagklbiebogfaa", sum := "ff57b983cfaedd434d09afec312878c54643659542c047cda0df7a17aac06fa4", func := "loop.example/g01056/laws.FnExactFactorBounds", spec := "fnExactFactorBounds", unfollowed := true, recurses := true, apart := false, narrowed := true }
def FnExactFactorBoundsUptoSaid : Prop := fnExactFactorBoundsUptoRow.holds Try.pinned (OpenSpec.upto fnExactFactorBoundsSpec)

/-- 'laws.FnExactLeastSolution', WHERE WHAT IT READS IS OF BULK AT MOST 1048576: true; the input reads as it did. -/
def fnExactLeastSolutionUptoRow : OpenClaim := { program := "ytaagklbiebogfaa", sum := "ff57b983cfaedd434d09afec312878c54643659542c047cda0df7a17aac06fa4", func := "loop.example/g01056/laws.FnExactLeastSolution", spec := "fnExactLeastSolution", unfollowed := true, recurses := true, apart := false, narrowed := true }
def FnExactLeastSolutionUptoSaid : Prop := fnExactLeastSolutionUptoRow.holds Try.pinned (OpenSpec.upto fnExactLeastSolutionSpec)

/-- 'laws.FnExactBezoutOf', WHERE WHAT IT READS IS OF BULK AT MOST 1048576: true; the input reads as it did. -/
def fnExactBezoutOfUptoRow : OpenClaim := { program := "ytaagklbiebogfaa", sum := "ff57b983cfaedd434d09afec312878c54643659542c047cda0df7a17aac06fa4", func := "loop.example/g01056/laws.FnExactBezoutOf", spec := "fnExactBezoutOf", apart := false, narrowed := true }
def FnExactBezoutOfUptoSaid : Prop := fnExactBezoutOfUptoRow.holds Try.pinned (OpenSpec.upto fnExactBezoutOfSpec)

/-- 'laws.FnExactMeetDefect', WHERE WHAT IT READS IS OF BULK AT MOST 1048576: true; the input reads as it did. -/
def fnExactMeetDefectUptoRow : OpenClaim := { program := "ytaagklbiebogfaa", sum := "ff57b983cfaedd434d09afec312878c54643659542c047cda0df7a17aac06fa4", func := "loop.example/g01056/laws.FnExactMeetDefect", spec := "fnExactMeetDefect", apart := false, narrowed := true }
def FnExactMeetDefectUptoSaid : Prop := fnExactMeetDefectUptoRow.holds Try.pinned (OpenSpec.upto fnExactMeetDefectSpec)

/-- 'laws.FnExactMeetingPairs', WHERE WHAT IT READS IS OF BULK AT MOST 1048576: true; the input reads as it did. -/
def fnExactMeetingPairsUptoRow : OpenClaim := { program := "ytaagklbiebogfaa", sum := "ff57b983cfaedd434d09afec312878c54643659542c047cda0df7a17aac06fa4", func := "loop.example/g01056/laws.FnExactMeetingPairs", spec := "fnExactMeetingPairs", apart := false, narrowed := true }
def FnExactMeetingPairsUptoSaid : Prop := fnExactMeetingPairsUptoRow.holds Try.pinned (OpenSpec.upto fnExactMeetingPairsSpec)

/-- 'laws.FnExactMeetTable', WHERE WHAT IT READS IS OF BULK AT MOST 1048576: true; the input reads as it did. -/
def fnExactMeetTableUptoRow : OpenClaim := { program := "ytaagklbiebogfaa", sum := "ff57b983cfaedd434d09afec312878c54643659542c047cda0df7a17aac06fa4", func := "loop.example/g01056/laws.FnExactMeetTable", spec := "fnExactMeetTable", apart := false, narrowed := true }
def FnExactMeetTableUptoSaid : Prop := fnExactMeetTableUptoRow.holds Try.pinned (OpenSpec.upto fnExactMeetTableSpec)

end Rows
end Go.Proofs.Ytaagklbiebogfaa

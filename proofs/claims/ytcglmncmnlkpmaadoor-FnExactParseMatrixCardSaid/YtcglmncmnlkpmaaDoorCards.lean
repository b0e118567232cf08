/-
  DERIVED. GIVEN WITH THE SEED: THE CARDS: each row of YtcglmncmnlkpmaaDoorRows.lean that lists a variable, with what it lists TIED to the program's text (the seventh form; the later family's looks); each row that meets fmt, with fmt's text TOLD by the authors' own Lean function (tested against real Go, not proved from fmt's source: count such statements apart). THE CARD IS WHAT COUNTS. Prove the row's statement (the work); the ties are given (YtcglmncmnlkpmaaDoorTie.lean); close each card by the builder's one call (the guide's Derived/Test/ToyasCard.lean, 'card_holds'). Laid BY PROGRAM, IN A SANDBOX (cutbox-door.mjs). By AI agents, Wed Nov 11 2026. No macro, syntax, notation, axiom, sorry.
-/
import Derived.Test.YtcglmncmnlkpmaaDoorRows
import GoSem.ClaimSeven
namespace Go.Proofs.YtcglmncmnlkpmaaDoor
namespace Rows

/-- THE TIED CARD OF 'laws.FnExactMatrixText'. -/
def fnExactMatrixTextCard : Claim7 := { stood := { row := fnExactMatrixTextRow, standIns := [], harness := (true, "659fcaf6daec1d94d87c10a58ddd14ded93dd6d58006f2a1d626a6214f806c5e"), looks := true }, kinds := [], alts := [], laidByText := true, laidKinds := [.data, .data, .data], laidTests := true, laidLooks := .later }
def FnExactMatrixTextCardSaid : Prop := Claim7.holds Tryd.pinned (.plain (OpenSpec.ofChange fnExactMatrixTextSpec)) fnExactMatrixTextCard

/-- THE TIED CARD OF 'laws.FnExactParseMatrix'. -/
def fnExactParseMatrixCard : Claim7 := { stood := { row := fnExactParseMatrixRow, standIns := [], harness := (true, "659fcaf6daec1d94d87c10a58ddd14ded93dd6d58006f2a1d626a6214f806c5e"), looks := true }, kinds := [], alts := [], laidByText := true, laidKinds := [.data, .data, .data, .data, .sentinel, .sentinel, .pinned], laidTests := true, laidLooks := .later }
def FnExactParseMatrixCardSaid : Prop := Claim7.holds Tryd.pinned (.plain (OpenSpec.ofChange fnExactParseMatrixSpec)) fnExactParseMatrixCard

/-- THE SECOND FORM's CARD OF 'laws.FnExactMatrixText'. -/
def fnExactMatrixTextUptoCard : Claim7 := { stood := { row := fnExactMatrixTextUptoRow, standIns := [], harness := (true, "659fcaf6daec1d94d87c10a58ddd14ded93dd6d58006f2a1d626a6214f806c5e"), looks := true }, kinds := [], alts := [], laidByText := true, laidKinds := [.data, .data, .data], laidTests := true, laidLooks := .later }
def FnExactMatrixTextUptoCardSaid : Prop := Claim7.holds Tryd.pinned (.plain (OpenSpec.upto fnExactMatrixTextSpec)) fnExactMatrixTextUptoCard

/-- THE SECOND FORM's CARD OF 'laws.FnExactParseMatrix'. -/
def fnExactParseMatrixUptoCard : Claim7 := { stood := { row := fnExactParseMatrixUptoRow, standIns := [], harness := (true, "659fcaf6daec1d94d87c10a58ddd14ded93dd6d58006f2a1d626a6214f806c5e"), looks := true }, kinds := [], alts := [], laidByText := true, laidKinds := [.data, .data, .data, .data, .sentinel, .sentinel, .pinned], laidTests := true, laidLooks := .later }
def FnExactParseMatrixUptoCardSaid : Prop := Claim7.holds Tryd.pinned (.plain (OpenSpec.upto fnExactParseMatrixSpec)) fnExactParseMatrixUptoCard
end Rows
end Go.Proofs.YtcglmncmnlkpmaaDoor

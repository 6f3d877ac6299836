/-
  DERIVED. GIVEN WITH THE SEED: THE CARDS: each row of YtplkfpjcfalifaaDoorRows.lean that lists a variable, with what it lists TIED to the program's text (the seventh form; the later family's looks); each row that meets fmt, with fmt's text TOLD by the authors' own Lean function (tested against real Go, not proved from fmt's source: count such statements apart). THE CARD IS WHAT COUNTS. Prove the row's statement (the work); the ties are given (YtplkfpjcfalifaaDoorTie.lean); close each card by the builder's one call (the guide's Derived/Test/ToyasCard.lean, 'card_holds'). Laid BY PROGRAM, IN A SANDBOX (cutbox-door.mjs). By AI agents, Wed Nov 11 2026. No macro, syntax, notation, axiom, sorry.
-/
import Derived.Test.YtplkfpjcfalifaaDoorRows
import GoSem.ClaimSeven
namespace Go.Proofs.YtplkfpjcfalifaaDoor
namespace Rows

/-- THE TIED CARD OF 'laws.FnExactDiffText'. -/
def fnExactDiffTextCard : Claim7 := { stood := { row := fnExactDiffTextRow, standIns := [], harness := (true, "02f2e99645f857e706ca063bd3d69a2fd2247d990d847fe021ce237ba07023bb"), looks := false }, kinds := [], alts := [], laidByText := true, laidKinds := [.listed, .data], laidTests := true, laidLooks := .later }
def FnExactDiffTextCardSaid : Prop := Claim7.holds Tryd.pinned (.plain (OpenSpec.ofChange fnExactDiffTextSpec)) fnExactDiffTextCard

/-- THE SECOND FORM's CARD OF 'laws.FnExactDiffText'. -/
def fnExactDiffTextUptoCard : Claim7 := { stood := { row := fnExactDiffTextUptoRow, standIns := [], harness := (true, "02f2e99645f857e706ca063bd3d69a2fd2247d990d847fe021ce237ba07023bb"), looks := false }, kinds := [], alts := [], laidByText := true, laidKinds := [.listed, .data], laidTests := true, laidLooks := .later }
def FnExactDiffTextUptoCardSaid : Prop := Claim7.holds Tryd.pinned (.plain (OpenSpec.upto fnExactDiffTextSpec)) fnExactDiffTextUptoCard
end Rows
end Go.Proofs.YtplkfpjcfalifaaDoor

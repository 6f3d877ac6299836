/-
  DERIVED. GIVEN WITH THE SEED: THE CARDS: each row of YtcidbencoebfaaaDoorRows.lean that lists a variable, with what it lists TIED to the program's text (the seventh form; the later family's looks); each row that meets fmt, with fmt's text TOLD by the authors' own Lean function (tested against real Go, not proved from fmt's source: count such statements apart). THE CARD IS WHAT COUNTS. Prove the row's statement (the work); the ties are given (YtcidbencoebfaaaDoorTie.lean); close each card by the builder's one call (the guide's Derived/Test/ToyasCard.lean, 'card_holds'). Laid BY PROGRAM, IN A SANDBOX (cutbox-door.mjs). By AI agents, Wed Nov 11 2026. No macro, syntax, notation, axiom, sorry.
-/
import Derived.Test.YtcidbencoebfaaaDoorRows
import GoSem.ClaimSeven
namespace Go.Proofs.YtcidbencoebfaaaDoor
namespace Rows

/-- THE TIED CARD OF 'laws.FnCmds'. -/
def fnCmdsCard : Claim7 := { stood := { row := fnCmdsRow, standIns := [], harness := (true, "b59e6e69c13e1313a8174f786333f9e31363170ca9ef7ed54302e77bb40ec33c"), looks := false }, kinds := [], alts := [], laidByText := true, laidKinds := [.data, .pinned], laidTests := true, laidLooks := .later }
def FnCmdsCardSaid : Prop := Claim7.holds Tryd.pinned (.plain (OpenSpec.ofChange fnCmdsSpec)) fnCmdsCard

/-- THE TIED CARD OF 'laws.FnExactTextCmd'. -/
def fnExactTextCmdCard : Claim7 := { stood := { row := fnExactTextCmdRow, standIns := [], harness := (true, "b59e6e69c13e1313a8174f786333f9e31363170ca9ef7ed54302e77bb40ec33c"), looks := false }, kinds := [], alts := [], laidByText := true, laidKinds := [.data, .pinned], laidTests := true, laidLooks := .later }
def FnExactTextCmdCardSaid : Prop := Claim7.holds Tryd.pinned (.plain (OpenSpec.ofChange fnExactTextCmdSpec)) fnExactTextCmdCard

/-- THE TIED CARD OF 'laws.FnExactReadCmds'. -/
def fnExactReadCmdsCard : Claim7 := { stood := { row := fnExactReadCmdsRow, standIns := [], harness := (true, "b59e6e69c13e1313a8174f786333f9e31363170ca9ef7ed54302e77bb40ec33c"), looks := false }, kinds := [], alts := [], laidByText := true, laidKinds := [.data, .pinned], laidTests := true, laidLooks := .later }
def FnExactReadCmdsCardSaid : Prop := Claim7.holds Tryd.pinned (.plain (OpenSpec.ofChange fnExactReadCmdsSpec)) fnExactReadCmdsCard

/-- THE SECOND FORM's CARD OF 'laws.FnCmds'. -/
def fnCmdsUptoCard : Claim7 := { stood := { row := fnCmdsUptoRow, standIns := [], harness := (true, "b59e6e69c13e1313a8174f786333f9e31363170ca9ef7ed54302e77bb40ec33c"), looks := false }, kinds := [], alts := [], laidByText := true, laidKinds := [.data, .pinned], laidTests := true, laidLooks := .later }
def FnCmdsUptoCardSaid : Prop := Claim7.holds Tryd.pinned (.plain (OpenSpec.upto fnCmdsSpec)) fnCmdsUptoCard

/-- THE SECOND FORM's CARD OF 'laws.FnExactTextCmd'. -/
def fnExactTextCmdUptoCard : Claim7 := { stood := { row := fnExactTextCmdUptoRow, standIns := [], harness := (true, "b59e6e69c13e1313a8174f786333f9e31363170ca9ef7ed54302e77bb40ec33c"), looks := false }, kinds := [], alts := [], laidByText := true, laidKinds := [.data, .pinned], laidTests := true, laidLooks := .later }
def FnExactTextCmdUptoCardSaid : Prop := Claim7.holds Tryd.pinned (.plain (OpenSpec.upto fnExactTextCmdSpec)) fnExactTextCmdUptoCard

/-- THE SECOND FORM's CARD OF 'laws.FnExactReadCmds'. -/
def fnExactReadCmdsUptoCard : Claim7 := { stood := { row := fnExactReadCmdsUptoRow, standIns := [], harness := (true, "b59e6e69c13e1313a8174f786333f9e31363170ca9ef7ed54302e77bb40ec33c"), looks := false }, kinds := [], alts := [], laidByText := true, laidKinds := [.data, .pinned], laidTests := true, laidLooks := .later }
def FnExactReadCmdsUptoCardSaid : Prop := Claim7.holds Tryd.pinned (.plain (OpenSpec.upto fnExactReadCmdsSpec)) fnExactReadCmdsUptoCard
end Rows
end Go.Proofs.YtcidbencoebfaaaDoor

/-
  No cell of these rows narrows 'for every input' (looked for: loops, veiled, ifaces, maps, wideKeys, modest, calm, conditions, laid).
  DERIVED. THE GIVEN ROWS OF THIS SEAT. 8 by the template 'for every input the law returns true; each argument reads behind the call as it read before'; 0 by the template 'total and deterministic' (their statements: YtjmefaihkblliaaGreatTotals.lean).
  GIVEN WITH THE SEED: the statements are not yours to turn. If you find one false, say at which input.
  Laid BY PROGRAM, IN A SANDBOX (cutbox-rows.mjs): the forced cells as the released guide's own fill.sh prints them over the translation 562eadae45434602… (all of the seat's roots in one cut). By AI agents, Wed Nov 11 2026. No macro, syntax, notation, axiom, sorry.
-/
import Derived.Test.YtjmefaihkblliaaGreatChecked
import GoSem.Claim
import GoSem.ClaimJoined
import GoSem.ClaimMapViews
import Derived.JoinedTies
import Derived.KernelRfl
namespace Go.Proofs.YtjmefaihkblliaaGreat
/- THE CELL 'sum', in the pinned program and in every row, IS THE sha256 OF THE DUMP (.gsa) THAT YtjmefaihkblliaaGreatProg.lean LOADS. Nothing in Lean hashes anything: it is a label: what it is worth is what the hold of that sum in a sandbox is worth. -/
noncomputable def Tryz.pinned : Pinned := { name := "ytjmefaihkblliaagreat", sum := "562eadae454346029994ba0df5e85dccbf91d1572f9a2e50aff53b850676b947", checked := Tryz.checked }
namespace Rows
def none {H : Type} : Left H := { results := [], args := [] }

/-- 'laws.FnExactBranches': WHATEVER THE INPUT: true; the input reads as it did. -/
def fnExactBranchesSpec : ChangeSpec := { name := "fnExactBranches", fn := fun _ => fun
  | [d1, d2] => { results := [.lit (.bool true)], args := [d1, d2] }
  | _ => none }
def fnExactBranchesRow : OpenClaim := { program := "ytjmefaihkblliaagreat", sum := "562eadae454346029994ba0df5e85dccbf91d1572f9a2e50aff53b850676b947", func := "loop.example/g00679/laws.FnExactBranches", spec := "fnExactBranches", unfollowed := true, recurses := true, plainKeys := false, apart := false }
def FnExactBranchesSaid : Prop := fnExactBranchesRow.holds Tryz.pinned (OpenSpec.ofChange fnExactBranchesSpec)

/-- ITS FALSE NEIGHBOUR: 'it returns false'. Refute it at one input. -/
def fnExactBranchesWrong : ChangeSpec := { name := "fnExactBranches", fn := fun _ => fun
  | [d1, d2] => { results := [.lit (.bool false)], args := [d1, d2] }
  | _ => none }
def FnExactBranchesWrongFalsely : Prop := fnExactBranchesRow.holds Tryz.pinned (OpenSpec.ofChange fnExactBranchesWrong)

/-- 'laws.FnExactEndOf': WHATEVER THE INPUT: true; the input reads as it did. -/
def fnExactEndOfSpec : ChangeSpec := { name := "fnExactEndOf", fn := fun _ => fun
  | [d1, d2] => { results := [.lit (.bool true)], args := [d1, d2] }
  | _ => none }
def fnExactEndOfRow : OpenClaim := { program := "ytjmefaihkblliaagreat", sum := "562eadae454346029994ba0df5e85dccbf91d1572f9a2e50aff53b850676b947", func := "loop.example/g00679/laws.FnExactEndOf", spec := "fnExactEndOf", unfollowed := true, recurses := true, plainKeys := false, apart := false }
def FnExactEndOfSaid : Prop := fnExactEndOfRow.holds Tryz.pinned (OpenSpec.ofChange fnExactEndOfSpec)

/-- ITS FALSE NEIGHBOUR: 'it returns false'. Refute it at one input. -/
def fnExactEndOfWrong : ChangeSpec := { name := "fnExactEndOf", fn := fun _ => fun
  | [d1, d2] => { results := [.lit (.bool false)], args := [d1, d2] }
  | _ => none }
def FnExactEndOfWrongFalsely : Prop := fnExactEndOfRow.holds Tryz.pinned (OpenSpec.ofChange fnExactEndOfWrong)

/-- 'laws.FnExactFlowOf': WHATEVER THE INPUT: true; the input reads as it did. -/
def fnExactFlowOfSpec : ChangeSpec := { name := "fnExactFlowOf", fn := fun _ => fun
  | [d1, d2, d3] => { results := [.lit (.bool true)], args := [d1, d2, d3] }
  | _ => none }
def fnExactFlowOfRow : OpenClaim := { program := "ytjmefaihkblliaagreat", sum := "562eadae454346029994ba0df5e85dccbf91d1572f9a2e50aff53b850676b947", func := "loop.example/g00679/laws.FnExactFlowOf", spec := "fnExactFlowOf", unfollowed := true, recurses := true, plainKeys := false, apart := false }
def FnExactFlowOfSaid : Prop := fnExactFlowOfRow.holds Tryz.pinned (OpenSpec.ofChange fnExactFlowOfSpec)

/-- ITS FALSE NEIGHBOUR: 'it returns false'. Refute it at one input. -/
def fnExactFlowOfWrong : ChangeSpec := { name := "fnExactFlowOf", fn := fun _ => fun
  | [d1, d2, d3] => { results := [.lit (.bool false)], args := [d1, d2, d3] }
  | _ => none }
def FnExactFlowOfWrongFalsely : Prop := fnExactFlowOfRow.holds Tryz.pinned (OpenSpec.ofChange fnExactFlowOfWrong)

/-- 'laws.FnExactPrinted': WHATEVER THE INPUT: true; the input reads as it did. -/
def fnExactPrintedSpec : ChangeSpec := { name := "fnExactPrinted", fn := fun _ => fun
  | [d1, d2] => { results := [.lit (.bool true)], args := [d1, d2] }
  | _ => none }
def fnExactPrintedRow : OpenClaim := { program := "ytjmefaihkblliaagreat", sum := "562eadae454346029994ba0df5e85dccbf91d1572f9a2e50aff53b850676b947", func := "loop.example/g00679/laws.FnExactPrinted", spec := "fnExactPrinted", unfollowed := true, recurses := true, plainKeys := false, apart := false }
def FnExactPrintedSaid : Prop := fnExactPrintedRow.holds Tryz.pinned (OpenSpec.ofChange fnExactPrintedSpec)

/-- ITS FALSE NEIGHBOUR: 'it returns false'. Refute it at one input. -/
def fnExactPrintedWrong : ChangeSpec := { name := "fnExactPrinted", fn := fun _ => fun
  | [d1, d2] => { results := [.lit (.bool false)], args := [d1, d2] }
  | _ => none }
def FnExactPrintedWrongFalsely : Prop := fnExactPrintedRow.holds Tryz.pinned (OpenSpec.ofChange fnExactPrintedWrong)

/-- 'laws.FnExactShrink': WHATEVER THE INPUT: true; the input reads as it did. -/
def fnExactShrinkSpec : ChangeSpec := { name := "fnExactShrink", fn := fun _ => fun
  | [d1, d2, d3] => { results := [.lit (.bool true)], args := [d1, d2, d3] }
  | _ => none }
def fnExactShrinkRow : OpenClaim := { program := "ytjmefaihkblliaagreat", sum := "562eadae454346029994ba0df5e85dccbf91d1572f9a2e50aff53b850676b947", func := "loop.example/g00679/laws.FnExactShrink", spec := "fnExactShrink", unfollowed := true, recurses := true, plainKeys := false, apart := false }
def FnExactShrinkSaid : Prop := fnExactShrinkRow.holds Tryz.pinned (OpenSpec.ofChange fnExactShrinkSpec)

/-- ITS FALSE NEIGHBOUR: 'it returns false'. Refute it at one input. -/
def fnExactShrinkWrong : ChangeSpec := { name := "fnExactShrink", fn := fun _ => fun
  | [d1, d2, d3] => { results := [.lit (.bool false)], args := [d1, d2, d3] }
  | _ => none }
def FnExactShrinkWrongFalsely : Prop := fnExactShrinkRow.holds Tryz.pinned (OpenSpec.ofChange fnExactShrinkWrong)

/-- 'laws.FnExactExplore': WHATEVER THE INPUT: true; the input reads as it did. -/
def fnExactExploreSpec : ChangeSpec := { name := "fnExactExplore", fn := fun _ => fun
  | [d1, d2] => { results := [.lit (.bool true)], args := [d1, d2] }
  | _ => none }
def fnExactExploreRow : OpenClaim := { program := "ytjmefaihkblliaagreat", sum := "562eadae454346029994ba0df5e85dccbf91d1572f9a2e50aff53b850676b947", func := "loop.example/g00679/laws.FnExactExplore", spec := "fnExactExplore", unfollowed := true, recurses := true, plainKeys := false, apart := false }
def FnExactExploreSaid : Prop := fnExactExploreRow.holds Tryz.pinned (OpenSpec.ofChange fnExactExploreSpec)

/-- ITS FALSE NEIGHBOUR: 'it returns false'. Refute it at one input. -/
def fnExactExploreWrong : ChangeSpec := { name := "fnExactExplore", fn := fun _ => fun
  | [d1, d2] => { results := [.lit (.bool false)], args := [d1, d2] }
  | _ => none }
def FnExactExploreWrongFalsely : Prop := fnExactExploreRow.holds Tryz.pinned (OpenSpec.ofChange fnExactExploreWrong)

/-- 'laws.FnExactFind': WHATEVER THE INPUT: true; the input reads as it did. -/
def fnExactFindSpec : ChangeSpec := { name := "fnExactFind", fn := fun _ => fun
  | [d1, d2, d3] => { results := [.lit (.bool true)], args := [d1, d2, d3] }
  | _ => none }
def fnExactFindRow : OpenClaim := { program := "ytjmefaihkblliaagreat", sum := "562eadae454346029994ba0df5e85dccbf91d1572f9a2e50aff53b850676b947", func := "loop.example/g00679/laws.FnExactFind", spec := "fnExactFind", unfollowed := true, recurses := true, plainKeys := false, apart := false }
def FnExactFindSaid : Prop := fnExactFindRow.holds Tryz.pinned (OpenSpec.ofChange fnExactFindSpec)

/-- ITS FALSE NEIGHBOUR: 'it returns false'. Refute it at one input. -/
def fnExactFindWrong : ChangeSpec := { name := "fnExactFind", fn := fun _ => fun
  | [d1, d2, d3] => { results := [.lit (.bool false)], args := [d1, d2, d3] }
  | _ => none }
def FnExactFindWrongFalsely : Prop := fnExactFindRow.holds Tryz.pinned (OpenSpec.ofChange fnExactFindWrong)

/-- 'laws.FnExactRepNew': WHATEVER THE INPUT: true; the input reads as it did. -/
def fnExactRepNewSpec : ChangeSpec := { name := "fnExactRepNew", fn := fun _ => fun
  | [d1, d2] => { results := [.lit (.bool true)], args := [d1, d2] }
  | _ => none }
def fnExactRepNewRow : OpenClaim := { program := "ytjmefaihkblliaagreat", sum := "562eadae454346029994ba0df5e85dccbf91d1572f9a2e50aff53b850676b947", func := "loop.example/g00679/laws.FnExactRepNew", spec := "fnExactRepNew", unfollowed := true, recurses := true, plainKeys := false, apart := false }
def FnExactRepNewSaid : Prop := fnExactRepNewRow.holds Tryz.pinned (OpenSpec.ofChange fnExactRepNewSpec)

/-- ITS FALSE NEIGHBOUR: 'it returns false'. Refute it at one input. -/
def fnExactRepNewWrong : ChangeSpec := { name := "fnExactRepNew", fn := fun _ => fun
  | [d1, d2] => { results := [.lit (.bool false)], args := [d1, d2] }
  | _ => none }
def FnExactRepNewWrongFalsely : Prop := fnExactRepNewRow.holds Tryz.pinned (OpenSpec.ofChange fnExactRepNewWrong)

/- THE SECOND FORM. 'bulk': how many values and letters a reading holds, each counted each time it is reached (what is shared counts as often as it is met; a slice's spare places count too). A statement '..UptoSaid' is the law's where the arguments, and the package variables that the reading takes, are together of bulk at most 1048576: NARROWER than '..Said'. Prove '..Said' where nothing that the law and all that it calls make is longer than what came in: it says more and counts as full. Else prove '..UptoSaid'. A law counts once. -/
mutual
def uptoBulk {H : Type} : DataW H → Nat
  | .lit (.string bytes) => bytes.length + 1
  | .lit _ => 1
  | .nil => 1
  | .ptr d => uptoBulk d + 1
  | .slice elems spare => uptoBulkAll elems + uptoBulkAll spare + 1
  | .agg parts => uptoBulkAll parts + 1
  | .iface _ d => uptoBulk d + 1
  | .map entries => uptoBulkEntries entries + 1
  | .held _ => 1
def uptoBulkAll {H : Type} : List (DataW H) → Nat
  | [] => 0
  | d :: r => uptoBulk d + uptoBulkAll r
def uptoBulkEntries {H : Type} : List (Lit × DataW H) → Nat
  | [] => 0
  | x :: r => uptoBulkEntry x + uptoBulkEntries r
def uptoBulkEntry {H : Type} : Lit × DataW H → Nat
  | (.string bytes, d) => bytes.length + uptoBulk d + 1
  | (_, d) => uptoBulk d + 1
 end
def uptoSmall : (H : Type) → List (DataW H) → Bool := fun _ ds => decide (uptoBulkAll ds ≤ 1048576)
def OpenSpec.upto (s : _root_.Go.ChangeSpec) : _root_.Go.OpenSpec := { _root_.Go.OpenSpec.ofChange s with cond := some uptoSmall }

/-- 'laws.FnExactBranches', WHERE WHAT IT READS IS OF BULK AT MOST 1048576: true; the input reads as it did. -/
def fnExactBranchesUptoRow : OpenClaim := { program := "ytjmefaihkblliaagreat", sum := "562eadae454346029994ba0df5e85dccbf91d1572f9a2e50aff53b850676b947", func := "loop.example/g00679/laws.FnExactBranches", spec := "fnExactBranches", unfollowed := true, recurses := true, plainKeys := false, apart := false, narrowed := true }
def FnExactBranchesUptoSaid : Prop := fnExactBranchesUptoRow.holds Tryz.pinned (OpenSpec.upto fnExactBranchesSpec)

/-- 'laws.FnExactEndOf', WHERE WHAT IT READS IS OF BULK AT MOST 1048576: true; the input reads as it did. -/
def fnExactEndOfUptoRow : OpenClaim := { program := "ytjmefaihkblliaagreat", sum := "562eadae454346029994ba0df5e85dccbf91d1572f9a2e50aff53b850676b947", func := "loop.example/g00679/laws.FnExactEndOf", spec := "fnExactEndOf", unfollowed := true, recurses := true, plainKeys := false, apart := false, narrowed := true }
def FnExactEndOfUptoSaid : Prop := fnExactEndOfUptoRow.holds Tryz.pinned (OpenSpec.upto fnExactEndOfSpec)

/-- 'laws.FnExactFlowOf', WHERE WHAT IT READS IS OF BULK AT MOST 1048576: true; the input reads as it did. -/
def fnExactFlowOfUptoRow : OpenClaim := { program := "ytjmefaihkblliaagreat", sum := "562eadae454346029994ba0df5e85dccbf91d1572f9a2e50aff53b850676b947", func := "loop.example/g00679/laws.FnExactFlowOf", spec := "fnExactFlowOf", unfollowed := true, recurses := true, plainKeys := false, apart := false, narrowed := true }
def FnExactFlowOfUptoSaid : Prop := fnExactFlowOfUptoRow.holds Tryz.pinned (OpenSpec.upto fnExactFlowOfSpec)

/-- 'laws.FnExactPrinted', WHERE WHAT IT READS IS OF BULK AT MOST 1048576: true; the input reads as it did. -/
def fnExactPrintedUptoRow : OpenClaim := { program := "ytjmefaihkblliaagreat", sum := "562eadae454346029994ba0df5e85dccbf91d1572f9a2e50aff53b850676b947", func := "loop.example/g00679/laws.FnExactPrinted", spec := "fnExactPrinted", unfollowed := true, recurses := true, plainKeys := false, apart := false, narrowed := true }
def FnExactPrintedUptoSaid : Prop := fnExactPrintedUptoRow.holds Tryz.pinned (OpenSpec.upto fnExactPrintedSpec)

/-- 'laws.FnExactShrink', WHERE WHAT IT READS IS OF BULK AT MOST 1048576: true; the input reads as it did. -/
def fnExactShrinkUptoRow : OpenClaim := { program := "ytjmefaihkblliaagreat", sum := "562eadae454346029994ba0df5e85dccbf91d1572f9a2e50aff53b850676b947", func := "loop.example/g00679/laws.FnExactShrink", spec := "fnExactShrink", unfollowed := true, recurses := true, plainKeys := false, apart := false, narrowed := true }
def FnExactShrinkUptoSaid : Prop := fnExactShrinkUptoRow.holds Tryz.pinned (OpenSpec.upto fnExactShrinkSpec)

/-- 'laws.FnExactExplore', WHERE WHAT IT READS IS OF BULK AT MOST 1048576: true; the input reads as it did. -/
def fnExactExploreUptoRow : OpenClaim := { program := "ytjmefaihkblliaagreat", sum := "562eadae454346029994ba0df5e85dccbf91d1572f9a2e50aff53b850676b947", func := "loop.example/g00679/laws.FnExactExplore", spec := "fnExactExplore", unfollowed := true, recurses := true, plainKeys := false, apart := false, narrowed := true }
def FnExactExploreUptoSaid : Prop := fnExactExploreUptoRow.holds Tryz.pinned (OpenSpec.upto fnExactExploreSpec)

/-- 'laws.FnExactFind', WHERE WHAT IT READS IS OF BULK AT MOST 1048576: true; the input reads as it did. -/
def fnExactFindUptoRow : OpenClaim := { program := "ytjmefaihkblliaagreat", sum := "562eadae454346029994ba0df5e85dccbf91d1572f9a2e50aff53b850676b947", func := "loop.example/g00679/laws.FnExactFind", spec := "fnExactFind", unfollowed := true, recurses := true, plainKeys := false, apart := false, narrowed := true }
def FnExactFindUptoSaid : Prop := fnExactFindUptoRow.holds Tryz.pinned (OpenSpec.upto fnExactFindSpec)

/-- 'laws.FnExactRepNew', WHERE WHAT IT READS IS OF BULK AT MOST 1048576: true; the input reads as it did. -/
def fnExactRepNewUptoRow : OpenClaim := { program := "ytjmefaihkblliaagreat", sum := "562eadae454346029994ba0df5e85dccbf91d1572f9a2e50aff53b850676b947", func := "loop.example/g00679/laws.FnExactRepNew", spec := "fnExactRepNew", unfollowed := true, recurses := true, plainKeys := false, apart := false, narrowed := true }
def FnExactRepNewUptoSaid : Prop := fnExactRepNewUptoRow.holds Tryz.pinned (OpenSpec.upto fnExactRepNewSpec)

end Rows
end Go.Proofs.YtjmefaihkblliaaGreat

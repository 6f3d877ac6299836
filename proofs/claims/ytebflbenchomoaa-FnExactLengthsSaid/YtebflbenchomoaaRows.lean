/-
  No cell of these rows narrows 'for every input' (looked for: loops, veiled, ifaces, maps, wideKeys, modest, calm, conditions, laid).
  DERIVED. THE GIVEN ROWS OF THIS SEAT. 7 by the template 'for every input the law returns true; each argument reads behind the call as it read before'; 0 by the template 'total and deterministic' (their statements: YtebflbenchomoaaTotals.lean).
  GIVEN WITH THE SEED: the statements are not yours to turn. If you find one false, say at which input.
  Laid BY PROGRAM, IN A SANDBOX (cutbox-rows.mjs): the forced cells as the released guide's own fill.sh prints them over the translation da9d9771af166d18… (all of the seat's roots in one cut). By AI agents, Wed Nov 11 2026. No macro, syntax, notation, axiom, sorry.
-/
import Derived.Test.YtebflbenchomoaaChecked
import GoSem.Claim
import GoSem.ClaimJoined
import GoSem.ClaimMapViews
import Derived.JoinedTies
import Derived.KernelRfl
namespace Go.Proofs.Ytebflbenchomoaa
/- THE CELL 'sum', in the pinned program and in every row, IS THE sha256 OF THE DUMP (.gsa) THAT YtebflbenchomoaaProg.lean LOADS. Nothing in Lean hashes anything: it is a label: what it is worth is what the hold of that sum in a sandbox is worth. -/
noncomputable def Try.pinned : Pinned := { name := "ytebflbenchomoaa", sum := "da9d9771af166d182aff1d7ffbe1727536b7b286e7578a1742ebc33acd0ce6da", checked := Try.checked }
namespace Rows
def none {H : Type} : Left H := { results := [], args := [] }

/-- 'laws.FnExactPrefix': WHATEVER THE INPUT: true; the input reads as it did. -/
def fnExactPrefixSpec : ChangeSpec := { name := "fnExactPrefix", fn := fun _ => fun
  | [d1, d2] => { results := [.lit (.bool true)], args := [d1, d2] }
  | _ => none }
def fnExactPrefixRow : OpenClaim := { program := "ytebflbenchomoaa", sum := "da9d9771af166d182aff1d7ffbe1727536b7b286e7578a1742ebc33acd0ce6da", func := "loop.example/g00679/laws.FnExactPrefix", spec := "fnExactPrefix", apart := false }
def FnExactPrefixSaid : Prop := fnExactPrefixRow.holds Try.pinned (OpenSpec.ofChange fnExactPrefixSpec)

/-- ITS FALSE NEIGHBOUR: 'it returns false'. Refute it at one input. -/
def fnExactPrefixWrong : ChangeSpec := { name := "fnExactPrefix", fn := fun _ => fun
  | [d1, d2] => { results := [.lit (.bool false)], args := [d1, d2] }
  | _ => none }
def FnExactPrefixWrongFalsely : Prop := fnExactPrefixRow.holds Try.pinned (OpenSpec.ofChange fnExactPrefixWrong)

/-- 'laws.FnExactOwners': WHATEVER THE INPUT: true; the input reads as it did. -/
def fnExactOwnersSpec : ChangeSpec := { name := "fnExactOwners", fn := fun _ => fun
  | [d] => { results := [.lit (.bool true)], args := [d] }
  | _ => none }
def fnExactOwnersRow : OpenClaim := { program := "ytebflbenchomoaa", sum := "da9d9771af166d182aff1d7ffbe1727536b7b286e7578a1742ebc33acd0ce6da", func := "loop.example/g00679/laws.FnExactOwners", spec := "fnExactOwners", apart := false }
def FnExactOwnersSaid : Prop := fnExactOwnersRow.holds Try.pinned (OpenSpec.ofChange fnExactOwnersSpec)

/-- ITS FALSE NEIGHBOUR: 'it returns false'. Refute it at one input. -/
def fnExactOwnersWrong : ChangeSpec := { name := "fnExactOwners", fn := fun _ => fun
  | [d] => { results := [.lit (.bool false)], args := [d] }
  | _ => none }
def FnExactOwnersWrongFalsely : Prop := fnExactOwnersRow.holds Try.pinned (OpenSpec.ofChange fnExactOwnersWrong)

/-- 'laws.FnExactSameState': WHATEVER THE INPUT: true; the input reads as it did. -/
def fnExactSameStateSpec : ChangeSpec := { name := "fnExactSameState", fn := fun _ => fun
  | [d1, d2] => { results := [.lit (.bool true)], args := [d1, d2] }
  | _ => none }
def fnExactSameStateRow : OpenClaim := { program := "ytebflbenchomoaa", sum := "da9d9771af166d182aff1d7ffbe1727536b7b286e7578a1742ebc33acd0ce6da", func := "loop.example/g00679/laws.FnExactSameState", spec := "fnExactSameState", unfollowed := true, recurses := true, apart := false }
def FnExactSameStateSaid : Prop := fnExactSameStateRow.holds Try.pinned (OpenSpec.ofChange fnExactSameStateSpec)

/-- ITS FALSE NEIGHBOUR: 'it returns false'. Refute it at one input. -/
def fnExactSameStateWrong : ChangeSpec := { name := "fnExactSameState", fn := fun _ => fun
  | [d1, d2] => { results := [.lit (.bool false)], args := [d1, d2] }
  | _ => none }
def FnExactSameStateWrongFalsely : Prop := fnExactSameStateRow.holds Try.pinned (OpenSpec.ofChange fnExactSameStateWrong)

/-- 'laws.FnExactFirstDiff': WHATEVER THE INPUT: true; the input reads as it did. -/
def fnExactFirstDiffSpec : ChangeSpec := { name := "fnExactFirstDiff", fn := fun _ => fun
  | [d1, d2] => { results := [.lit (.bool true)], args := [d1, d2] }
  | _ => none }
def fnExactFirstDiffRow : OpenClaim := { program := "ytebflbenchomoaa", sum := "da9d9771af166d182aff1d7ffbe1727536b7b286e7578a1742ebc33acd0ce6da", func := "loop.example/g00679/laws.FnExactFirstDiff", spec := "fnExactFirstDiff", apart := false }
def FnExactFirstDiffSaid : Prop := fnExactFirstDiffRow.holds Try.pinned (OpenSpec.ofChange fnExactFirstDiffSpec)

/-- ITS FALSE NEIGHBOUR: 'it returns false'. Refute it at one input. -/
def fnExactFirstDiffWrong : ChangeSpec := { name := "fnExactFirstDiff", fn := fun _ => fun
  | [d1, d2] => { results := [.lit (.bool false)], args := [d1, d2] }
  | _ => none }
def FnExactFirstDiffWrongFalsely : Prop := fnExactFirstDiffRow.holds Try.pinned (OpenSpec.ofChange fnExactFirstDiffWrong)

/-- 'laws.FnExactHeld': WHATEVER THE INPUT: true; the input reads as it did. -/
def fnExactHeldSpec : ChangeSpec := { name := "fnExactHeld", fn := fun _ => fun
  | [d1, d2] => { results := [.lit (.bool true)], args := [d1, d2] }
  | _ => none }
def fnExactHeldRow : OpenClaim := { program := "ytebflbenchomoaa", sum := "da9d9771af166d182aff1d7ffbe1727536b7b286e7578a1742ebc33acd0ce6da", func := "loop.example/g00679/laws.FnExactHeld", spec := "fnExactHeld", apart := false }
def FnExactHeldSaid : Prop := fnExactHeldRow.holds Try.pinned (OpenSpec.ofChange fnExactHeldSpec)

/-- ITS FALSE NEIGHBOUR: 'it returns false'. Refute it at one input. -/
def fnExactHeldWrong : ChangeSpec := { name := "fnExactHeld", fn := fun _ => fun
  | [d1, d2] => { results := [.lit (.bool false)], args := [d1, d2] }
  | _ => none }
def FnExactHeldWrongFalsely : Prop := fnExactHeldRow.holds Try.pinned (OpenSpec.ofChange fnExactHeldWrong)

/-- 'laws.FnExactLeft': WHATEVER THE INPUT: true; the input reads as it did. -/
def fnExactLeftSpec : ChangeSpec := { name := "fnExactLeft", fn := fun _ => fun
  | [d] => { results := [.lit (.bool true)], args := [d] }
  | _ => none }
def fnExactLeftRow : OpenClaim := { program := "ytebflbenchomoaa", sum := "da9d9771af166d182aff1d7ffbe1727536b7b286e7578a1742ebc33acd0ce6da", func := "loop.example/g00679/laws.FnExactLeft", spec := "fnExactLeft", apart := false }
def FnExactLeftSaid : Prop := fnExactLeftRow.holds Try.pinned (OpenSpec.ofChange fnExactLeftSpec)

/-- ITS FALSE NEIGHBOUR: 'it returns false'. Refute it at one input. -/
def fnExactLeftWrong : ChangeSpec := { name := "fnExactLeft", fn := fun _ => fun
  | [d] => { results := [.lit (.bool false)], args := [d] }
  | _ => none }
def FnExactLeftWrongFalsely : Prop := fnExactLeftRow.holds Try.pinned (OpenSpec.ofChange fnExactLeftWrong)

/-- 'laws.FnExactLengths': WHATEVER THE INPUT: true; the input reads as it did. -/
def fnExactLengthsSpec : ChangeSpec := { name := "fnExactLengths", fn := fun _ => fun
  | [d] => { results := [.lit (.bool true)], args := [d] }
  | _ => none }
def fnExactLengthsRow : OpenClaim := { program := "ytebflbenchomoaa", sum := "da9d9771af166d182aff1d7ffbe1727536b7b286e7578a1742ebc33acd0ce6da", func := "loop.example/g00679/laws.FnExactLengths", spec := "fnExactLengths", apart := false }
def FnExactLengthsSaid : Prop := fnExactLengthsRow.holds Try.pinned (OpenSpec.ofChange fnExactLengthsSpec)

/-- ITS FALSE NEIGHBOUR: 'it returns false'. Refute it at one input. -/
def fnExactLengthsWrong : ChangeSpec := { name := "fnExactLengths", fn := fun _ => fun
  | [d] => { results := [.lit (.bool false)], args := [d] }
  | _ => none }
def FnExactLengthsWrongFalsely : Prop := fnExactLengthsRow.holds Try.pinned (OpenSpec.ofChange fnExactLengthsWrong)

/- THE SECOND FORM. 'bulk': how many values and letters a reading holds, each counted each time it is reached (what is shared counts as often as it is met; a slice's spare places count too). A statement '..UptoSaid' is the law's where the arguments, and the package variables that the reading takes, are together of bulk at most 1048576: NARROWER than '..Said'. Prove '..Said' where nothing that the law and all that it calls make is longer than what came in: it says more and counts as full. Else prove '..UptoSaid'. A law counts once. -/
mutual
def uptoBulk {H : Type} : DataW H → Nat
  | .lit (.string bytes) => bytes.length + 1
  | .lit _ => 1
  | .nil => 1
  | .ptr d => uptoBulk d + 1
  | .slice elems spare => uptoBulkAll elems + uptoBulkAll spare + 1
  | .agg parts => uptoBulkAll parts + 1
  | .iface _ d => uptoBulk d + 1
  | .map entries => uptoBulkEntries entries + 1
  | .held _ => 1
def uptoBulkAll {H : Type} : List (DataW H) → Nat
  | [] => 0
  | d :: r => uptoBulk d + uptoBulkAll r
def uptoBulkEntries {H : Type} : List (Lit × DataW H) → Nat
  | [] => 0
  | x :: r => uptoBulkEntry x + uptoBulkEntries r
def uptoBulkEntry {H : Type} : Lit × DataW H → Nat
  | (.string bytes, d) => bytes.length + uptoBulk d + 1
  | (_, d) => uptoBulk d + 1
 end
def uptoSmall : (H : Type) → List (DataW H) → Bool := fun _ ds => decide (uptoBulkAll ds ≤ 1048576)
def OpenSpec.upto (s : _root_.Go.ChangeSpec) : _root_.Go.OpenSpec := { _root_.Go.OpenSpec.ofChange s with cond := some uptoSmall }

/-- 'laws.FnExactPrefix', WHERE WHAT IT READS IS OF BULK AT MOST 1048576: true; the input reads as it did. -/
def fnExactPrefixUptoRow : OpenClaim := { program := "ytebflbenchomoaa", sum := "da9d9771af166d182aff1d7ffbe1727536b7b286e7578a1742ebc33acd0ce6da", func := "loop.example/g00679/laws.FnExactPrefix", spec := "fnExactPrefix", apart := false, narrowed := true }
def FnExactPrefixUptoSaid : Prop := fnExactPrefixUptoRow.holds Try.pinned (OpenSpec.upto fnExactPrefixSpec)

/-- 'laws.FnExactOwners', WHERE WHAT IT READS IS OF BULK AT MOST 1048576: true; the input reads as it did. -/
def fnExactOwnersUptoRow : OpenClaim := { program := "ytebflbenchomoaa", sum := "da9d9771af166d182aff1d7ffbe1727536b7b286e7578a1742ebc33acd0ce6da", func := "loop.example/g00679/laws.FnExactOwners", spec := "fnExactOwners", apart := false, narrowed := true }
def FnExactOwnersUptoSaid : Prop := fnExactOwnersUptoRow.holds Try.pinned (OpenSpec.upto fnExactOwnersSpec)

/-- 'laws.FnExactSameState', WHERE WHAT IT READS IS OF BULK AT MOST 1048576: true; the input reads as it did. -/
def fnExactSameStateUptoRow : OpenClaim := { program := "ytebflbenchomoaa", sum := "da9d9771af166d182aff1d7ffbe1727536b7b286e7578a1742ebc33acd0ce6da", func := "loop.example/g00679/laws.FnExactSameState", spec := "fnExactSameState", unfollowed := true, recurses := true, apart := false, narrowed := true }
def FnExactSameStateUptoSaid : Prop := fnExactSameStateUptoRow.holds Try.pinned (OpenSpec.upto fnExactSameStateSpec)

/-- 'laws.FnExactFirstDiff', WHERE WHAT IT READS IS OF BULK AT MOST 1048576: true; the input reads as it did. -/
def fnExactFirstDiffUptoRow : OpenClaim := { program := "ytebflbenchomoaa", sum := "da9d9771af166d182aff1d7ffbe1727536b7b286e7578a1742ebc33acd0ce6da", func := "loop.example/g00679/laws.FnExactFirstDiff", spec := "fnExactFirstDiff", apart := false, narrowed := true }
def FnExactFirstDiffUptoSaid : Prop := fnExactFirstDiffUptoRow.holds Try.pinned (OpenSpec.upto fnExactFirstDiffSpec)

/-- 'laws.FnExactHeld', WHERE WHAT IT READS IS OF BULK AT MOST 1048576: true; the input reads as it did. -/
def fnExactHeldUptoRow : OpenClaim := { program := "ytebflbenchomoaa", sum := "da9d9771af166d182aff1d7ffbe1727536b7b286e7578a1742ebc33acd0ce6da", func := "loop.example/g00679/laws.FnExactHeld", spec := "fnExactHeld", apart := false, narrowed := true }
def FnExactHeldUptoSaid : Prop := fnExactHeldUptoRow.holds Try.pinned (OpenSpec.upto fnExactHeldSpec)

/-- 'laws.FnExactLeft', WHERE WHAT IT READS IS OF BULK AT MOST 1048576: true; the input reads as it did. -/
def fnExactLeftUptoRow : OpenClaim := { program := "ytebflbenchomoaa", sum := "da9d9771af166d182aff1d7ffbe1727536b7b286e7578a1742ebc33acd0ce6da", func := "loop.example/g00679/laws.FnExactLeft", spec := "fnExactLeft", apart := false, narrowed := true }
def FnExactLeftUptoSaid : Prop := fnExactLeftUptoRow.holds Try.pinned (OpenSpec.upto fnExactLeftSpec)

/-- 'laws.FnExactLengths', WHERE WHAT IT READS IS OF BULK AT MOST 1048576: true; the input reads as it did. -/
def fnExactLengthsUptoRow : OpenClaim := { program := "ytebflbenchomoaa", sum := "da9d9771af166d182aff1d7ffbe1727536b7b286e7578a1742ebc33acd0ce6da", func := "loop.example/g00679/laws.FnExactLengths", spec := "fnExactLengths", apart := false, narrowed := true }
def FnExactLengthsUptoSaid : Prop := fnExactLengthsUptoRow.holds Try.pinned (OpenSpec.upto fnExactLengthsSpec)

end Rows
end Go.Proofs.Ytebflbenchomoaa

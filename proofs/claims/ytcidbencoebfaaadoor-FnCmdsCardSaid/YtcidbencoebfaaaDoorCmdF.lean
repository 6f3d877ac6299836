/- Commands as texts: what both write; the program's cmdForm. Conditions: bounds on the sizes. -/
import Derived.Test.YtcidbencoebfaaaDoorCmdP
namespace Go.Proofs.YtcidbencoebfaaaDoor.Wd
open Go.RowKit
set_option linter.unusedVariables false
set_option linter.unusedSimpArgs false
set_option maxHeartbeats 2000000
set_option maxRecDepth 100000
def cmdWord (k : Int) : ByteArray := if k = 1 then ⟨#[114, 101, 99, 111, 114, 100]⟩ else if k = 2 then ⟨#[116, 117, 114, 110, 115]⟩ else if k = 3 then ⟨#[114, 101, 112, 108, 97, 121]⟩ else if k = 4 then ⟨#[99, 117, 116]⟩ else if k = 5 then ⟨#[98, 101, 110, 100]⟩ else if k = 6 then ⟨#[101, 120, 116, 101, 110, 100]⟩ else if k = 7 then ⟨#[115, 104, 111, 119]⟩ else if k = 8 then ⟨#[108, 111, 103]⟩ else ⟨#[]⟩
def cmdCount (k : Int) : Nat := if k = 2 then 1 else if k = 4 then 1 else if k = 5 then 2 else 0
def cmdPicks (k : Int) : Bool := decide (k = 1 ∨ k = 3 ∨ k = 6)
theorem cmdForm_calls (k : Int) (w : World) :
    Calls Tryd.prog 21 #[.int .i64 k] w fun e w' => e = .returned (.tuple #[.string (cmdWord k), .int .i64 (cmdCount k : Nat), .bool (cmdPicks k)]) ∧ Below w.heap.size w w' := by
  go_enter Tryd.func21, Tryd.ntmps21
  go_wp2
  all_goals (go_ret3; refine ⟨?_, bel⟩; simp_all [cmdWord, cmdCount, cmdPicks])
def nums (x : MCmd) : List Int := [x.a, x.b]
def pickT (p : MPick) : ByteArray := joined [numText p.g, numText p.c] colon
def wsTo (x : MCmd) (i : Nat) : List ByteArray := cmdWord x.kind :: ((nums x).take (min i (cmdCount x.kind))).map numText
def cmdFine (x : MCmd) : Prop := (cmdCount x.kind < 1 → x.a = 0) ∧ (cmdCount x.kind < 2 → x.b = 0) ∧ (cmdPicks x.kind = false → x.picks = [])
instance (x : MCmd) : Decidable (cmdFine x) := by unfold cmdFine; infer_instance
def cmdText (x : MCmd) : ByteArray := if cmdFine x then joined (wsTo x 2 ++ x.picks.map pickT) sp else ⟨#[]⟩
end Go.Proofs.YtcidbencoebfaaaDoor.Wd


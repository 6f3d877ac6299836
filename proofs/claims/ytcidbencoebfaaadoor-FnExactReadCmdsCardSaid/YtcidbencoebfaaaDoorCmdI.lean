/- The program's CmdText. Conditions: the command is of at most 1048576 values. -/
import Derived.Test.YtcidbencoebfaaaDoorCmdF
import Derived.Test.YtcidbencoebfaaaDoorMk
namespace Go.Proofs.YtcidbencoebfaaaDoor.Wd
open Go.RowKit
set_option linter.unusedVariables false
set_option linter.unusedSimpArgs false
set_option maxHeartbeats 2000000
set_option maxRecDepth 100000
theorem numText_le (n : Int) : (numText n).size ≤ 64 := Nat.le_trans (numText_size n) (by decide)
theorem pickT_le (p : MPick) : (pickT p).size ≤ 64 := by
  have h := joined_size (xs := [numText p.g, numText p.c]) (sep := colon) (m := 10) (by intro x hx; simp at hx; rcases hx with rfl | rfl <;> exact numText_size _) (by decide)
  exact Nat.le_trans h (by simp)
theorem cmdWord_le (k : Int) : (cmdWord k).size ≤ 64 := by
  unfold cmdWord
  repeat' split
  all_goals decide
theorem cmdCount_le (k : Int) : cmdCount k ≤ 2 := by unfold cmdCount; repeat' split
                                                     all_goals decide
theorem cmdText_no {x : MCmd} (h : ¬ cmdFine x) : cmdText x = ⟨#[]⟩ := by unfold cmdText; rw [if_neg h]
theorem cmdText_yes {x : MCmd} (h : cmdFine x) : cmdText x = joined (wsTo x 2 ++ x.picks.map pickT) sp := by unfold cmdText; rw [if_pos h]
theorem wsTo_in {x : MCmd} {i : Nat} {n : Int} (hi : i < cmdCount x.kind) (hn : (nums x)[i]? = some n) : wsTo x (i + 1) = wsTo x i ++ [numText n] := by
  unfold wsTo
  rw [show min (i + 1) (cmdCount x.kind) = i + 1 by omega, show min i (cmdCount x.kind) = i by omega, List.take_add_one, hn]
  simp
theorem wsTo_le {x : MCmd} {i : Nat} : ∀ y ∈ wsTo x i, y.size ≤ 64 := by
  intro y hy
  unfold wsTo at hy
  rcases List.mem_cons.1 hy with rfl | hy
  · exact cmdWord_le _
  · obtain ⟨n, _, rfl⟩ := List.mem_map.1 hy
    exact numText_le n
end Go.Proofs.YtcidbencoebfaaaDoor.Wd


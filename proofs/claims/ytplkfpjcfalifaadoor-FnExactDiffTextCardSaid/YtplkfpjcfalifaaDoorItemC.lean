/- Items as texts. Conditions: none. -/
import Derived.Test.YtplkfpjcfalifaaDoorItemP
import Derived.Test.YtplkfpjcfalifaaDoorMk
import Derived.Deep.CutRange
import Derived.Lib.SmallJoins
namespace Go.Proofs.YtplkfpjcfalifaaDoor.Wd
open Go.RowKit
set_option linter.unusedVariables false
set_option linter.unusedSimpArgs false
set_option maxHeartbeats 4000000
set_option maxRecDepth 100000
theorem numText_le (n : Int) : (numText n).size ≤ 64 := Nat.le_trans (numText_size n) (by decide)
theorem itemWord_le (k : Nat) : (itemWord k).size ≤ 64 := by
  by_cases h : k - 1 < 10
  · have : ∀ j : Fin 10, (([⟨#[115, 101, 110, 116]⟩, ⟨#[103, 111, 116]⟩, ⟨#[99, 108, 111, 115, 101, 100]⟩, ⟨#[112, 105, 99, 107, 101, 100]⟩, ⟨#[108, 111, 99, 107, 101, 100]⟩, ⟨#[117, 110, 108, 111, 99, 107, 101, 100]⟩, ⟨#[115, 112, 97, 119, 110, 101, 100]⟩, ⟨#[112, 114, 105, 110, 116, 101, 100]⟩, ⟨#[100, 111, 110, 101]⟩, ⟨#[100, 101, 97, 100]⟩] : List ByteArray).getD j.val ⟨#[]⟩).size ≤ 64 := by decide
    exact this ⟨k - 1, h⟩
  · unfold itemWord
    rw [List.getD_eq_getElem?_getD, List.getElem?_eq_none (by simp; omega)]
    decide
theorem valT_le (v : Int) : (valT v).size ≤ 64 := by unfold valT; split; decide; exact numText_le v
theorem itemWords_le {k : Nat} {o v : Int} {b : Bool} : ∀ y ∈ itemWords k o v b, y.size ≤ 64 := by
  intro y hy
  unfold itemWords at hy
  simp only [List.mem_append, List.mem_singleton] at hy
  rcases hy with ((rfl | hy) | hy) | hy
  · exact itemWord_le k
  · split at hy
    · simp at hy; subst hy; exact numText_le o
    · cases hy
  · split at hy
    · simp at hy; subst hy; exact valT_le v
    · cases hy
  · split at hy
    · simp at hy; subst hy; decide
    · cases hy
theorem itemWords_len {k : Nat} {o v : Int} {b : Bool} : (itemWords k o v b).length ≤ 4 := by
  unfold itemWords
  repeat' split
  all_goals simp
theorem itemText_no {i : MItem} (h : itemOk i = false) : itemText i = ⟨#[]⟩ := by unfold itemText; rw [h]; rfl
theorem itemText_yes {i : MItem} (h : itemOk i = true) : itemText i = joined (itemWords i.kind.toNat i.obj i.val i.ok) sp := by unfold itemText; rw [if_pos h]
theorem itemText_le (i : MItem) : (itemText i).size ≤ 512 := by
  unfold itemText
  split
  · refine Nat.le_trans (joined_size (m := 64) itemWords_le (by decide)) ?_
    have := itemWords_len (k := i.kind.toNat) (o := i.obj) (v := i.val) (b := i.ok)
    omega
  · decide
end Go.Proofs.YtplkfpjcfalifaaDoor.Wd

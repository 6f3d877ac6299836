/- Where a text is cut: at the first line that is two dashes. Conditions: none. -/
import Derived.Lib.IndexLaws
import Derived.Lib.Hide
import Derived.Test.YtplkfpjcfalifaaProg
namespace Go.Proofs.Ytplkfpjcfalifaa.Wd
open Go.RowKit
set_option linter.unusedVariables false
set_option linter.unusedSimpArgs false
def nxt (s : ByteArray) (a : Nat) : Int := Lib.indexByte (s.extract a s.size).data.toList 10
def dashes : ByteArray := ⟨#[45, 45]⟩
theorem ext_list (s : ByteArray) (a b : Nat) : (s.extract a b).data.toList = (s.data.toList.drop a).take (b - a) := by
  rw [ByteArray.data_extract, Array.toList_extract]
theorem ext_at {s : ByteArray} {a k : Nat} : (s.extract a s.size).data.toList[k]? = s.data.toList[a + k]? := by
  rw [ext_list]
  by_cases h : k < s.size - a
  · rw [List.getElem?_take_of_lt h, List.getElem?_drop]
  · have h1 : s.data.toList.length = s.size := by simp
    rw [List.getElem?_eq_none (by simp; omega), List.getElem?_eq_none (by omega)]
theorem nxt_eq {s : ByteArray} {a i : Nat} (hai : a ≤ i) (hno : ∀ j, a ≤ j → j < i → s.data.toList[j]? ≠ some 10) (hi : s.data.toList[i]? = some 10) : nxt s a = ((i - a : Nat) : Int) := by
  unfold nxt
  have hge := Lib.indexByte_ge (s.extract a s.size).data.toList 10
  by_cases hm : Lib.indexByte (s.extract a s.size).data.toList 10 = -1
  · exact absurd (by rw [ext_at, show a + (i - a) = i by omega]; exact hi) (Lib.indexByte_none hm (i - a))
  · obtain ⟨o, ho⟩ := Int.eq_ofNat_of_zero_le (show 0 ≤ Lib.indexByte (s.extract a s.size).data.toList 10 by omega)
    obtain ⟨h1, h2⟩ := Lib.indexByte_some ho
    rw [ext_at] at h1
    rw [ho]
    rcases Nat.lt_trichotomy (a + o) i with h | h | h
    · exact absurd h1 (hno _ (by omega) h)
    · subst h; congr 1; omega
    · have := h2 (i - a) (by omega)
      rw [ext_at, show a + (i - a) = i by omega] at this
      exact absurd hi this
theorem nxt_none {s : ByteArray} {a : Nat} (hno : ∀ j, a ≤ j → j < s.size → s.data.toList[j]? ≠ some 10) : nxt s a = -1 := by
  unfold nxt
  have hge := Lib.indexByte_ge (s.extract a s.size).data.toList 10
  by_cases hm : Lib.indexByte (s.extract a s.size).data.toList 10 = -1
  · exact hm
  · obtain ⟨o, ho⟩ := Int.eq_ofNat_of_zero_le (show 0 ≤ Lib.indexByte (s.extract a s.size).data.toList 10 by omega)
    obtain ⟨h1, h2⟩ := Lib.indexByte_some ho
    rw [ext_at] at h1
    have hl := (List.getElem?_eq_some_iff.1 h1).1
    exact absurd h1 (hno _ (by omega) (by simpa using hl))
theorem nxt_lt {s : ByteArray} {a i : Nat} (h : nxt s a = i) : a + i < s.size := by
  obtain ⟨h1, h2⟩ := Lib.indexByte_some h
  rw [ext_at] at h1
  have hl := (List.getElem?_eq_some_iff.1 h1).1
  simpa using hl
def cutAt (s : ByteArray) (a : Nat) : Option Nat :=
  if h : 0 ≤ nxt s a ∧ a ≤ s.size then (if s.extract a (a + (nxt s a).toNat) = dashes then some a else cutAt s (a + (nxt s a).toNat + 1)) else none
termination_by s.size + 1 - a
decreasing_by omega
def cutA (s : ByteArray) : ByteArray := match cutAt s 0 with | some p => s.extract 0 p | none => ⟨#[]⟩
def cutB (s : ByteArray) : ByteArray := match cutAt s 0 with | some p => s.extract (p + 3) s.size | none => ⟨#[]⟩
def cutC (s : ByteArray) : Bool := (cutAt s 0).isSome
theorem cutAt_none {s : ByteArray} {a : Nat} (h : nxt s a < 0) : cutAt s a = none := by rw [cutAt, dif_neg (by omega)]
theorem cutAt_hit {s : ByteArray} {a i : Nat} (h : nxt s a = i) (hd : s.extract a (a + i) = dashes) : cutAt s a = some a := by
  have := nxt_lt h
  rw [cutAt, dif_pos (by omega), h, if_pos (by simpa using hd)]
theorem cutAt_next {s : ByteArray} {a i : Nat} (h : nxt s a = i) (hd : ¬ s.extract a (a + i) = dashes) : cutAt s a = cutAt s (a + i + 1) := by
  have := nxt_lt h
  rw [cutAt, dif_pos (by omega), h, if_neg (by simpa using hd)]
  simp
theorem dash_len {s : ByteArray} {a i : Nat} (h : a + i < s.size) (hd : s.extract a (a + i) = dashes) : i = 2 := by
  have := congrArg ByteArray.size hd
  rw [ByteArray.size_extract] at this
  have h2 : dashes.size = 2 := rfl
  omega
theorem data_at {s : ByteArray} {i : Nat} (h : i < s.size) : s.data.toList[i]? = some s[i] := by
  rw [Array.getElem?_toList, Array.getElem?_eq_getElem (by simpa using h)]; rfl
theorem dash_list {x : ByteArray} (h : x.toList = [45, 45]) : x = dashes := by
  have h2 : x.data.toList = [45, 45] := by rw [← h, Lib.toList_data]
  obtain ⟨⟨l⟩⟩ := x
  simp only at h2
  subst h2; rfl
end Go.Proofs.Ytplkfpjcfalifaa.Wd

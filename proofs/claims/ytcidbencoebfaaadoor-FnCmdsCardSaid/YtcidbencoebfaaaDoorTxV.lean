/- Texts cut at a byte: plain lemmas. Conditions: none. -/
import Derived.Test.YtcidbencoebfaaaDoorTxP
import Derived.Lib.SplitLaws
import Derived.Lib.CutLaws
import Derived.Lib.IndexLaws
namespace Go.Proofs.YtcidbencoebfaaaDoor.Wd
open Go.RowKit
set_option linter.unusedVariables false
set_option linter.unusedSimpArgs false
theorem byte_at {s : ByteArray} {i : Nat} (h : i < s.size) : s.data.toList[i]? = some s[i] := by
  rw [Array.getElem?_toList, Array.getElem?_eq_getElem (by simpa using h)]; rfl
theorem size_list (s : ByteArray) : s.size = s.data.toList.length := by simp
theorem numVal_snoc (l : List UInt8) (b : UInt8) : numVal (l ++ [b]) = 10 * numVal l + (b.toNat - 48) := by unfold numVal; rw [List.foldl_append]; rfl
theorem take_snoc {s : ByteArray} {i : Nat} (h : i < s.size) : s.data.toList.take (i + 1) = s.data.toList.take i ++ [s[i]] := by
  rw [List.take_add_one, byte_at h]; rfl
theorem numVal_lt {l : List UInt8} (h : l.all dig = true) : numVal l < 10 ^ l.length := by
  have key : ∀ (l : List UInt8), l.all dig = true → ∀ n, l.foldl (fun n b => 10 * n + (b.toNat - 48)) n < (n + 1) * 10 ^ l.length := by
    intro l
    induction l with
    | nil => intro _ n; simp
    | cons b l ih =>
      intro h n
      simp only [List.all_cons, Bool.and_eq_true] at h
      have hb : b.toNat ≤ 57 := by have := h.1; unfold dig at this; simp at this; exact this.2
      have := ih h.2 (10 * n + (b.toNat - 48))
      rw [List.foldl_cons, List.length_cons, Nat.pow_succ]
      refine Nat.lt_of_lt_of_le this ?_
      rw [show (n + 1) * (10 ^ l.length * 10) = ((n + 1) * 10) * 10 ^ l.length by rw [Nat.mul_assoc, Nat.mul_comm 10]]
      exact Nat.mul_le_mul_right _ (by omega)
  simpa [numVal] using key l h 0
theorem textNum_size {s : ByteArray} (h : ¬ (1 ≤ s.size ∧ s.size ≤ 10)) : textNum s = none := by unfold textNum; rw [if_neg]; rintro ⟨h1, h2, _⟩; exact h ⟨h1, h2⟩
theorem textNum_dig {s : ByteArray} {i : Nat} (h : i < s.size) (hd : dig s[i] = false) : textNum s = none := by
  unfold textNum; rw [if_neg]
  rintro ⟨_, _, h3, _⟩
  rw [List.all_eq_true] at h3
  have := h3 s[i] (List.mem_of_getElem? (byte_at h))
  rw [hd] at this; cases this
theorem textNum_end {s : ByteArray} (h : 1 ≤ s.size ∧ s.size ≤ 10) (hd : s.data.toList.all dig = true) : textNum s = if numText (numVal s.data.toList) = s then some (numVal s.data.toList) else none := by
  unfold textNum
  by_cases h2 : numText (numVal s.data.toList) = s
  · rw [if_pos ⟨h.1, h.2, hd, h2⟩, if_pos h2]
  · rw [if_neg (fun hc => h2 hc.2.2.2), if_neg h2]
theorem dig_false {b : UInt8} : dig b = false ↔ b.toNat < 48 ∨ 57 < b.toNat := by unfold dig; rw [decide_eq_false_iff_not]; omega
theorem dig_true {b : UInt8} : dig b = true ↔ 48 ≤ b.toNat ∧ b.toNat ≤ 57 := by unfold dig; rw [decide_eq_true_eq]
theorem all_snoc {s : ByteArray} {i : Nat} (h : i < s.size) (ha : (s.data.toList.take i).all dig = true) (hd : dig s[i] = true) : (s.data.toList.take (i + 1)).all dig = true := by
  rw [take_snoc h, List.all_append, ha]; simp [hd]
theorem index_one (c : UInt8) : ∀ l : List UInt8, Lib.index l [c] = Lib.indexByte l c
  | [] => rfl
  | b :: l => by
    rw [Lib.index, Lib.indexByte, index_one c l]
    by_cases h : c = b
    · subst h; simp [List.isPrefixOf]
    · have h1 : (c == b) = false := by simpa using h
      have h2 : (b == c) = false := by simp; exact fun e => h e.symm
      simp [List.isPrefixOf, h1, h2]
theorem indexB_one (s : ByteArray) (c : UInt8) : Lib.indexB s ⟨#[c]⟩ = Lib.indexByte s.data.toList c := index_one c _
theorem idx_free {l : List UInt8} {c : UInt8} (h : Lib.indexByte l c = -1) : ∀ b ∈ l, b ≠ c := by
  intro b hb he
  obtain ⟨j, hj⟩ := List.mem_iff_getElem?.1 hb
  subst he
  exact Lib.indexByte_none h j hj
theorem idx_split {l : List UInt8} {c : UInt8} {i : Nat} (h : Lib.indexByte l c = i) : l = l.take i ++ c :: l.drop (i + 1) ∧ (∀ b ∈ l.take i, b ≠ c) ∧ i < l.length := by
  obtain ⟨h1, h2⟩ := Lib.indexByte_some h
  have hl := (List.getElem?_eq_some_iff.1 h1).1
  have he := (List.getElem?_eq_some_iff.1 h1).2
  refine ⟨?_, ?_, hl⟩
  · rw [← he, ← List.drop_eq_getElem_cons hl, List.take_append_drop]
  · intro b hb he'
    obtain ⟨j, hj⟩ := List.mem_iff_getElem?.1 hb
    have hjl := (List.getElem?_eq_some_iff.1 hj).1
    rw [List.length_take] at hjl
    rw [List.getElem?_take_of_lt (by omega)] at hj
    subst he'
    exact h2 j (by omega) hj
theorem ext_lst (s : ByteArray) (a b : Nat) : (s.extract a b).data.toList = (s.data.toList.drop a).take (b - a) := by
  rw [ByteArray.data_extract, Array.toList_extract]
theorem splitB_parts (c : UInt8) : ∀ (k : Nat) (s : ByteArray), Lib.countB s ⟨#[c]⟩ = k → Lib.splitB ⟨#[c]⟩ 0 k s = parts c s := by
  intro k
  induction k with
  | zero =>
    intro s hk
    rcases Lib.indexB_cases s ⟨#[c]⟩ with h | ⟨i, h, _⟩
    · rw [Lib.splitB_miss _ _ _ _ h, parts_free (idx_free (by rw [← indexB_one]; exact h))]
    · have := Lib.countB_hit s ⟨#[c]⟩ i (Nat.le_refl 1) h; omega
  | succ k ih =>
    intro s hk
    rcases Lib.indexB_cases s ⟨#[c]⟩ with h | ⟨i, h, _⟩
    · have := Lib.countB_miss s ⟨#[c]⟩ h; omega
    · have hc := Lib.countB_hit s ⟨#[c]⟩ i (Nat.le_refl 1) h
      rw [Lib.splitB_hit _ _ _ _ _ h, ih _ (by omega)]
      have h' : Lib.indexByte s.data.toList c = i := by rw [← indexB_one]; exact h
      obtain ⟨h1, h2, h3⟩ := idx_split h'
      unfold parts
      conv => rhs; rw [h1, splitL_hit h2]
      rw [List.map_cons]
      congr 1
      · apply ba_ext; rw [ext_lst]; simp [bytes]
      · congr 2
        rw [ext_lst, List.take_of_length_le (by simp)]
        rfl
theorem split_count (c : UInt8) (s : ByteArray) : Lib.countB s ⟨#[c]⟩ + 1 = (parts c s).length := by
  rw [← splitB_parts c _ s rfl, Lib.splitB_all ⟨#[c]⟩ (Nat.le_refl 1) 0 _ s rfl]
theorem cut_one (c : UInt8) (l : List UInt8) : Lib.cut l [c] = cutL c l := by
  unfold Lib.cut
  rw [index_one]
  have hge := Lib.indexByte_ge l c
  by_cases hm : Lib.indexByte l c = -1
  · rw [hm, if_neg (by decide), cutL_free (idx_free hm)]
  · obtain ⟨i, hi⟩ := Int.eq_ofNat_of_zero_le (show 0 ≤ Lib.indexByte l c by omega)
    obtain ⟨h1, h2, h3⟩ := idx_split hi
    rw [hi, if_pos (by omega)]
    conv => rhs; rw [h1, cutL_hit h2]
    simp

def cutLast (ps : List ByteArray) : List ByteArray := if (ps.getLastD ⟨#[]⟩).size = 0 then ps.dropLast else ps
def lines (s : ByteArray) : List ByteArray := cutLast (parts 10 s)
theorem cutLast_snoc (zs : List ByteArray) (y : ByteArray) : cutLast (zs ++ [y]) = if y.size = 0 then zs else zs ++ [y] := by
  unfold cutLast
  simp
end Go.Proofs.YtcidbencoebfaaaDoor.Wd


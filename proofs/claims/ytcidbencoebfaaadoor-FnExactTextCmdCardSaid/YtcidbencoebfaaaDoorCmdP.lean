/- Commands as texts: what both write; and the program's joined, cmdForm. Conditions: bounds on the sizes. -/
import Derived.Test.YtcidbencoebfaaaDoorTyC
import Derived.Test.YtcidbencoebfaaaDoorNum
import Derived.Test.YtcidbencoebfaaaDoorShelf
import Derived.Lib.Join
namespace Go.Proofs.YtcidbencoebfaaaDoor.Wd
open Go.RowKit
set_option linter.unusedVariables false
set_option linter.unusedSimpArgs false
set_option maxHeartbeats 2000000
set_option maxRecDepth 100000
def joinB (xs : List ByteArray) (sep : ByteArray) : ByteArray := ⟨(Lib.join (xs.map (·.data.toList)) sep.data.toList).toArray⟩
def joined (xs : List ByteArray) (sep : ByteArray) : ByteArray := if ∀ x ∈ xs, 0 < x.size then joinB xs sep else ⟨#[]⟩
theorem size_zero {x : ByteArray} (h : x.size = 0) : x = ⟨#[]⟩ := by
  apply ByteArray.ext
  exact Array.eq_empty_of_size_eq_zero h
def sp : ByteArray := ⟨#[32]⟩
def colon : ByteArray := ⟨#[58]⟩
theorem lens_le {xs : List (List UInt8)} {m : Nat} (h : ∀ x ∈ xs, x.length ≤ m) : Lib.lens xs ≤ m * xs.length := by
  induction xs with
  | nil => simp [Lib.lens]
  | cons x xs ih =>
    have h1 := h x List.mem_cons_self
    have h2 := ih (fun y hy => h y (List.mem_cons_of_mem _ hy))
    simp only [Lib.lens, List.map_cons, List.sum_cons, List.length_cons, Nat.mul_succ] at h2 ⊢
    omega
theorem join_le {xs : List ByteArray} {sep : ByteArray} {m : Nat} (h : ∀ x ∈ xs, x.size ≤ m) (hs : sep.size ≤ 1) : (Lib.join (xs.map (·.data.toList)) sep.data.toList).length ≤ (m + 1) * xs.length := by
  cases xs with
  | nil => simp [Lib.join_nil]
  | cons x r =>
    have hl := lens_le (xs := (x :: r).map (·.data.toList)) (m := m) (by intro y hy; obtain ⟨b, hb, rfl⟩ := List.mem_map.1 hy; simpa using h b hb)
    rw [List.map_cons] at hl ⊢
    rw [Lib.join_length]
    have h2 : sep.data.toList.length ≤ 1 := by simpa using hs
    have h3 : sep.data.toList.length * (r.map (·.data.toList)).length ≤ r.length := by
      rw [List.length_map]; exact Nat.le_trans (Nat.mul_le_mul_right _ h2) (by omega)
    simp only [List.length_cons, List.length_map] at hl h3 ⊢
    rw [Nat.add_mul]
    omega
theorem joinB_size {xs : List ByteArray} {sep : ByteArray} {m : Nat} (h : ∀ x ∈ xs, x.size ≤ m) (hs : sep.size ≤ 1) : (joinB xs sep).size ≤ (m + 1) * xs.length := by
  have := join_le h hs
  simpa [joinB, ByteArray.size] using this
theorem joined_size {xs : List ByteArray} {sep : ByteArray} {m : Nat} (h : ∀ x ∈ xs, x.size ≤ m) (hs : sep.size ≤ 1) : (joined xs sep).size ≤ (m + 1) * xs.length := by
  unfold joined
  split
  · exact joinB_size h hs
  · exact Nat.zero_le _
theorem joinB_one (x sep : ByteArray) : joinB [x] sep = x := by
  unfold joinB
  rw [List.map_cons, List.map_nil, Lib.join_one]
theorem joinB_snoc {xs : List ByteArray} (hne : xs ≠ []) (y sep : ByteArray) : joinB (xs ++ [y]) sep = joinB xs sep ++ sep ++ y := by
  cases xs with
  | nil => exact absurd rfl hne
  | cons x r =>
    unfold joinB
    simp only [List.cons_append, List.map_cons, List.map_append, List.map_nil, Lib.join_cons]
    apply ByteArray.ext
    rw [ByteArray.data_append, ByteArray.data_append]
    simp [Lib.joinTail]
end Go.Proofs.YtcidbencoebfaaaDoor.Wd


/- Commands as texts: what both write; and the program's joined, cmdForm. Conditions: bounds on the sizes. -/
import Derived.Test.YtcidbencoebfaaaDoorTyC
import Derived.Test.YtcidbencoebfaaaDoorNum
import Derived.Test.YtcidbencoebfaaaDoorShelf
import Derived.Lib.Join
namespace Go.Proofs.YtcidbencoebfaaaDoor.Wd
open Go.RowKit
set_option linter.unusedVariables false
set_option linter.unusedSimpArgs false
set_option maxHeartbeats 2000000
set_option maxRecDepth 100000
def joinB (xs : List ByteArray) (sep : ByteArray) : ByteArray := ⟨(Lib.join (xs.map (·.data.toList)) sep.data.toList).toArray⟩
def joined (xs : List ByteArray) (sep : ByteArray) : ByteArray := if ∀ x ∈ xs, 0 < x.size then joinB xs sep else ⟨#[]⟩
theorem size_zero {x : ByteArray} (h : x.size = 0) : x = ⟨#[]⟩ := by
  apply ByteArray.ext
  exact Array.eq_empty_of_size_eq_zero h
theorem toList_nil (x : ByteArray) : (x.toList == []) = decide (x.size = 0) := by
  rw [Lib.toList_data]
  obtain ⟨⟨l⟩⟩ := x
  cases l <;> simp [ByteArray.size]
def sp : ByteArray := ⟨#[32]⟩
def colon : ByteArray := ⟨#[58]⟩
theorem str_row {w : World} {A : Option Addr} {xs : List ByteArray} (h : Rp.str.Row w A xs) (hne : xs ≠ []) :
    ∃ b o, A = some ⟨b, o, none⟩ ∧ ∀ (j : Nat) x, xs[j]? = some x → w.cell? ⟨b, o + j, none⟩ = some (.string x) := by
  obtain ⟨b, o, rfl, hc⟩ := h.2 hne
  refine ⟨b, o, rfl, fun j x hj => ?_⟩
  obtain ⟨cx, hk, hcc⟩ := hc j x hj
  obtain rfl : cx = _ := hk
  have := hcc 0 _ rfl
  simpa only [Rp.str, Rp.scalar, Nat.mul_one, Nat.add_zero] using this
theorem lens_le {xs : List (List UInt8)} {m : Nat} (h : ∀ x ∈ xs, x.length ≤ m) : Lib.lens xs ≤ m * xs.length := by
  induction xs with
  | nil => simp [Lib.lens]
  | cons x xs ih =>
    have h1 := h x List.mem_cons_self
    have h2 := ih (fun y hy => h y (List.mem_cons_of_mem _ hy))
    simp only [Lib.lens, List.map_cons, List.sum_cons, List.length_cons, Nat.mul_succ] at h2 ⊢
    omega
theorem join_le {xs : List ByteArray} {sep : ByteArray} {m : Nat} (h : ∀ x ∈ xs, x.size ≤ m) (hs : sep.size ≤ 1) : (Lib.join (xs.map (·.data.toList)) sep.data.toList).length ≤ (m + 1) * xs.length := by
  cases xs with
  | nil => simp [Lib.join_nil]
  | cons x r =>
    have hl := lens_le (xs := (x :: r).map (·.data.toList)) (m := m) (by intro y hy; obtain ⟨b, hb, rfl⟩ := List.mem_map.1 hy; simpa using h b hb)
    rw [List.map_cons] at hl ⊢
    rw [Lib.join_length]
    have h2 : sep.data.toList.length ≤ 1 := by simpa using hs
    have h3 : sep.data.toList.length * (r.map (·.data.toList)).length ≤ r.length := by
      rw [List.length_map]; exact Nat.le_trans (Nat.mul_le_mul_right _ h2) (by omega)
    simp only [List.length_cons, List.length_map] at hl h3 ⊢
    rw [Nat.add_mul]
    omega
theorem joinB_size {xs : List ByteArray} {sep : ByteArray} {m : Nat} (h : ∀ x ∈ xs, x.size ≤ m) (hs : sep.size ≤ 1) : (joinB xs sep).size ≤ (m + 1) * xs.length := by
  have := join_le h hs
  simpa [joinB, ByteArray.size] using this
theorem joined_size {xs : List ByteArray} {sep : ByteArray} {m : Nat} (h : ∀ x ∈ xs, x.size ≤ m) (hs : sep.size ≤ 1) : (joined xs sep).size ≤ (m + 1) * xs.length := by
  unfold joined
  split
  · exact joinB_size h hs
  · exact Nat.zero_le _
theorem joinB_one (x sep : ByteArray) : joinB [x] sep = x := by
  unfold joinB
  rw [List.map_cons, List.map_nil, Lib.join_one]
theorem joinB_snoc {xs : List ByteArray} (hne : xs ≠ []) (y sep : ByteArray) : joinB (xs ++ [y]) sep = joinB xs sep ++ sep ++ y := by
  cases xs with
  | nil => exact absurd rfl hne
  | cons x r =>
    unfold joinB
    simp only [List.cons_append, List.map_cons, List.map_append, List.map_nil, Lib.join_cons]
    apply ByteArray.ext
    rw [ByteArray.data_append, ByteArray.data_append]
    simp [Lib.joinTail]
theorem joinS_calls (bk o c : Nat) (xs : List ByteArray) (sep : ByteArray) (w : World) (hcells : ∀ (j : Nat) x, xs[j]? = some x → w.cell? ⟨bk, o + j, none⟩ = some (.string x)) (hbk : bk < w.heap.size) (hN : xs.length ≤ 140737488355328) (hcap : xs.length ≤ c) (hlen : (Lib.join (xs.map (·.data.toList)) sep.data.toList).length ≤ 140737488355328) :
    Calls Tryd.prog 42 #[.slice (some ⟨bk, o, none⟩) xs.length c, .string sep] w fun e w' => ∃ J, e = .returned (.string J) ∧ Below w.heap.size w w' ∧ joinB xs sep = J :=
  (strings_Join bk o c xs sep w hcells hbk hN hcap hlen).mono fun e w' ⟨h1, h2⟩ => ⟨_, h1, h2, rfl⟩
theorem joined_calls (xs : List ByteArray) (A : Option Addr) (c : Nat) (sep : ByteArray) (w : World) (hr : Rp.str.Row w A xs) (hcap : xs.length ≤ c) (hN : xs.length ≤ 4194304) (hs : ∀ x ∈ xs, x.size ≤ 64) (hsep : sep.size ≤ 1) :
    Calls Tryd.prog 23 #[.slice A xs.length c, .string sep] w fun e w' => e = .returned (.string (joined xs sep)) ∧ Below w.heap.size w w' := by
  have HR := Lib.hid hr; have HS := Lib.hid hs; clear hr hs
  obtain ⟨R, hR⟩ : ∃ R, joined xs sep = R := ⟨_, rfl⟩
  rw [hR]
  have H1 : Hid ((¬ ∀ x ∈ xs, 0 < x.size) → R = ⟨#[]⟩) := Lib.hid fun h => by rw [← hR]; unfold joined; rw [if_neg h]
  have H2 : Hid ((∀ x ∈ xs, 0 < x.size) → R = joinB xs sep) := Lib.hid fun h => by rw [← hR]; unfold joined; rw [if_pos h]
  clear hR
  go_enter Tryd.func23, Tryd.ntmps23
  go_wp2
  go_loopg [9] (xs.length + 1) (fun kq v9 w' => ∃ i : Nat, v9 = .int .i64 i ∧ i + kq = xs.length + 1 ∧ i ≤ xs.length ∧ Hid (∀ j x, j < i → xs[j]? = some x → 0 < x.size) ∧ Below w.heap.size w w')
  case atStart => exact ⟨0, rfl, by omega, by omega, Lib.hid fun j _ hj => absurd hj (by omega), bel⟩
  case round =>
    obtain ⟨i, rfl, hi, hi2, HP, hb⟩ := hrel
    obtain ⟨gk, rfl⟩ : ∃ m, gk = m + 1 := ⟨gk - 1, by omega⟩
    by_cases hlt : i < xs.length
    · obtain ⟨b, o, rfl, g0⟩ := str_at (HR.out.below hb) hlt
      by_cases he : xs[i].size = 0
      · have hm : ¬ ∀ x ∈ xs, 0 < x.size := fun h => by have := h _ (List.getElem_mem hlt); omega
        have hd : (xs[i].toList == []) = true := by rw [toList_nil]; exact decide_eq_true he
        have HM : Hid (¬ ∀ x ∈ xs, 0 < x.size) := Lib.hid hm; clear hm he
        go_wp2
        go_ret
        rw [H1.out HM.out]
        exact ⟨rfl, bel⟩
      · have hd : (xs[i].toList == []) = false := by rw [toList_nil]; exact decide_eq_false he
        have HE := Lib.hid (show 0 < xs[i].size by omega); clear he
        go_wp2
        go_roundg gk
        case measure => omega
        case rel => exact ⟨i + 1, by go_num, by omega, by omega, Lib.hid fun j x hj hx => (by
          rcases Nat.lt_succ_iff_lt_or_eq.1 hj with h | rfl
          · exact HP.out j x h hx
          · rw [List.getElem?_eq_getElem hlt] at hx; cases hx; exact HE.out), bel⟩
    · have hi' : i = xs.length := by omega
      have hm : ∀ x ∈ xs, 0 < x.size := by
        intro x h
        obtain ⟨j, hj⟩ := List.getElem?_of_mem h
        have := (List.getElem?_eq_some_iff.1 hj).1
        exact HP.out j _ (by omega) hj
      have HM : Hid (∀ x ∈ xs, 0 < x.size) := Lib.hid hm
      clear hm HP
      by_cases h0 : xs = []
      · have H3 := Lib.hid (H2.out HM.out)
        subst h0
        go_wp2_with fail
        refine (strings_Join_none _ _ sep _).mono ?_
        rintro e w1 ⟨rfl, rfl⟩
        go_wp2
        go_ret
        refine ⟨?_, bel⟩
        rw [H3.out, show joinB [] sep = (⟨#[]⟩ : ByteArray) by simp [joinB, Lib.join_nil]]
        rfl
      · obtain ⟨b, o, rfl, hc⟩ := str_row (HR.out.below hb) h0
        have hpos : 0 < xs.length := List.length_pos_iff.2 h0
        have hbk : b < wr.heap.size := World.block_lt_of_cell? wr _ (hc 0 _ (List.getElem?_eq_getElem hpos))
        have HC := Lib.hid hc; clear hc
        have hle := join_le HS.out hsep
        have HLE := Lib.hid hle; clear hle
        go_wp2_with fail
        refine (joinS_calls b o c xs sep _ HC.out hbk (by omega) hcap (by have := HLE.out; omega)).mono ?_
        rintro e w1 ⟨J, rfl, hb1, hJ⟩
        have HJ := Lib.hid hJ; clear hJ
        go_wp2
        go_ret
        refine ⟨?_, bel⟩
        rw [H2.out HM.out, HJ.out]
        rfl
end Go.Proofs.YtcidbencoebfaaaDoor.Wd


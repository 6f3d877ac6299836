/- Where two engines' traces part: the model, and the helpers of both FirstDiff functions. Conditions: none. -/
import Derived.Test.YtebflbenchomoaaTraceS
import Derived.Test.YtebflbenchomoaaSame
import Derived.Test.YtebflbenchomoaaTyD
import Derived.Deep.RegionHeld3
namespace Go.Proofs.Ytebflbenchomoaa.Wd
open Go.RowKit
set_option linter.unusedVariables false
set_option linter.unusedSimpArgs false
set_option maxHeartbeats 4000000
set_option maxRecDepth 100000
theorem box3 (w : World) (o1 o2 o3 : Obj) : (((w.alloc o1).alloc o2).alloc o3).heap[w.heap.size + 1 + 1]? = some o3 := by
  have h := heap_alloc_new ((w.alloc o1).alloc o2) o3
  simpa using h
def itemAt (l : List MItem) (n : Nat) : MItem := (l[n]?).getD ⟨0, 0, 0, false⟩
/-- How many items two traces have in common. -/
def cpl : List MItem → List MItem → Nat
  | x :: xs, y :: ys => if x = y then cpl xs ys + 1 else 0
  | _, _ => 0
theorem cpl_of : ∀ (i : Nat) (X Y : List MItem), (∀ j, j < i → X[j]? = Y[j]?) → i ≤ X.length → i ≤ Y.length → ¬ (i < X.length ∧ i < Y.length ∧ X[i]? = Y[i]?) → cpl X Y = i
  | 0, [], Y, _, _, _, _ => by simp [cpl]
  | 0, x :: X, [], _, _, _, _ => by simp [cpl]
  | 0, x :: X, y :: Y, _, _, _, h => by
    unfold cpl
    rw [if_neg]
    rintro rfl
    exact h ⟨by simp, by simp, by simp⟩
  | i + 1, [], Y, _, h, _, _ => by simp at h
  | i + 1, x :: X, [], _, _, h, _ => by simp at h
  | i + 1, x :: X, y :: Y, hp, h1, h2, h => by
    have h0 := hp 0 (by omega)
    simp at h0
    unfold cpl
    rw [if_pos h0, cpl_of i X Y (fun j hj => by have := hp (j + 1) (by omega); simpa using this) (by simpa using h1) (by simpa using h2) (fun h3 => h ⟨by simpa using h3.1, by simpa using h3.2.1, by simpa using h3.2.2⟩)]
theorem cpl_same (X : List MItem) : cpl X X = X.length := by induction X with | nil => rfl | cons x X ih => simp [cpl, ih]
theorem cpl_le : ∀ X Y : List MItem, cpl X Y ≤ X.length ∧ cpl X Y ≤ Y.length
  | [], Y => by simp [cpl]
  | x :: X, [] => by simp [cpl]
  | x :: X, y :: Y => by
    unfold cpl
    have := cpl_le X Y
    split <;> simp <;> omega
theorem cpl_full : ∀ X Y : List MItem, X.length ≤ cpl X Y → Y.length ≤ cpl X Y → X = Y
  | [], [], _, _ => rfl
  | [], y :: Y, _, h => by simp [cpl] at h
  | x :: X, [], h, _ => by simp [cpl] at h
  | x :: X, y :: Y, h1, h2 => by
    unfold cpl at h1 h2
    split at h1
    · rename_i he
      rw [if_pos he] at h2
      rw [he, cpl_full X Y (by simpa using h1) (by simpa using h2)]
    · simp at h1
def diffAt (x y : MEng) (n : Nat) : Option MDiff :=
  if n < x.gs.length ∧ n < y.gs.length ∧ traceOf x n = traceOf y n then none
  else some ⟨n, cpl (traceOf x n) (traceOf y n), itemAt (traceOf x n) (cpl (traceOf x n) (traceOf y n)), itemAt (traceOf y n) (cpl (traceOf x n) (traceOf y n))⟩
def fdFrom (x y : MEng) : Nat → Nat → MDiff × Bool
  | 0, _ => (⟨0, 0, ⟨0, 0, 0, false⟩, ⟨0, 0, 0, false⟩⟩, false)
  | k + 1, n => match diffAt x y n with | some d => (d, true) | none => fdFrom x y k (n + 1)
def firstDiff (x y : MEng) : MDiff × Bool := fdFrom x y (max x.gs.length y.gs.length) 0
theorem traceOf_out {x : MEng} {n : Nat} (h : ¬ n < x.gs.length) : traceOf x n = [] := by unfold traceOf; rw [List.getElem?_eq_none (by omega)]
theorem traceOf_bd {x : MEng} (hc : cntEng x ≤ 1048576) (n : Nat) : (traceOf x n).length ≤ 1048576 := by
  unfold traceOf
  by_cases h : n < x.gs.length
  · rw [List.getElem?_eq_getElem h]
    have := trace_le x.gs[n].trace
    have h2 := cntGorS_at h
    unfold cntGor at h2
    unfold cntEng at hc
    simp only
    omega
  · rw [List.getElem?_eq_none (by omega)]; simp
theorem item_calls_spec (l : List MItem) (n : Nat) {A : Option Addr} {c : Nat} (w : World) (hr : kItem.Row w A l) (hn : n ≤ 1048576) :
    Calls Try.prog 59 #[.slice A l.length c, .int .i64 n] w fun e w' => e = .returned (.agg #[.int .i64 (itemAt l n).kind, .int .i64 (itemAt l n).obj, .int .i64 (itemAt l n).val, .bool (itemAt l n).ok]) ∧ Below w.heap.size w w' := by
  have hm := hr.1
  by_cases hlt : n < l.length
  · obtain ⟨b, o, rfl, g0, g1, g2, g3⟩ := kItem_at hr hlt
    have zb : b < w.heap.size := World.block_lt_of_cell? w _ g0
    have hi : itemAt l n = l[n] := by unfold itemAt; rw [List.getElem?_eq_getElem hlt]; rfl
    have HI := Lib.hid hi
    clear hi hr
    rw [HI.out]
    go_enter Try.func59, Try.ntmps59
    go_wp2
    refine bodyPost_ret (v := .agg #[.int .i64 l[n].kind, .int .i64 l[n].obj, .int .i64 l[n].val, .bool l[n].ok]) ?_ ?_ ?_
    · simp only [results, Try.results59]
      go_simp
    · rfl
    · exact ⟨rfl, bel⟩
  · have hi : itemAt l n = ⟨0, 0, 0, false⟩ := by unfold itemAt; rw [List.getElem?_eq_none (by omega)]; rfl
    rw [hi]
    clear hr hi
    go_enter Try.func59, Try.ntmps59
    go_wp2
    refine bodyPost_ret (v := .agg #[.int .i64 0, .int .i64 0, .int .i64 0, .bool false]) ?_ ?_ ?_
    · simp only [results, Try.results59]
      go_simp
    · rfl
    · exact ⟨rfl, bel⟩
theorem item_calls_impl (l : List MItem) (n : Nat) {A : Option Addr} {c : Nat} (w : World) (hr : kItem.Row w A l) (hn : n ≤ 1048576) :
    Calls Try.prog 60 #[.slice A l.length c, .int .i64 n] w fun e w' => e = .returned (.agg #[.int .i64 (itemAt l n).kind, .int .i64 (itemAt l n).obj, .int .i64 (itemAt l n).val, .bool (itemAt l n).ok]) ∧ Below w.heap.size w w' := by
  have hm := hr.1
  by_cases hlt : n < l.length
  · obtain ⟨b, o, rfl, g0, g1, g2, g3⟩ := kItem_at hr hlt
    have zb : b < w.heap.size := World.block_lt_of_cell? w _ g0
    have hi : itemAt l n = l[n] := by unfold itemAt; rw [List.getElem?_eq_getElem hlt]; rfl
    have HI := Lib.hid hi
    clear hi hr
    rw [HI.out]
    go_enter Try.func60, Try.ntmps60
    go_wp2
    refine bodyPost_ret (v := .agg #[.int .i64 l[n].kind, .int .i64 l[n].obj, .int .i64 l[n].val, .bool l[n].ok]) ?_ ?_ ?_
    · simp only [results, Try.results60]
      go_simp
    · rfl
    · exact ⟨rfl, bel⟩
  · have hi : itemAt l n = ⟨0, 0, 0, false⟩ := by unfold itemAt; rw [List.getElem?_eq_none (by omega)]; rfl
    rw [hi]
    clear hr hi
    go_enter Try.func60, Try.ntmps60
    go_wp2
    refine bodyPost_ret (v := .agg #[.int .i64 0, .int .i64 0, .int .i64 0, .bool false]) ?_ ?_ ?_
    · simp only [results, Try.results60]
      go_simp
    · rfl
    · exact ⟨rfl, bel⟩

end Go.Proofs.Ytebflbenchomoaa.Wd

/- Items: which are right. Conditions: none. -/
import Derived.Test.YtplkfpjcfalifaaDoorTyI
import Derived.Test.YtplkfpjcfalifaaDoorNum
import Derived.Test.YtplkfpjcfalifaaDoorCmdP
namespace Go.Proofs.YtplkfpjcfalifaaDoor.Wd
open Go.RowKit
set_option linter.unusedVariables false
set_option linter.unusedSimpArgs false
set_option maxHeartbeats 2000000
set_option maxRecDepth 100000
def itemOk (i : MItem) : Bool := decide (1 ≤ i.kind ∧ i.kind ≤ 10 ∧ 0 ≤ i.obj ∧ (8 ≤ i.kind → i.obj = 0) ∧ (i.ok = true → i.kind = 2) ∧ (i.kind = 1 ∨ i.kind = 8 → 0 ≤ i.val ∧ i.val ≤ 999) ∧ (i.kind = 2 → 0 ≤ i.val ∧ i.val ≤ 999 ∧ (i.ok = true ∨ i.val = 0)) ∧ (i.kind = 4 → -1 ≤ i.val) ∧ (i.kind = 7 → 0 ≤ i.val) ∧ (i.kind = 10 → 1 ≤ i.val ∧ i.val ≤ 5) ∧ (i.kind = 3 ∨ i.kind = 5 ∨ i.kind = 6 ∨ i.kind = 9 → i.val = 0))
theorem isVal_calls (n : Int) (w : World) : Calls Tryd.prog 21 #[.int .i64 n] w fun e w' => e = .returned (.bool (decide (0 ≤ n ∧ n ≤ 999))) ∧ Below w.heap.size w w' := by
  by_cases h1 : 0 ≤ n
  · by_cases h2 : n ≤ 999
    · have hf : decide (0 ≤ n ∧ n ≤ 999) = true := decide_eq_true ⟨h1, h2⟩
      go_enter Tryd.func21, Tryd.ntmps21
      go_wp2
      go_ret
      exact ⟨by rw [hf]; rfl, bel⟩
    · have hf : decide (0 ≤ n ∧ n ≤ 999) = false := decide_eq_false (fun h => h2 h.2)
      have hg : decide (n ≤ 999) = false := decide_eq_false h2
      clear h2
      go_enter Tryd.func21, Tryd.ntmps21
      go_wp2
      go_ret
      exact ⟨by rw [hf]; rfl, bel⟩
  · have hf : decide (0 ≤ n ∧ n ≤ 999) = false := decide_eq_false (fun h => h1 h.1)
    have hg : decide (0 ≤ n) = false := decide_eq_false h1
    clear h1
    go_enter Tryd.func21, Tryd.ntmps21
    go_wp2
    go_ret
    exact ⟨by rw [hf]; rfl, bel⟩
theorem impl_ItemOk_calls (i : MItem) (cs : List Value) (w : World) (hx : kItem.K w i cs) :
    Calls Tryd.prog 16 #[.agg cs.toArray] w fun e w' => e = .returned (.bool (itemOk i)) ∧ Below w.heap.size w w' := by
  obtain rfl := kItem_K hx
  clear hx
  obtain ⟨k, o, v, b⟩ := i
  simp only
  cases b <;> (
    go_enter Tryd.func16, Tryd.ntmps16
    go_wp2_with (go_at_call 21; (with_reducible refine (isVal_calls _ _).mono ?_); rintro e w1 ⟨rfl, hb1⟩; obtain ⟨C1, D1⟩ := bcell hb1; have z1 : w.heap.size < w1.heap.size := (by have := hb1.size; (try simp at this); omega))
    all_goals (go_ret; refine ⟨congrArg (fun b => Ending.returned (.bool b)) ?_, bel⟩; rw [Bool.eq_iff_iff]; simp_all [itemOk]; try omega))
theorem l03Val_calls (n : Int) (w : World) : Calls Tryd.prog 25 #[.int .i64 n] w fun e w' => e = .returned (.bool (decide (0 ≤ n ∧ n ≤ 999))) ∧ Below w.heap.size w w' := by
  by_cases h1 : 0 ≤ n
  · by_cases h2 : n ≤ 999
    · have hf : decide (0 ≤ n ∧ n ≤ 999) = true := decide_eq_true ⟨h1, h2⟩
      go_enter Tryd.func25, Tryd.ntmps25
      go_wp2
      go_ret
      exact ⟨by rw [hf]; rfl, bel⟩
    · have hf : decide (0 ≤ n ∧ n ≤ 999) = false := decide_eq_false (fun h => h2 h.2)
      have hg : decide (n ≤ 999) = false := decide_eq_false h2
      clear h2
      go_enter Tryd.func25, Tryd.ntmps25
      go_wp2
      go_ret
      exact ⟨by rw [hf]; rfl, bel⟩
  · have hf : decide (0 ≤ n ∧ n ≤ 999) = false := decide_eq_false (fun h => h1 h.1)
    have hg : decide (0 ≤ n) = false := decide_eq_false h1
    clear h1
    go_enter Tryd.func25, Tryd.ntmps25
    go_wp2
    go_ret
    exact ⟨by rw [hf]; rfl, bel⟩
theorem spec_ItemOk_calls (i : MItem) (cs : List Value) (w : World) (hx : kItem.K w i cs) :
    Calls Tryd.prog 19 #[.agg cs.toArray] w fun e w' => e = .returned (.bool (itemOk i)) ∧ Below w.heap.size w w' := by
  obtain rfl := kItem_K hx
  clear hx
  obtain ⟨k, o, v, b⟩ := i
  simp only
  cases b <;> (
    go_enter Tryd.func19, Tryd.ntmps19
    go_wp2_with (go_at_call 25; (with_reducible refine (l03Val_calls _ _).mono ?_); rintro e w1 ⟨rfl, hb1⟩; obtain ⟨C1, D1⟩ := bcell hb1; have z1 : w.heap.size < w1.heap.size := (by have := hb1.size; (try simp at this); omega))
    all_goals (go_ret; refine ⟨congrArg (fun b => Ending.returned (.bool b)) ?_, bel⟩; rw [Bool.eq_iff_iff]; simp_all [itemOk]; try omega))
def itemWord (k : Nat) : ByteArray := (([⟨#[115, 101, 110, 116]⟩, ⟨#[103, 111, 116]⟩, ⟨#[99, 108, 111, 115, 101, 100]⟩, ⟨#[112, 105, 99, 107, 101, 100]⟩, ⟨#[108, 111, 99, 107, 101, 100]⟩, ⟨#[117, 110, 108, 111, 99, 107, 101, 100]⟩, ⟨#[115, 112, 97, 119, 110, 101, 100]⟩, ⟨#[112, 114, 105, 110, 116, 101, 100]⟩, ⟨#[100, 111, 110, 101]⟩, ⟨#[100, 101, 97, 100]⟩] : List ByteArray).getD (k - 1) ⟨#[]⟩)
def elseW : ByteArray := ⟨#[101, 108, 115, 101]⟩
def zeroW : ByteArray := ⟨#[122, 101, 114, 111]⟩
def valT (v : Int) : ByteArray := if v = -1 then elseW else numText v
/-- The words of an item of kind k. -/
def itemWords (k : Nat) (o v : Int) (b : Bool) : List ByteArray :=
  [itemWord k] ++ (if k < 8 then [numText o] else []) ++ (if k = 1 ∨ k = 2 ∨ k = 4 ∨ k = 7 ∨ k = 8 ∨ k = 10 then [valT v] else []) ++ (if k = 2 ∧ b = false then [zeroW] else [])
def itemText (i : MItem) : ByteArray := if itemOk i = true then joined (itemWords i.kind.toNat i.obj i.val i.ok) sp else ⟨#[]⟩
end Go.Proofs.YtplkfpjcfalifaaDoor.Wd

/- Rows, compared. Conditions: none. -/
import Derived.Test.YtebflbenchomoaaTy
import Derived.Laws.StructEq
import Derived.KernelRfl
namespace Go.Proofs.Ytebflbenchomoaa.Wd
open Go.RowKit
set_option linter.unusedVariables false
set_option linter.unusedSimpArgs false
set_option maxHeartbeats 2000000
set_option maxRecDepth 100000
def sameItem (a0 : Int) (a1 : Int) (a2 : Int) (a3 : Bool) (b0 : Int) (b1 : Int) (b2 : Int) (b3 : Bool) : Bool := a0 == b0 && a1 == b1 && a2 == b2 && a3 == b3
theorem sameItem_eq (x y : MItem) : sameItem x.kind x.obj x.val x.ok y.kind y.obj y.val y.ok = decide (x = y) := by
  unfold sameItem
  by_cases h : x = y
  · subst h; simp
  · rw [decide_eq_false h, Bool.eq_false_iff]
    intro h2
    simp only [Bool.and_eq_true, beq_iff_eq] at h2
    exact h (by simp_all [MItem.ext_iff])
theorem eqIn_Item (a0 : Int) (a1 : Int) (a2 : Int) (a3 : Bool) (b0 : Int) (b1 : Int) (b2 : Int) (b3 : Bool) (w : World) : (Op.equalIn 10000 43 (.agg #[.int .i64 a0, .int .i64 a1, .int .i64 a2, .bool a3]) (.agg #[.int .i64 b0, .int .i64 b1, .int .i64 b2, .bool b3])).run Try.prog w = .ok (sameItem a0 a1 a2 a3 b0 b1 b2 b3) w := by
  have hS0 : Try.prog.underlying 43 = some (.struct (Try.prog.fieldsOf 43)) := by kernel_rfl
  have hp0 : Try.prog.stoodInHeld 43 = false := by kernel_rfl
  rw [show (10000 : Nat) = 9999 + 1 from rfl, run_equalIn_agg w 9999 43 _ _ hS0 hp0]
  simp only [Program.fieldsOf, Try.underlying43]
  go_simp
  unfold sameItem
  by_cases h0 : a0 = b0 <;> by_cases h1 : a1 = b1 <;> by_cases h2 : a2 = b2 <;> by_cases h3 : a3 = b3 <;> simp_all
@[go_sem high] theorem eql_Item (a0 : Int) (a1 : Int) (a2 : Int) (a3 : Bool) (b0 : Int) (b1 : Int) (b2 : Int) (b3 : Bool) (w : World) : (binOp .eql 43 (.agg #[.int .i64 a0, .int .i64 a1, .int .i64 a2, .bool a3]) (.agg #[.int .i64 b0, .int .i64 b1, .int .i64 b2, .bool b3])).run Try.prog w = .ok (.bool (sameItem a0 a1 a2 a3 b0 b1 b2 b3)) w := by
  rw [run_eql_struct, eqIn_Item]; rfl
@[go_sem high] theorem neq_Item (a0 : Int) (a1 : Int) (a2 : Int) (a3 : Bool) (b0 : Int) (b1 : Int) (b2 : Int) (b3 : Bool) (w : World) : (binOp .neq 43 (.agg #[.int .i64 a0, .int .i64 a1, .int .i64 a2, .bool a3]) (.agg #[.int .i64 b0, .int .i64 b1, .int .i64 b2, .bool b3])).run Try.prog w = .ok (.bool (!sameItem a0 a1 a2 a3 b0 b1 b2 b3)) w := by
  rw [run_neq_struct, eqIn_Item]; rfl
def sameWaiter (a0 : Int) (a1 : Int) (a2 : Int) (b0 : Int) (b1 : Int) (b2 : Int) : Bool := a0 == b0 && a1 == b1 && a2 == b2
theorem sameWaiter_eq (x y : MWaiter) : sameWaiter x.g x.cas x.val y.g y.cas y.val = decide (x = y) := by
  unfold sameWaiter
  by_cases h : x = y
  · subst h; simp
  · rw [decide_eq_false h, Bool.eq_false_iff]
    intro h2
    simp only [Bool.and_eq_true, beq_iff_eq] at h2
    exact h (by simp_all [MWaiter.ext_iff])
theorem eqIn_Waiter (a0 : Int) (a1 : Int) (a2 : Int) (b0 : Int) (b1 : Int) (b2 : Int) (w : World) : (Op.equalIn 10000 120 (.agg #[.int .i64 a0, .int .i64 a1, .int .i64 a2]) (.agg #[.int .i64 b0, .int .i64 b1, .int .i64 b2])).run Try.prog w = .ok (sameWaiter a0 a1 a2 b0 b1 b2) w := by
  have hS0 : Try.prog.underlying 120 = some (.struct (Try.prog.fieldsOf 120)) := by kernel_rfl
  have hp0 : Try.prog.stoodInHeld 120 = false := by kernel_rfl
  rw [show (10000 : Nat) = 9999 + 1 from rfl, run_equalIn_agg w 9999 120 _ _ hS0 hp0]
  simp only [Program.fieldsOf, Try.underlying120]
  go_simp
  unfold sameWaiter
  by_cases h0 : a0 = b0 <;> by_cases h1 : a1 = b1 <;> by_cases h2 : a2 = b2 <;> simp_all
@[go_sem high] theorem eql_Waiter (a0 : Int) (a1 : Int) (a2 : Int) (b0 : Int) (b1 : Int) (b2 : Int) (w : World) : (binOp .eql 120 (.agg #[.int .i64 a0, .int .i64 a1, .int .i64 a2]) (.agg #[.int .i64 b0, .int .i64 b1, .int .i64 b2])).run Try.prog w = .ok (.bool (sameWaiter a0 a1 a2 b0 b1 b2)) w := by
  rw [run_eql_struct, eqIn_Waiter]; rfl
@[go_sem high] theorem neq_Waiter (a0 : Int) (a1 : Int) (a2 : Int) (b0 : Int) (b1 : Int) (b2 : Int) (w : World) : (binOp .neq 120 (.agg #[.int .i64 a0, .int .i64 a1, .int .i64 a2]) (.agg #[.int .i64 b0, .int .i64 b1, .int .i64 b2])).run Try.prog w = .ok (.bool (!sameWaiter a0 a1 a2 b0 b1 b2)) w := by
  rw [run_neq_struct, eqIn_Waiter]; rfl
theorem Equal_Item_calls {A B : Option Addr} {xs ys : List MItem} {c d : Nat} (w : World) (hr : kItem.Row w A xs) (hs : kItem.Row w B ys) :
    Calls Try.prog 44 #[.slice A xs.length c, .slice B ys.length d] w fun e w' => e = .returned (.bool (decide (xs = ys))) ∧ Below w.heap.size w w' := by
  have hm := hr.1
  have HR := Lib.hid hr; clear hr
  have HS := Lib.hid hs; clear hs
  by_cases hl : xs.length = ys.length
  · have b2 : ((xs.length : Int) != (ys.length : Int)) = false := by simp [hl]
    have b3 : (xs.length != ys.length) = false := by simp [hl]
    have Hl := Lib.hid hl; clear hl
    go_enter Try.func44, Try.ntmps44
    go_wp2
    go_loopg [5, 13] (xs.length + 1) (fun kq v5 v13 w' => ∃ i : Nat, v13 = .int .i64 i ∧ i + kq = xs.length + 1 ∧ i ≤ xs.length ∧ Hid (∀ j, j < i → xs[j]? = ys[j]?) ∧ Below w.heap.size w w')
    case atStart => exact ⟨0, rfl, by omega, by omega, Lib.hid fun j hj => absurd hj (by omega), Below.refl _ _⟩
    case round =>
      obtain ⟨i, rfl, hi, hi2, HP, hb⟩ := hrel
      obtain ⟨gk, rfl⟩ : ∃ m, gk = m + 1 := ⟨gk - 1, by omega⟩
      by_cases hlt : i < xs.length
      · have hlt' : i < ys.length := by have := Hl.out; omega
        obtain ⟨b, o, rfl, g0, g1, g2, g3⟩ := kItem_at (HR.out.below hb) hlt
        obtain ⟨b', o', rfl, k0, k1, k2, k3⟩ := kItem_at (HS.out.below hb) hlt'
        by_cases he : xs[i] = ys[i]
        · have hd : sameItem xs[i].kind xs[i].obj xs[i].val xs[i].ok ys[i].kind ys[i].obj ys[i].val ys[i].ok = true := by rw [sameItem_eq]; exact decide_eq_true he
          have He := Lib.hid he; clear he
          go_wp2_with fail
          go_quiet (fail)
          go_wp2
          go_roundg gk
          case measure => omega
          case rel => exact ⟨i + 1, by go_num, by omega, by omega, Lib.hid fun j hj => (by
            rcases Nat.lt_succ_iff_lt_or_eq.1 hj with h | rfl
            · exact HP.out j h
            · rw [List.getElem?_eq_getElem hlt, List.getElem?_eq_getElem hlt', He.out]), bel⟩
        · have hd : sameItem xs[i].kind xs[i].obj xs[i].val xs[i].ok ys[i].kind ys[i].obj ys[i].val ys[i].ok = false := by rw [sameItem_eq]; exact decide_eq_false he
          have He := Lib.hid he; clear he
          go_wp2_with fail
          go_quiet (fail)
          go_wp2
          go_ret
          exact ⟨retF (fun h => by subst h; exact He.out rfl), bel⟩
      · have h2 : i = xs.length := by omega
        have h3 : xs = ys := take_eq Hl.out (fun j hj => HP.out j (by omega))
        have H3 := Lib.hid h3; clear h3
        go_wp2
        go_ret
        exact ⟨retT H3.out, bel⟩
  · have b2 : ((xs.length : Int) != (ys.length : Int)) = true := by simp; omega
    have b3 : (xs.length != ys.length) = true := by simp [hl]
    have Hl := Lib.hid hl; clear hl
    go_enter Try.func44, Try.ntmps44
    go_wp2
    go_ret
    exact ⟨retF (fun h => by subst h; exact Hl.out rfl), bel⟩

theorem l14Same_calls {A B : Option Addr} {xs ys : List MItem} {c d : Nat} (w : World) (hr : kItem.Row w A xs) (hs : kItem.Row w B ys) :
    Calls Try.prog 39 #[.slice A xs.length c, .slice B ys.length d] w fun e w' => e = .returned (.bool (decide (xs = ys))) ∧ Below w.heap.size w w' := by
  have hm := hr.1
  have HR := Lib.hid hr; clear hr
  have HS := Lib.hid hs; clear hs
  by_cases hl : xs.length = ys.length
  · have b2 : ((xs.length : Int) != (ys.length : Int)) = false := by simp [hl]
    have b3 : (xs.length != ys.length) = false := by simp [hl]
    have Hl := Lib.hid hl; clear hl
    go_enter Try.func39, Try.ntmps39
    go_wp2
    go_loopg [5, 13] (xs.length + 1) (fun kq v5 v13 w' => ∃ i : Nat, v13 = .int .i64 i ∧ i + kq = xs.length + 1 ∧ i ≤ xs.length ∧ Hid (∀ j, j < i → xs[j]? = ys[j]?) ∧ Below w.heap.size w w')
    case atStart => exact ⟨0, rfl, by omega, by omega, Lib.hid fun j hj => absurd hj (by omega), Below.refl _ _⟩
    case round =>
      obtain ⟨i, rfl, hi, hi2, HP, hb⟩ := hrel
      obtain ⟨gk, rfl⟩ : ∃ m, gk = m + 1 := ⟨gk - 1, by omega⟩
      by_cases hlt : i < xs.length
      · have hlt' : i < ys.length := by have := Hl.out; omega
        obtain ⟨b, o, rfl, g0, g1, g2, g3⟩ := kItem_at (HR.out.below hb) hlt
        obtain ⟨b', o', rfl, k0, k1, k2, k3⟩ := kItem_at (HS.out.below hb) hlt'
        by_cases he : xs[i] = ys[i]
        · have hd : sameItem xs[i].kind xs[i].obj xs[i].val xs[i].ok ys[i].kind ys[i].obj ys[i].val ys[i].ok = true := by rw [sameItem_eq]; exact decide_eq_true he
          have He := Lib.hid he; clear he
          go_wp2_with fail
          go_quiet (fail)
          go_wp2
          go_roundg gk
          case measure => omega
          case rel => exact ⟨i + 1, by go_num, by omega, by omega, Lib.hid fun j hj => (by
            rcases Nat.lt_succ_iff_lt_or_eq.1 hj with h | rfl
            · exact HP.out j h
            · rw [List.getElem?_eq_getElem hlt, List.getElem?_eq_getElem hlt', He.out]), bel⟩
        · have hd : sameItem xs[i].kind xs[i].obj xs[i].val xs[i].ok ys[i].kind ys[i].obj ys[i].val ys[i].ok = false := by rw [sameItem_eq]; exact decide_eq_false he
          have He := Lib.hid he; clear he
          go_wp2_with fail
          go_quiet (fail)
          go_wp2
          go_ret
          exact ⟨retF (fun h => by subst h; exact He.out rfl), bel⟩
      · have h2 : i = xs.length := by omega
        have h3 : xs = ys := take_eq Hl.out (fun j hj => HP.out j (by omega))
        have H3 := Lib.hid h3; clear h3
        go_wp2
        go_ret
        exact ⟨retT H3.out, bel⟩
  · have b2 : ((xs.length : Int) != (ys.length : Int)) = true := by simp; omega
    have b3 : (xs.length != ys.length) = true := by simp [hl]
    have Hl := Lib.hid hl; clear hl
    go_enter Try.func39, Try.ntmps39
    go_wp2
    go_ret
    exact ⟨retF (fun h => by subst h; exact Hl.out rfl), bel⟩

theorem Equal_Waiter_calls {A B : Option Addr} {xs ys : List MWaiter} {c d : Nat} (w : World) (hr : kWaiter.Row w A xs) (hs : kWaiter.Row w B ys) :
    Calls Try.prog 86 #[.slice A xs.length c, .slice B ys.length d] w fun e w' => e = .returned (.bool (decide (xs = ys))) ∧ Below w.heap.size w w' := by
  have hm := hr.1
  have HR := Lib.hid hr; clear hr
  have HS := Lib.hid hs; clear hs
  by_cases hl : xs.length = ys.length
  · have b2 : ((xs.length : Int) != (ys.length : Int)) = false := by simp [hl]
    have b3 : (xs.length != ys.length) = false := by simp [hl]
    have Hl := Lib.hid hl; clear hl
    go_enter Try.func86, Try.ntmps86
    go_wp2
    go_loopg [5, 13] (xs.length + 1) (fun kq v5 v13 w' => ∃ i : Nat, v13 = .int .i64 i ∧ i + kq = xs.length + 1 ∧ i ≤ xs.length ∧ Hid (∀ j, j < i → xs[j]? = ys[j]?) ∧ Below w.heap.size w w')
    case atStart => exact ⟨0, rfl, by omega, by omega, Lib.hid fun j hj => absurd hj (by omega), Below.refl _ _⟩
    case round =>
      obtain ⟨i, rfl, hi, hi2, HP, hb⟩ := hrel
      obtain ⟨gk, rfl⟩ : ∃ m, gk = m + 1 := ⟨gk - 1, by omega⟩
      by_cases hlt : i < xs.length
      · have hlt' : i < ys.length := by have := Hl.out; omega
        obtain ⟨b, o, rfl, g0, g1, g2⟩ := kWaiter_at (HR.out.below hb) hlt
        obtain ⟨b', o', rfl, k0, k1, k2⟩ := kWaiter_at (HS.out.below hb) hlt'
        by_cases he : xs[i] = ys[i]
        · have hd : sameWaiter xs[i].g xs[i].cas xs[i].val ys[i].g ys[i].cas ys[i].val = true := by rw [sameWaiter_eq]; exact decide_eq_true he
          have He := Lib.hid he; clear he
          go_wp2_with fail
          go_quiet (fail)
          go_wp2
          go_roundg gk
          case measure => omega
          case rel => exact ⟨i + 1, by go_num, by omega, by omega, Lib.hid fun j hj => (by
            rcases Nat.lt_succ_iff_lt_or_eq.1 hj with h | rfl
            · exact HP.out j h
            · rw [List.getElem?_eq_getElem hlt, List.getElem?_eq_getElem hlt', He.out]), bel⟩
        · have hd : sameWaiter xs[i].g xs[i].cas xs[i].val ys[i].g ys[i].cas ys[i].val = false := by rw [sameWaiter_eq]; exact decide_eq_false he
          have He := Lib.hid he; clear he
          go_wp2_with fail
          go_quiet (fail)
          go_wp2
          go_ret
          exact ⟨retF (fun h => by subst h; exact He.out rfl), bel⟩
      · have h2 : i = xs.length := by omega
        have h3 : xs = ys := take_eq Hl.out (fun j hj => HP.out j (by omega))
        have H3 := Lib.hid h3; clear h3
        go_wp2
        go_ret
        exact ⟨retT H3.out, bel⟩
  · have b2 : ((xs.length : Int) != (ys.length : Int)) = true := by simp; omega
    have b3 : (xs.length != ys.length) = true := by simp [hl]
    have Hl := Lib.hid hl; clear hl
    go_enter Try.func86, Try.ntmps86
    go_wp2
    go_ret
    exact ⟨retF (fun h => by subst h; exact Hl.out rfl), bel⟩

theorem Equal_int_calls {A B : Option Addr} {xs ys : List Int} {c d : Nat} (w : World) (hr : Rp.int.Row w A xs) (hs : Rp.int.Row w B ys) :
    Calls Try.prog 85 #[.slice A xs.length c, .slice B ys.length d] w fun e w' => e = .returned (.bool (decide (xs = ys))) ∧ Below w.heap.size w w' := by
  have hm := hr.1
  have HR := Lib.hid hr; clear hr
  have HS := Lib.hid hs; clear hs
  by_cases hl : xs.length = ys.length
  · have b2 : ((xs.length : Int) != (ys.length : Int)) = false := by simp [hl]
    have b3 : (xs.length != ys.length) = false := by simp [hl]
    have Hl := Lib.hid hl; clear hl
    go_enter Try.func85, Try.ntmps85
    go_wp2
    go_loopg [5, 13] (xs.length + 1) (fun kq v5 v13 w' => ∃ i : Nat, v13 = .int .i64 i ∧ i + kq = xs.length + 1 ∧ i ≤ xs.length ∧ Hid (∀ j, j < i → xs[j]? = ys[j]?) ∧ Below w.heap.size w w')
    case atStart => exact ⟨0, rfl, by omega, by omega, Lib.hid fun j hj => absurd hj (by omega), Below.refl _ _⟩
    case round =>
      obtain ⟨i, rfl, hi, hi2, HP, hb⟩ := hrel
      obtain ⟨gk, rfl⟩ : ∃ m, gk = m + 1 := ⟨gk - 1, by omega⟩
      by_cases hlt : i < xs.length
      · have hlt' : i < ys.length := by have := Hl.out; omega
        obtain ⟨b, o, rfl, g0⟩ := int_at (HR.out.below hb) hlt
        obtain ⟨b', o', rfl, k0⟩ := int_at (HS.out.below hb) hlt'
        by_cases he : xs[i] = ys[i]
        · have hd : (xs[i] != ys[i]) = false := by simp [he]
          have He := Lib.hid he; clear he
          go_wp2_with fail
          go_quiet (fail)
          go_wp2
          go_roundg gk
          case measure => omega
          case rel => exact ⟨i + 1, by go_num, by omega, by omega, Lib.hid fun j hj => (by
            rcases Nat.lt_succ_iff_lt_or_eq.1 hj with h | rfl
            · exact HP.out j h
            · rw [List.getElem?_eq_getElem hlt, List.getElem?_eq_getElem hlt', He.out]), bel⟩
        · have hd : (xs[i] != ys[i]) = true := by simp [he]
          have He := Lib.hid he; clear he
          go_wp2_with fail
          go_quiet (fail)
          go_wp2
          go_ret
          exact ⟨retF (fun h => by subst h; exact He.out rfl), bel⟩
      · have h2 : i = xs.length := by omega
        have h3 : xs = ys := take_eq Hl.out (fun j hj => HP.out j (by omega))
        have H3 := Lib.hid h3; clear h3
        go_wp2
        go_ret
        exact ⟨retT H3.out, bel⟩
  · have b2 : ((xs.length : Int) != (ys.length : Int)) = true := by simp; omega
    have b3 : (xs.length != ys.length) = true := by simp [hl]
    have Hl := Lib.hid hl; clear hl
    go_enter Try.func85, Try.ntmps85
    go_wp2
    go_ret
    exact ⟨retF (fun h => by subst h; exact Hl.out rfl), bel⟩

theorem l21Ints_calls {A B : Option Addr} {xs ys : List Int} {c d : Nat} (w : World) (hr : Rp.int.Row w A xs) (hs : Rp.int.Row w B ys) :
    Calls Try.prog 83 #[.slice A xs.length c, .slice B ys.length d] w fun e w' => e = .returned (.bool (decide (xs = ys))) ∧ Below w.heap.size w w' := by
  have hm := hr.1
  have HR := Lib.hid hr; clear hr
  have HS := Lib.hid hs; clear hs
  by_cases hl : xs.length = ys.length
  · have b2 : ((xs.length : Int) != (ys.length : Int)) = false := by simp [hl]
    have b3 : (xs.length != ys.length) = false := by simp [hl]
    have Hl := Lib.hid hl; clear hl
    go_enter Try.func83, Try.ntmps83
    go_wp2
    go_loopg [5, 13] (xs.length + 1) (fun kq v5 v13 w' => ∃ i : Nat, v13 = .int .i64 i ∧ i + kq = xs.length + 1 ∧ i ≤ xs.length ∧ Hid (∀ j, j < i → xs[j]? = ys[j]?) ∧ Below w.heap.size w w')
    case atStart => exact ⟨0, rfl, by omega, by omega, Lib.hid fun j hj => absurd hj (by omega), Below.refl _ _⟩
    case round =>
      obtain ⟨i, rfl, hi, hi2, HP, hb⟩ := hrel
      obtain ⟨gk, rfl⟩ : ∃ m, gk = m + 1 := ⟨gk - 1, by omega⟩
      by_cases hlt : i < xs.length
      · have hlt' : i < ys.length := by have := Hl.out; omega
        obtain ⟨b, o, rfl, g0⟩ := int_at (HR.out.below hb) hlt
        obtain ⟨b', o', rfl, k0⟩ := int_at (HS.out.below hb) hlt'
        by_cases he : xs[i] = ys[i]
        · have hd : (xs[i] != ys[i]) = false := by simp [he]
          have He := Lib.hid he; clear he
          go_wp2_with fail
          go_quiet (fail)
          go_wp2
          go_roundg gk
          case measure => omega
          case rel => exact ⟨i + 1, by go_num, by omega, by omega, Lib.hid fun j hj => (by
            rcases Nat.lt_succ_iff_lt_or_eq.1 hj with h | rfl
            · exact HP.out j h
            · rw [List.getElem?_eq_getElem hlt, List.getElem?_eq_getElem hlt', He.out]), bel⟩
        · have hd : (xs[i] != ys[i]) = true := by simp [he]
          have He := Lib.hid he; clear he
          go_wp2_with fail
          go_quiet (fail)
          go_wp2
          go_ret
          exact ⟨retF (fun h => by subst h; exact He.out rfl), bel⟩
      · have h2 : i = xs.length := by omega
        have h3 : xs = ys := take_eq Hl.out (fun j hj => HP.out j (by omega))
        have H3 := Lib.hid h3; clear h3
        go_wp2
        go_ret
        exact ⟨retT H3.out, bel⟩
  · have b2 : ((xs.length : Int) != (ys.length : Int)) = true := by simp; omega
    have b3 : (xs.length != ys.length) = true := by simp [hl]
    have Hl := Lib.hid hl; clear hl
    go_enter Try.func83, Try.ntmps83
    go_wp2
    go_ret
    exact ⟨retF (fun h => by subst h; exact Hl.out rfl), bel⟩

theorem l21Waiters_calls {A B : Option Addr} {xs ys : List MWaiter} {c d : Nat} (w : World) (hr : kWaiter.Row w A xs) (hs : kWaiter.Row w B ys) :
    Calls Try.prog 84 #[.slice A xs.length c, .slice B ys.length d] w fun e w' => e = .returned (.bool (decide (xs = ys))) ∧ Below w.heap.size w w' := by
  have hm := hr.1
  have HR := Lib.hid hr; clear hr
  have HS := Lib.hid hs; clear hs
  by_cases hl : xs.length = ys.length
  · have b2 : ((xs.length : Int) != (ys.length : Int)) = false := by simp [hl]
    have b3 : (xs.length != ys.length) = false := by simp [hl]
    have Hl := Lib.hid hl; clear hl
    go_enter Try.func84, Try.ntmps84
    go_wp2
    go_loopg [5, 13] (xs.length + 1) (fun kq v5 v13 w' => ∃ i : Nat, v13 = .int .i64 i ∧ i + kq = xs.length + 1 ∧ i ≤ xs.length ∧ Hid (∀ j, j < i → xs[j]? = ys[j]?) ∧ Below w.heap.size w w')
    case atStart => exact ⟨0, rfl, by omega, by omega, Lib.hid fun j hj => absurd hj (by omega), Below.refl _ _⟩
    case round =>
      obtain ⟨i, rfl, hi, hi2, HP, hb⟩ := hrel
      obtain ⟨gk, rfl⟩ : ∃ m, gk = m + 1 := ⟨gk - 1, by omega⟩
      by_cases hlt : i < xs.length
      · have hlt' : i < ys.length := by have := Hl.out; omega
        obtain ⟨b, o, rfl, g0, g1, g2⟩ := kWaiter_at (HR.out.below hb) hlt
        obtain ⟨b', o', rfl, k0, k1, k2⟩ := kWaiter_at (HS.out.below hb) hlt'
        by_cases he : xs[i] = ys[i]
        · have hd : sameWaiter xs[i].g xs[i].cas xs[i].val ys[i].g ys[i].cas ys[i].val = true := by rw [sameWaiter_eq]; exact decide_eq_true he
          have He := Lib.hid he; clear he
          go_wp2_with fail
          go_quiet (fail)
          go_wp2
          go_roundg gk
          case measure => omega
          case rel => exact ⟨i + 1, by go_num, by omega, by omega, Lib.hid fun j hj => (by
            rcases Nat.lt_succ_iff_lt_or_eq.1 hj with h | rfl
            · exact HP.out j h
            · rw [List.getElem?_eq_getElem hlt, List.getElem?_eq_getElem hlt', He.out]), bel⟩
        · have hd : sameWaiter xs[i].g xs[i].cas xs[i].val ys[i].g ys[i].cas ys[i].val = false := by rw [sameWaiter_eq]; exact decide_eq_false he
          have He := Lib.hid he; clear he
          go_wp2_with fail
          go_quiet (fail)
          go_wp2
          go_ret
          exact ⟨retF (fun h => by subst h; exact He.out rfl), bel⟩
      · have h2 : i = xs.length := by omega
        have h3 : xs = ys := take_eq Hl.out (fun j hj => HP.out j (by omega))
        have H3 := Lib.hid h3; clear h3
        go_wp2
        go_ret
        exact ⟨retT H3.out, bel⟩
  · have b2 : ((xs.length : Int) != (ys.length : Int)) = true := by simp; omega
    have b3 : (xs.length != ys.length) = true := by simp [hl]
    have Hl := Lib.hid hl; clear hl
    go_enter Try.func84, Try.ntmps84
    go_wp2
    go_ret
    exact ⟨retF (fun h => by subst h; exact Hl.out rfl), bel⟩

end Go.Proofs.Ytebflbenchomoaa.Wd

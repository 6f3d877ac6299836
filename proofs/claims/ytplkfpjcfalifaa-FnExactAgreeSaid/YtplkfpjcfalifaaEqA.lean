/- Contracts of the laws' helpers over programs and logs. Conditions: none. -/
import Derived.Test.YtplkfpjcfalifaaTyA
namespace Go.Proofs.Ytplkfpjcfalifaa.Wd
open Go.RowKit
set_option linter.unusedVariables false
set_option linter.unusedSimpArgs false
set_option maxHeartbeats 2000000
set_option maxRecDepth 100000
theorem eqCase_calls (x y : MCase) (cs ds : List Value) (w : World) (hx : kCase.K w x cs) (hy : kCase.K w y ds) :
    Calls Try.prog 112 #[.agg cs.toArray, .agg ds.toArray] w fun e w' => e = .returned (.bool (decide (x = y))) ∧ Below w.heap.size w w' := by
  obtain rfl := kCase_K hx
  obtain rfl := kCase_K hy
  clear hx hy
  obtain ⟨x0, x1, x2, x3, x4⟩ := x
  obtain ⟨y0, y1, y2, y3, y4⟩ := y
  go_enter Try.func112, Try.ntmps112
  go_wp2
  all_goals (go_ret; refine ⟨?_, bel⟩; simp_all)

theorem eqInstr_calls (x y : MInstr) (cs ds : List Value) (w : World) (hx : kInstr.K w x cs) (hy : kInstr.K w y ds) :
    Calls Try.prog 113 #[.agg cs.toArray, .agg ds.toArray] w fun e w' => e = .returned (.bool (decide (x = y))) ∧ Below w.heap.size w w' := by
  obtain rfl := kInstr_K hx
  obtain rfl := kInstr_K hy
  clear hx hy
  obtain ⟨x0, x1, x2, x3⟩ := x
  obtain ⟨y0, y1, y2, y3⟩ := y
  go_enter Try.func113, Try.ntmps113
  go_wp2
  all_goals (go_ret; refine ⟨?_, bel⟩; simp_all)

theorem eqDeed_calls (x y : MDeed) (cs ds : List Value) (w : World) (hx : kDeed.K w x cs) (hy : kDeed.K w y ds) :
    Calls Try.prog 78 #[.agg cs.toArray, .agg ds.toArray] w fun e w' => e = .returned (.bool (decide (x = y))) ∧ Below w.heap.size w w' := by
  obtain rfl := kDeed_K hx
  obtain rfl := kDeed_K hy
  clear hx hy
  obtain ⟨x0, x1, x2, x3⟩ := x
  obtain ⟨y0, y1, y2, y3⟩ := y
  go_enter Try.func78, Try.ntmps78
  go_wp2
  all_goals (go_ret; refine ⟨?_, bel⟩; simp_all)

theorem eqIntS_calls (xs ys : List Int) (A B : Option Addr) (c d : Nat) (w : World) (hr : Rp.int.Row w A xs) (hs : Rp.int.Row w B ys) :
    Calls Try.prog 53 #[.slice A xs.length c, .slice B ys.length d] w fun e w' => e = .returned (.bool (decide (xs = ys))) ∧ Below w.heap.size w w' := by
  have hm := hr.1
  have HR := Lib.hid hr; clear hr
  have HS := Lib.hid hs; clear hs
  by_cases hl : xs.length = ys.length
  · have b2 : ((xs.length : Int) != (ys.length : Int)) = false := by simp [hl]
    have b3 : (xs.length != ys.length) = false := by simp [hl]
    have Hl := Lib.hid hl; clear hl
    go_enter Try.func53, Try.ntmps53
    go_wp2
    go_loopg [5] (xs.length + 1) (fun kq v5 w' => ∃ i : Nat, v5 = .int .i64 i ∧ i + kq = xs.length + 1 ∧ i ≤ xs.length ∧ Hid (∀ j, j < i → xs[j]? = ys[j]?) ∧ Below w.heap.size w w')
    case atStart => exact ⟨0, rfl, by omega, by omega, Lib.hid fun j hj => absurd hj (by omega), Below.refl _ _⟩
    case round =>
      obtain ⟨i, rfl, hi, hi2, HP, hb⟩ := hrel
      obtain ⟨gk, rfl⟩ : ∃ m, gk = m + 1 := ⟨gk - 1, by omega⟩
      by_cases hlt : i < xs.length
      · have hlt' : i < ys.length := by have := Hl.out; omega
        obtain ⟨b, o, rfl, g0⟩ := int_at (HR.out.below hb) hlt
        obtain ⟨b', o', rfl, k0⟩ := int_at (HS.out.below hb) hlt'
        by_cases he : xs[i] = ys[i]
        · have hd : (xs[i] != ys[i]) = false := by simp [he]
          have hd2 : (xs[i] == ys[i]) = true := by simp [he]
          have He := Lib.hid he; clear he
          go_wp2_with fail
          go_quiet (fail)
          go_wp2
          go_roundg gk
          case measure => omega
          case rel => exact ⟨i + 1, by go_num, by omega, by omega, Lib.hid fun j hj => (by
            rcases Nat.lt_succ_iff_lt_or_eq.1 hj with h | rfl
            · exact HP.out j h
            · rw [List.getElem?_eq_getElem hlt, List.getElem?_eq_getElem hlt', He.out]), bel⟩
        · have hd : (xs[i] != ys[i]) = true := by simp [he]
          have hd2 : (xs[i] == ys[i]) = false := by simp [he]
          have He := Lib.hid he; clear he
          go_wp2_with fail
          go_quiet (fail)
          go_wp2
          go_ret
          exact ⟨retF (by rintro rfl; exact He.out rfl), bel⟩
      · have hi' : i = xs.length := by omega
        subst hi'
        go_wp2
        go_ret
        exact ⟨retT (take_eq Hl.out HP.out), bel⟩
  · have b2 : ((xs.length : Int) != (ys.length : Int)) = true := by simp; omega
    have b3 : (xs.length != ys.length) = true := by simp [hl]
    go_enter Try.func53, Try.ntmps53
    go_wp2
    go_ret
    exact ⟨retF (by rintro rfl; exact hl rfl), bel⟩

theorem eqCaseS_calls (xs ys : List MCase) (A B : Option Addr) (c d : Nat) (w : World) (hr : kCase.Row w A xs) (hs : kCase.Row w B ys) :
    Calls Try.prog 96 #[.slice A xs.length c, .slice B ys.length d] w fun e w' => e = .returned (.bool (decide (xs = ys))) ∧ Below w.heap.size w w' := by
  have hm := hr.1
  have HR := Lib.hid hr; clear hr
  have HS := Lib.hid hs; clear hs
  by_cases hl : xs.length = ys.length
  · have b2 : ((xs.length : Int) != (ys.length : Int)) = false := by simp [hl]
    have b3 : (xs.length != ys.length) = false := by simp [hl]
    have Hl := Lib.hid hl; clear hl
    go_enter Try.func96, Try.ntmps96
    go_wp2
    go_loopg [5] (xs.length + 1) (fun kq v5 w' => ∃ i : Nat, v5 = .int .i64 i ∧ i + kq = xs.length + 1 ∧ i ≤ xs.length ∧ Hid (∀ j, j < i → xs[j]? = ys[j]?) ∧ Below w.heap.size w w')
    case atStart => exact ⟨0, rfl, by omega, by omega, Lib.hid fun j hj => absurd hj (by omega), Below.refl _ _⟩
    case round =>
      obtain ⟨i, rfl, hi, hi2, HP, hb⟩ := hrel
      obtain ⟨gk, rfl⟩ : ∃ m, gk = m + 1 := ⟨gk - 1, by omega⟩
      by_cases hlt : i < xs.length
      · have hlt' : i < ys.length := by have := Hl.out; omega
        obtain ⟨b, o, rfl, g0, g1, g2, g3, g4⟩ := kCase_at (HR.out.below hb) hlt
        obtain ⟨b', o', rfl, k0, k1, k2, k3, k4⟩ := kCase_at (HS.out.below hb) hlt'
        go_wp2_with fail
        go_still_tail 8, (by kernel_rfl)
        change wpList _ _ _ _ _ wr.drew
        by_cases he : xs[i] = ys[i]
        · have hd : decide (xs[i] = ys[i]) = true := decide_eq_true he
          have He := Lib.hid he; clear he
          go_wp2_with fail
          refine (eqCase_calls xs[i] ys[i] [_, _, _, _, _] [_, _, _, _, _] _ (kCase_mk _ _) (kCase_mk _ _)).mono ?_
          rintro e w' ⟨rfl, hb2⟩
          go_wp2
          go_roundg gk
          case measure => omega
          case rel => exact ⟨i + 1, by go_num, by omega, by omega, Lib.hid fun j hj => (by
            rcases Nat.lt_succ_iff_lt_or_eq.1 hj with h | rfl
            · exact HP.out j h
            · rw [List.getElem?_eq_getElem hlt, List.getElem?_eq_getElem hlt', He.out]), bstep hb hb2⟩
        · have hd : decide (xs[i] = ys[i]) = false := decide_eq_false he
          have He := Lib.hid he; clear he
          go_wp2_with fail
          refine (eqCase_calls xs[i] ys[i] [_, _, _, _, _] [_, _, _, _, _] _ (kCase_mk _ _) (kCase_mk _ _)).mono ?_
          rintro e w' ⟨rfl, hb2⟩
          go_wp2
          go_ret
          exact ⟨retF (by rintro rfl; exact He.out rfl), bstep hb hb2⟩
      · have hi' : i = xs.length := by omega
        subst hi'
        go_wp2
        go_ret
        exact ⟨retT (take_eq Hl.out HP.out), bel⟩
  · have b2 : ((xs.length : Int) != (ys.length : Int)) = true := by simp; omega
    have b3 : (xs.length != ys.length) = true := by simp [hl]
    go_enter Try.func96, Try.ntmps96
    go_wp2
    go_ret
    exact ⟨retF (by rintro rfl; exact hl rfl), bel⟩

theorem eqInstrS_calls (xs ys : List MInstr) (A B : Option Addr) (c d : Nat) (w : World) (hr : kInstr.Row w A xs) (hs : kInstr.Row w B ys) :
    Calls Try.prog 97 #[.slice A xs.length c, .slice B ys.length d] w fun e w' => e = .returned (.bool (decide (xs = ys))) ∧ Below w.heap.size w w' := by
  have hm := hr.1
  have HR := Lib.hid hr; clear hr
  have HS := Lib.hid hs; clear hs
  by_cases hl : xs.length = ys.length
  · have b2 : ((xs.length : Int) != (ys.length : Int)) = false := by simp [hl]
    have b3 : (xs.length != ys.length) = false := by simp [hl]
    have Hl := Lib.hid hl; clear hl
    go_enter Try.func97, Try.ntmps97
    go_wp2
    go_loopg [5] (xs.length + 1) (fun kq v5 w' => ∃ i : Nat, v5 = .int .i64 i ∧ i + kq = xs.length + 1 ∧ i ≤ xs.length ∧ Hid (∀ j, j < i → xs[j]? = ys[j]?) ∧ Below w.heap.size w w')
    case atStart => exact ⟨0, rfl, by omega, by omega, Lib.hid fun j hj => absurd hj (by omega), Below.refl _ _⟩
    case round =>
      obtain ⟨i, rfl, hi, hi2, HP, hb⟩ := hrel
      obtain ⟨gk, rfl⟩ : ∃ m, gk = m + 1 := ⟨gk - 1, by omega⟩
      by_cases hlt : i < xs.length
      · have hlt' : i < ys.length := by have := Hl.out; omega
        obtain ⟨b, o, rfl, g0, g1, g2, g3⟩ := kInstr_at (HR.out.below hb) hlt
        obtain ⟨b', o', rfl, k0, k1, k2, k3⟩ := kInstr_at (HS.out.below hb) hlt'
        go_wp2_with fail
        go_still_tail 8, (by kernel_rfl)
        change wpList _ _ _ _ _ wr.drew
        by_cases he : xs[i] = ys[i]
        · have hd : decide (xs[i] = ys[i]) = true := decide_eq_true he
          have He := Lib.hid he; clear he
          go_wp2_with fail
          refine (eqInstr_calls xs[i] ys[i] [_, _, _, _] [_, _, _, _] _ (kInstr_mk _ _) (kInstr_mk _ _)).mono ?_
          rintro e w' ⟨rfl, hb2⟩
          go_wp2
          go_roundg gk
          case measure => omega
          case rel => exact ⟨i + 1, by go_num, by omega, by omega, Lib.hid fun j hj => (by
            rcases Nat.lt_succ_iff_lt_or_eq.1 hj with h | rfl
            · exact HP.out j h
            · rw [List.getElem?_eq_getElem hlt, List.getElem?_eq_getElem hlt', He.out]), bstep hb hb2⟩
        · have hd : decide (xs[i] = ys[i]) = false := decide_eq_false he
          have He := Lib.hid he; clear he
          go_wp2_with fail
          refine (eqInstr_calls xs[i] ys[i] [_, _, _, _] [_, _, _, _] _ (kInstr_mk _ _) (kInstr_mk _ _)).mono ?_
          rintro e w' ⟨rfl, hb2⟩
          go_wp2
          go_ret
          exact ⟨retF (by rintro rfl; exact He.out rfl), bstep hb hb2⟩
      · have hi' : i = xs.length := by omega
        subst hi'
        go_wp2
        go_ret
        exact ⟨retT (take_eq Hl.out HP.out), bel⟩
  · have b2 : ((xs.length : Int) != (ys.length : Int)) = true := by simp; omega
    have b3 : (xs.length != ys.length) = true := by simp [hl]
    go_enter Try.func97, Try.ntmps97
    go_wp2
    go_ret
    exact ⟨retF (by rintro rfl; exact hl rfl), bel⟩

theorem eqDeedS_calls (xs ys : List MDeed) (A B : Option Addr) (c d : Nat) (w : World) (hr : kDeed.Row w A xs) (hs : kDeed.Row w B ys) :
    Calls Try.prog 56 #[.slice A xs.length c, .slice B ys.length d] w fun e w' => e = .returned (.bool (decide (xs = ys))) ∧ Below w.heap.size w w' := by
  have hm := hr.1
  have HR := Lib.hid hr; clear hr
  have HS := Lib.hid hs; clear hs
  by_cases hl : xs.length = ys.length
  · have b2 : ((xs.length : Int) != (ys.length : Int)) = false := by simp [hl]
    have b3 : (xs.length != ys.length) = false := by simp [hl]
    have Hl := Lib.hid hl; clear hl
    go_enter Try.func56, Try.ntmps56
    go_wp2
    go_loopg [5] (xs.length + 1) (fun kq v5 w' => ∃ i : Nat, v5 = .int .i64 i ∧ i + kq = xs.length + 1 ∧ i ≤ xs.length ∧ Hid (∀ j, j < i → xs[j]? = ys[j]?) ∧ Below w.heap.size w w')
    case atStart => exact ⟨0, rfl, by omega, by omega, Lib.hid fun j hj => absurd hj (by omega), Below.refl _ _⟩
    case round =>
      obtain ⟨i, rfl, hi, hi2, HP, hb⟩ := hrel
      obtain ⟨gk, rfl⟩ : ∃ m, gk = m + 1 := ⟨gk - 1, by omega⟩
      by_cases hlt : i < xs.length
      · have hlt' : i < ys.length := by have := Hl.out; omega
        obtain ⟨b, o, rfl, g0, g1, g2, g3⟩ := kDeed_at (HR.out.below hb) hlt
        obtain ⟨b', o', rfl, k0, k1, k2, k3⟩ := kDeed_at (HS.out.below hb) hlt'
        go_wp2_with fail
        go_still_tail 8, (by kernel_rfl)
        change wpList _ _ _ _ _ wr.drew
        by_cases he : xs[i] = ys[i]
        · have hd : decide (xs[i] = ys[i]) = true := decide_eq_true he
          have He := Lib.hid he; clear he
          go_wp2_with fail
          refine (eqDeed_calls xs[i] ys[i] [_, _, _, _] [_, _, _, _] _ (kDeed_mk _ _) (kDeed_mk _ _)).mono ?_
          rintro e w' ⟨rfl, hb2⟩
          go_wp2
          go_roundg gk
          case measure => omega
          case rel => exact ⟨i + 1, by go_num, by omega, by omega, Lib.hid fun j hj => (by
            rcases Nat.lt_succ_iff_lt_or_eq.1 hj with h | rfl
            · exact HP.out j h
            · rw [List.getElem?_eq_getElem hlt, List.getElem?_eq_getElem hlt', He.out]), bstep hb hb2⟩
        · have hd : decide (xs[i] = ys[i]) = false := decide_eq_false he
          have He := Lib.hid he; clear he
          go_wp2_with fail
          refine (eqDeed_calls xs[i] ys[i] [_, _, _, _] [_, _, _, _] _ (kDeed_mk _ _) (kDeed_mk _ _)).mono ?_
          rintro e w' ⟨rfl, hb2⟩
          go_wp2
          go_ret
          exact ⟨retF (by rintro rfl; exact He.out rfl), bstep hb hb2⟩
      · have hi' : i = xs.length := by omega
        subst hi'
        go_wp2
        go_ret
        exact ⟨retT (take_eq Hl.out HP.out), bel⟩
  · have b2 : ((xs.length : Int) != (ys.length : Int)) = true := by simp; omega
    have b3 : (xs.length != ys.length) = true := by simp [hl]
    go_enter Try.func56, Try.ntmps56
    go_wp2
    go_ret
    exact ⟨retF (by rintro rfl; exact hl rfl), bel⟩

theorem eqSelect_calls (x y : MSelect) (cs ds : List Value) (w : World) (hx : kSelect.K w x cs) (hy : kSelect.K w y ds) :
    Calls Try.prog 76 #[.agg cs.toArray, .agg ds.toArray] w fun e w' => e = .returned (.bool (decide (x = y))) ∧ Below w.heap.size w w' := by
  obtain ⟨A0, c0, rfl, l0, r0⟩ := kSelect_K hx
  obtain ⟨B0, d0, rfl, m0, s0⟩ := kSelect_K hy
  clear hx hy
  obtain ⟨x0, x1⟩ := x
  obtain ⟨y0, y1⟩ := y
  simp only at *
  have R0 := Lib.hid r0; clear r0
  have S0 := Lib.hid s0; clear s0
  go_enter Try.func76, Try.ntmps76
  go_wp2_with (first
    | (go_at_call 96; (with_reducible refine (eqCaseS_calls _ _ _ _ _ _ _ (R0.out.below bel) (S0.out.below bel)).mono ?_); rintro e w1 ⟨rfl, hb1⟩; obtain ⟨C1, D1⟩ := bcell hb1; obtain ⟨za1, zb1⟩ : w.heap.size < w1.heap.size ∧ w.heap.size + 1 < w1.heap.size := (by have := hb1.size; (try simp at this); omega)))
  all_goals (go_ret; refine ⟨?_, bel⟩; simp_all)

theorem eqSelectS_calls (xs ys : List MSelect) (A B : Option Addr) (c d : Nat) (w : World) (hr : kSelect.Row w A xs) (hs : kSelect.Row w B ys) :
    Calls Try.prog 54 #[.slice A xs.length c, .slice B ys.length d] w fun e w' => e = .returned (.bool (decide (xs = ys))) ∧ Below w.heap.size w w' := by
  have hm := hr.1
  have HR := Lib.hid hr; clear hr
  have HS := Lib.hid hs; clear hs
  by_cases hl : xs.length = ys.length
  · have b2 : ((xs.length : Int) != (ys.length : Int)) = false := by simp [hl]
    have b3 : (xs.length != ys.length) = false := by simp [hl]
    have Hl := Lib.hid hl; clear hl
    go_enter Try.func54, Try.ntmps54
    go_wp2
    go_loopg [5] (xs.length + 1) (fun kq v5 w' => ∃ i : Nat, v5 = .int .i64 i ∧ i + kq = xs.length + 1 ∧ i ≤ xs.length ∧ Hid (∀ j, j < i → xs[j]? = ys[j]?) ∧ Below w.heap.size w w')
    case atStart => exact ⟨0, rfl, by omega, by omega, Lib.hid fun j hj => absurd hj (by omega), Below.refl _ _⟩
    case round =>
      obtain ⟨i, rfl, hi, hi2, HP, hb⟩ := hrel
      obtain ⟨gk, rfl⟩ : ∃ m, gk = m + 1 := ⟨gk - 1, by omega⟩
      by_cases hlt : i < xs.length
      · have hlt' : i < ys.length := by have := Hl.out; omega
        obtain ⟨b, o, A0, c0, rfl, g0, g1, l0, r0⟩ := kSelect_at (HR.out.below hb) hlt
        obtain ⟨b', o', B0, d0, rfl, k0, k1, m0, s0⟩ := kSelect_at (HS.out.below hb) hlt'
        have R0 := Lib.hid r0; clear r0
        have S0 := Lib.hid s0; clear s0
        go_wp2_with fail
        go_still_tail 8, (by kernel_rfl)
        change wpList _ _ _ _ _ wr.drew
        by_cases he : xs[i] = ys[i]
        · have hd : decide (xs[i] = ys[i]) = true := decide_eq_true he
          have He := Lib.hid he; clear he
          go_wp2_with fail
          refine (eqSelect_calls xs[i] ys[i] [_, _] [_, _] _ (kSelect_mk _ _ l0 (R0.out.below bel)) (kSelect_mk _ _ m0 (S0.out.below bel))).mono ?_
          rintro e w' ⟨rfl, hb2⟩
          go_wp2
          go_roundg gk
          case measure => omega
          case rel => exact ⟨i + 1, by go_num, by omega, by omega, Lib.hid fun j hj => (by
            rcases Nat.lt_succ_iff_lt_or_eq.1 hj with h | rfl
            · exact HP.out j h
            · rw [List.getElem?_eq_getElem hlt, List.getElem?_eq_getElem hlt', He.out]), bstep hb hb2⟩
        · have hd : decide (xs[i] = ys[i]) = false := decide_eq_false he
          have He := Lib.hid he; clear he
          go_wp2_with fail
          refine (eqSelect_calls xs[i] ys[i] [_, _] [_, _] _ (kSelect_mk _ _ l0 (R0.out.below bel)) (kSelect_mk _ _ m0 (S0.out.below bel))).mono ?_
          rintro e w' ⟨rfl, hb2⟩
          go_wp2
          go_ret
          exact ⟨retF (by rintro rfl; exact He.out rfl), bstep hb hb2⟩
      · have hi' : i = xs.length := by omega
        subst hi'
        go_wp2
        go_ret
        exact ⟨retT (take_eq Hl.out HP.out), bel⟩
  · have b2 : ((xs.length : Int) != (ys.length : Int)) = true := by simp; omega
    have b3 : (xs.length != ys.length) = true := by simp [hl]
    go_enter Try.func54, Try.ntmps54
    go_wp2
    go_ret
    exact ⟨retF (by rintro rfl; exact hl rfl), bel⟩

theorem eqProc_calls (x y : MProc) (cs ds : List Value) (w : World) (hx : kProc.K w x cs) (hy : kProc.K w y ds) :
    Calls Try.prog 77 #[.agg cs.toArray, .agg ds.toArray] w fun e w' => e = .returned (.bool (decide (x = y))) ∧ Below w.heap.size w w' := by
  obtain ⟨A0, c0, rfl, l0, r0⟩ := kProc_K hx
  obtain ⟨B0, d0, rfl, m0, s0⟩ := kProc_K hy
  clear hx hy
  obtain ⟨x0⟩ := x
  obtain ⟨y0⟩ := y
  simp only at *
  have R0 := Lib.hid r0; clear r0
  have S0 := Lib.hid s0; clear s0
  go_enter Try.func77, Try.ntmps77
  go_wp2_with (first
    | (go_at_call 97; (with_reducible refine (eqInstrS_calls _ _ _ _ _ _ _ (R0.out.below bel) (S0.out.below bel)).mono ?_); rintro e w1 ⟨rfl, hb1⟩; obtain ⟨C1, D1⟩ := bcell hb1; obtain ⟨za1, zb1⟩ : w.heap.size < w1.heap.size ∧ w.heap.size + 1 < w1.heap.size := (by have := hb1.size; (try simp at this); omega)))
  all_goals (go_ret; refine ⟨?_, bel⟩; simp_all)

theorem eqProcS_calls (xs ys : List MProc) (A B : Option Addr) (c d : Nat) (w : World) (hr : kProc.Row w A xs) (hs : kProc.Row w B ys) :
    Calls Try.prog 55 #[.slice A xs.length c, .slice B ys.length d] w fun e w' => e = .returned (.bool (decide (xs = ys))) ∧ Below w.heap.size w w' := by
  have hm := hr.1
  have HR := Lib.hid hr; clear hr
  have HS := Lib.hid hs; clear hs
  by_cases hl : xs.length = ys.length
  · have b2 : ((xs.length : Int) != (ys.length : Int)) = false := by simp [hl]
    have b3 : (xs.length != ys.length) = false := by simp [hl]
    have Hl := Lib.hid hl; clear hl
    go_enter Try.func55, Try.ntmps55
    go_wp2
    go_loopg [5] (xs.length + 1) (fun kq v5 w' => ∃ i : Nat, v5 = .int .i64 i ∧ i + kq = xs.length + 1 ∧ i ≤ xs.length ∧ Hid (∀ j, j < i → xs[j]? = ys[j]?) ∧ Below w.heap.size w w')
    case atStart => exact ⟨0, rfl, by omega, by omega, Lib.hid fun j hj => absurd hj (by omega), Below.refl _ _⟩
    case round =>
      obtain ⟨i, rfl, hi, hi2, HP, hb⟩ := hrel
      obtain ⟨gk, rfl⟩ : ∃ m, gk = m + 1 := ⟨gk - 1, by omega⟩
      by_cases hlt : i < xs.length
      · have hlt' : i < ys.length := by have := Hl.out; omega
        obtain ⟨b, o, A0, c0, rfl, g0, l0, r0⟩ := kProc_at (HR.out.below hb) hlt
        obtain ⟨b', o', B0, d0, rfl, k0, m0, s0⟩ := kProc_at (HS.out.below hb) hlt'
        have R0 := Lib.hid r0; clear r0
        have S0 := Lib.hid s0; clear s0
        go_wp2_with fail
        go_still_tail 8, (by kernel_rfl)
        change wpList _ _ _ _ _ wr.drew
        by_cases he : xs[i] = ys[i]
        · have hd : decide (xs[i] = ys[i]) = true := decide_eq_true he
          have He := Lib.hid he; clear he
          go_wp2_with fail
          refine (eqProc_calls xs[i] ys[i] [_] [_] _ (kProc_mk _ _ l0 (R0.out.below bel)) (kProc_mk _ _ m0 (S0.out.below bel))).mono ?_
          rintro e w' ⟨rfl, hb2⟩
          go_wp2
          go_roundg gk
          case measure => omega
          case rel => exact ⟨i + 1, by go_num, by omega, by omega, Lib.hid fun j hj => (by
            rcases Nat.lt_succ_iff_lt_or_eq.1 hj with h | rfl
            · exact HP.out j h
            · rw [List.getElem?_eq_getElem hlt, List.getElem?_eq_getElem hlt', He.out]), bstep hb hb2⟩
        · have hd : decide (xs[i] = ys[i]) = false := decide_eq_false he
          have He := Lib.hid he; clear he
          go_wp2_with fail
          refine (eqProc_calls xs[i] ys[i] [_] [_] _ (kProc_mk _ _ l0 (R0.out.below bel)) (kProc_mk _ _ m0 (S0.out.below bel))).mono ?_
          rintro e w' ⟨rfl, hb2⟩
          go_wp2
          go_ret
          exact ⟨retF (by rintro rfl; exact He.out rfl), bstep hb hb2⟩
      · have hi' : i = xs.length := by omega
        subst hi'
        go_wp2
        go_ret
        exact ⟨retT (take_eq Hl.out HP.out), bel⟩
  · have b2 : ((xs.length : Int) != (ys.length : Int)) = true := by simp; omega
    have b3 : (xs.length != ys.length) = true := by simp [hl]
    go_enter Try.func55, Try.ntmps55
    go_wp2
    go_ret
    exact ⟨retF (by rintro rfl; exact hl rfl), bel⟩

theorem eqProg_calls (x y : MProg) (cs ds : List Value) (w : World) (hx : kProg.K w x cs) (hy : kProg.K w y ds) :
    Calls Try.prog 26 #[.agg cs.toArray, .agg ds.toArray] w fun e w' => e = .returned (.bool (decide (x = y))) ∧ Below w.heap.size w w' := by
  obtain ⟨A0, c0, A1, c1, A2, c2, rfl, l0, r0, l1, r1, l2, r2⟩ := kProg_K hx
  obtain ⟨B0, d0, B1, d1, B2, d2, rfl, m0, s0, m1, s1, m2, s2⟩ := kProg_K hy
  clear hx hy
  obtain ⟨x0, x1, x2, x3⟩ := x
  obtain ⟨y0, y1, y2, y3⟩ := y
  simp only at *
  have R0 := Lib.hid r0; clear r0
  have S0 := Lib.hid s0; clear s0
  have R1 := Lib.hid r1; clear r1
  have S1 := Lib.hid s1; clear s1
  have R2 := Lib.hid r2; clear r2
  have S2 := Lib.hid s2; clear s2
  go_enter Try.func26, Try.ntmps26
  go_wp2_with (first
    | (go_at_call 53; (with_reducible refine (eqIntS_calls _ _ _ _ _ _ _ (R0.out.below bel) (S0.out.below bel)).mono ?_); rintro e w1 ⟨rfl, hb1⟩; obtain ⟨C1, D1⟩ := bcell hb1; obtain ⟨za1, zb1⟩ : w.heap.size < w1.heap.size ∧ w.heap.size + 1 < w1.heap.size := (by have := hb1.size; (try simp at this); omega))
    | (go_at_call 54; (with_reducible refine (eqSelectS_calls _ _ _ _ _ _ _ (R1.out.below bel) (S1.out.below bel)).mono ?_); rintro e w3 ⟨rfl, hb3⟩; obtain ⟨C3, D3⟩ := bcell hb3; obtain ⟨za3, zb3⟩ : w.heap.size < w3.heap.size ∧ w.heap.size + 1 < w3.heap.size := (by have := hb3.size; (try simp at this); omega))
    | (go_at_call 55; (with_reducible refine (eqProcS_calls _ _ _ _ _ _ _ (R2.out.below bel) (S2.out.below bel)).mono ?_); rintro e w4 ⟨rfl, hb4⟩; obtain ⟨C4, D4⟩ := bcell hb4; obtain ⟨za4, zb4⟩ : w.heap.size < w4.heap.size ∧ w.heap.size + 1 < w4.heap.size := (by have := hb4.size; (try simp at this); omega)))
  all_goals (go_ret; refine ⟨?_, bel⟩; simp_all)

theorem eqLog_calls (x y : MLog) (cs ds : List Value) (w : World) (hx : kLog.K w x cs) (hy : kLog.K w y ds) :
    Calls Try.prog 27 #[.agg cs.toArray, .agg ds.toArray] w fun e w' => e = .returned (.bool (decide (x = y))) ∧ Below w.heap.size w w' := by
  obtain ⟨A0, c0, rfl, l0, r0⟩ := kLog_K hx
  obtain ⟨B0, d0, rfl, m0, s0⟩ := kLog_K hy
  clear hx hy
  obtain ⟨x0, x1⟩ := x
  obtain ⟨y0, y1⟩ := y
  simp only at *
  have R0 := Lib.hid r0; clear r0
  have S0 := Lib.hid s0; clear s0
  go_enter Try.func27, Try.ntmps27
  go_wp2_with (first
    | (go_at_call 56; (with_reducible refine (eqDeedS_calls _ _ _ _ _ _ _ (R0.out.below bel) (S0.out.below bel)).mono ?_); rintro e w2 ⟨rfl, hb2⟩; obtain ⟨C2, D2⟩ := bcell hb2; obtain ⟨za2, zb2⟩ : w.heap.size < w2.heap.size ∧ w.heap.size + 1 < w2.heap.size := (by have := hb2.size; (try simp at this); omega)))
  all_goals (go_ret; refine ⟨?_, bel⟩; simp_all)
end Go.Proofs.Ytplkfpjcfalifaa.Wd

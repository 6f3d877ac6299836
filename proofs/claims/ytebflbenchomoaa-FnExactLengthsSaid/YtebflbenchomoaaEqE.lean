/- Contracts of the laws' helpers. Conditions: none. -/
import Derived.Test.YtebflbenchomoaaTy
namespace Go.Proofs.Ytebflbenchomoaa.Wd
open Go.RowKit
set_option linter.unusedVariables false
set_option linter.unusedSimpArgs false
set_option maxHeartbeats 2000000
set_option maxRecDepth 100000
theorem eqWaiter_calls (x y : MWaiter) (cs ds : List Value) (w : World) (hx : kWaiter.K w x cs) (hy : kWaiter.K w y ds) :
    Calls Try.prog 99 #[.agg cs.toArray, .agg ds.toArray] w fun e w' => e = .returned (.bool (decide (x = y))) ∧ Below w.heap.size w w' := by
  obtain rfl := kWaiter_K hx
  obtain rfl := kWaiter_K hy
  clear hx hy
  obtain ⟨x0, x1, x2⟩ := x
  obtain ⟨y0, y1, y2⟩ := y
  go_enter Try.func99, Try.ntmps99
  go_wp2
  all_goals (go_ret; refine ⟨?_, bel⟩; simp_all)

theorem eqItem_calls (x y : MItem) (cs ds : List Value) (w : World) (hx : kItem.K w x cs) (hy : kItem.K w y ds) :
    Calls Try.prog 61 #[.agg cs.toArray, .agg ds.toArray] w fun e w' => e = .returned (.bool (decide (x = y))) ∧ Below w.heap.size w w' := by
  obtain rfl := kItem_K hx
  obtain rfl := kItem_K hy
  clear hx hy
  obtain ⟨x0, x1, x2, x3⟩ := x
  obtain ⟨y0, y1, y2, y3⟩ := y
  go_enter Try.func61, Try.ntmps61
  go_wp2
  all_goals (go_ret; refine ⟨?_, bel⟩; simp_all)

theorem eqIntS_calls (xs ys : List Int) (A B : Option Addr) (c d : Nat) (w : World) (hr : Rp.int.Row w A xs) (hs : Rp.int.Row w B ys) :
    Calls Try.prog 17 #[.slice A xs.length c, .slice B ys.length d] w fun e w' => e = .returned (.bool (decide (xs = ys))) ∧ Below w.heap.size w w' := by
  have hm := hr.1
  have HR := Lib.hid hr; clear hr
  have HS := Lib.hid hs; clear hs
  by_cases hl : xs.length = ys.length
  · have b2 : ((xs.length : Int) != (ys.length : Int)) = false := by simp [hl]
    have b3 : (xs.length != ys.length) = false := by simp [hl]
    have Hl := Lib.hid hl; clear hl
    go_enter Try.func17, Try.ntmps17
    go_wp2
    go_loopg [5] (xs.length + 1) (fun kq v5 w' => ∃ i : Nat, v5 = .int .i64 i ∧ i + kq = xs.length + 1 ∧ i ≤ xs.length ∧ Hid (∀ j, j < i → xs[j]? = ys[j]?) ∧ Below w.heap.size w w')
    case atStart => exact ⟨0, rfl, by omega, by omega, Lib.hid fun j hj => absurd hj (by omega), Below.refl _ _⟩
    case round =>
      obtain ⟨i, rfl, hi, hi2, HP, hb⟩ := hrel
      obtain ⟨gk, rfl⟩ : ∃ m, gk = m + 1 := ⟨gk - 1, by omega⟩
      by_cases hlt : i < xs.length
      · have hlt' : i < ys.length := by have := Hl.out; omega
        obtain ⟨b, o, rfl, g0⟩ := int_at (HR.out.below hb) hlt
        obtain ⟨b', o', rfl, k0⟩ := int_at (HS.out.below hb) hlt'
        by_cases he : xs[i] = ys[i]
        · have hd : (xs[i] != ys[i]) = false := by simp [he]
          have hd2 : (xs[i] == ys[i]) = true := by simp [he]
          have He := Lib.hid he; clear he
          go_wp2_with fail
          go_quiet (fail)
          go_wp2
          go_roundg gk
          case measure => omega
          case rel => exact ⟨i + 1, by go_num, by omega, by omega, Lib.hid fun j hj => (by
            rcases Nat.lt_succ_iff_lt_or_eq.1 hj with h | rfl
            · exact HP.out j h
            · rw [List.getElem?_eq_getElem hlt, List.getElem?_eq_getElem hlt', He.out]), bel⟩
        · have hd : (xs[i] != ys[i]) = true := by simp [he]
          have hd2 : (xs[i] == ys[i]) = false := by simp [he]
          have He := Lib.hid he; clear he
          go_wp2_with fail
          go_quiet (fail)
          go_wp2
          go_ret
          exact ⟨retF (by rintro rfl; exact He.out rfl), bel⟩
      · have hi' : i = xs.length := by omega
        subst hi'
        go_wp2
        go_ret
        exact ⟨retT (take_eq Hl.out HP.out), bel⟩
  · have b2 : ((xs.length : Int) != (ys.length : Int)) = true := by simp; omega
    have b3 : (xs.length != ys.length) = true := by simp [hl]
    go_enter Try.func17, Try.ntmps17
    go_wp2
    go_ret
    exact ⟨retF (by rintro rfl; exact hl rfl), bel⟩

theorem eqWaiterS_calls (xs ys : List MWaiter) (A B : Option Addr) (c d : Nat) (w : World) (hr : kWaiter.Row w A xs) (hs : kWaiter.Row w B ys) :
    Calls Try.prog 96 #[.slice A xs.length c, .slice B ys.length d] w fun e w' => e = .returned (.bool (decide (xs = ys))) ∧ Below w.heap.size w w' := by
  have hm := hr.1
  have HR := Lib.hid hr; clear hr
  have HS := Lib.hid hs; clear hs
  by_cases hl : xs.length = ys.length
  · have b2 : ((xs.length : Int) != (ys.length : Int)) = false := by simp [hl]
    have b3 : (xs.length != ys.length) = false := by simp [hl]
    have Hl := Lib.hid hl; clear hl
    go_enter Try.func96, Try.ntmps96
    go_wp2
    go_loopg [5] (xs.length + 1) (fun kq v5 w' => ∃ i : Nat, v5 = .int .i64 i ∧ i + kq = xs.length + 1 ∧ i ≤ xs.length ∧ Hid (∀ j, j < i → xs[j]? = ys[j]?) ∧ Below w.heap.size w w')
    case atStart => exact ⟨0, rfl, by omega, by omega, Lib.hid fun j hj => absurd hj (by omega), Below.refl _ _⟩
    case round =>
      obtain ⟨i, rfl, hi, hi2, HP, hb⟩ := hrel
      obtain ⟨gk, rfl⟩ : ∃ m, gk = m + 1 := ⟨gk - 1, by omega⟩
      by_cases hlt : i < xs.length
      · have hlt' : i < ys.length := by have := Hl.out; omega
        obtain ⟨b, o, rfl, g0, g1, g2⟩ := kWaiter_at (HR.out.below hb) hlt
        obtain ⟨b', o', rfl, k0, k1, k2⟩ := kWaiter_at (HS.out.below hb) hlt'
        go_wp2_with fail
        go_still_tail 8, (by kernel_rfl)
        change wpList _ _ _ _ _ wr.drew
        by_cases he : xs[i] = ys[i]
        · have hd : decide (xs[i] = ys[i]) = true := decide_eq_true he
          have He := Lib.hid he; clear he
          go_wp2_with fail
          refine (eqWaiter_calls xs[i] ys[i] [_, _, _] [_, _, _] _ (kWaiter_mk _ _) (kWaiter_mk _ _)).mono ?_
          rintro e w' ⟨rfl, hb2⟩
          go_wp2
          go_roundg gk
          case measure => omega
          case rel => exact ⟨i + 1, by go_num, by omega, by omega, Lib.hid fun j hj => (by
            rcases Nat.lt_succ_iff_lt_or_eq.1 hj with h | rfl
            · exact HP.out j h
            · rw [List.getElem?_eq_getElem hlt, List.getElem?_eq_getElem hlt', He.out]), bstep hb hb2⟩
        · have hd : decide (xs[i] = ys[i]) = false := decide_eq_false he
          have He := Lib.hid he; clear he
          go_wp2_with fail
          refine (eqWaiter_calls xs[i] ys[i] [_, _, _] [_, _, _] _ (kWaiter_mk _ _) (kWaiter_mk _ _)).mono ?_
          rintro e w' ⟨rfl, hb2⟩
          go_wp2
          go_ret
          exact ⟨retF (by rintro rfl; exact He.out rfl), bstep hb hb2⟩
      · have hi' : i = xs.length := by omega
        subst hi'
        go_wp2
        go_ret
        exact ⟨retT (take_eq Hl.out HP.out), bel⟩
  · have b2 : ((xs.length : Int) != (ys.length : Int)) = true := by simp; omega
    have b3 : (xs.length != ys.length) = true := by simp [hl]
    go_enter Try.func96, Try.ntmps96
    go_wp2
    go_ret
    exact ⟨retF (by rintro rfl; exact hl rfl), bel⟩

theorem eqItemS_calls (xs ys : List MItem) (A B : Option Addr) (c d : Nat) (w : World) (hr : kItem.Row w A xs) (hs : kItem.Row w B ys) :
    Calls Try.prog 95 #[.slice A xs.length c, .slice B ys.length d] w fun e w' => e = .returned (.bool (decide (xs = ys))) ∧ Below w.heap.size w w' := by
  have hm := hr.1
  have HR := Lib.hid hr; clear hr
  have HS := Lib.hid hs; clear hs
  by_cases hl : xs.length = ys.length
  · have b2 : ((xs.length : Int) != (ys.length : Int)) = false := by simp [hl]
    have b3 : (xs.length != ys.length) = false := by simp [hl]
    have Hl := Lib.hid hl; clear hl
    go_enter Try.func95, Try.ntmps95
    go_wp2
    go_loopg [5] (xs.length + 1) (fun kq v5 w' => ∃ i : Nat, v5 = .int .i64 i ∧ i + kq = xs.length + 1 ∧ i ≤ xs.length ∧ Hid (∀ j, j < i → xs[j]? = ys[j]?) ∧ Below w.heap.size w w')
    case atStart => exact ⟨0, rfl, by omega, by omega, Lib.hid fun j hj => absurd hj (by omega), Below.refl _ _⟩
    case round =>
      obtain ⟨i, rfl, hi, hi2, HP, hb⟩ := hrel
      obtain ⟨gk, rfl⟩ : ∃ m, gk = m + 1 := ⟨gk - 1, by omega⟩
      by_cases hlt : i < xs.length
      · have hlt' : i < ys.length := by have := Hl.out; omega
        obtain ⟨b, o, rfl, g0, g1, g2, g3⟩ := kItem_at (HR.out.below hb) hlt
        obtain ⟨b', o', rfl, k0, k1, k2, k3⟩ := kItem_at (HS.out.below hb) hlt'
        go_wp2_with fail
        go_still_tail 8, (by kernel_rfl)
        change wpList _ _ _ _ _ wr.drew
        by_cases he : xs[i] = ys[i]
        · have hd : decide (xs[i] = ys[i]) = true := decide_eq_true he
          have He := Lib.hid he; clear he
          go_wp2_with fail
          refine (eqItem_calls xs[i] ys[i] [_, _, _, _] [_, _, _, _] _ (kItem_mk _ _) (kItem_mk _ _)).mono ?_
          rintro e w' ⟨rfl, hb2⟩
          go_wp2
          go_roundg gk
          case measure => omega
          case rel => exact ⟨i + 1, by go_num, by omega, by omega, Lib.hid fun j hj => (by
            rcases Nat.lt_succ_iff_lt_or_eq.1 hj with h | rfl
            · exact HP.out j h
            · rw [List.getElem?_eq_getElem hlt, List.getElem?_eq_getElem hlt', He.out]), bstep hb hb2⟩
        · have hd : decide (xs[i] = ys[i]) = false := decide_eq_false he
          have He := Lib.hid he; clear he
          go_wp2_with fail
          refine (eqItem_calls xs[i] ys[i] [_, _, _, _] [_, _, _, _] _ (kItem_mk _ _) (kItem_mk _ _)).mono ?_
          rintro e w' ⟨rfl, hb2⟩
          go_wp2
          go_ret
          exact ⟨retF (by rintro rfl; exact He.out rfl), bstep hb hb2⟩
      · have hi' : i = xs.length := by omega
        subst hi'
        go_wp2
        go_ret
        exact ⟨retT (take_eq Hl.out HP.out), bel⟩
  · have b2 : ((xs.length : Int) != (ys.length : Int)) = true := by simp; omega
    have b3 : (xs.length != ys.length) = true := by simp [hl]
    go_enter Try.func95, Try.ntmps95
    go_wp2
    go_ret
    exact ⟨retF (by rintro rfl; exact hl rfl), bel⟩

theorem eqGor_calls (x y : MGor) (cs ds : List Value) (w : World) (hx : kGor.K w x cs) (hy : kGor.K w y ds) :
    Calls Try.prog 78 #[.agg cs.toArray, .agg ds.toArray] w fun e w' => e = .returned (.bool (decide (x = y))) ∧ Below w.heap.size w w' := by
  obtain ⟨A0, c0, A1, c1, rfl, l0, r0, l1, r1⟩ := kGor_K hx
  obtain ⟨B0, d0, B1, d1, rfl, m0, s0, m1, s1⟩ := kGor_K hy
  clear hx hy
  obtain ⟨x0, x1, x2, x3, x4⟩ := x
  obtain ⟨y0, y1, y2, y3, y4⟩ := y
  simp only at *
  have R0 := Lib.hid r0; clear r0
  have S0 := Lib.hid s0; clear s0
  have R1 := Lib.hid r1; clear r1
  have S1 := Lib.hid s1; clear s1
  go_enter Try.func78, Try.ntmps78
  go_wp2_with (first
    | (go_at_call 17; (with_reducible refine (eqIntS_calls _ _ _ _ _ _ _ (R0.out.below bel) (S0.out.below bel)).mono ?_); rintro e w3 ⟨rfl, hb3⟩; obtain ⟨C3, D3⟩ := bcell hb3; obtain ⟨za3, zb3⟩ : w.heap.size < w3.heap.size ∧ w.heap.size + 1 < w3.heap.size := (by have := hb3.size; (try simp at this); omega))
    | (go_at_call 95; (with_reducible refine (eqItemS_calls _ _ _ _ _ _ _ (R1.out.below bel) (S1.out.below bel)).mono ?_); rintro e w5 ⟨rfl, hb5⟩; obtain ⟨C5, D5⟩ := bcell hb5; obtain ⟨za5, zb5⟩ : w.heap.size < w5.heap.size ∧ w.heap.size + 1 < w5.heap.size := (by have := hb5.size; (try simp at this); omega)))
  all_goals (go_ret; refine ⟨?_, bel⟩; simp_all)

theorem eqGorS_calls (xs ys : List MGor) (A B : Option Addr) (c d : Nat) (w : World) (hr : kGor.Row w A xs) (hs : kGor.Row w B ys) :
    Calls Try.prog 45 #[.slice A xs.length c, .slice B ys.length d] w fun e w' => e = .returned (.bool (decide (xs = ys))) ∧ Below w.heap.size w w' := by
  have hm := hr.1
  have HR := Lib.hid hr; clear hr
  have HS := Lib.hid hs; clear hs
  by_cases hl : xs.length = ys.length
  · have b2 : ((xs.length : Int) != (ys.length : Int)) = false := by simp [hl]
    have b3 : (xs.length != ys.length) = false := by simp [hl]
    have Hl := Lib.hid hl; clear hl
    go_enter Try.func45, Try.ntmps45
    go_wp2
    go_loopg [5] (xs.length + 1) (fun kq v5 w' => ∃ i : Nat, v5 = .int .i64 i ∧ i + kq = xs.length + 1 ∧ i ≤ xs.length ∧ Hid (∀ j, j < i → xs[j]? = ys[j]?) ∧ Below w.heap.size w w')
    case atStart => exact ⟨0, rfl, by omega, by omega, Lib.hid fun j hj => absurd hj (by omega), Below.refl _ _⟩
    case round =>
      obtain ⟨i, rfl, hi, hi2, HP, hb⟩ := hrel
      obtain ⟨gk, rfl⟩ : ∃ m, gk = m + 1 := ⟨gk - 1, by omega⟩
      by_cases hlt : i < xs.length
      · have hlt' : i < ys.length := by have := Hl.out; omega
        obtain ⟨b, o, A0, c0, A1, c1, rfl, g0, g1, g2, g3, g4, l0, r0, l1, r1⟩ := kGor_at (HR.out.below hb) hlt
        obtain ⟨b', o', B0, d0, B1, d1, rfl, k0, k1, k2, k3, k4, m0, s0, m1, s1⟩ := kGor_at (HS.out.below hb) hlt'
        have R0 := Lib.hid r0; clear r0
        have S0 := Lib.hid s0; clear s0
        have R1 := Lib.hid r1; clear r1
        have S1 := Lib.hid s1; clear s1
        go_wp2_with fail
        go_still_tail 8, (by kernel_rfl)
        change wpList _ _ _ _ _ wr.drew
        by_cases he : xs[i] = ys[i]
        · have hd : decide (xs[i] = ys[i]) = true := decide_eq_true he
          have He := Lib.hid he; clear he
          go_wp2_with fail
          refine (eqGor_calls xs[i] ys[i] [_, _, _, _, _] [_, _, _, _, _] _ (kGor_mk _ _ l0 (R0.out.below bel) l1 (R1.out.below bel)) (kGor_mk _ _ m0 (S0.out.below bel) m1 (S1.out.below bel))).mono ?_
          rintro e w' ⟨rfl, hb2⟩
          go_wp2
          go_roundg gk
          case measure => omega
          case rel => exact ⟨i + 1, by go_num, by omega, by omega, Lib.hid fun j hj => (by
            rcases Nat.lt_succ_iff_lt_or_eq.1 hj with h | rfl
            · exact HP.out j h
            · rw [List.getElem?_eq_getElem hlt, List.getElem?_eq_getElem hlt', He.out]), bstep hb hb2⟩
        · have hd : decide (xs[i] = ys[i]) = false := decide_eq_false he
          have He := Lib.hid he; clear he
          go_wp2_with fail
          refine (eqGor_calls xs[i] ys[i] [_, _, _, _, _] [_, _, _, _, _] _ (kGor_mk _ _ l0 (R0.out.below bel) l1 (R1.out.below bel)) (kGor_mk _ _ m0 (S0.out.below bel) m1 (S1.out.below bel))).mono ?_
          rintro e w' ⟨rfl, hb2⟩
          go_wp2
          go_ret
          exact ⟨retF (by rintro rfl; exact He.out rfl), bstep hb hb2⟩
      · have hi' : i = xs.length := by omega
        subst hi'
        go_wp2
        go_ret
        exact ⟨retT (take_eq Hl.out HP.out), bel⟩
  · have b2 : ((xs.length : Int) != (ys.length : Int)) = true := by simp; omega
    have b3 : (xs.length != ys.length) = true := by simp [hl]
    go_enter Try.func45, Try.ntmps45
    go_wp2
    go_ret
    exact ⟨retF (by rintro rfl; exact hl rfl), bel⟩

theorem eqChan_calls (x y : MChan) (cs ds : List Value) (w : World) (hx : kChan.K w x cs) (hy : kChan.K w y ds) :
    Calls Try.prog 79 #[.agg cs.toArray, .agg ds.toArray] w fun e w' => e = .returned (.bool (decide (x = y))) ∧ Below w.heap.size w w' := by
  obtain ⟨A0, c0, A1, c1, A2, c2, rfl, l0, r0, l1, r1, l2, r2⟩ := kChan_K hx
  obtain ⟨B0, d0, B1, d1, B2, d2, rfl, m0, s0, m1, s1, m2, s2⟩ := kChan_K hy
  clear hx hy
  obtain ⟨x0, x1, x2, x3, x4⟩ := x
  obtain ⟨y0, y1, y2, y3, y4⟩ := y
  simp only at *
  have R0 := Lib.hid r0; clear r0
  have S0 := Lib.hid s0; clear s0
  have R1 := Lib.hid r1; clear r1
  have S1 := Lib.hid s1; clear s1
  have R2 := Lib.hid r2; clear r2
  have S2 := Lib.hid s2; clear s2
  go_enter Try.func79, Try.ntmps79
  go_wp2_with (first
    | (go_at_call 17; (with_reducible refine (eqIntS_calls _ _ _ _ _ _ _ (R0.out.below bel) (S0.out.below bel)).mono ?_); rintro e w2 ⟨rfl, hb2⟩; obtain ⟨C2, D2⟩ := bcell hb2; obtain ⟨za2, zb2⟩ : w.heap.size < w2.heap.size ∧ w.heap.size + 1 < w2.heap.size := (by have := hb2.size; (try simp at this); omega))
    | (go_at_call 96; (with_reducible refine (eqWaiterS_calls _ _ _ _ _ _ _ (R1.out.below bel) (S1.out.below bel)).mono ?_); rintro e w3 ⟨rfl, hb3⟩; obtain ⟨C3, D3⟩ := bcell hb3; obtain ⟨za3, zb3⟩ : w.heap.size < w3.heap.size ∧ w.heap.size + 1 < w3.heap.size := (by have := hb3.size; (try simp at this); omega))
    | (go_at_call 96; (with_reducible refine (eqWaiterS_calls _ _ _ _ _ _ _ (R2.out.below bel) (S2.out.below bel)).mono ?_); rintro e w4 ⟨rfl, hb4⟩; obtain ⟨C4, D4⟩ := bcell hb4; obtain ⟨za4, zb4⟩ : w.heap.size < w4.heap.size ∧ w.heap.size + 1 < w4.heap.size := (by have := hb4.size; (try simp at this); omega)))
  all_goals (go_ret; refine ⟨?_, bel⟩; simp_all)

theorem eqChanS_calls (xs ys : List MChan) (A B : Option Addr) (c d : Nat) (w : World) (hr : kChan.Row w A xs) (hs : kChan.Row w B ys) :
    Calls Try.prog 46 #[.slice A xs.length c, .slice B ys.length d] w fun e w' => e = .returned (.bool (decide (xs = ys))) ∧ Below w.heap.size w w' := by
  have hm := hr.1
  have HR := Lib.hid hr; clear hr
  have HS := Lib.hid hs; clear hs
  by_cases hl : xs.length = ys.length
  · have b2 : ((xs.length : Int) != (ys.length : Int)) = false := by simp [hl]
    have b3 : (xs.length != ys.length) = false := by simp [hl]
    have Hl := Lib.hid hl; clear hl
    go_enter Try.func46, Try.ntmps46
    go_wp2
    go_loopg [5] (xs.length + 1) (fun kq v5 w' => ∃ i : Nat, v5 = .int .i64 i ∧ i + kq = xs.length + 1 ∧ i ≤ xs.length ∧ Hid (∀ j, j < i → xs[j]? = ys[j]?) ∧ Below w.heap.size w w')
    case atStart => exact ⟨0, rfl, by omega, by omega, Lib.hid fun j hj => absurd hj (by omega), Below.refl _ _⟩
    case round =>
      obtain ⟨i, rfl, hi, hi2, HP, hb⟩ := hrel
      obtain ⟨gk, rfl⟩ : ∃ m, gk = m + 1 := ⟨gk - 1, by omega⟩
      by_cases hlt : i < xs.length
      · have hlt' : i < ys.length := by have := Hl.out; omega
        obtain ⟨b, o, A0, c0, A1, c1, A2, c2, rfl, g0, g1, g2, g3, g4, l0, r0, l1, r1, l2, r2⟩ := kChan_at (HR.out.below hb) hlt
        obtain ⟨b', o', B0, d0, B1, d1, B2, d2, rfl, k0, k1, k2, k3, k4, m0, s0, m1, s1, m2, s2⟩ := kChan_at (HS.out.below hb) hlt'
        have R0 := Lib.hid r0; clear r0
        have S0 := Lib.hid s0; clear s0
        have R1 := Lib.hid r1; clear r1
        have S1 := Lib.hid s1; clear s1
        have R2 := Lib.hid r2; clear r2
        have S2 := Lib.hid s2; clear s2
        go_wp2_with fail
        go_still_tail 8, (by kernel_rfl)
        change wpList _ _ _ _ _ wr.drew
        by_cases he : xs[i] = ys[i]
        · have hd : decide (xs[i] = ys[i]) = true := decide_eq_true he
          have He := Lib.hid he; clear he
          go_wp2_with fail
          refine (eqChan_calls xs[i] ys[i] [_, _, _, _, _] [_, _, _, _, _] _ (kChan_mk _ _ l0 (R0.out.below bel) l1 (R1.out.below bel) l2 (R2.out.below bel)) (kChan_mk _ _ m0 (S0.out.below bel) m1 (S1.out.below bel) m2 (S2.out.below bel))).mono ?_
          rintro e w' ⟨rfl, hb2⟩
          go_wp2
          go_roundg gk
          case measure => omega
          case rel => exact ⟨i + 1, by go_num, by omega, by omega, Lib.hid fun j hj => (by
            rcases Nat.lt_succ_iff_lt_or_eq.1 hj with h | rfl
            · exact HP.out j h
            · rw [List.getElem?_eq_getElem hlt, List.getElem?_eq_getElem hlt', He.out]), bstep hb hb2⟩
        · have hd : decide (xs[i] = ys[i]) = false := decide_eq_false he
          have He := Lib.hid he; clear he
          go_wp2_with fail
          refine (eqChan_calls xs[i] ys[i] [_, _, _, _, _] [_, _, _, _, _] _ (kChan_mk _ _ l0 (R0.out.below bel) l1 (R1.out.below bel) l2 (R2.out.below bel)) (kChan_mk _ _ m0 (S0.out.below bel) m1 (S1.out.below bel) m2 (S2.out.below bel))).mono ?_
          rintro e w' ⟨rfl, hb2⟩
          go_wp2
          go_ret
          exact ⟨retF (by rintro rfl; exact He.out rfl), bstep hb hb2⟩
      · have hi' : i = xs.length := by omega
        subst hi'
        go_wp2
        go_ret
        exact ⟨retT (take_eq Hl.out HP.out), bel⟩
  · have b2 : ((xs.length : Int) != (ys.length : Int)) = true := by simp; omega
    have b3 : (xs.length != ys.length) = true := by simp [hl]
    go_enter Try.func46, Try.ntmps46
    go_wp2
    go_ret
    exact ⟨retF (by rintro rfl; exact hl rfl), bel⟩

theorem eqMutex_calls (x y : MMutex) (cs ds : List Value) (w : World) (hx : kMutex.K w x cs) (hy : kMutex.K w y ds) :
    Calls Try.prog 80 #[.agg cs.toArray, .agg ds.toArray] w fun e w' => e = .returned (.bool (decide (x = y))) ∧ Below w.heap.size w w' := by
  obtain ⟨A0, c0, rfl, l0, r0⟩ := kMutex_K hx
  obtain ⟨B0, d0, rfl, m0, s0⟩ := kMutex_K hy
  clear hx hy
  obtain ⟨x0, x1⟩ := x
  obtain ⟨y0, y1⟩ := y
  simp only at *
  have R0 := Lib.hid r0; clear r0
  have S0 := Lib.hid s0; clear s0
  go_enter Try.func80, Try.ntmps80
  go_wp2_with (first
    | (go_at_call 17; (with_reducible refine (eqIntS_calls _ _ _ _ _ _ _ (R0.out.below bel) (S0.out.below bel)).mono ?_); rintro e w2 ⟨rfl, hb2⟩; obtain ⟨C2, D2⟩ := bcell hb2; obtain ⟨za2, zb2⟩ : w.heap.size < w2.heap.size ∧ w.heap.size + 1 < w2.heap.size := (by have := hb2.size; (try simp at this); omega)))
  all_goals (go_ret; refine ⟨?_, bel⟩; simp_all)

theorem eqMutexS_calls (xs ys : List MMutex) (A B : Option Addr) (c d : Nat) (w : World) (hr : kMutex.Row w A xs) (hs : kMutex.Row w B ys) :
    Calls Try.prog 47 #[.slice A xs.length c, .slice B ys.length d] w fun e w' => e = .returned (.bool (decide (xs = ys))) ∧ Below w.heap.size w w' := by
  have hm := hr.1
  have HR := Lib.hid hr; clear hr
  have HS := Lib.hid hs; clear hs
  by_cases hl : xs.length = ys.length
  · have b2 : ((xs.length : Int) != (ys.length : Int)) = false := by simp [hl]
    have b3 : (xs.length != ys.length) = false := by simp [hl]
    have Hl := Lib.hid hl; clear hl
    go_enter Try.func47, Try.ntmps47
    go_wp2
    go_loopg [5] (xs.length + 1) (fun kq v5 w' => ∃ i : Nat, v5 = .int .i64 i ∧ i + kq = xs.length + 1 ∧ i ≤ xs.length ∧ Hid (∀ j, j < i → xs[j]? = ys[j]?) ∧ Below w.heap.size w w')
    case atStart => exact ⟨0, rfl, by omega, by omega, Lib.hid fun j hj => absurd hj (by omega), Below.refl _ _⟩
    case round =>
      obtain ⟨i, rfl, hi, hi2, HP, hb⟩ := hrel
      obtain ⟨gk, rfl⟩ : ∃ m, gk = m + 1 := ⟨gk - 1, by omega⟩
      by_cases hlt : i < xs.length
      · have hlt' : i < ys.length := by have := Hl.out; omega
        obtain ⟨b, o, A0, c0, rfl, g0, g1, l0, r0⟩ := kMutex_at (HR.out.below hb) hlt
        obtain ⟨b', o', B0, d0, rfl, k0, k1, m0, s0⟩ := kMutex_at (HS.out.below hb) hlt'
        have R0 := Lib.hid r0; clear r0
        have S0 := Lib.hid s0; clear s0
        go_wp2_with fail
        go_still_tail 8, (by kernel_rfl)
        change wpList _ _ _ _ _ wr.drew
        by_cases he : xs[i] = ys[i]
        · have hd : decide (xs[i] = ys[i]) = true := decide_eq_true he
          have He := Lib.hid he; clear he
          go_wp2_with fail
          refine (eqMutex_calls xs[i] ys[i] [_, _] [_, _] _ (kMutex_mk _ _ l0 (R0.out.below bel)) (kMutex_mk _ _ m0 (S0.out.below bel))).mono ?_
          rintro e w' ⟨rfl, hb2⟩
          go_wp2
          go_roundg gk
          case measure => omega
          case rel => exact ⟨i + 1, by go_num, by omega, by omega, Lib.hid fun j hj => (by
            rcases Nat.lt_succ_iff_lt_or_eq.1 hj with h | rfl
            · exact HP.out j h
            · rw [List.getElem?_eq_getElem hlt, List.getElem?_eq_getElem hlt', He.out]), bstep hb hb2⟩
        · have hd : decide (xs[i] = ys[i]) = false := decide_eq_false he
          have He := Lib.hid he; clear he
          go_wp2_with fail
          refine (eqMutex_calls xs[i] ys[i] [_, _] [_, _] _ (kMutex_mk _ _ l0 (R0.out.below bel)) (kMutex_mk _ _ m0 (S0.out.below bel))).mono ?_
          rintro e w' ⟨rfl, hb2⟩
          go_wp2
          go_ret
          exact ⟨retF (by rintro rfl; exact He.out rfl), bstep hb hb2⟩
      · have hi' : i = xs.length := by omega
        subst hi'
        go_wp2
        go_ret
        exact ⟨retT (take_eq Hl.out HP.out), bel⟩
  · have b2 : ((xs.length : Int) != (ys.length : Int)) = true := by simp; omega
    have b3 : (xs.length != ys.length) = true := by simp [hl]
    go_enter Try.func47, Try.ntmps47
    go_wp2
    go_ret
    exact ⟨retF (by rintro rfl; exact hl rfl), bel⟩

theorem eqEng_calls (x y : MEng) (cs ds : List Value) (w : World) (hx : kEng.K w x cs) (hy : kEng.K w y ds) :
    Calls Try.prog 14 #[.agg cs.toArray, .agg ds.toArray] w fun e w' => e = .returned (.bool (decide (x = y))) ∧ Below w.heap.size w w' := by
  obtain ⟨A0, c0, A1, c1, A2, c2, rfl, l0, r0, l1, r1, l2, r2⟩ := kEng_K hx
  obtain ⟨B0, d0, B1, d1, B2, d2, rfl, m0, s0, m1, s1, m2, s2⟩ := kEng_K hy
  clear hx hy
  obtain ⟨x0, x1, x2⟩ := x
  obtain ⟨y0, y1, y2⟩ := y
  simp only at *
  have R0 := Lib.hid r0; clear r0
  have S0 := Lib.hid s0; clear s0
  have R1 := Lib.hid r1; clear r1
  have S1 := Lib.hid s1; clear s1
  have R2 := Lib.hid r2; clear r2
  have S2 := Lib.hid s2; clear s2
  go_enter Try.func14, Try.ntmps14
  go_wp2_with (first
    | (go_at_call 45; (with_reducible refine (eqGorS_calls _ _ _ _ _ _ _ (R0.out.below bel) (S0.out.below bel)).mono ?_); rintro e w1 ⟨rfl, hb1⟩; obtain ⟨C1, D1⟩ := bcell hb1; obtain ⟨za1, zb1⟩ : w.heap.size < w1.heap.size ∧ w.heap.size + 1 < w1.heap.size := (by have := hb1.size; (try simp at this); omega))
    | (go_at_call 46; (with_reducible refine (eqChanS_calls _ _ _ _ _ _ _ (R1.out.below bel) (S1.out.below bel)).mono ?_); rintro e w2 ⟨rfl, hb2⟩; obtain ⟨C2, D2⟩ := bcell hb2; obtain ⟨za2, zb2⟩ : w.heap.size < w2.heap.size ∧ w.heap.size + 1 < w2.heap.size := (by have := hb2.size; (try simp at this); omega))
    | (go_at_call 47; (with_reducible refine (eqMutexS_calls _ _ _ _ _ _ _ (R2.out.below bel) (S2.out.below bel)).mono ?_); rintro e w3 ⟨rfl, hb3⟩; obtain ⟨C3, D3⟩ := bcell hb3; obtain ⟨za3, zb3⟩ : w.heap.size < w3.heap.size ∧ w.heap.size + 1 < w3.heap.size := (by have := hb3.size; (try simp at this); omega)))
  all_goals (go_ret; refine ⟨?_, bel⟩; simp_all)
end Go.Proofs.Ytebflbenchomoaa.Wd

/- Contracts of the laws' helpers. Conditions: none. -/
import Derived.Test.YtebflbenchomoaaTy
namespace Go.Proofs.Ytebflbenchomoaa.Wd
open Go.RowKit
set_option linter.unusedVariables false
set_option linter.unusedSimpArgs false
set_option maxHeartbeats 2000000
set_option maxRecDepth 100000
theorem szIntS_calls (xs : List Int) (A : Option Addr) (c : Nat) (l : Int) (w : World) (hr : Rp.int.Row w A xs) (h0 : 0 ≤ l) (h1 : l ≤ 1048576) :
    Calls Try.prog 89 #[.slice A xs.length c, .int .i64 l] w fun e w' => e = .returned (.int .i64 (szr l xs.length)) ∧ Below w.heap.size w w' := by
  have hm := hr.1
  clear hr
  unfold szr
  by_cases h : (xs.length : Int) ≤ l
  · rw [if_pos h]
    have t1 : decide (l - (xs.length : Int) < 0) = false := by simp; omega
    go_enter Try.func89, Try.ntmps89
    go_wp2
    go_ret
    exact ⟨rfl, bel⟩
  · rw [if_neg h]
    have t1 : decide (l - (xs.length : Int) < 0) = true := by simp; omega
    go_enter Try.func89, Try.ntmps89
    go_wp2
    go_ret
    exact ⟨rfl, bel⟩

theorem szWaiterS_calls (xs : List MWaiter) (A : Option Addr) (c : Nat) (l : Int) (w : World) (hr : kWaiter.Row w A xs) (h0 : 0 ≤ l) (h1 : l ≤ 1048576) :
    Calls Try.prog 91 #[.slice A xs.length c, .int .i64 l] w fun e w' => e = .returned (.int .i64 (szr l xs.length)) ∧ Below w.heap.size w w' := by
  have hm := hr.1
  clear hr
  unfold szr
  by_cases h : (xs.length : Int) ≤ l
  · rw [if_pos h]
    have t1 : decide (l - (xs.length : Int) < 0) = false := by simp; omega
    go_enter Try.func91, Try.ntmps91
    go_wp2
    go_ret
    exact ⟨rfl, bel⟩
  · rw [if_neg h]
    have t1 : decide (l - (xs.length : Int) < 0) = true := by simp; omega
    go_enter Try.func91, Try.ntmps91
    go_wp2
    go_ret
    exact ⟨rfl, bel⟩

theorem szItemS_calls (xs : List MItem) (A : Option Addr) (c : Nat) (l : Int) (w : World) (hr : kItem.Row w A xs) (h0 : 0 ≤ l) (h1 : l ≤ 1048576) :
    Calls Try.prog 90 #[.slice A xs.length c, .int .i64 l] w fun e w' => e = .returned (.int .i64 (szr l xs.length)) ∧ Below w.heap.size w w' := by
  have hm := hr.1
  clear hr
  unfold szr
  by_cases h : (xs.length : Int) ≤ l
  · rw [if_pos h]
    have t1 : decide (l - (xs.length : Int) < 0) = false := by simp; omega
    go_enter Try.func90, Try.ntmps90
    go_wp2
    go_ret
    exact ⟨rfl, bel⟩
  · rw [if_neg h]
    have t1 : decide (l - (xs.length : Int) < 0) = true := by simp; omega
    go_enter Try.func90, Try.ntmps90
    go_wp2
    go_ret
    exact ⟨rfl, bel⟩

theorem szGor_calls (x : MGor) (cs : List Value) (l : Int) (w : World) (hx : kGor.K w x cs) (h0 : 0 ≤ l) (h1 : l ≤ 1048576) :
    Calls Try.prog 70 #[.agg cs.toArray, .int .i64 l] w fun e w' => e = .returned (.int .i64 (szr l (cntGor x))) ∧ Below w.heap.size w w' := by
  obtain ⟨A0, c0, A1, c1, rfl, l0, r0, l1, r1⟩ := kGor_K hx
  clear hx
  unfold cntGor
  obtain ⟨x0, x1, x2, x3, x4⟩ := x
  simp only at *
  have R0 := Lib.hid r0; clear r0
  have R1 := Lib.hid r1; clear r1
  by_cases h2 : ((x2.length : Nat) : Int) ≤ l
  rotate_left
  · go_enter Try.func70, Try.ntmps70
    go_wp2_with fail
    refine (sz_no (szIntS_calls x2 _ _ (l) _ (R0.out.below bel) (by omega) (by omega)) rfl (by omega)).mono ?_
    rintro e w0 ⟨rfl, hb0⟩
    obtain ⟨C0, D0⟩ := bcell hb0
    have za0 : w.heap.size < w0.heap.size := by have := hb0.size; (try simp at this); omega
    go_wp2
    go_ret
    refine ⟨?_, bel⟩
    exact szr_n (by omega)
  by_cases h3 : ((x2.length : Nat) : Int) + ((x4.length : Nat) : Int) ≤ l
  rotate_left
  · have t0 : decide (l - ((x2.length : Nat) : Int) < 0) = false := by simp; omega
    go_enter Try.func70, Try.ntmps70
    go_wp2_with fail
    refine (sz_yes (szIntS_calls x2 _ _ (l) _ (R0.out.below bel) (by omega) (by omega)) rfl (by omega)).mono ?_
    rintro e w0 ⟨rfl, hb0⟩
    obtain ⟨C0, D0⟩ := bcell hb0
    have za0 : w.heap.size < w0.heap.size := by have := hb0.size; (try simp at this); omega
    go_wp2_with fail
    refine (sz_no (szItemS_calls x4 _ _ (l - ((x2.length : Nat) : Int)) _ (R1.out.below bel) (by omega) (by omega)) rfl (by omega)).mono ?_
    rintro e w1 ⟨rfl, hb1⟩
    obtain ⟨C1, D1⟩ := bcell hb1
    have za1 : w.heap.size < w1.heap.size := by have := hb1.size; (try simp at this); omega
    go_wp2
    go_ret
    refine ⟨?_, bel⟩
    exact szr_n (by omega)
  have t0 : decide (l - ((x2.length : Nat) : Int) < 0) = false := by simp; omega
  have t1 : decide (l - ((x2.length : Nat) : Int) - ((x4.length : Nat) : Int) < 0) = false := by simp; omega
  go_enter Try.func70, Try.ntmps70
  go_wp2_with fail
  refine (sz_yes (szIntS_calls x2 _ _ (l) _ (R0.out.below bel) (by omega) (by omega)) rfl (by omega)).mono ?_
  rintro e w0 ⟨rfl, hb0⟩
  obtain ⟨C0, D0⟩ := bcell hb0
  have za0 : w.heap.size < w0.heap.size := by have := hb0.size; (try simp at this); omega
  go_wp2_with fail
  refine (sz_yes (szItemS_calls x4 _ _ (l - ((x2.length : Nat) : Int)) _ (R1.out.below bel) (by omega) (by omega)) rfl (by omega)).mono ?_
  rintro e w1 ⟨rfl, hb1⟩
  obtain ⟨C1, D1⟩ := bcell hb1
  have za1 : w.heap.size < w1.heap.size := by have := hb1.size; (try simp at this); omega
  go_wp2
  go_ret
  refine ⟨?_, bel⟩
  exact szr_y (by omega) (by omega)

theorem szGorS_calls (xs : List MGor) (A : Option Addr) (c : Nat) (l : Int) (w : World) (hr : kGor.Row w A xs) (h0 : 0 ≤ l) (h1 : l ≤ 1048576) :
    Calls Try.prog 35 #[.slice A xs.length c, .int .i64 l] w fun e w' => e = .returned (.int .i64 (szr l (xs.length + cntGorS xs))) ∧ Below w.heap.size w w' := by
  have hm := hr.1
  have HR := Lib.hid hr; clear hr
  by_cases h : (xs.length : Int) ≤ l
  · have t1 : decide (l - (xs.length : Int) < 0) = false := by simp; omega
    go_enter Try.func35, Try.ntmps35
    go_wp2
    go_loopg [1, 5] (xs.length + 1) (fun kq v1 v3 w' => ∃ i : Nat, v3 = .int .i64 i ∧ i + kq = xs.length + 1 ∧ i ≤ xs.length ∧ v1 = .int .i64 (l - (xs.length : Int) - (cntGorS (xs.take i) : Int)) ∧ 0 ≤ l - (xs.length : Int) - (cntGorS (xs.take i) : Int) ∧ Below w.heap.size w w')
    case atStart => exact ⟨0, rfl, by omega, by omega, by simp [cntGorS], by simp [cntGorS]; omega, Below.refl _ _⟩
    case round =>
      obtain ⟨i, rfl, hi, hi2, rfl, h3, hb⟩ := hrel
      obtain ⟨gk, rfl⟩ : ∃ m, gk = m + 1 := ⟨gk - 1, by omega⟩
      by_cases hlt : i < xs.length
      · obtain ⟨b, o, A0, c0, A1, c1, rfl, g0, g1, g2, g3, g4, l0, r0, l1, r1⟩ := kGor_at (HR.out.below hb) hlt
        have R0 := Lib.hid r0; clear r0
        have R1 := Lib.hid r1; clear r1
        have hs := cntGorS_take hlt
        have hle := cntGorS_le (xs := xs) (i := i + 1)
        generalize hp : l - (xs.length : Int) - (cntGorS (xs.take i) : Int) = p at h3 ⊢
        have hp1 : p ≤ 1048576 := by omega
        by_cases h4 : (cntGor xs[i] : Int) ≤ p
        · have t2 : decide (p - (cntGor xs[i] : Int) < 0) = false := by simp; omega
          have Hs := Lib.hid hs; clear hs
          have Hp := Lib.hid hp; clear hp
          go_wp2_with fail
          refine (sz_yes (szGor_calls xs[i] [_, _, _, _, _] p _ (kGor_mk _ _ l0 (R0.out.below bel) l1 (R1.out.below bel)) (by omega) (by omega)) rfl h4).mono ?_
          rintro e w1 ⟨rfl, hb1⟩
          go_wp2
          go_roundg gk
          case measure => omega
          case rel => exact ⟨i + 1, by go_num, by omega, by omega, by rw [Hs.out, ← Hp.out]; congr 1; omega, by have := Hs.out; have := Hp.out; omega, bvia hb1 hb⟩
        · have Hs := Lib.hid hs; clear hs
          have Hp := Lib.hid hp; clear hp
          go_wp2_with fail
          refine (sz_no (szGor_calls xs[i] [_, _, _, _, _] p _ (kGor_mk _ _ l0 (R0.out.below bel) l1 (R1.out.below bel)) (by omega) (by omega)) rfl (by omega)).mono ?_
          rintro e w1 ⟨rfl, hb1⟩
          go_wp2
          go_ret
          refine ⟨?_, bvia hb1 hb⟩
          have := Hs.out; have := Hp.out
          exact szr_n (by omega)
      · have hi' : i = xs.length := by omega
        subst hi'
        rw [List.take_length] at h3 ⊢
        go_wp2
        go_ret
        exact ⟨szr_y (by omega) (by omega), hb⟩
  · have t1 : decide (l - (xs.length : Int) < 0) = true := by simp; omega
    go_enter Try.func35, Try.ntmps35
    go_wp2
    go_ret
    exact ⟨szr_n (by omega), bel⟩

theorem szChan_calls (x : MChan) (cs : List Value) (l : Int) (w : World) (hx : kChan.K w x cs) (h0 : 0 ≤ l) (h1 : l ≤ 1048576) :
    Calls Try.prog 71 #[.agg cs.toArray, .int .i64 l] w fun e w' => e = .returned (.int .i64 (szr l (cntChan x))) ∧ Below w.heap.size w w' := by
  obtain ⟨A0, c0, A1, c1, A2, c2, rfl, l0, r0, l1, r1, l2, r2⟩ := kChan_K hx
  clear hx
  unfold cntChan
  obtain ⟨x0, x1, x2, x3, x4⟩ := x
  simp only at *
  have R0 := Lib.hid r0; clear r0
  have R1 := Lib.hid r1; clear r1
  have R2 := Lib.hid r2; clear r2
  by_cases h2 : ((x1.length : Nat) : Int) ≤ l
  rotate_left
  · go_enter Try.func71, Try.ntmps71
    go_wp2_with fail
    refine (sz_no (szIntS_calls x1 _ _ (l) _ (R0.out.below bel) (by omega) (by omega)) rfl (by omega)).mono ?_
    rintro e w0 ⟨rfl, hb0⟩
    obtain ⟨C0, D0⟩ := bcell hb0
    have za0 : w.heap.size < w0.heap.size := by have := hb0.size; (try simp at this); omega
    go_wp2
    go_ret
    refine ⟨?_, bel⟩
    exact szr_n (by omega)
  by_cases h3 : ((x1.length : Nat) : Int) + ((x2.length : Nat) : Int) ≤ l
  rotate_left
  · have t0 : decide (l - ((x1.length : Nat) : Int) < 0) = false := by simp; omega
    go_enter Try.func71, Try.ntmps71
    go_wp2_with fail
    refine (sz_yes (szIntS_calls x1 _ _ (l) _ (R0.out.below bel) (by omega) (by omega)) rfl (by omega)).mono ?_
    rintro e w0 ⟨rfl, hb0⟩
    obtain ⟨C0, D0⟩ := bcell hb0
    have za0 : w.heap.size < w0.heap.size := by have := hb0.size; (try simp at this); omega
    go_wp2_with fail
    refine (sz_no (szWaiterS_calls x2 _ _ (l - ((x1.length : Nat) : Int)) _ (R1.out.below bel) (by omega) (by omega)) rfl (by omega)).mono ?_
    rintro e w1 ⟨rfl, hb1⟩
    obtain ⟨C1, D1⟩ := bcell hb1
    have za1 : w.heap.size < w1.heap.size := by have := hb1.size; (try simp at this); omega
    go_wp2
    go_ret
    refine ⟨?_, bel⟩
    exact szr_n (by omega)
  by_cases h4 : ((x1.length : Nat) : Int) + ((x2.length : Nat) : Int) + ((x3.length : Nat) : Int) ≤ l
  rotate_left
  · have t0 : decide (l - ((x1.length : Nat) : Int) < 0) = false := by simp; omega
    have t1 : decide (l - ((x1.length : Nat) : Int) - ((x2.length : Nat) : Int) < 0) = false := by simp; omega
    go_enter Try.func71, Try.ntmps71
    go_wp2_with fail
    refine (sz_yes (szIntS_calls x1 _ _ (l) _ (R0.out.below bel) (by omega) (by omega)) rfl (by omega)).mono ?_
    rintro e w0 ⟨rfl, hb0⟩
    obtain ⟨C0, D0⟩ := bcell hb0
    have za0 : w.heap.size < w0.heap.size := by have := hb0.size; (try simp at this); omega
    go_wp2_with fail
    refine (sz_yes (szWaiterS_calls x2 _ _ (l - ((x1.length : Nat) : Int)) _ (R1.out.below bel) (by omega) (by omega)) rfl (by omega)).mono ?_
    rintro e w1 ⟨rfl, hb1⟩
    obtain ⟨C1, D1⟩ := bcell hb1
    have za1 : w.heap.size < w1.heap.size := by have := hb1.size; (try simp at this); omega
    go_wp2_with fail
    refine (sz_no (szWaiterS_calls x3 _ _ (l - ((x1.length : Nat) : Int) - ((x2.length : Nat) : Int)) _ (R2.out.below bel) (by omega) (by omega)) rfl (by omega)).mono ?_
    rintro e w2 ⟨rfl, hb2⟩
    obtain ⟨C2, D2⟩ := bcell hb2
    have za2 : w.heap.size < w2.heap.size := by have := hb2.size; (try simp at this); omega
    go_wp2
    go_ret
    refine ⟨?_, bel⟩
    exact szr_n (by omega)
  have t0 : decide (l - ((x1.length : Nat) : Int) < 0) = false := by simp; omega
  have t1 : decide (l - ((x1.length : Nat) : Int) - ((x2.length : Nat) : Int) < 0) = false := by simp; omega
  have t2 : decide (l - ((x1.length : Nat) : Int) - ((x2.length : Nat) : Int) - ((x3.length : Nat) : Int) < 0) = false := by simp; omega
  go_enter Try.func71, Try.ntmps71
  go_wp2_with fail
  refine (sz_yes (szIntS_calls x1 _ _ (l) _ (R0.out.below bel) (by omega) (by omega)) rfl (by omega)).mono ?_
  rintro e w0 ⟨rfl, hb0⟩
  obtain ⟨C0, D0⟩ := bcell hb0
  have za0 : w.heap.size < w0.heap.size := by have := hb0.size; (try simp at this); omega
  go_wp2_with fail
  refine (sz_yes (szWaiterS_calls x2 _ _ (l - ((x1.length : Nat) : Int)) _ (R1.out.below bel) (by omega) (by omega)) rfl (by omega)).mono ?_
  rintro e w1 ⟨rfl, hb1⟩
  obtain ⟨C1, D1⟩ := bcell hb1
  have za1 : w.heap.size < w1.heap.size := by have := hb1.size; (try simp at this); omega
  go_wp2_with fail
  refine (sz_yes (szWaiterS_calls x3 _ _ (l - ((x1.length : Nat) : Int) - ((x2.length : Nat) : Int)) _ (R2.out.below bel) (by omega) (by omega)) rfl (by omega)).mono ?_
  rintro e w2 ⟨rfl, hb2⟩
  obtain ⟨C2, D2⟩ := bcell hb2
  have za2 : w.heap.size < w2.heap.size := by have := hb2.size; (try simp at this); omega
  go_wp2
  go_ret
  refine ⟨?_, bel⟩
  exact szr_y (by omega) (by omega)

theorem szChanS_calls (xs : List MChan) (A : Option Addr) (c : Nat) (l : Int) (w : World) (hr : kChan.Row w A xs) (h0 : 0 ≤ l) (h1 : l ≤ 1048576) :
    Calls Try.prog 36 #[.slice A xs.length c, .int .i64 l] w fun e w' => e = .returned (.int .i64 (szr l (xs.length + cntChanS xs))) ∧ Below w.heap.size w w' := by
  have hm := hr.1
  have HR := Lib.hid hr; clear hr
  by_cases h : (xs.length : Int) ≤ l
  · have t1 : decide (l - (xs.length : Int) < 0) = false := by simp; omega
    go_enter Try.func36, Try.ntmps36
    go_wp2
    go_loopg [1, 5] (xs.length + 1) (fun kq v1 v3 w' => ∃ i : Nat, v3 = .int .i64 i ∧ i + kq = xs.length + 1 ∧ i ≤ xs.length ∧ v1 = .int .i64 (l - (xs.length : Int) - (cntChanS (xs.take i) : Int)) ∧ 0 ≤ l - (xs.length : Int) - (cntChanS (xs.take i) : Int) ∧ Below w.heap.size w w')
    case atStart => exact ⟨0, rfl, by omega, by omega, by simp [cntChanS], by simp [cntChanS]; omega, Below.refl _ _⟩
    case round =>
      obtain ⟨i, rfl, hi, hi2, rfl, h3, hb⟩ := hrel
      obtain ⟨gk, rfl⟩ : ∃ m, gk = m + 1 := ⟨gk - 1, by omega⟩
      by_cases hlt : i < xs.length
      · obtain ⟨b, o, A0, c0, A1, c1, A2, c2, rfl, g0, g1, g2, g3, g4, l0, r0, l1, r1, l2, r2⟩ := kChan_at (HR.out.below hb) hlt
        have R0 := Lib.hid r0; clear r0
        have R1 := Lib.hid r1; clear r1
        have R2 := Lib.hid r2; clear r2
        have hs := cntChanS_take hlt
        have hle := cntChanS_le (xs := xs) (i := i + 1)
        generalize hp : l - (xs.length : Int) - (cntChanS (xs.take i) : Int) = p at h3 ⊢
        have hp1 : p ≤ 1048576 := by omega
        by_cases h4 : (cntChan xs[i] : Int) ≤ p
        · have t2 : decide (p - (cntChan xs[i] : Int) < 0) = false := by simp; omega
          have Hs := Lib.hid hs; clear hs
          have Hp := Lib.hid hp; clear hp
          go_wp2_with fail
          refine (sz_yes (szChan_calls xs[i] [_, _, _, _, _] p _ (kChan_mk _ _ l0 (R0.out.below bel) l1 (R1.out.below bel) l2 (R2.out.below bel)) (by omega) (by omega)) rfl h4).mono ?_
          rintro e w1 ⟨rfl, hb1⟩
          go_wp2
          go_roundg gk
          case measure => omega
          case rel => exact ⟨i + 1, by go_num, by omega, by omega, by rw [Hs.out, ← Hp.out]; congr 1; omega, by have := Hs.out; have := Hp.out; omega, bvia hb1 hb⟩
        · have Hs := Lib.hid hs; clear hs
          have Hp := Lib.hid hp; clear hp
          go_wp2_with fail
          refine (sz_no (szChan_calls xs[i] [_, _, _, _, _] p _ (kChan_mk _ _ l0 (R0.out.below bel) l1 (R1.out.below bel) l2 (R2.out.below bel)) (by omega) (by omega)) rfl (by omega)).mono ?_
          rintro e w1 ⟨rfl, hb1⟩
          go_wp2
          go_ret
          refine ⟨?_, bvia hb1 hb⟩
          have := Hs.out; have := Hp.out
          exact szr_n (by omega)
      · have hi' : i = xs.length := by omega
        subst hi'
        rw [List.take_length] at h3 ⊢
        go_wp2
        go_ret
        exact ⟨szr_y (by omega) (by omega), hb⟩
  · have t1 : decide (l - (xs.length : Int) < 0) = true := by simp; omega
    go_enter Try.func36, Try.ntmps36
    go_wp2
    go_ret
    exact ⟨szr_n (by omega), bel⟩

theorem szMutex_calls (x : MMutex) (cs : List Value) (l : Int) (w : World) (hx : kMutex.K w x cs) (h0 : 0 ≤ l) (h1 : l ≤ 1048576) :
    Calls Try.prog 72 #[.agg cs.toArray, .int .i64 l] w fun e w' => e = .returned (.int .i64 (szr l (cntMutex x))) ∧ Below w.heap.size w w' := by
  obtain ⟨A0, c0, rfl, l0, r0⟩ := kMutex_K hx
  clear hx
  unfold cntMutex
  obtain ⟨x0, x1⟩ := x
  simp only at *
  have R0 := Lib.hid r0; clear r0
  by_cases h2 : ((x1.length : Nat) : Int) ≤ l
  rotate_left
  · go_enter Try.func72, Try.ntmps72
    go_wp2_with fail
    refine (sz_no (szIntS_calls x1 _ _ (l) _ (R0.out.below bel) (by omega) (by omega)) rfl (by omega)).mono ?_
    rintro e w0 ⟨rfl, hb0⟩
    obtain ⟨C0, D0⟩ := bcell hb0
    have za0 : w.heap.size < w0.heap.size := by have := hb0.size; (try simp at this); omega
    go_wp2
    go_ret
    refine ⟨?_, bel⟩
    exact szr_n (by omega)
  have t0 : decide (l - ((x1.length : Nat) : Int) < 0) = false := by simp; omega
  go_enter Try.func72, Try.ntmps72
  go_wp2_with fail
  refine (sz_yes (szIntS_calls x1 _ _ (l) _ (R0.out.below bel) (by omega) (by omega)) rfl (by omega)).mono ?_
  rintro e w0 ⟨rfl, hb0⟩
  obtain ⟨C0, D0⟩ := bcell hb0
  have za0 : w.heap.size < w0.heap.size := by have := hb0.size; (try simp at this); omega
  go_wp2
  go_ret
  refine ⟨?_, bel⟩
  exact szr_y (by omega) (by omega)

theorem szMutexS_calls (xs : List MMutex) (A : Option Addr) (c : Nat) (l : Int) (w : World) (hr : kMutex.Row w A xs) (h0 : 0 ≤ l) (h1 : l ≤ 1048576) :
    Calls Try.prog 37 #[.slice A xs.length c, .int .i64 l] w fun e w' => e = .returned (.int .i64 (szr l (xs.length + cntMutexS xs))) ∧ Below w.heap.size w w' := by
  have hm := hr.1
  have HR := Lib.hid hr; clear hr
  by_cases h : (xs.length : Int) ≤ l
  · have t1 : decide (l - (xs.length : Int) < 0) = false := by simp; omega
    go_enter Try.func37, Try.ntmps37
    go_wp2
    go_loopg [1, 5] (xs.length + 1) (fun kq v1 v3 w' => ∃ i : Nat, v3 = .int .i64 i ∧ i + kq = xs.length + 1 ∧ i ≤ xs.length ∧ v1 = .int .i64 (l - (xs.length : Int) - (cntMutexS (xs.take i) : Int)) ∧ 0 ≤ l - (xs.length : Int) - (cntMutexS (xs.take i) : Int) ∧ Below w.heap.size w w')
    case atStart => exact ⟨0, rfl, by omega, by omega, by simp [cntMutexS], by simp [cntMutexS]; omega, Below.refl _ _⟩
    case round =>
      obtain ⟨i, rfl, hi, hi2, rfl, h3, hb⟩ := hrel
      obtain ⟨gk, rfl⟩ : ∃ m, gk = m + 1 := ⟨gk - 1, by omega⟩
      by_cases hlt : i < xs.length
      · obtain ⟨b, o, A0, c0, rfl, g0, g1, l0, r0⟩ := kMutex_at (HR.out.below hb) hlt
        have R0 := Lib.hid r0; clear r0
        have hs := cntMutexS_take hlt
        have hle := cntMutexS_le (xs := xs) (i := i + 1)
        generalize hp : l - (xs.length : Int) - (cntMutexS (xs.take i) : Int) = p at h3 ⊢
        have hp1 : p ≤ 1048576 := by omega
        by_cases h4 : (cntMutex xs[i] : Int) ≤ p
        · have t2 : decide (p - (cntMutex xs[i] : Int) < 0) = false := by simp; omega
          have Hs := Lib.hid hs; clear hs
          have Hp := Lib.hid hp; clear hp
          go_wp2_with fail
          refine (sz_yes (szMutex_calls xs[i] [_, _] p _ (kMutex_mk _ _ l0 (R0.out.below bel)) (by omega) (by omega)) rfl h4).mono ?_
          rintro e w1 ⟨rfl, hb1⟩
          go_wp2
          go_roundg gk
          case measure => omega
          case rel => exact ⟨i + 1, by go_num, by omega, by omega, by rw [Hs.out, ← Hp.out]; congr 1; omega, by have := Hs.out; have := Hp.out; omega, bvia hb1 hb⟩
        · have Hs := Lib.hid hs; clear hs
          have Hp := Lib.hid hp; clear hp
          go_wp2_with fail
          refine (sz_no (szMutex_calls xs[i] [_, _] p _ (kMutex_mk _ _ l0 (R0.out.below bel)) (by omega) (by omega)) rfl (by omega)).mono ?_
          rintro e w1 ⟨rfl, hb1⟩
          go_wp2
          go_ret
          refine ⟨?_, bvia hb1 hb⟩
          have := Hs.out; have := Hp.out
          exact szr_n (by omega)
      · have hi' : i = xs.length := by omega
        subst hi'
        rw [List.take_length] at h3 ⊢
        go_wp2
        go_ret
        exact ⟨szr_y (by omega) (by omega), hb⟩
  · have t1 : decide (l - (xs.length : Int) < 0) = true := by simp; omega
    go_enter Try.func37, Try.ntmps37
    go_wp2
    go_ret
    exact ⟨szr_n (by omega), bel⟩

theorem szEng_calls (x : MEng) (cs : List Value) (l : Int) (w : World) (hx : kEng.K w x cs) (h0 : 0 ≤ l) (h1 : l ≤ 1048576) :
    Calls Try.prog 10 #[.agg cs.toArray, .int .i64 l] w fun e w' => e = .returned (.int .i64 (szr l (cntEng x))) ∧ Below w.heap.size w w' := by
  obtain ⟨A0, c0, A1, c1, A2, c2, rfl, l0, r0, l1, r1, l2, r2⟩ := kEng_K hx
  clear hx
  unfold cntEng
  obtain ⟨x0, x1, x2⟩ := x
  simp only at *
  have R0 := Lib.hid r0; clear r0
  have R1 := Lib.hid r1; clear r1
  have R2 := Lib.hid r2; clear r2
  obtain ⟨n0, hn0⟩ : ∃ m : Nat, (x0.length + cntGorS x0) = m := ⟨_, rfl⟩
  obtain ⟨n1, hn1⟩ : ∃ m : Nat, (x1.length + cntChanS x1) = m := ⟨_, rfl⟩
  obtain ⟨n2, hn2⟩ : ∃ m : Nat, (x2.length + cntMutexS x2) = m := ⟨_, rfl⟩
  rw [hn0, hn1, hn2]
  have Hn0 := Lib.hid hn0; clear hn0
  have Hn1 := Lib.hid hn1; clear hn1
  have Hn2 := Lib.hid hn2; clear hn2
  by_cases h2 : ((n0 : Nat) : Int) ≤ l
  rotate_left
  · go_enter Try.func10, Try.ntmps10
    go_wp2_with fail
    refine (sz_no (szGorS_calls x0 _ _ (l) _ (R0.out.below bel) (by omega) (by omega)) Hn0.out (by omega)).mono ?_
    rintro e w0 ⟨rfl, hb0⟩
    obtain ⟨C0, D0⟩ := bcell hb0
    have za0 : w.heap.size < w0.heap.size := by have := hb0.size; (try simp at this); omega
    go_wp2
    go_ret
    refine ⟨?_, bel⟩
    exact szr_n (by omega)
  by_cases h3 : ((n0 : Nat) : Int) + ((n1 : Nat) : Int) ≤ l
  rotate_left
  · have t0 : decide (l - ((n0 : Nat) : Int) < 0) = false := by simp; omega
    go_enter Try.func10, Try.ntmps10
    go_wp2_with fail
    refine (sz_yes (szGorS_calls x0 _ _ (l) _ (R0.out.below bel) (by omega) (by omega)) Hn0.out (by omega)).mono ?_
    rintro e w0 ⟨rfl, hb0⟩
    obtain ⟨C0, D0⟩ := bcell hb0
    have za0 : w.heap.size < w0.heap.size := by have := hb0.size; (try simp at this); omega
    go_wp2_with fail
    refine (sz_no (szChanS_calls x1 _ _ (l - ((n0 : Nat) : Int)) _ (R1.out.below bel) (by omega) (by omega)) Hn1.out (by omega)).mono ?_
    rintro e w1 ⟨rfl, hb1⟩
    obtain ⟨C1, D1⟩ := bcell hb1
    have za1 : w.heap.size < w1.heap.size := by have := hb1.size; (try simp at this); omega
    go_wp2
    go_ret
    refine ⟨?_, bel⟩
    exact szr_n (by omega)
  by_cases h4 : ((n0 : Nat) : Int) + ((n1 : Nat) : Int) + ((n2 : Nat) : Int) ≤ l
  rotate_left
  · have t0 : decide (l - ((n0 : Nat) : Int) < 0) = false := by simp; omega
    have t1 : decide (l - ((n0 : Nat) : Int) - ((n1 : Nat) : Int) < 0) = false := by simp; omega
    go_enter Try.func10, Try.ntmps10
    go_wp2_with fail
    refine (sz_yes (szGorS_calls x0 _ _ (l) _ (R0.out.below bel) (by omega) (by omega)) Hn0.out (by omega)).mono ?_
    rintro e w0 ⟨rfl, hb0⟩
    obtain ⟨C0, D0⟩ := bcell hb0
    have za0 : w.heap.size < w0.heap.size := by have := hb0.size; (try simp at this); omega
    go_wp2_with fail
    refine (sz_yes (szChanS_calls x1 _ _ (l - ((n0 : Nat) : Int)) _ (R1.out.below bel) (by omega) (by omega)) Hn1.out (by omega)).mono ?_
    rintro e w1 ⟨rfl, hb1⟩
    obtain ⟨C1, D1⟩ := bcell hb1
    have za1 : w.heap.size < w1.heap.size := by have := hb1.size; (try simp at this); omega
    go_wp2_with fail
    refine (sz_no (szMutexS_calls x2 _ _ (l - ((n0 : Nat) : Int) - ((n1 : Nat) : Int)) _ (R2.out.below bel) (by omega) (by omega)) Hn2.out (by omega)).mono ?_
    rintro e w2 ⟨rfl, hb2⟩
    obtain ⟨C2, D2⟩ := bcell hb2
    have za2 : w.heap.size < w2.heap.size := by have := hb2.size; (try simp at this); omega
    go_wp2
    go_ret
    refine ⟨?_, bel⟩
    exact szr_n (by omega)
  have t0 : decide (l - ((n0 : Nat) : Int) < 0) = false := by simp; omega
  have t1 : decide (l - ((n0 : Nat) : Int) - ((n1 : Nat) : Int) < 0) = false := by simp; omega
  have t2 : decide (l - ((n0 : Nat) : Int) - ((n1 : Nat) : Int) - ((n2 : Nat) : Int) < 0) = false := by simp; omega
  go_enter Try.func10, Try.ntmps10
  go_wp2_with fail
  refine (sz_yes (szGorS_calls x0 _ _ (l) _ (R0.out.below bel) (by omega) (by omega)) Hn0.out (by omega)).mono ?_
  rintro e w0 ⟨rfl, hb0⟩
  obtain ⟨C0, D0⟩ := bcell hb0
  have za0 : w.heap.size < w0.heap.size := by have := hb0.size; (try simp at this); omega
  go_wp2_with fail
  refine (sz_yes (szChanS_calls x1 _ _ (l - ((n0 : Nat) : Int)) _ (R1.out.below bel) (by omega) (by omega)) Hn1.out (by omega)).mono ?_
  rintro e w1 ⟨rfl, hb1⟩
  obtain ⟨C1, D1⟩ := bcell hb1
  have za1 : w.heap.size < w1.heap.size := by have := hb1.size; (try simp at this); omega
  go_wp2_with fail
  refine (sz_yes (szMutexS_calls x2 _ _ (l - ((n0 : Nat) : Int) - ((n1 : Nat) : Int)) _ (R2.out.below bel) (by omega) (by omega)) Hn2.out (by omega)).mono ?_
  rintro e w2 ⟨rfl, hb2⟩
  obtain ⟨C2, D2⟩ := bcell hb2
  have za2 : w.heap.size < w2.heap.size := by have := hb2.size; (try simp at this); omega
  go_wp2
  go_ret
  refine ⟨?_, bel⟩
  exact szr_y (by omega) (by omega)
end Go.Proofs.Ytebflbenchomoaa.Wd

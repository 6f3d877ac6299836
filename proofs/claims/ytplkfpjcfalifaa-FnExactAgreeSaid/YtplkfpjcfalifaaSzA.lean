/- Contracts of the laws' helpers over programs and logs. Conditions: none. -/
import Derived.Test.YtplkfpjcfalifaaTyA
namespace Go.Proofs.Ytplkfpjcfalifaa.Wd
open Go.RowKit
set_option linter.unusedVariables false
set_option linter.unusedSimpArgs false
set_option maxHeartbeats 2000000
set_option maxRecDepth 100000
theorem szIntS_calls (xs : List Int) (A : Option Addr) (c : Nat) (l : Int) (w : World) (hr : Rp.int.Row w A xs) (h0 : 0 ≤ l) (h1 : l ≤ 1048576) :
    Calls Try.prog 45 #[.slice A xs.length c, .int .i64 l] w fun e w' => e = .returned (.int .i64 (szr l xs.length)) ∧ Below w.heap.size w w' := by
  have hm := hr.1
  clear hr
  unfold szr
  by_cases h : (xs.length : Int) ≤ l
  · rw [if_pos h]
    have t1 : decide (l - (xs.length : Int) < 0) = false := by simp; omega
    go_enter Try.func45, Try.ntmps45
    go_wp2
    go_ret
    exact ⟨rfl, bel⟩
  · rw [if_neg h]
    have t1 : decide (l - (xs.length : Int) < 0) = true := by simp; omega
    go_enter Try.func45, Try.ntmps45
    go_wp2
    go_ret
    exact ⟨rfl, bel⟩

theorem szCaseS_calls (xs : List MCase) (A : Option Addr) (c : Nat) (l : Int) (w : World) (hr : kCase.Row w A xs) (h0 : 0 ≤ l) (h1 : l ≤ 1048576) :
    Calls Try.prog 92 #[.slice A xs.length c, .int .i64 l] w fun e w' => e = .returned (.int .i64 (szr l xs.length)) ∧ Below w.heap.size w w' := by
  have hm := hr.1
  clear hr
  unfold szr
  by_cases h : (xs.length : Int) ≤ l
  · rw [if_pos h]
    have t1 : decide (l - (xs.length : Int) < 0) = false := by simp; omega
    go_enter Try.func92, Try.ntmps92
    go_wp2
    go_ret
    exact ⟨rfl, bel⟩
  · rw [if_neg h]
    have t1 : decide (l - (xs.length : Int) < 0) = true := by simp; omega
    go_enter Try.func92, Try.ntmps92
    go_wp2
    go_ret
    exact ⟨rfl, bel⟩

theorem szInstrS_calls (xs : List MInstr) (A : Option Addr) (c : Nat) (l : Int) (w : World) (hr : kInstr.Row w A xs) (h0 : 0 ≤ l) (h1 : l ≤ 1048576) :
    Calls Try.prog 93 #[.slice A xs.length c, .int .i64 l] w fun e w' => e = .returned (.int .i64 (szr l xs.length)) ∧ Below w.heap.size w w' := by
  have hm := hr.1
  clear hr
  unfold szr
  by_cases h : (xs.length : Int) ≤ l
  · rw [if_pos h]
    have t1 : decide (l - (xs.length : Int) < 0) = false := by simp; omega
    go_enter Try.func93, Try.ntmps93
    go_wp2
    go_ret
    exact ⟨rfl, bel⟩
  · rw [if_neg h]
    have t1 : decide (l - (xs.length : Int) < 0) = true := by simp; omega
    go_enter Try.func93, Try.ntmps93
    go_wp2
    go_ret
    exact ⟨rfl, bel⟩

theorem szDeedS_calls (xs : List MDeed) (A : Option Addr) (c : Nat) (l : Int) (w : World) (hr : kDeed.Row w A xs) (h0 : 0 ≤ l) (h1 : l ≤ 1048576) :
    Calls Try.prog 48 #[.slice A xs.length c, .int .i64 l] w fun e w' => e = .returned (.int .i64 (szr l xs.length)) ∧ Below w.heap.size w w' := by
  have hm := hr.1
  clear hr
  unfold szr
  by_cases h : (xs.length : Int) ≤ l
  · rw [if_pos h]
    have t1 : decide (l - (xs.length : Int) < 0) = false := by simp; omega
    go_enter Try.func48, Try.ntmps48
    go_wp2
    go_ret
    exact ⟨rfl, bel⟩
  · rw [if_neg h]
    have t1 : decide (l - (xs.length : Int) < 0) = true := by simp; omega
    go_enter Try.func48, Try.ntmps48
    go_wp2
    go_ret
    exact ⟨rfl, bel⟩

theorem szSelect_calls (x : MSelect) (cs : List Value) (l : Int) (w : World) (hx : kSelect.K w x cs) (h0 : 0 ≤ l) (h1 : l ≤ 1048576) :
    Calls Try.prog 71 #[.agg cs.toArray, .int .i64 l] w fun e w' => e = .returned (.int .i64 (szr l (cntSelect x))) ∧ Below w.heap.size w w' := by
  obtain ⟨A0, c0, rfl, l0, r0⟩ := kSelect_K hx
  clear hx
  unfold cntSelect
  obtain ⟨x0, x1⟩ := x
  simp only at *
  have R0 := Lib.hid r0; clear r0
  by_cases h2 : ((x0.length : Nat) : Int) ≤ l
  rotate_left
  · go_enter Try.func71, Try.ntmps71
    go_wp2_with fail
    refine (sz_no (szCaseS_calls x0 _ _ (l) _ (R0.out.below bel) (by omega) (by omega)) rfl (by omega)).mono ?_
    rintro e w0 ⟨rfl, hb0⟩
    obtain ⟨C0, D0⟩ := bcell hb0
    have za0 : w.heap.size < w0.heap.size := by have := hb0.size; (try simp at this); omega
    go_wp2
    go_ret
    refine ⟨?_, bel⟩
    exact szr_n (by omega)
  have t0 : decide (l - ((x0.length : Nat) : Int) < 0) = false := by simp; omega
  go_enter Try.func71, Try.ntmps71
  go_wp2_with fail
  refine (sz_yes (szCaseS_calls x0 _ _ (l) _ (R0.out.below bel) (by omega) (by omega)) rfl (by omega)).mono ?_
  rintro e w0 ⟨rfl, hb0⟩
  obtain ⟨C0, D0⟩ := bcell hb0
  have za0 : w.heap.size < w0.heap.size := by have := hb0.size; (try simp at this); omega
  go_wp2
  go_ret
  refine ⟨?_, bel⟩
  exact szr_y (by omega) (by omega)

theorem szSelectS_calls (xs : List MSelect) (A : Option Addr) (c : Nat) (l : Int) (w : World) (hr : kSelect.Row w A xs) (h0 : 0 ≤ l) (h1 : l ≤ 1048576) :
    Calls Try.prog 46 #[.slice A xs.length c, .int .i64 l] w fun e w' => e = .returned (.int .i64 (szr l (xs.length + cntSelectS xs))) ∧ Below w.heap.size w w' := by
  have hm := hr.1
  have HR := Lib.hid hr; clear hr
  by_cases h : (xs.length : Int) ≤ l
  · have t1 : decide (l - (xs.length : Int) < 0) = false := by simp; omega
    go_enter Try.func46, Try.ntmps46
    go_wp2
    go_loopg [1, 5] (xs.length + 1) (fun kq v1 v3 w' => ∃ i : Nat, v3 = .int .i64 i ∧ i + kq = xs.length + 1 ∧ i ≤ xs.length ∧ v1 = .int .i64 (l - (xs.length : Int) - (cntSelectS (xs.take i) : Int)) ∧ 0 ≤ l - (xs.length : Int) - (cntSelectS (xs.take i) : Int) ∧ Below w.heap.size w w')
    case atStart => exact ⟨0, rfl, by omega, by omega, by simp [cntSelectS], by simp [cntSelectS]; omega, Below.refl _ _⟩
    case round =>
      obtain ⟨i, rfl, hi, hi2, rfl, h3, hb⟩ := hrel
      obtain ⟨gk, rfl⟩ : ∃ m, gk = m + 1 := ⟨gk - 1, by omega⟩
      by_cases hlt : i < xs.length
      · obtain ⟨b, o, A0, c0, rfl, g0, g1, l0, r0⟩ := kSelect_at (HR.out.below hb) hlt
        have R0 := Lib.hid r0; clear r0
        have hs := cntSelectS_take hlt
        have hle := cntSelectS_le (xs := xs) (i := i + 1)
        generalize hp : l - (xs.length : Int) - (cntSelectS (xs.take i) : Int) = p at h3 ⊢
        have hp1 : p ≤ 1048576 := by omega
        by_cases h4 : (cntSelect xs[i] : Int) ≤ p
        · have t2 : decide (p - (cntSelect xs[i] : Int) < 0) = false := by simp; omega
          have Hs := Lib.hid hs; clear hs
          have Hp := Lib.hid hp; clear hp
          go_wp2_with fail
          refine (sz_yes (szSelect_calls xs[i] [_, _] p _ (kSelect_mk _ _ l0 (R0.out.below bel)) (by omega) (by omega)) rfl h4).mono ?_
          rintro e w1 ⟨rfl, hb1⟩
          go_wp2
          go_roundg gk
          case measure => omega
          case rel => exact ⟨i + 1, by go_num, by omega, by omega, by rw [Hs.out, ← Hp.out]; congr 1; omega, by have := Hs.out; have := Hp.out; omega, bvia hb1 hb⟩
        · have Hs := Lib.hid hs; clear hs
          have Hp := Lib.hid hp; clear hp
          go_wp2_with fail
          refine (sz_no (szSelect_calls xs[i] [_, _] p _ (kSelect_mk _ _ l0 (R0.out.below bel)) (by omega) (by omega)) rfl (by omega)).mono ?_
          rintro e w1 ⟨rfl, hb1⟩
          go_wp2
          go_ret
          refine ⟨?_, bvia hb1 hb⟩
          have := Hs.out; have := Hp.out
          exact szr_n (by omega)
      · have hi' : i = xs.length := by omega
        subst hi'
        rw [List.take_length] at h3 ⊢
        go_wp2
        go_ret
        exact ⟨szr_y (by omega) (by omega), hb⟩
  · have t1 : decide (l - (xs.length : Int) < 0) = true := by simp; omega
    go_enter Try.func46, Try.ntmps46
    go_wp2
    go_ret
    exact ⟨szr_n (by omega), bel⟩

theorem szProc_calls (x : MProc) (cs : List Value) (l : Int) (w : World) (hx : kProc.K w x cs) (h0 : 0 ≤ l) (h1 : l ≤ 1048576) :
    Calls Try.prog 72 #[.agg cs.toArray, .int .i64 l] w fun e w' => e = .returned (.int .i64 (szr l (cntProc x))) ∧ Below w.heap.size w w' := by
  obtain ⟨A0, c0, rfl, l0, r0⟩ := kProc_K hx
  clear hx
  unfold cntProc
  obtain ⟨x0⟩ := x
  simp only at *
  have R0 := Lib.hid r0; clear r0
  by_cases h2 : ((x0.length : Nat) : Int) ≤ l
  rotate_left
  · go_enter Try.func72, Try.ntmps72
    go_wp2_with fail
    refine (sz_no (szInstrS_calls x0 _ _ (l) _ (R0.out.below bel) (by omega) (by omega)) rfl (by omega)).mono ?_
    rintro e w0 ⟨rfl, hb0⟩
    obtain ⟨C0, D0⟩ := bcell hb0
    have za0 : w.heap.size < w0.heap.size := by have := hb0.size; (try simp at this); omega
    go_wp2
    go_ret
    refine ⟨?_, bel⟩
    exact szr_n (by omega)
  have t0 : decide (l - ((x0.length : Nat) : Int) < 0) = false := by simp; omega
  go_enter Try.func72, Try.ntmps72
  go_wp2_with fail
  refine (sz_yes (szInstrS_calls x0 _ _ (l) _ (R0.out.below bel) (by omega) (by omega)) rfl (by omega)).mono ?_
  rintro e w0 ⟨rfl, hb0⟩
  obtain ⟨C0, D0⟩ := bcell hb0
  have za0 : w.heap.size < w0.heap.size := by have := hb0.size; (try simp at this); omega
  go_wp2
  go_ret
  refine ⟨?_, bel⟩
  exact szr_y (by omega) (by omega)

theorem szProcS_calls (xs : List MProc) (A : Option Addr) (c : Nat) (l : Int) (w : World) (hr : kProc.Row w A xs) (h0 : 0 ≤ l) (h1 : l ≤ 1048576) :
    Calls Try.prog 47 #[.slice A xs.length c, .int .i64 l] w fun e w' => e = .returned (.int .i64 (szr l (xs.length + cntProcS xs))) ∧ Below w.heap.size w w' := by
  have hm := hr.1
  have HR := Lib.hid hr; clear hr
  by_cases h : (xs.length : Int) ≤ l
  · have t1 : decide (l - (xs.length : Int) < 0) = false := by simp; omega
    go_enter Try.func47, Try.ntmps47
    go_wp2
    go_loopg [1, 5] (xs.length + 1) (fun kq v1 v3 w' => ∃ i : Nat, v3 = .int .i64 i ∧ i + kq = xs.length + 1 ∧ i ≤ xs.length ∧ v1 = .int .i64 (l - (xs.length : Int) - (cntProcS (xs.take i) : Int)) ∧ 0 ≤ l - (xs.length : Int) - (cntProcS (xs.take i) : Int) ∧ Below w.heap.size w w')
    case atStart => exact ⟨0, rfl, by omega, by omega, by simp [cntProcS], by simp [cntProcS]; omega, Below.refl _ _⟩
    case round =>
      obtain ⟨i, rfl, hi, hi2, rfl, h3, hb⟩ := hrel
      obtain ⟨gk, rfl⟩ : ∃ m, gk = m + 1 := ⟨gk - 1, by omega⟩
      by_cases hlt : i < xs.length
      · obtain ⟨b, o, A0, c0, rfl, g0, l0, r0⟩ := kProc_at (HR.out.below hb) hlt
        have R0 := Lib.hid r0; clear r0
        have hs := cntProcS_take hlt
        have hle := cntProcS_le (xs := xs) (i := i + 1)
        generalize hp : l - (xs.length : Int) - (cntProcS (xs.take i) : Int) = p at h3 ⊢
        have hp1 : p ≤ 1048576 := by omega
        by_cases h4 : (cntProc xs[i] : Int) ≤ p
        · have t2 : decide (p - (cntProc xs[i] : Int) < 0) = false := by simp; omega
          have Hs := Lib.hid hs; clear hs
          have Hp := Lib.hid hp; clear hp
          go_wp2_with fail
          refine (sz_yes (szProc_calls xs[i] [_] p _ (kProc_mk _ _ l0 (R0.out.below bel)) (by omega) (by omega)) rfl h4).mono ?_
          rintro e w1 ⟨rfl, hb1⟩
          go_wp2
          go_roundg gk
          case measure => omega
          case rel => exact ⟨i + 1, by go_num, by omega, by omega, by rw [Hs.out, ← Hp.out]; congr 1; omega, by have := Hs.out; have := Hp.out; omega, bvia hb1 hb⟩
        · have Hs := Lib.hid hs; clear hs
          have Hp := Lib.hid hp; clear hp
          go_wp2_with fail
          refine (sz_no (szProc_calls xs[i] [_] p _ (kProc_mk _ _ l0 (R0.out.below bel)) (by omega) (by omega)) rfl (by omega)).mono ?_
          rintro e w1 ⟨rfl, hb1⟩
          go_wp2
          go_ret
          refine ⟨?_, bvia hb1 hb⟩
          have := Hs.out; have := Hp.out
          exact szr_n (by omega)
      · have hi' : i = xs.length := by omega
        subst hi'
        rw [List.take_length] at h3 ⊢
        go_wp2
        go_ret
        exact ⟨szr_y (by omega) (by omega), hb⟩
  · have t1 : decide (l - (xs.length : Int) < 0) = true := by simp; omega
    go_enter Try.func47, Try.ntmps47
    go_wp2
    go_ret
    exact ⟨szr_n (by omega), bel⟩

theorem szProg_calls (x : MProg) (cs : List Value) (l : Int) (w : World) (hx : kProg.K w x cs) (h0 : 0 ≤ l) (h1 : l ≤ 1048576) :
    Calls Try.prog 20 #[.agg cs.toArray, .int .i64 l] w fun e w' => e = .returned (.int .i64 (szr l (cntProg x))) ∧ Below w.heap.size w w' := by
  obtain ⟨A0, c0, A1, c1, A2, c2, rfl, l0, r0, l1, r1, l2, r2⟩ := kProg_K hx
  clear hx
  unfold cntProg
  obtain ⟨x0, x1, x2, x3⟩ := x
  simp only at *
  have R0 := Lib.hid r0; clear r0
  have R1 := Lib.hid r1; clear r1
  have R2 := Lib.hid r2; clear r2
  obtain ⟨n1, hn1⟩ : ∃ m : Nat, (x2.length + cntSelectS x2) = m := ⟨_, rfl⟩
  obtain ⟨n2, hn2⟩ : ∃ m : Nat, (x3.length + cntProcS x3) = m := ⟨_, rfl⟩
  rw [hn1, hn2]
  have Hn1 := Lib.hid hn1; clear hn1
  have Hn2 := Lib.hid hn2; clear hn2
  by_cases h2 : ((x0.length : Nat) : Int) ≤ l
  rotate_left
  · go_enter Try.func20, Try.ntmps20
    go_wp2_with fail
    refine (sz_no (szIntS_calls x0 _ _ (l) _ (R0.out.below bel) (by omega) (by omega)) rfl (by omega)).mono ?_
    rintro e w0 ⟨rfl, hb0⟩
    obtain ⟨C0, D0⟩ := bcell hb0
    have za0 : w.heap.size < w0.heap.size := by have := hb0.size; (try simp at this); omega
    go_wp2
    go_ret
    refine ⟨?_, bel⟩
    exact szr_n (by omega)
  by_cases h3 : ((x0.length : Nat) : Int) + ((n1 : Nat) : Int) ≤ l
  rotate_left
  · have t0 : decide (l - ((x0.length : Nat) : Int) < 0) = false := by simp; omega
    go_enter Try.func20, Try.ntmps20
    go_wp2_with fail
    refine (sz_yes (szIntS_calls x0 _ _ (l) _ (R0.out.below bel) (by omega) (by omega)) rfl (by omega)).mono ?_
    rintro e w0 ⟨rfl, hb0⟩
    obtain ⟨C0, D0⟩ := bcell hb0
    have za0 : w.heap.size < w0.heap.size := by have := hb0.size; (try simp at this); omega
    go_wp2_with fail
    refine (sz_no (szSelectS_calls x2 _ _ (l - ((x0.length : Nat) : Int)) _ (R1.out.below bel) (by omega) (by omega)) Hn1.out (by omega)).mono ?_
    rintro e w1 ⟨rfl, hb1⟩
    obtain ⟨C1, D1⟩ := bcell hb1
    have za1 : w.heap.size < w1.heap.size := by have := hb1.size; (try simp at this); omega
    go_wp2
    go_ret
    refine ⟨?_, bel⟩
    exact szr_n (by omega)
  by_cases h4 : ((x0.length : Nat) : Int) + ((n1 : Nat) : Int) + ((n2 : Nat) : Int) ≤ l
  rotate_left
  · have t0 : decide (l - ((x0.length : Nat) : Int) < 0) = false := by simp; omega
    have t1 : decide (l - ((x0.length : Nat) : Int) - ((n1 : Nat) : Int) < 0) = false := by simp; omega
    go_enter Try.func20, Try.ntmps20
    go_wp2_with fail
    refine (sz_yes (szIntS_calls x0 _ _ (l) _ (R0.out.below bel) (by omega) (by omega)) rfl (by omega)).mono ?_
    rintro e w0 ⟨rfl, hb0⟩
    obtain ⟨C0, D0⟩ := bcell hb0
    have za0 : w.heap.size < w0.heap.size := by have := hb0.size; (try simp at this); omega
    go_wp2_with fail
    refine (sz_yes (szSelectS_calls x2 _ _ (l - ((x0.length : Nat) : Int)) _ (R1.out.below bel) (by omega) (by omega)) Hn1.out (by omega)).mono ?_
    rintro e w1 ⟨rfl, hb1⟩
    obtain ⟨C1, D1⟩ := bcell hb1
    have za1 : w.heap.size < w1.heap.size := by have := hb1.size; (try simp at this); omega
    go_wp2_with fail
    refine (sz_no (szProcS_calls x3 _ _ (l - ((x0.length : Nat) : Int) - ((n1 : Nat) : Int)) _ (R2.out.below bel) (by omega) (by omega)) Hn2.out (by omega)).mono ?_
    rintro e w2 ⟨rfl, hb2⟩
    obtain ⟨C2, D2⟩ := bcell hb2
    have za2 : w.heap.size < w2.heap.size := by have := hb2.size; (try simp at this); omega
    go_wp2
    go_ret
    refine ⟨?_, bel⟩
    exact szr_n (by omega)
  have t0 : decide (l - ((x0.length : Nat) : Int) < 0) = false := by simp; omega
  have t1 : decide (l - ((x0.length : Nat) : Int) - ((n1 : Nat) : Int) < 0) = false := by simp; omega
  have t2 : decide (l - ((x0.length : Nat) : Int) - ((n1 : Nat) : Int) - ((n2 : Nat) : Int) < 0) = false := by simp; omega
  go_enter Try.func20, Try.ntmps20
  go_wp2_with fail
  refine (sz_yes (szIntS_calls x0 _ _ (l) _ (R0.out.below bel) (by omega) (by omega)) rfl (by omega)).mono ?_
  rintro e w0 ⟨rfl, hb0⟩
  obtain ⟨C0, D0⟩ := bcell hb0
  have za0 : w.heap.size < w0.heap.size := by have := hb0.size; (try simp at this); omega
  go_wp2_with fail
  refine (sz_yes (szSelectS_calls x2 _ _ (l - ((x0.length : Nat) : Int)) _ (R1.out.below bel) (by omega) (by omega)) Hn1.out (by omega)).mono ?_
  rintro e w1 ⟨rfl, hb1⟩
  obtain ⟨C1, D1⟩ := bcell hb1
  have za1 : w.heap.size < w1.heap.size := by have := hb1.size; (try simp at this); omega
  go_wp2_with fail
  refine (sz_yes (szProcS_calls x3 _ _ (l - ((x0.length : Nat) : Int) - ((n1 : Nat) : Int)) _ (R2.out.below bel) (by omega) (by omega)) Hn2.out (by omega)).mono ?_
  rintro e w2 ⟨rfl, hb2⟩
  obtain ⟨C2, D2⟩ := bcell hb2
  have za2 : w.heap.size < w2.heap.size := by have := hb2.size; (try simp at this); omega
  go_wp2
  go_ret
  refine ⟨?_, bel⟩
  exact szr_y (by omega) (by omega)

theorem szLog_calls (x : MLog) (cs : List Value) (l : Int) (w : World) (hx : kLog.K w x cs) (h0 : 0 ≤ l) (h1 : l ≤ 1048576) :
    Calls Try.prog 21 #[.agg cs.toArray, .int .i64 l] w fun e w' => e = .returned (.int .i64 (szr l (cntLog x))) ∧ Below w.heap.size w w' := by
  obtain ⟨A0, c0, rfl, l0, r0⟩ := kLog_K hx
  clear hx
  unfold cntLog
  obtain ⟨x0, x1⟩ := x
  simp only at *
  have R0 := Lib.hid r0; clear r0
  by_cases h2 : ((x1.length : Nat) : Int) ≤ l
  rotate_left
  · go_enter Try.func21, Try.ntmps21
    go_wp2_with fail
    refine (sz_no (szDeedS_calls x1 _ _ (l) _ (R0.out.below bel) (by omega) (by omega)) rfl (by omega)).mono ?_
    rintro e w0 ⟨rfl, hb0⟩
    obtain ⟨C0, D0⟩ := bcell hb0
    have za0 : w.heap.size < w0.heap.size := by have := hb0.size; (try simp at this); omega
    go_wp2
    go_ret
    refine ⟨?_, bel⟩
    exact szr_n (by omega)
  have t0 : decide (l - ((x1.length : Nat) : Int) < 0) = false := by simp; omega
  go_enter Try.func21, Try.ntmps21
  go_wp2_with fail
  refine (sz_yes (szDeedS_calls x1 _ _ (l) _ (R0.out.below bel) (by omega) (by omega)) rfl (by omega)).mono ?_
  rintro e w0 ⟨rfl, hb0⟩
  obtain ⟨C0, D0⟩ := bcell hb0
  have za0 : w.heap.size < w0.heap.size := by have := hb0.size; (try simp at this); omega
  go_wp2
  go_ret
  refine ⟨?_, bel⟩
  exact szr_y (by omega) (by omega)
end Go.Proofs.Ytplkfpjcfalifaa.Wd

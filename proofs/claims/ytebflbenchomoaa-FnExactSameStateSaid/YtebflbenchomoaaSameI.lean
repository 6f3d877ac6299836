/- The program's SameState: whether two engines are equal. Conditions: none. -/
import Derived.Test.YtebflbenchomoaaSame
namespace Go.Proofs.Ytebflbenchomoaa.Wd
open Go.RowKit
set_option linter.unusedVariables false
set_option linter.unusedSimpArgs false
set_option maxHeartbeats 2000000
set_option maxRecDepth 100000
theorem sameGor_calls (x y : MGor) (cs ds : List Value) (w : World) (hx : kGor.K w x cs) (hy : kGor.K w y ds) :
    Calls Try.prog 54 #[.agg cs.toArray, .agg ds.toArray] w fun e w' => e = .returned (.bool (decide (x = y))) ∧ Below w.heap.size w w' := by
  obtain ⟨A0, c0, A1, c1, rfl, l0, r0, l1, r1⟩ := kGor_K hx
  obtain ⟨B0, d0, B1, d1, rfl, m0, s0, m1, s1⟩ := kGor_K hy
  clear hx hy
  have R0 := Lib.hid r0; have S0 := Lib.hid s0; clear r0 s0
  have R1 := Lib.hid r1; have S1 := Lib.hid s1; clear r1 s1
  by_cases h0 : x.proc = y.proc
  rotate_left
  · have e0 : (x.proc == y.proc) = false := by simpa using h0
    have n0 : (x.proc != y.proc) = true := by simpa using h0
    have H0 := Lib.hid h0; clear h0
    go_enter Try.func54, Try.ntmps54
    go_wp2
    go_ret
    exact ⟨retF (fun h => H0.out (by rw [h])), bel⟩
  by_cases h1 : x.pc = y.pc
  rotate_left
  · have e0 : (x.proc == y.proc) = true := by simpa using h0
    have n0 : (x.proc != y.proc) = false := by simpa using h0
    have H0 := Lib.hid h0; clear h0
    have e1 : (x.pc == y.pc) = false := by simpa using h1
    have n1 : (x.pc != y.pc) = true := by simpa using h1
    have H1 := Lib.hid h1; clear h1
    go_enter Try.func54, Try.ntmps54
    go_wp2
    go_ret
    exact ⟨retF (fun h => H1.out (by rw [h])), bel⟩
  by_cases h2 : x.state = y.state
  rotate_left
  · have e0 : (x.proc == y.proc) = true := by simpa using h0
    have n0 : (x.proc != y.proc) = false := by simpa using h0
    have H0 := Lib.hid h0; clear h0
    have e1 : (x.pc == y.pc) = true := by simpa using h1
    have n1 : (x.pc != y.pc) = false := by simpa using h1
    have H1 := Lib.hid h1; clear h1
    have e2 : (x.state == y.state) = false := by simpa using h2
    have n2 : (x.state != y.state) = true := by simpa using h2
    have H2 := Lib.hid h2; clear h2
    go_enter Try.func54, Try.ntmps54
    go_wp2
    go_ret
    exact ⟨retF (fun h => H2.out (by rw [h])), bel⟩
  by_cases h3 : x.regs = y.regs
  rotate_left
  · have e0 : (x.proc == y.proc) = true := by simpa using h0
    have n0 : (x.proc != y.proc) = false := by simpa using h0
    have H0 := Lib.hid h0; clear h0
    have e1 : (x.pc == y.pc) = true := by simpa using h1
    have n1 : (x.pc != y.pc) = false := by simpa using h1
    have H1 := Lib.hid h1; clear h1
    have e2 : (x.state == y.state) = true := by simpa using h2
    have n2 : (x.state != y.state) = false := by simpa using h2
    have H2 := Lib.hid h2; clear h2
    have e3 : decide (x.regs = y.regs) = false := decide_eq_false h3
    have H3 := Lib.hid h3; clear h3
    go_enter Try.func54, Try.ntmps54
    go_wp2_with fail
    refine (Equal_int_calls _ (R0.out.below bel) (S0.out.below bel)).mono ?_
    rintro e w3 ⟨rfl, hb3⟩
    obtain ⟨C3, D3⟩ := bcell hb3
    obtain ⟨za3, zb3⟩ : w.heap.size < w3.heap.size ∧ w.heap.size + 1 < w3.heap.size := (by have := hb3.size; (try simp at this); omega)
    go_wp2
    go_ret
    exact ⟨retF (fun h => H3.out (by rw [h])), bel⟩
  by_cases h4 : x.trace = y.trace
  rotate_left
  · have e0 : (x.proc == y.proc) = true := by simpa using h0
    have n0 : (x.proc != y.proc) = false := by simpa using h0
    have H0 := Lib.hid h0; clear h0
    have e1 : (x.pc == y.pc) = true := by simpa using h1
    have n1 : (x.pc != y.pc) = false := by simpa using h1
    have H1 := Lib.hid h1; clear h1
    have e2 : (x.state == y.state) = true := by simpa using h2
    have n2 : (x.state != y.state) = false := by simpa using h2
    have H2 := Lib.hid h2; clear h2
    have e3 : decide (x.regs = y.regs) = true := decide_eq_true h3
    have H3 := Lib.hid h3; clear h3
    have e4 : decide (x.trace = y.trace) = false := decide_eq_false h4
    have H4 := Lib.hid h4; clear h4
    go_enter Try.func54, Try.ntmps54
    go_wp2_with fail
    refine (Equal_int_calls _ (R0.out.below bel) (S0.out.below bel)).mono ?_
    rintro e w3 ⟨rfl, hb3⟩
    obtain ⟨C3, D3⟩ := bcell hb3
    obtain ⟨za3, zb3⟩ : w.heap.size < w3.heap.size ∧ w.heap.size + 1 < w3.heap.size := (by have := hb3.size; (try simp at this); omega)
    go_wp2_with fail
    refine (Equal_Item_calls _ (R1.out.below bel) (S1.out.below bel)).mono ?_
    rintro e w4 ⟨rfl, hb4⟩
    obtain ⟨C4, D4⟩ := bcell hb4
    obtain ⟨za4, zb4⟩ : w.heap.size < w4.heap.size ∧ w.heap.size + 1 < w4.heap.size := (by have := hb4.size; (try simp at this); omega)
    go_wp2
    go_ret
    exact ⟨retF (fun h => H4.out (by rw [h])), bel⟩
  have e0 : (x.proc == y.proc) = true := by simpa using h0
  have n0 : (x.proc != y.proc) = false := by simpa using h0
  have H0 := Lib.hid h0; clear h0
  have e1 : (x.pc == y.pc) = true := by simpa using h1
  have n1 : (x.pc != y.pc) = false := by simpa using h1
  have H1 := Lib.hid h1; clear h1
  have e2 : (x.state == y.state) = true := by simpa using h2
  have n2 : (x.state != y.state) = false := by simpa using h2
  have H2 := Lib.hid h2; clear h2
  have e3 : decide (x.regs = y.regs) = true := decide_eq_true h3
  have H3 := Lib.hid h3; clear h3
  have e4 : decide (x.trace = y.trace) = true := decide_eq_true h4
  have H4 := Lib.hid h4; clear h4
  go_enter Try.func54, Try.ntmps54
  go_wp2_with fail
  refine (Equal_int_calls _ (R0.out.below bel) (S0.out.below bel)).mono ?_
  rintro e w3 ⟨rfl, hb3⟩
  obtain ⟨C3, D3⟩ := bcell hb3
  obtain ⟨za3, zb3⟩ : w.heap.size < w3.heap.size ∧ w.heap.size + 1 < w3.heap.size := (by have := hb3.size; (try simp at this); omega)
  go_wp2_with fail
  refine (Equal_Item_calls _ (R1.out.below bel) (S1.out.below bel)).mono ?_
  rintro e w4 ⟨rfl, hb4⟩
  obtain ⟨C4, D4⟩ := bcell hb4
  obtain ⟨za4, zb4⟩ : w.heap.size < w4.heap.size ∧ w.heap.size + 1 < w4.heap.size := (by have := hb4.size; (try simp at this); omega)
  go_wp2
  go_ret
  exact ⟨retT (MGor.ext H0.out H1.out H3.out H2.out H4.out), bel⟩
theorem sameChan_calls (x y : MChan) (cs ds : List Value) (w : World) (hx : kChan.K w x cs) (hy : kChan.K w y ds) :
    Calls Try.prog 56 #[.agg cs.toArray, .agg ds.toArray] w fun e w' => e = .returned (.bool (decide (x = y))) ∧ Below w.heap.size w w' := by
  obtain ⟨A0, c0, A1, c1, A2, c2, rfl, l0, r0, l1, r1, l2, r2⟩ := kChan_K hx
  obtain ⟨B0, d0, B1, d1, B2, d2, rfl, m0, s0, m1, s1, m2, s2⟩ := kChan_K hy
  clear hx hy
  have R0 := Lib.hid r0; have S0 := Lib.hid s0; clear r0 s0
  have R1 := Lib.hid r1; have S1 := Lib.hid s1; clear r1 s1
  have R2 := Lib.hid r2; have S2 := Lib.hid s2; clear r2 s2
  by_cases h0 : x.cap = y.cap
  rotate_left
  · have e0 : (x.cap == y.cap) = false := by simpa using h0
    have n0 : (x.cap != y.cap) = true := by simpa using h0
    have H0 := Lib.hid h0; clear h0
    go_enter Try.func56, Try.ntmps56
    go_wp2
    go_ret
    exact ⟨retF (fun h => H0.out (by rw [h])), bel⟩
  by_cases h1 : x.closed = y.closed
  rotate_left
  · have e0 : (x.cap == y.cap) = true := by simpa using h0
    have n0 : (x.cap != y.cap) = false := by simpa using h0
    have H0 := Lib.hid h0; clear h0
    have e1 : (x.closed == y.closed) = false := by simpa using h1
    have n1 : (x.closed != y.closed) = true := by simpa using h1
    have H1 := Lib.hid h1; clear h1
    go_enter Try.func56, Try.ntmps56
    go_wp2
    go_ret
    exact ⟨retF (fun h => H1.out (by rw [h])), bel⟩
  by_cases h2 : x.buf = y.buf
  rotate_left
  · have e0 : (x.cap == y.cap) = true := by simpa using h0
    have n0 : (x.cap != y.cap) = false := by simpa using h0
    have H0 := Lib.hid h0; clear h0
    have e1 : (x.closed == y.closed) = true := by simpa using h1
    have n1 : (x.closed != y.closed) = false := by simpa using h1
    have H1 := Lib.hid h1; clear h1
    have e2 : decide (x.buf = y.buf) = false := decide_eq_false h2
    have H2 := Lib.hid h2; clear h2
    go_enter Try.func56, Try.ntmps56
    go_wp2_with fail
    refine (Equal_int_calls _ (R0.out.below bel) (S0.out.below bel)).mono ?_
    rintro e w2 ⟨rfl, hb2⟩
    obtain ⟨C2, D2⟩ := bcell hb2
    obtain ⟨za2, zb2⟩ : w.heap.size < w2.heap.size ∧ w.heap.size + 1 < w2.heap.size := (by have := hb2.size; (try simp at this); omega)
    go_wp2
    go_ret
    exact ⟨retF (fun h => H2.out (by rw [h])), bel⟩
  by_cases h3 : x.sends = y.sends
  rotate_left
  · have e0 : (x.cap == y.cap) = true := by simpa using h0
    have n0 : (x.cap != y.cap) = false := by simpa using h0
    have H0 := Lib.hid h0; clear h0
    have e1 : (x.closed == y.closed) = true := by simpa using h1
    have n1 : (x.closed != y.closed) = false := by simpa using h1
    have H1 := Lib.hid h1; clear h1
    have e2 : decide (x.buf = y.buf) = true := decide_eq_true h2
    have H2 := Lib.hid h2; clear h2
    have e3 : decide (x.sends = y.sends) = false := decide_eq_false h3
    have H3 := Lib.hid h3; clear h3
    go_enter Try.func56, Try.ntmps56
    go_wp2_with fail
    refine (Equal_int_calls _ (R0.out.below bel) (S0.out.below bel)).mono ?_
    rintro e w2 ⟨rfl, hb2⟩
    obtain ⟨C2, D2⟩ := bcell hb2
    obtain ⟨za2, zb2⟩ : w.heap.size < w2.heap.size ∧ w.heap.size + 1 < w2.heap.size := (by have := hb2.size; (try simp at this); omega)
    go_wp2_with fail
    refine (Equal_Waiter_calls _ (R1.out.below bel) (S1.out.below bel)).mono ?_
    rintro e w3 ⟨rfl, hb3⟩
    obtain ⟨C3, D3⟩ := bcell hb3
    obtain ⟨za3, zb3⟩ : w.heap.size < w3.heap.size ∧ w.heap.size + 1 < w3.heap.size := (by have := hb3.size; (try simp at this); omega)
    go_wp2
    go_ret
    exact ⟨retF (fun h => H3.out (by rw [h])), bel⟩
  by_cases h4 : x.recvs = y.recvs
  rotate_left
  · have e0 : (x.cap == y.cap) = true := by simpa using h0
    have n0 : (x.cap != y.cap) = false := by simpa using h0
    have H0 := Lib.hid h0; clear h0
    have e1 : (x.closed == y.closed) = true := by simpa using h1
    have n1 : (x.closed != y.closed) = false := by simpa using h1
    have H1 := Lib.hid h1; clear h1
    have e2 : decide (x.buf = y.buf) = true := decide_eq_true h2
    have H2 := Lib.hid h2; clear h2
    have e3 : decide (x.sends = y.sends) = true := decide_eq_true h3
    have H3 := Lib.hid h3; clear h3
    have e4 : decide (x.recvs = y.recvs) = false := decide_eq_false h4
    have H4 := Lib.hid h4; clear h4
    go_enter Try.func56, Try.ntmps56
    go_wp2_with fail
    refine (Equal_int_calls _ (R0.out.below bel) (S0.out.below bel)).mono ?_
    rintro e w2 ⟨rfl, hb2⟩
    obtain ⟨C2, D2⟩ := bcell hb2
    obtain ⟨za2, zb2⟩ : w.heap.size < w2.heap.size ∧ w.heap.size + 1 < w2.heap.size := (by have := hb2.size; (try simp at this); omega)
    go_wp2_with fail
    refine (Equal_Waiter_calls _ (R1.out.below bel) (S1.out.below bel)).mono ?_
    rintro e w3 ⟨rfl, hb3⟩
    obtain ⟨C3, D3⟩ := bcell hb3
    obtain ⟨za3, zb3⟩ : w.heap.size < w3.heap.size ∧ w.heap.size + 1 < w3.heap.size := (by have := hb3.size; (try simp at this); omega)
    go_wp2_with fail
    refine (Equal_Waiter_calls _ (R2.out.below bel) (S2.out.below bel)).mono ?_
    rintro e w4 ⟨rfl, hb4⟩
    obtain ⟨C4, D4⟩ := bcell hb4
    obtain ⟨za4, zb4⟩ : w.heap.size < w4.heap.size ∧ w.heap.size + 1 < w4.heap.size := (by have := hb4.size; (try simp at this); omega)
    go_wp2
    go_ret
    exact ⟨retF (fun h => H4.out (by rw [h])), bel⟩
  have e0 : (x.cap == y.cap) = true := by simpa using h0
  have n0 : (x.cap != y.cap) = false := by simpa using h0
  have H0 := Lib.hid h0; clear h0
  have e1 : (x.closed == y.closed) = true := by simpa using h1
  have n1 : (x.closed != y.closed) = false := by simpa using h1
  have H1 := Lib.hid h1; clear h1
  have e2 : decide (x.buf = y.buf) = true := decide_eq_true h2
  have H2 := Lib.hid h2; clear h2
  have e3 : decide (x.sends = y.sends) = true := decide_eq_true h3
  have H3 := Lib.hid h3; clear h3
  have e4 : decide (x.recvs = y.recvs) = true := decide_eq_true h4
  have H4 := Lib.hid h4; clear h4
  go_enter Try.func56, Try.ntmps56
  go_wp2_with fail
  refine (Equal_int_calls _ (R0.out.below bel) (S0.out.below bel)).mono ?_
  rintro e w2 ⟨rfl, hb2⟩
  obtain ⟨C2, D2⟩ := bcell hb2
  obtain ⟨za2, zb2⟩ : w.heap.size < w2.heap.size ∧ w.heap.size + 1 < w2.heap.size := (by have := hb2.size; (try simp at this); omega)
  go_wp2_with fail
  refine (Equal_Waiter_calls _ (R1.out.below bel) (S1.out.below bel)).mono ?_
  rintro e w3 ⟨rfl, hb3⟩
  obtain ⟨C3, D3⟩ := bcell hb3
  obtain ⟨za3, zb3⟩ : w.heap.size < w3.heap.size ∧ w.heap.size + 1 < w3.heap.size := (by have := hb3.size; (try simp at this); omega)
  go_wp2_with fail
  refine (Equal_Waiter_calls _ (R2.out.below bel) (S2.out.below bel)).mono ?_
  rintro e w4 ⟨rfl, hb4⟩
  obtain ⟨C4, D4⟩ := bcell hb4
  obtain ⟨za4, zb4⟩ : w.heap.size < w4.heap.size ∧ w.heap.size + 1 < w4.heap.size := (by have := hb4.size; (try simp at this); omega)
  go_wp2
  go_ret
  exact ⟨retT (MChan.ext H0.out H2.out H3.out H4.out H1.out), bel⟩
theorem sameMutex_calls (x y : MMutex) (cs ds : List Value) (w : World) (hx : kMutex.K w x cs) (hy : kMutex.K w y ds) :
    Calls Try.prog 58 #[.agg cs.toArray, .agg ds.toArray] w fun e w' => e = .returned (.bool (decide (x = y))) ∧ Below w.heap.size w w' := by
  obtain ⟨A0, c0, rfl, l0, r0⟩ := kMutex_K hx
  obtain ⟨B0, d0, rfl, m0, s0⟩ := kMutex_K hy
  clear hx hy
  have R0 := Lib.hid r0; have S0 := Lib.hid s0; clear r0 s0
  by_cases h0 : x.owner = y.owner
  rotate_left
  · have e0 : (x.owner == y.owner) = false := by simpa using h0
    have n0 : (x.owner != y.owner) = true := by simpa using h0
    have H0 := Lib.hid h0; clear h0
    go_enter Try.func58, Try.ntmps58
    go_wp2
    go_ret
    exact ⟨retF (fun h => H0.out (by rw [h])), bel⟩
  by_cases h1 : x.wait = y.wait
  rotate_left
  · have e0 : (x.owner == y.owner) = true := by simpa using h0
    have n0 : (x.owner != y.owner) = false := by simpa using h0
    have H0 := Lib.hid h0; clear h0
    have e1 : decide (x.wait = y.wait) = false := decide_eq_false h1
    have H1 := Lib.hid h1; clear h1
    go_enter Try.func58, Try.ntmps58
    go_wp2_with fail
    refine (Equal_int_calls _ (R0.out.below bel) (S0.out.below bel)).mono ?_
    rintro e w1 ⟨rfl, hb1⟩
    obtain ⟨C1, D1⟩ := bcell hb1
    obtain ⟨za1, zb1⟩ : w.heap.size < w1.heap.size ∧ w.heap.size + 1 < w1.heap.size := (by have := hb1.size; (try simp at this); omega)
    go_wp2
    go_ret
    exact ⟨retF (fun h => H1.out (by rw [h])), bel⟩
  have e0 : (x.owner == y.owner) = true := by simpa using h0
  have n0 : (x.owner != y.owner) = false := by simpa using h0
  have H0 := Lib.hid h0; clear h0
  have e1 : decide (x.wait = y.wait) = true := decide_eq_true h1
  have H1 := Lib.hid h1; clear h1
  go_enter Try.func58, Try.ntmps58
  go_wp2_with fail
  refine (Equal_int_calls _ (R0.out.below bel) (S0.out.below bel)).mono ?_
  rintro e w1 ⟨rfl, hb1⟩
  obtain ⟨C1, D1⟩ := bcell hb1
  obtain ⟨za1, zb1⟩ : w.heap.size < w1.heap.size ∧ w.heap.size + 1 < w1.heap.size := (by have := hb1.size; (try simp at this); omega)
  go_wp2
  go_ret
  exact ⟨retT (MMutex.ext H0.out H1.out), bel⟩
theorem l21Gor_calls (x y : MGor) (cs ds : List Value) (w : World) (hx : kGor.K w x cs) (hy : kGor.K w y ds) :
    Calls Try.prog 51 #[.agg cs.toArray, .agg ds.toArray] w fun e w' => e = .returned (.bool (decide (x = y))) ∧ Below w.heap.size w w' := by
  obtain ⟨A0, c0, A1, c1, rfl, l0, r0, l1, r1⟩ := kGor_K hx
  obtain ⟨B0, d0, B1, d1, rfl, m0, s0, m1, s1⟩ := kGor_K hy
  clear hx hy
  have R0 := Lib.hid r0; have S0 := Lib.hid s0; clear r0 s0
  have R1 := Lib.hid r1; have S1 := Lib.hid s1; clear r1 s1
  by_cases h0 : x.proc = y.proc
  rotate_left
  · have e0 : (x.proc == y.proc) = false := by simpa using h0
    have n0 : (x.proc != y.proc) = true := by simpa using h0
    have H0 := Lib.hid h0; clear h0
    go_enter Try.func51, Try.ntmps51
    go_wp2
    go_ret
    exact ⟨retF (fun h => H0.out (by rw [h])), bel⟩
  by_cases h1 : x.pc = y.pc
  rotate_left
  · have e0 : (x.proc == y.proc) = true := by simpa using h0
    have n0 : (x.proc != y.proc) = false := by simpa using h0
    have H0 := Lib.hid h0; clear h0
    have e1 : (x.pc == y.pc) = false := by simpa using h1
    have n1 : (x.pc != y.pc) = true := by simpa using h1
    have H1 := Lib.hid h1; clear h1
    go_enter Try.func51, Try.ntmps51
    go_wp2
    go_ret
    exact ⟨retF (fun h => H1.out (by rw [h])), bel⟩
  by_cases h2 : x.state = y.state
  rotate_left
  · have e0 : (x.proc == y.proc) = true := by simpa using h0
    have n0 : (x.proc != y.proc) = false := by simpa using h0
    have H0 := Lib.hid h0; clear h0
    have e1 : (x.pc == y.pc) = true := by simpa using h1
    have n1 : (x.pc != y.pc) = false := by simpa using h1
    have H1 := Lib.hid h1; clear h1
    have e2 : (x.state == y.state) = false := by simpa using h2
    have n2 : (x.state != y.state) = true := by simpa using h2
    have H2 := Lib.hid h2; clear h2
    go_enter Try.func51, Try.ntmps51
    go_wp2
    go_ret
    exact ⟨retF (fun h => H2.out (by rw [h])), bel⟩
  by_cases h3 : x.regs = y.regs
  rotate_left
  · have e0 : (x.proc == y.proc) = true := by simpa using h0
    have n0 : (x.proc != y.proc) = false := by simpa using h0
    have H0 := Lib.hid h0; clear h0
    have e1 : (x.pc == y.pc) = true := by simpa using h1
    have n1 : (x.pc != y.pc) = false := by simpa using h1
    have H1 := Lib.hid h1; clear h1
    have e2 : (x.state == y.state) = true := by simpa using h2
    have n2 : (x.state != y.state) = false := by simpa using h2
    have H2 := Lib.hid h2; clear h2
    have e3 : decide (x.regs = y.regs) = false := decide_eq_false h3
    have H3 := Lib.hid h3; clear h3
    go_enter Try.func51, Try.ntmps51
    go_wp2_with fail
    refine (l21Ints_calls _ (R0.out.below bel) (S0.out.below bel)).mono ?_
    rintro e w3 ⟨rfl, hb3⟩
    obtain ⟨C3, D3⟩ := bcell hb3
    obtain ⟨za3, zb3⟩ : w.heap.size < w3.heap.size ∧ w.heap.size + 1 < w3.heap.size := (by have := hb3.size; (try simp at this); omega)
    go_wp2
    go_ret
    exact ⟨retF (fun h => H3.out (by rw [h])), bel⟩
  by_cases h4 : x.trace = y.trace
  rotate_left
  · have e0 : (x.proc == y.proc) = true := by simpa using h0
    have n0 : (x.proc != y.proc) = false := by simpa using h0
    have H0 := Lib.hid h0; clear h0
    have e1 : (x.pc == y.pc) = true := by simpa using h1
    have n1 : (x.pc != y.pc) = false := by simpa using h1
    have H1 := Lib.hid h1; clear h1
    have e2 : (x.state == y.state) = true := by simpa using h2
    have n2 : (x.state != y.state) = false := by simpa using h2
    have H2 := Lib.hid h2; clear h2
    have e3 : decide (x.regs = y.regs) = true := decide_eq_true h3
    have H3 := Lib.hid h3; clear h3
    have e4 : decide (x.trace = y.trace) = false := decide_eq_false h4
    have H4 := Lib.hid h4; clear h4
    go_enter Try.func51, Try.ntmps51
    go_wp2_with fail
    refine (l21Ints_calls _ (R0.out.below bel) (S0.out.below bel)).mono ?_
    rintro e w3 ⟨rfl, hb3⟩
    obtain ⟨C3, D3⟩ := bcell hb3
    obtain ⟨za3, zb3⟩ : w.heap.size < w3.heap.size ∧ w.heap.size + 1 < w3.heap.size := (by have := hb3.size; (try simp at this); omega)
    go_wp2_with fail
    refine (l14Same_calls _ (R1.out.below bel) (S1.out.below bel)).mono ?_
    rintro e w4 ⟨rfl, hb4⟩
    obtain ⟨C4, D4⟩ := bcell hb4
    obtain ⟨za4, zb4⟩ : w.heap.size < w4.heap.size ∧ w.heap.size + 1 < w4.heap.size := (by have := hb4.size; (try simp at this); omega)
    go_wp2
    go_ret
    exact ⟨retF (fun h => H4.out (by rw [h])), bel⟩
  have e0 : (x.proc == y.proc) = true := by simpa using h0
  have n0 : (x.proc != y.proc) = false := by simpa using h0
  have H0 := Lib.hid h0; clear h0
  have e1 : (x.pc == y.pc) = true := by simpa using h1
  have n1 : (x.pc != y.pc) = false := by simpa using h1
  have H1 := Lib.hid h1; clear h1
  have e2 : (x.state == y.state) = true := by simpa using h2
  have n2 : (x.state != y.state) = false := by simpa using h2
  have H2 := Lib.hid h2; clear h2
  have e3 : decide (x.regs = y.regs) = true := decide_eq_true h3
  have H3 := Lib.hid h3; clear h3
  have e4 : decide (x.trace = y.trace) = true := decide_eq_true h4
  have H4 := Lib.hid h4; clear h4
  go_enter Try.func51, Try.ntmps51
  go_wp2_with fail
  refine (l21Ints_calls _ (R0.out.below bel) (S0.out.below bel)).mono ?_
  rintro e w3 ⟨rfl, hb3⟩
  obtain ⟨C3, D3⟩ := bcell hb3
  obtain ⟨za3, zb3⟩ : w.heap.size < w3.heap.size ∧ w.heap.size + 1 < w3.heap.size := (by have := hb3.size; (try simp at this); omega)
  go_wp2_with fail
  refine (l14Same_calls _ (R1.out.below bel) (S1.out.below bel)).mono ?_
  rintro e w4 ⟨rfl, hb4⟩
  obtain ⟨C4, D4⟩ := bcell hb4
  obtain ⟨za4, zb4⟩ : w.heap.size < w4.heap.size ∧ w.heap.size + 1 < w4.heap.size := (by have := hb4.size; (try simp at this); omega)
  go_wp2
  go_ret
  exact ⟨retT (MGor.ext H0.out H1.out H3.out H2.out H4.out), bel⟩
theorem EqualFunc_Gor_calls {A B : Option Addr} {xs ys : List MGor} {c d : Nat} (w : World) (hr : kGor.Row w A xs) (hs : kGor.Row w B ys) :
    Calls Try.prog 53 #[.slice A xs.length c, .slice B ys.length d, .func (.func 54) #[] #[]] w fun e w' => e = .returned (.bool (decide (xs = ys))) ∧ Below w.heap.size w w' := by
  have hm := hr.1
  have HR := Lib.hid hr; clear hr
  have HS := Lib.hid hs; clear hs
  by_cases hl : xs.length = ys.length
  · have b2 : ((xs.length : Int) != (ys.length : Int)) = false := by simp [hl]
    have b3 : (xs.length != ys.length) = false := by simp [hl]
    have Hl := Lib.hid hl; clear hl
    go_enter Try.func53, Try.ntmps53
    go_wp2
    go_loopg [17] (xs.length + 1) (fun kq v17 w' => ∃ i : Nat, v17 = .int .i64 i ∧ i + kq = xs.length + 1 ∧ i ≤ xs.length ∧ Hid (∀ j, j < i → xs[j]? = ys[j]?) ∧ Below w.heap.size w w')
    case atStart => exact ⟨0, rfl, by omega, by omega, Lib.hid fun j hj => absurd hj (by omega), bel⟩
    case round =>
      obtain ⟨i, rfl, hi, hi2, HP, hb⟩ := hrel
      obtain ⟨gk, rfl⟩ : ∃ m, gk = m + 1 := ⟨gk - 1, by omega⟩
      by_cases hlt : i < xs.length
      · have hlt' : i < ys.length := by have := Hl.out; omega
        obtain ⟨b, o, A0, c0, A1, c1, rfl, g0, g1, g2, g3, g4, l0, r0, l1, r1⟩ := kGor_at (HR.out.below hb) hlt
        obtain ⟨b', o', B0, d0, B1, d1, rfl, k0, k1, k2, k3, k4, m0, s0, m1, s1⟩ := kGor_at (HS.out.below hb) hlt'
        have R0 := Lib.hid r0; have S0 := Lib.hid s0; clear r0 s0
        have R1 := Lib.hid r1; have S1 := Lib.hid s1; clear r1 s1
        have zb : b < wr.heap.size := World.block_lt_of_cell? wr _ g0
        have zb' : b' < wr.heap.size := World.block_lt_of_cell? wr _ k0
        go_wp2_with fail
        refine (sameGor_calls xs[i] ys[i] [_, _, _, _, _] [_, _, _, _, _] _ (kGor_mk _ _ l0 (R0.out.below bel) l1 (R1.out.below bel)) (kGor_mk _ _ m0 (S0.out.below bel) m1 (S1.out.below bel))).mono ?_
        rintro e w1 ⟨rfl, hb1⟩
        by_cases he : xs[i] = ys[i]
        · have hd : decide (xs[i] = ys[i]) = true := decide_eq_true he
          have He := Lib.hid he; clear he
          go_wp2
          go_roundg gk
          case measure => omega
          case rel => exact ⟨i + 1, by go_num, by omega, by omega, Lib.hid fun j hj => (by
            rcases Nat.lt_succ_iff_lt_or_eq.1 hj with h | rfl
            · exact HP.out j h
            · rw [List.getElem?_eq_getElem hlt, List.getElem?_eq_getElem hlt', He.out]), bel⟩
        · have hd : decide (xs[i] = ys[i]) = false := decide_eq_false he
          have He := Lib.hid he; clear he
          go_wp2
          go_ret
          exact ⟨retF (fun h => by subst h; exact He.out rfl), bel⟩
      · have h2 : i = xs.length := by omega
        have h3 : xs = ys := take_eq Hl.out (fun j hj => HP.out j (by omega))
        have H3 := Lib.hid h3; clear h3
        go_wp2
        go_ret
        exact ⟨retT H3.out, bel⟩
  · have b2 : ((xs.length : Int) != (ys.length : Int)) = true := by simp; omega
    have b3 : (xs.length != ys.length) = true := by simp [hl]
    have Hl := Lib.hid hl; clear hl
    go_enter Try.func53, Try.ntmps53
    go_wp2
    go_ret
    exact ⟨retF (fun h => by subst h; exact Hl.out rfl), bel⟩
theorem EqualFunc_Chan_calls {A B : Option Addr} {xs ys : List MChan} {c d : Nat} (w : World) (hr : kChan.Row w A xs) (hs : kChan.Row w B ys) :
    Calls Try.prog 55 #[.slice A xs.length c, .slice B ys.length d, .func (.func 56) #[] #[]] w fun e w' => e = .returned (.bool (decide (xs = ys))) ∧ Below w.heap.size w w' := by
  have hm := hr.1
  have HR := Lib.hid hr; clear hr
  have HS := Lib.hid hs; clear hs
  by_cases hl : xs.length = ys.length
  · have b2 : ((xs.length : Int) != (ys.length : Int)) = false := by simp [hl]
    have b3 : (xs.length != ys.length) = false := by simp [hl]
    have Hl := Lib.hid hl; clear hl
    go_enter Try.func55, Try.ntmps55
    go_wp2
    go_loopg [17] (xs.length + 1) (fun kq v17 w' => ∃ i : Nat, v17 = .int .i64 i ∧ i + kq = xs.length + 1 ∧ i ≤ xs.length ∧ Hid (∀ j, j < i → xs[j]? = ys[j]?) ∧ Below w.heap.size w w')
    case atStart => exact ⟨0, rfl, by omega, by omega, Lib.hid fun j hj => absurd hj (by omega), bel⟩
    case round =>
      obtain ⟨i, rfl, hi, hi2, HP, hb⟩ := hrel
      obtain ⟨gk, rfl⟩ : ∃ m, gk = m + 1 := ⟨gk - 1, by omega⟩
      by_cases hlt : i < xs.length
      · have hlt' : i < ys.length := by have := Hl.out; omega
        obtain ⟨b, o, A0, c0, A1, c1, A2, c2, rfl, g0, g1, g2, g3, g4, l0, r0, l1, r1, l2, r2⟩ := kChan_at (HR.out.below hb) hlt
        obtain ⟨b', o', B0, d0, B1, d1, B2, d2, rfl, k0, k1, k2, k3, k4, m0, s0, m1, s1, m2, s2⟩ := kChan_at (HS.out.below hb) hlt'
        have R0 := Lib.hid r0; have S0 := Lib.hid s0; clear r0 s0
        have R1 := Lib.hid r1; have S1 := Lib.hid s1; clear r1 s1
        have R2 := Lib.hid r2; have S2 := Lib.hid s2; clear r2 s2
        have zb : b < wr.heap.size := World.block_lt_of_cell? wr _ g0
        have zb' : b' < wr.heap.size := World.block_lt_of_cell? wr _ k0
        go_wp2_with fail
        refine (sameChan_calls xs[i] ys[i] [_, _, _, _, _] [_, _, _, _, _] _ (kChan_mk _ _ l0 (R0.out.below bel) l1 (R1.out.below bel) l2 (R2.out.below bel)) (kChan_mk _ _ m0 (S0.out.below bel) m1 (S1.out.below bel) m2 (S2.out.below bel))).mono ?_
        rintro e w1 ⟨rfl, hb1⟩
        by_cases he : xs[i] = ys[i]
        · have hd : decide (xs[i] = ys[i]) = true := decide_eq_true he
          have He := Lib.hid he; clear he
          go_wp2
          go_roundg gk
          case measure => omega
          case rel => exact ⟨i + 1, by go_num, by omega, by omega, Lib.hid fun j hj => (by
            rcases Nat.lt_succ_iff_lt_or_eq.1 hj with h | rfl
            · exact HP.out j h
            · rw [List.getElem?_eq_getElem hlt, List.getElem?_eq_getElem hlt', He.out]), bel⟩
        · have hd : decide (xs[i] = ys[i]) = false := decide_eq_false he
          have He := Lib.hid he; clear he
          go_wp2
          go_ret
          exact ⟨retF (fun h => by subst h; exact He.out rfl), bel⟩
      · have h2 : i = xs.length := by omega
        have h3 : xs = ys := take_eq Hl.out (fun j hj => HP.out j (by omega))
        have H3 := Lib.hid h3; clear h3
        go_wp2
        go_ret
        exact ⟨retT H3.out, bel⟩
  · have b2 : ((xs.length : Int) != (ys.length : Int)) = true := by simp; omega
    have b3 : (xs.length != ys.length) = true := by simp [hl]
    have Hl := Lib.hid hl; clear hl
    go_enter Try.func55, Try.ntmps55
    go_wp2
    go_ret
    exact ⟨retF (fun h => by subst h; exact Hl.out rfl), bel⟩
theorem EqualFunc_Mutex_calls {A B : Option Addr} {xs ys : List MMutex} {c d : Nat} (w : World) (hr : kMutex.Row w A xs) (hs : kMutex.Row w B ys) :
    Calls Try.prog 57 #[.slice A xs.length c, .slice B ys.length d, .func (.func 58) #[] #[]] w fun e w' => e = .returned (.bool (decide (xs = ys))) ∧ Below w.heap.size w w' := by
  have hm := hr.1
  have HR := Lib.hid hr; clear hr
  have HS := Lib.hid hs; clear hs
  by_cases hl : xs.length = ys.length
  · have b2 : ((xs.length : Int) != (ys.length : Int)) = false := by simp [hl]
    have b3 : (xs.length != ys.length) = false := by simp [hl]
    have Hl := Lib.hid hl; clear hl
    go_enter Try.func57, Try.ntmps57
    go_wp2
    go_loopg [17] (xs.length + 1) (fun kq v17 w' => ∃ i : Nat, v17 = .int .i64 i ∧ i + kq = xs.length + 1 ∧ i ≤ xs.length ∧ Hid (∀ j, j < i → xs[j]? = ys[j]?) ∧ Below w.heap.size w w')
    case atStart => exact ⟨0, rfl, by omega, by omega, Lib.hid fun j hj => absurd hj (by omega), bel⟩
    case round =>
      obtain ⟨i, rfl, hi, hi2, HP, hb⟩ := hrel
      obtain ⟨gk, rfl⟩ : ∃ m, gk = m + 1 := ⟨gk - 1, by omega⟩
      by_cases hlt : i < xs.length
      · have hlt' : i < ys.length := by have := Hl.out; omega
        obtain ⟨b, o, A0, c0, rfl, g0, g1, l0, r0⟩ := kMutex_at (HR.out.below hb) hlt
        obtain ⟨b', o', B0, d0, rfl, k0, k1, m0, s0⟩ := kMutex_at (HS.out.below hb) hlt'
        have R0 := Lib.hid r0; have S0 := Lib.hid s0; clear r0 s0
        have zb : b < wr.heap.size := World.block_lt_of_cell? wr _ g0
        have zb' : b' < wr.heap.size := World.block_lt_of_cell? wr _ k0
        go_wp2_with fail
        refine (sameMutex_calls xs[i] ys[i] [_, _] [_, _] _ (kMutex_mk _ _ l0 (R0.out.below bel)) (kMutex_mk _ _ m0 (S0.out.below bel))).mono ?_
        rintro e w1 ⟨rfl, hb1⟩
        by_cases he : xs[i] = ys[i]
        · have hd : decide (xs[i] = ys[i]) = true := decide_eq_true he
          have He := Lib.hid he; clear he
          go_wp2
          go_roundg gk
          case measure => omega
          case rel => exact ⟨i + 1, by go_num, by omega, by omega, Lib.hid fun j hj => (by
            rcases Nat.lt_succ_iff_lt_or_eq.1 hj with h | rfl
            · exact HP.out j h
            · rw [List.getElem?_eq_getElem hlt, List.getElem?_eq_getElem hlt', He.out]), bel⟩
        · have hd : decide (xs[i] = ys[i]) = false := decide_eq_false he
          have He := Lib.hid he; clear he
          go_wp2
          go_ret
          exact ⟨retF (fun h => by subst h; exact He.out rfl), bel⟩
      · have h2 : i = xs.length := by omega
        have h3 : xs = ys := take_eq Hl.out (fun j hj => HP.out j (by omega))
        have H3 := Lib.hid h3; clear h3
        go_wp2
        go_ret
        exact ⟨retT H3.out, bel⟩
  · have b2 : ((xs.length : Int) != (ys.length : Int)) = true := by simp; omega
    have b3 : (xs.length != ys.length) = true := by simp [hl]
    have Hl := Lib.hid hl; clear hl
    go_enter Try.func57, Try.ntmps57
    go_wp2
    go_ret
    exact ⟨retF (fun h => by subst h; exact Hl.out rfl), bel⟩
theorem sameState_calls (x y : MEng) (cs ds : List Value) (w : World) (hx : kEng.K w x cs) (hy : kEng.K w y ds) :
    Calls Try.prog 22 #[.agg cs.toArray, .agg ds.toArray] w fun e w' => e = .returned (.bool (decide (x = y))) ∧ Below w.heap.size w w' := by
  obtain ⟨A0, c0, A1, c1, A2, c2, rfl, l0, r0, l1, r1, l2, r2⟩ := kEng_K hx
  obtain ⟨B0, d0, B1, d1, B2, d2, rfl, m0, s0, m1, s1, m2, s2⟩ := kEng_K hy
  clear hx hy
  have R0 := Lib.hid r0; have S0 := Lib.hid s0; clear r0 s0
  have R1 := Lib.hid r1; have S1 := Lib.hid s1; clear r1 s1
  have R2 := Lib.hid r2; have S2 := Lib.hid s2; clear r2 s2
  by_cases h0 : x.gs = y.gs
  rotate_left
  · have e0 : decide (x.gs = y.gs) = false := decide_eq_false h0
    have H0 := Lib.hid h0; clear h0
    go_enter Try.func22, Try.ntmps22
    go_wp2_with fail
    refine (EqualFunc_Gor_calls _ (R0.out.below bel) (S0.out.below bel)).mono ?_
    rintro e w0 ⟨rfl, hb0⟩
    obtain ⟨C0, D0⟩ := bcell hb0
    obtain ⟨za0, zb0⟩ : w.heap.size < w0.heap.size ∧ w.heap.size + 1 < w0.heap.size := (by have := hb0.size; (try simp at this); omega)
    go_wp2
    go_ret
    exact ⟨retF (fun h => H0.out (by rw [h])), bel⟩
  by_cases h1 : x.chans = y.chans
  rotate_left
  · have e0 : decide (x.gs = y.gs) = true := decide_eq_true h0
    have H0 := Lib.hid h0; clear h0
    have e1 : decide (x.chans = y.chans) = false := decide_eq_false h1
    have H1 := Lib.hid h1; clear h1
    go_enter Try.func22, Try.ntmps22
    go_wp2_with fail
    refine (EqualFunc_Gor_calls _ (R0.out.below bel) (S0.out.below bel)).mono ?_
    rintro e w0 ⟨rfl, hb0⟩
    obtain ⟨C0, D0⟩ := bcell hb0
    obtain ⟨za0, zb0⟩ : w.heap.size < w0.heap.size ∧ w.heap.size + 1 < w0.heap.size := (by have := hb0.size; (try simp at this); omega)
    go_wp2_with fail
    refine (EqualFunc_Chan_calls _ (R1.out.below bel) (S1.out.below bel)).mono ?_
    rintro e w1 ⟨rfl, hb1⟩
    obtain ⟨C1, D1⟩ := bcell hb1
    obtain ⟨za1, zb1⟩ : w.heap.size < w1.heap.size ∧ w.heap.size + 1 < w1.heap.size := (by have := hb1.size; (try simp at this); omega)
    go_wp2
    go_ret
    exact ⟨retF (fun h => H1.out (by rw [h])), bel⟩
  by_cases h2 : x.mus = y.mus
  rotate_left
  · have e0 : decide (x.gs = y.gs) = true := decide_eq_true h0
    have H0 := Lib.hid h0; clear h0
    have e1 : decide (x.chans = y.chans) = true := decide_eq_true h1
    have H1 := Lib.hid h1; clear h1
    have e2 : decide (x.mus = y.mus) = false := decide_eq_false h2
    have H2 := Lib.hid h2; clear h2
    go_enter Try.func22, Try.ntmps22
    go_wp2_with fail
    refine (EqualFunc_Gor_calls _ (R0.out.below bel) (S0.out.below bel)).mono ?_
    rintro e w0 ⟨rfl, hb0⟩
    obtain ⟨C0, D0⟩ := bcell hb0
    obtain ⟨za0, zb0⟩ : w.heap.size < w0.heap.size ∧ w.heap.size + 1 < w0.heap.size := (by have := hb0.size; (try simp at this); omega)
    go_wp2_with fail
    refine (EqualFunc_Chan_calls _ (R1.out.below bel) (S1.out.below bel)).mono ?_
    rintro e w1 ⟨rfl, hb1⟩
    obtain ⟨C1, D1⟩ := bcell hb1
    obtain ⟨za1, zb1⟩ : w.heap.size < w1.heap.size ∧ w.heap.size + 1 < w1.heap.size := (by have := hb1.size; (try simp at this); omega)
    go_wp2_with fail
    refine (EqualFunc_Mutex_calls _ (R2.out.below bel) (S2.out.below bel)).mono ?_
    rintro e w2 ⟨rfl, hb2⟩
    obtain ⟨C2, D2⟩ := bcell hb2
    obtain ⟨za2, zb2⟩ : w.heap.size < w2.heap.size ∧ w.heap.size + 1 < w2.heap.size := (by have := hb2.size; (try simp at this); omega)
    go_wp2
    go_ret
    exact ⟨retF (fun h => H2.out (by rw [h])), bel⟩
  have e0 : decide (x.gs = y.gs) = true := decide_eq_true h0
  have H0 := Lib.hid h0; clear h0
  have e1 : decide (x.chans = y.chans) = true := decide_eq_true h1
  have H1 := Lib.hid h1; clear h1
  have e2 : decide (x.mus = y.mus) = true := decide_eq_true h2
  have H2 := Lib.hid h2; clear h2
  go_enter Try.func22, Try.ntmps22
  go_wp2_with fail
  refine (EqualFunc_Gor_calls _ (R0.out.below bel) (S0.out.below bel)).mono ?_
  rintro e w0 ⟨rfl, hb0⟩
  obtain ⟨C0, D0⟩ := bcell hb0
  obtain ⟨za0, zb0⟩ : w.heap.size < w0.heap.size ∧ w.heap.size + 1 < w0.heap.size := (by have := hb0.size; (try simp at this); omega)
  go_wp2_with fail
  refine (EqualFunc_Chan_calls _ (R1.out.below bel) (S1.out.below bel)).mono ?_
  rintro e w1 ⟨rfl, hb1⟩
  obtain ⟨C1, D1⟩ := bcell hb1
  obtain ⟨za1, zb1⟩ : w.heap.size < w1.heap.size ∧ w.heap.size + 1 < w1.heap.size := (by have := hb1.size; (try simp at this); omega)
  go_wp2_with fail
  refine (EqualFunc_Mutex_calls _ (R2.out.below bel) (S2.out.below bel)).mono ?_
  rintro e w2 ⟨rfl, hb2⟩
  obtain ⟨C2, D2⟩ := bcell hb2
  obtain ⟨za2, zb2⟩ : w.heap.size < w2.heap.size ∧ w.heap.size + 1 < w2.heap.size := (by have := hb2.size; (try simp at this); omega)
  go_wp2
  go_ret
  exact ⟨retT (MEng.ext H0.out H1.out H2.out), bel⟩

end Go.Proofs.Ytebflbenchomoaa.Wd

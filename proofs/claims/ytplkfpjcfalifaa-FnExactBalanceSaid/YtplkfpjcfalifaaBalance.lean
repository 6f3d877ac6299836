/- Both Balance functions return the model's balance. Conditions: the engine is of at most 1048576 values. -/
import Derived.Test.YtplkfpjcfalifaaTy
namespace Go.Proofs.Ytplkfpjcfalifaa.Wd
open Go.RowKit
set_option linter.unusedVariables false
set_option linter.unusedSimpArgs false
set_option maxHeartbeats 2000000
set_option maxRecDepth 100000
def balI (mu n : Int) (i : MItem) : Int := if i.obj = mu then (if i.kind = 5 then n + 1 else if i.kind = 6 then n - 1 else n) else n
def balT (mu n : Int) (l : List MItem) : Int := l.foldl (balI mu) n
def balG (mu : Int) (l : List MGor) : Int := l.foldl (fun n g => balT mu n g.trace) 0
theorem balI_bd (mu n : Int) (i : MItem) : n - 1 ≤ balI mu n i ∧ balI mu n i ≤ n + 1 := by unfold balI; split <;> (try split) <;> (try split) <;> omega
theorem balT_take (mu n : Int) {l : List MItem} {j : Nat} (h : j < l.length) : balT mu n (l.take (j + 1)) = balI mu (balT mu n (l.take j)) l[j] := by
  unfold balT; rw [List.take_succ_eq_append_getElem h, List.foldl_append]; rfl
theorem balG_take (mu : Int) {l : List MGor} {j : Nat} (h : j < l.length) : balG mu (l.take (j + 1)) = balT mu (balG mu (l.take j)) l[j].trace := by
  unfold balG; rw [List.take_succ_eq_append_getElem h, List.foldl_append]; rfl
theorem balT_bd (mu n : Int) (l : List MItem) : n - l.length ≤ balT mu n l ∧ balT mu n l ≤ n + l.length := by
  induction l generalizing n with
  | nil => simp [balT]
  | cons x l ih => have := ih (balI mu n x); have := balI_bd mu n x; simp only [balT, List.foldl_cons, List.length_cons] at *; omega
theorem balG_bd (mu : Int) (l : List MGor) (i : Nat) (hi : i ≤ l.length) : -(cntGorS l : Int) ≤ balG mu (l.take i) ∧ balG mu (l.take i) ≤ cntGorS l := by
  have key : ∀ i, i ≤ l.length → -(cntGorS (l.take i) : Int) ≤ balG mu (l.take i) ∧ balG mu (l.take i) ≤ cntGorS (l.take i) := by
    intro i
    induction i with
    | zero => intro _; simp [balG, cntGorS]
    | succ i ih =>
      intro h
      have h1 := ih (by omega)
      have h2 := balT_bd mu (balG mu (l.take i)) (l[i]'(by omega)).trace
      rw [balG_take mu (by omega), cntGorS_take (by omega)]
      unfold cntGor
      omega
  have := key i hi
  have := cntGorS_le (xs := l) (i := i)
  omega
/-- The test of the inner round: what becomes of n. -/
theorem impl_Balance_calls (x : MEng) (mu : Int) (cs : List Value) (w : World) (hx : kEng.K w x cs) (hc : cntEng x ≤ 1048576) :
    Calls Try.prog 31 #[.agg cs.toArray, .int .i64 mu] w fun e w' => e = .returned (.int .i64 (balG mu x.gs)) ∧ Below w.heap.size w w' := by
  obtain ⟨A0, c0, A1, c1, A2, c2, rfl, l0, r0, l1, r1, l2, r2⟩ := kEng_K hx
  clear hx
  unfold cntEng at hc
  obtain ⟨gs, x1, x2⟩ := x
  simp only at *
  have R0 := Lib.hid r0; clear r0 r1 r2
  have hcb : cntGorS gs ≤ 1048576 := by omega
  have hlb : gs.length ≤ 1048576 := by omega
  go_enter Try.func31, Try.ntmps31
  go_wp2
  go_loopg [5, 13] (gs.length + 1) (fun kq v5 v13 w' => ∃ i : Nat, v13 = .int .i64 i ∧ i + kq = gs.length + 1 ∧ i ≤ gs.length ∧ v5 = .int .i64 (balG mu (gs.take i)) ∧ Below w.heap.size w w')
  case atStart => exact ⟨0, rfl, by omega, by omega, by simp [balG], bel⟩
  case round =>
    obtain ⟨i, rfl, hi, hi2, rfl, hb⟩ := hrel
    obtain ⟨ko, rfl⟩ : ∃ m, gk = m + 1 := ⟨gk - 1, by omega⟩
    have hbd := balG_bd mu gs i hi2
    by_cases hlt : i < gs.length
    · have hs := balG_take mu hlt
      have hcn := cntGorS_at hlt
      unfold cntGor at hcn
      obtain ⟨b, o, B0, d0, B1, d1, rfl, g0, g1, g2, g3, g4, m0, s0, m1, s1⟩ := kGor_at (R0.out.below hb) hlt
      generalize hp : balG mu (gs.take i) = p at *
      have S1 := Lib.hid s1; clear s0 s1
      have Hs := Lib.hid hs; clear hs hp
      generalize gs[i] = g at *
      obtain ⟨wo, rfl⟩ : ∃ wo : World, wo = wr := ⟨_, rfl⟩
      go_wp2
      have hb2 : Below w.heap.size w (wo.alloc (.cells #[.int .i64 g.proc, .int .i64 g.pc, .slice B0 g.regs.length d0, .int .i64 g.state, .slice B1 g.trace.length d1] 107)) := bel
      go_loopg [5, 20] (g.trace.length + 1) (fun kq v5 v20 w' => ∃ j : Nat, v20 = .int .i64 j ∧ j + kq = g.trace.length + 1 ∧ j ≤ g.trace.length ∧ v5 = .int .i64 (balT mu p (g.trace.take j)) ∧ Below wo.heap.size wo w')
      case atStart => exact ⟨0, rfl, by omega, by omega, by simp [balT], bel⟩
      case round =>
        obtain ⟨j, rfl, hj, hj2, rfl, hb3⟩ := hrel
        obtain ⟨gk, rfl⟩ : ∃ m, gk = m + 1 := ⟨gk - 1, by omega⟩
        have hbt := balT_bd mu p (g.trace.take j)
        have htl : (g.trace.take j).length ≤ g.trace.length := by simp; omega
        by_cases hlj : j < g.trace.length
        · obtain ⟨b', o', rfl, k0, k1, k2, k3⟩ := kItem_at (S1.out.below hb3) hlj
          have Ht := Lib.hid (balT_take mu p hlj)
          generalize balT mu p (g.trace.take j) = q at *
          generalize g.trace[j] = it at *
          go_wp2
          all_goals
            go_roundg gk
            case measure => omega
            case rel => exact ⟨j + 1, by go_num, by omega, by omega, by rw [Ht.out]; unfold balI; simp_all, bel⟩
        · have hj' : j = g.trace.length := by omega
          subst hj'
          rw [List.take_length] at hbt ⊢
          go_wp2
          go_roundg ko
          case measure => omega
          case rel => exact ⟨i + 1, by go_num, by omega, by omega, by rw [Hs.out], bvia hb3 hb⟩
    · have hi' : i = gs.length := by omega
      subst hi'
      rw [List.take_length]
      go_wp2
      go_ret
      exact ⟨rfl, bel⟩
theorem spec_Balance_calls (x : MEng) (mu : Int) (cs : List Value) (w : World) (hx : kEng.K w x cs) (hc : cntEng x ≤ 1048576) :
    Calls Try.prog 29 #[.agg cs.toArray, .int .i64 mu] w fun e w' => e = .returned (.int .i64 (balG mu x.gs)) ∧ Below w.heap.size w w' := by
  obtain ⟨A0, c0, A1, c1, A2, c2, rfl, l0, r0, l1, r1, l2, r2⟩ := kEng_K hx
  clear hx
  unfold cntEng at hc
  obtain ⟨gs, x1, x2⟩ := x
  simp only at *
  have R0 := Lib.hid r0; clear r0 r1 r2
  have hcb : cntGorS gs ≤ 1048576 := by omega
  have hlb : gs.length ≤ 1048576 := by omega
  go_enter Try.func29, Try.ntmps29
  go_wp2
  go_loopg [5, 13] (gs.length + 1) (fun kq v5 v13 w' => ∃ i : Nat, v13 = .int .i64 i ∧ i + kq = gs.length + 1 ∧ i ≤ gs.length ∧ v5 = .int .i64 (balG mu (gs.take i)) ∧ Below w.heap.size w w')
  case atStart => exact ⟨0, rfl, by omega, by omega, by simp [balG], bel⟩
  case round =>
    obtain ⟨i, rfl, hi, hi2, rfl, hb⟩ := hrel
    obtain ⟨ko, rfl⟩ : ∃ m, gk = m + 1 := ⟨gk - 1, by omega⟩
    have hbd := balG_bd mu gs i hi2
    by_cases hlt : i < gs.length
    · have hs := balG_take mu hlt
      have hcn := cntGorS_at hlt
      unfold cntGor at hcn
      obtain ⟨b, o, B0, d0, B1, d1, rfl, g0, g1, g2, g3, g4, m0, s0, m1, s1⟩ := kGor_at (R0.out.below hb) hlt
      generalize hp : balG mu (gs.take i) = p at *
      have S1 := Lib.hid s1; clear s0 s1
      have Hs := Lib.hid hs; clear hs hp
      generalize gs[i] = g at *
      obtain ⟨wo, rfl⟩ : ∃ wo : World, wo = wr := ⟨_, rfl⟩
      go_wp2
      have hb2 : Below w.heap.size w (wo.alloc (.cells #[.int .i64 g.proc, .int .i64 g.pc, .slice B0 g.regs.length d0, .int .i64 g.state, .slice B1 g.trace.length d1] 107)) := bel
      go_loopg [5, 20] (g.trace.length + 1) (fun kq v5 v20 w' => ∃ j : Nat, v20 = .int .i64 j ∧ j + kq = g.trace.length + 1 ∧ j ≤ g.trace.length ∧ v5 = .int .i64 (balT mu p (g.trace.take j)) ∧ Below wo.heap.size wo w')
      case atStart => exact ⟨0, rfl, by omega, by omega, by simp [balT], bel⟩
      case round =>
        obtain ⟨j, rfl, hj, hj2, rfl, hb3⟩ := hrel
        obtain ⟨gk, rfl⟩ : ∃ m, gk = m + 1 := ⟨gk - 1, by omega⟩
        have hbt := balT_bd mu p (g.trace.take j)
        have htl : (g.trace.take j).length ≤ g.trace.length := by simp; omega
        by_cases hlj : j < g.trace.length
        · obtain ⟨b', o', rfl, k0, k1, k2, k3⟩ := kItem_at (S1.out.below hb3) hlj
          have Ht := Lib.hid (balT_take mu p hlj)
          generalize balT mu p (g.trace.take j) = q at *
          generalize g.trace[j] = it at *
          have Hq : Hid (balI mu q it = if it.obj = mu then (if it.kind = 5 then q + 1 else if it.kind = 6 then q - 1 else q) else q) := rfl
          rw [← Ht.out] at Hq
          clear Ht
          by_cases e5 : it.kind = 5
          · have t5 : (it.kind == 5) = true := by simp [e5]
            have t6 : (it.kind == 6) = false := by simp [e5]
            by_cases eo : it.obj = mu
            · have to : (it.obj == mu) = true := by simp [eo]
              have Hq2 : Hid (balT mu p (g.trace.take (j + 1)) = q + 1) := by show _ = _; rw [Hq.out, if_pos eo, if_pos e5]
              clear e5 eo Hq
              go_wp2
              go_roundg gk
              case measure => omega
              case rel => exact ⟨j + 1, by go_num, by omega, by omega, by rw [Hq2.out], bel⟩
            · have to : (it.obj == mu) = false := by simp [eo]
              have Hq2 : Hid (balT mu p (g.trace.take (j + 1)) = q) := by show _ = _; rw [Hq.out, if_neg eo]
              clear e5 eo Hq
              go_wp2
              go_roundg gk
              case measure => omega
              case rel => exact ⟨j + 1, by go_num, by omega, by omega, by rw [Hq2.out], bel⟩
          · have t5 : (it.kind == 5) = false := by simp [e5]
            by_cases e6 : it.kind = 6
            · have t6 : (it.kind == 6) = true := by simp [e6]
              by_cases eo : it.obj = mu
              · have to : (it.obj == mu) = true := by simp [eo]
                have Hq2 : Hid (balT mu p (g.trace.take (j + 1)) = q - 1) := by show _ = _; rw [Hq.out, if_pos eo, if_neg e5, if_pos e6]
                clear e5 e6 eo Hq
                go_wp2
                go_roundg gk
                case measure => omega
                case rel => exact ⟨j + 1, by go_num, by omega, by omega, by rw [Hq2.out], bel⟩
              · have to : (it.obj == mu) = false := by simp [eo]
                have Hq2 : Hid (balT mu p (g.trace.take (j + 1)) = q) := by show _ = _; rw [Hq.out, if_neg eo]
                clear e5 e6 eo Hq
                go_wp2
                go_roundg gk
                case measure => omega
                case rel => exact ⟨j + 1, by go_num, by omega, by omega, by rw [Hq2.out], bel⟩
            · have t6 : (it.kind == 6) = false := by simp [e6]
              have Hq2 : Hid (balT mu p (g.trace.take (j + 1)) = q) := by
                show _ = _; rw [Hq.out, if_neg e5, if_neg e6]; split <;> rfl
              clear e5 e6 Hq
              go_wp2
              go_roundg gk
              case measure => omega
              case rel => exact ⟨j + 1, by go_num, by omega, by omega, by rw [Hq2.out], bel⟩
        · have hj' : j = g.trace.length := by omega
          subst hj'
          rw [List.take_length] at hbt ⊢
          go_wp2
          go_roundg ko
          case measure => omega
          case rel => exact ⟨i + 1, by go_num, by omega, by omega, by rw [Hs.out], bvia hb3 hb⟩
    · have hi' : i = gs.length := by omega
      subst hi'
      rw [List.take_length]
      go_wp2
      go_ret
      exact ⟨rfl, bel⟩
end Go.Proofs.Ytplkfpjcfalifaa.Wd

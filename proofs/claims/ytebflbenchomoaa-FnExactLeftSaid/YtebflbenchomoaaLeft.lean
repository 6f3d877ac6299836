/- Both Left functions return how many events of a replay are left. Conditions: the replay is of at most 1048576 values. -/
import Derived.Test.YtebflbenchomoaaTyR
namespace Go.Proofs.Ytebflbenchomoaa.Wd
open Go.RowKit
set_option linter.unusedVariables false
set_option linter.unusedSimpArgs false
set_option maxHeartbeats 2000000
set_option maxRecDepth 100000
def leftTo (done : List Bool) : Nat → Int
  | 0 => 0
  | i + 1 => leftTo done i + (if done[i]? = some true then 0 else 1)
theorem leftTo_bd (done : List Bool) (i : Nat) : 0 ≤ leftTo done i ∧ leftTo done i ≤ i := by
  induction i with
  | zero => simp [leftTo]
  | succ i ih => simp only [leftTo]; split <;> omega
def left (x : MRep) : Int := leftTo x.done x.events.length
theorem impl_Left_calls (x : MRep) (cs : List Value) (w : World) (hx : kRep.K w x cs) (hc : cntRep x ≤ 1048576) :
    Calls Try.prog 31 #[.agg cs.toArray] w fun e w' => e = .returned (.int .i64 (left x)) ∧ Below w.heap.size w w' := by
  obtain ⟨A0, c0, A1, c1, A2, c2, A3, c3, A4, c4, rfl, l0, r0, l1, r1, l2, r2, l3, r3, l4, r4⟩ := kRep_K hx
  clear hx
  unfold cntRep at hc
  unfold left
  obtain ⟨x0, ev, done⟩ := x
  simp only at *
  have R4 := Lib.hid r4; clear r0 r1 r2 r3 r4
  have hl : ev.length ≤ 1048576 := by omega
  have hl2 : done.length ≤ 1048576 := by omega
  clear hc
  go_enter Try.func31, Try.ntmps31
  go_wp2
  go_loopg [3, 8] (ev.length + 1) (fun kq v3 v8 w' => ∃ i : Nat, v8 = .int .i64 i ∧ i + kq = ev.length + 1 ∧ i ≤ ev.length ∧ v3 = .int .i64 (leftTo done i) ∧ Below w.heap.size w w' ∧ w'.cell? ⟨w.heap.size, 4, none⟩ = some (.slice A4 done.length c4))
  case atStart => exact ⟨0, rfl, by omega, by omega, by simp [leftTo], bel, by go_simp⟩
  case round =>
    obtain ⟨i, rfl, hi, hi2, rfl, hb, hcell⟩ := hrel
    obtain ⟨gk, rfl⟩ : ∃ m, gk = m + 1 := ⟨gk - 1, by omega⟩
    have hbd := leftTo_bd done i
    have HL : Hid (leftTo done (i + 1) = leftTo done i + (if done[i]? = some true then 0 else 1)) := rfl
    obtain ⟨q, hq0⟩ : ∃ q, leftTo done i = q := ⟨_, rfl⟩
    rw [hq0] at hbd HL ⊢
    have Hq0 := Lib.hid hq0; clear hq0
    by_cases hlt : i < ev.length
    · by_cases hd : i < done.length
      · obtain ⟨b, o, rfl, g0⟩ := bool_at (R4.out.below hb) hd
        have hge : decide (done.length ≤ i) = false := by simp; omega
        have hgi : (done[i]? = some true) ↔ done[i] = true := by rw [List.getElem?_eq_getElem hd]; simp
        have HG := Lib.hid hgi; clear hgi
        cases hv : done[i] with
        | true =>
          rw [hv] at g0
          have hq : leftTo done (i + 1) = q := by rw [HL.out, if_pos (HG.out.2 hv)]; omega
          have HQ := Lib.hid hq; clear hq hv
          go_wp2
          go_roundg gk
          case measure => omega
          case rel => exact ⟨i + 1, by go_num, by omega, by omega, by rw [HQ.out], bel, by go_simp⟩
        | false =>
          rw [hv] at g0
          have hq : leftTo done (i + 1) = q + 1 := by rw [HL.out, if_neg (fun h => by have := HG.out.1 h; rw [hv] at this; cases this)]
          have HQ := Lib.hid hq; clear hq hv
          go_wp2
          go_roundg gk
          case measure => omega
          case rel => exact ⟨i + 1, by go_num, by omega, by omega, by rw [HQ.out], bel, by go_simp⟩
      · have hge : decide (done.length ≤ i) = true := by simp; omega
        have hq : leftTo done (i + 1) = q + 1 := by rw [HL.out, if_neg (by rw [List.getElem?_eq_none (by omega)]; simp)]
        have HQ := Lib.hid hq; clear hq
        go_wp2
        go_roundg gk
        case measure => omega
        case rel => exact ⟨i + 1, by go_num, by omega, by omega, by rw [HQ.out], bel, by go_simp⟩
    · have hi' : i = ev.length := by omega
      subst hi'
      go_wp2
      go_ret
      exact ⟨by rw [Hq0.out]; rfl, bel⟩
theorem spec_Left_calls (x : MRep) (cs : List Value) (w : World) (hx : kRep.K w x cs) (hc : cntRep x ≤ 1048576) :
    Calls Try.prog 29 #[.agg cs.toArray] w fun e w' => e = .returned (.int .i64 (left x)) ∧ Below w.heap.size w w' := by
  obtain ⟨A0, c0, A1, c1, A2, c2, A3, c3, A4, c4, rfl, l0, r0, l1, r1, l2, r2, l3, r3, l4, r4⟩ := kRep_K hx
  clear hx
  unfold cntRep at hc
  unfold left
  obtain ⟨x0, ev, done⟩ := x
  simp only at *
  have R4 := Lib.hid r4; clear r0 r1 r2 r3 r4
  have hl : ev.length ≤ 1048576 := by omega
  have hl2 : done.length ≤ 1048576 := by omega
  clear hc
  go_enter Try.func29, Try.ntmps29
  go_wp2
  go_loopg [3, 8] (ev.length + 1) (fun kq v3 v8 w' => ∃ i : Nat, v8 = .int .i64 i ∧ i + kq = ev.length + 1 ∧ i ≤ ev.length ∧ v3 = .int .i64 (leftTo done i) ∧ Below w.heap.size w w' ∧ w'.cell? ⟨w.heap.size, 4, none⟩ = some (.slice A4 done.length c4))
  case atStart => exact ⟨0, rfl, by omega, by omega, by simp [leftTo], bel, by go_simp⟩
  case round =>
    obtain ⟨i, rfl, hi, hi2, rfl, hb, hcell⟩ := hrel
    obtain ⟨gk, rfl⟩ : ∃ m, gk = m + 1 := ⟨gk - 1, by omega⟩
    have hbd := leftTo_bd done i
    have HL : Hid (leftTo done (i + 1) = leftTo done i + (if done[i]? = some true then 0 else 1)) := rfl
    obtain ⟨q, hq0⟩ : ∃ q, leftTo done i = q := ⟨_, rfl⟩
    rw [hq0] at hbd HL ⊢
    have Hq0 := Lib.hid hq0; clear hq0
    by_cases hlt : i < ev.length
    · by_cases hd : i < done.length
      · obtain ⟨b, o, rfl, g0⟩ := bool_at (R4.out.below hb) hd
        have hge : decide (done.length ≤ i) = false := by simp; omega
        have hgi : (done[i]? = some true) ↔ done[i] = true := by rw [List.getElem?_eq_getElem hd]; simp
        have HG := Lib.hid hgi; clear hgi
        cases hv : done[i] with
        | true =>
          rw [hv] at g0
          have hq : leftTo done (i + 1) = q := by rw [HL.out, if_pos (HG.out.2 hv)]; omega
          have HQ := Lib.hid hq; clear hq hv
          go_wp2
          go_roundg gk
          case measure => omega
          case rel => exact ⟨i + 1, by go_num, by omega, by omega, by rw [HQ.out], bel, by go_simp⟩
        | false =>
          rw [hv] at g0
          have hq : leftTo done (i + 1) = q + 1 := by rw [HL.out, if_neg (fun h => by have := HG.out.1 h; rw [hv] at this; cases this)]
          have HQ := Lib.hid hq; clear hq hv
          go_wp2
          go_roundg gk
          case measure => omega
          case rel => exact ⟨i + 1, by go_num, by omega, by omega, by rw [HQ.out], bel, by go_simp⟩
      · have hge : decide (done.length ≤ i) = true := by simp; omega
        have hq : leftTo done (i + 1) = q + 1 := by rw [HL.out, if_neg (by rw [List.getElem?_eq_none (by omega)]; simp)]
        have HQ := Lib.hid hq; clear hq
        go_wp2
        go_roundg gk
        case measure => omega
        case rel => exact ⟨i + 1, by go_num, by omega, by omega, by rw [HQ.out], bel, by go_simp⟩
    · have hi' : i = ev.length := by omega
      subst hi'
      go_wp2
      go_ret
      exact ⟨by rw [Hq0.out]; rfl, bel⟩
end Go.Proofs.Ytebflbenchomoaa.Wd

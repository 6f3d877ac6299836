/- Both Agree functions return how many events two logs have alike at their beginnings. Conditions: the logs are of at most 1048576 values. -/
import Derived.Test.YtplkfpjcfalifaaTyA
namespace Go.Proofs.Ytplkfpjcfalifaa.Wd
open Go.RowKit
set_option linter.unusedVariables false
set_option linter.unusedSimpArgs false
set_option maxHeartbeats 2000000
set_option maxRecDepth 100000
def sameDeed (a0 : Int) (a1 : Int) (a2 : Int) (a3 : Int) (b0 : Int) (b1 : Int) (b2 : Int) (b3 : Int) : Bool := a0 == b0 && a1 == b1 && a2 == b2 && a3 == b3
theorem sameDeed_eq (x y : MDeed) : sameDeed x.g x.op x.obj x.cas y.g y.op y.obj y.cas = decide (x = y) := by
  unfold sameDeed
  by_cases h : x = y
  · subst h; simp
  · rw [decide_eq_false h, Bool.eq_false_iff]
    intro h2
    simp only [Bool.and_eq_true, beq_iff_eq] at h2
    exact h (by simp_all [MDeed.ext_iff])
theorem eqIn_Deed (a0 : Int) (a1 : Int) (a2 : Int) (a3 : Int) (b0 : Int) (b1 : Int) (b2 : Int) (b3 : Int) (w : World) : (Op.equalIn 10000 93 (.agg #[.int .i64 a0, .int .i64 a1, .int .i64 a2, .int .i64 a3]) (.agg #[.int .i64 b0, .int .i64 b1, .int .i64 b2, .int .i64 b3])).run Try.prog w = .ok (sameDeed a0 a1 a2 a3 b0 b1 b2 b3) w := by
  have hS0 : Try.prog.underlying 93 = some (.struct (Try.prog.fieldsOf 93)) := by kernel_rfl
  have hp0 : Try.prog.stoodInHeld 93 = false := by kernel_rfl
  rw [show (10000 : Nat) = 9999 + 1 from rfl, run_equalIn_agg w 9999 93 _ _ hS0 hp0]
  simp only [Program.fieldsOf, Try.underlying93]
  go_simp
  unfold sameDeed
  by_cases h0 : a0 = b0 <;> by_cases h1 : a1 = b1 <;> by_cases h2 : a2 = b2 <;> by_cases h3 : a3 = b3 <;> simp_all
@[go_sem high] theorem eql_Deed (a0 : Int) (a1 : Int) (a2 : Int) (a3 : Int) (b0 : Int) (b1 : Int) (b2 : Int) (b3 : Int) (w : World) : (binOp .eql 93 (.agg #[.int .i64 a0, .int .i64 a1, .int .i64 a2, .int .i64 a3]) (.agg #[.int .i64 b0, .int .i64 b1, .int .i64 b2, .int .i64 b3])).run Try.prog w = .ok (.bool (sameDeed a0 a1 a2 a3 b0 b1 b2 b3)) w := by
  rw [run_eql_struct, eqIn_Deed]; rfl
@[go_sem high] theorem neq_Deed (a0 : Int) (a1 : Int) (a2 : Int) (a3 : Int) (b0 : Int) (b1 : Int) (b2 : Int) (b3 : Int) (w : World) : (binOp .neq 93 (.agg #[.int .i64 a0, .int .i64 a1, .int .i64 a2, .int .i64 a3]) (.agg #[.int .i64 b0, .int .i64 b1, .int .i64 b2, .int .i64 b3])).run Try.prog w = .ok (.bool (!sameDeed a0 a1 a2 a3 b0 b1 b2 b3)) w := by
  rw [run_neq_struct, eqIn_Deed]; rfl

def agreeL : List MDeed → List MDeed → Nat
  | x :: xs, y :: ys => if x = y then agreeL xs ys + 1 else 0
  | _, _ => 0
def agree (x y : MLog) : Int := agreeL x.events y.events
theorem agreeL_step {xs ys : List MDeed} {i : Nat} (h : i < xs.length) (h2 : i < ys.length) (he : xs[i] = ys[i]) : agreeL (xs.drop i) (ys.drop i) = agreeL (xs.drop (i + 1)) (ys.drop (i + 1)) + 1 := by
  rw [List.drop_eq_getElem_cons h, List.drop_eq_getElem_cons h2, agreeL, if_pos he]
theorem agreeL_stop {xs ys : List MDeed} {i : Nat} (h : i < xs.length) (h2 : i < ys.length) (he : ¬ xs[i] = ys[i]) : agreeL (xs.drop i) (ys.drop i) = 0 := by
  rw [List.drop_eq_getElem_cons h, List.drop_eq_getElem_cons h2, agreeL, if_neg he]
theorem agreeL_x {xs ys : List MDeed} {i : Nat} (h : xs.length ≤ i) : agreeL (xs.drop i) (ys.drop i) = 0 := by
  rw [List.drop_of_length_le h]; rfl
theorem agreeL_y {xs ys : List MDeed} {i : Nat} (h : ys.length ≤ i) : agreeL (xs.drop i) (ys.drop i) = 0 := by
  rw [List.drop_of_length_le h]; cases xs.drop i <;> rfl
theorem impl_Agree_calls (p : MProg) (x y : MLog) (ps cs ds : List Value) (w : World) (hp : kProg.K w p ps) (hx : kLog.K w x cs) (hy : kLog.K w y ds) (hcp : cntProg p ≤ 1048576) (hc : cntLog x ≤ 1048576) (hd : cntLog y ≤ 1048576) :
    Calls Try.prog 25 #[.agg ps.toArray, .agg cs.toArray, .agg ds.toArray] w fun e w' => e = .returned (.int .i64 (agree x y)) ∧ Below w.heap.size w w' := by
  obtain ⟨P0, p0, P1, p1, P2, p2, rfl, u0, v0, u1, v1, u2, v2⟩ := kProg_K hp
  obtain ⟨A0, c0, rfl, l0, r0⟩ := kLog_K hx
  obtain ⟨B0, d0, rfl, m0, s0⟩ := kLog_K hy
  clear hx hy hp u0 v0 u1 v1 u2 v2
  have hlx : x.events.length ≤ 1048576 := by unfold cntLog at hc; omega
  have hly : y.events.length ≤ 1048576 := by unfold cntLog at hd; omega
  have HR := Lib.hid r0; have HS := Lib.hid s0; clear r0 s0 hc hd hcp
  unfold agree
  obtain ⟨N, hN⟩ : ∃ N, agreeL x.events y.events = N := ⟨_, rfl⟩
  have HN := Lib.hid hN; rw [hN]; clear hN
  go_enter Try.func25, Try.ntmps25
  go_wp2
  go_loopg [7] (x.events.length + 1) (fun kq v7 w' => ∃ i : Nat, v7 = .int .i64 i ∧ i + kq = x.events.length + 1 ∧ i ≤ x.events.length ∧ Hid (i ≤ y.events.length ∧ N = i + agreeL (x.events.drop i) (y.events.drop i)) ∧ Below w.heap.size w w' ∧ w'.cell? ⟨w.heap.size + 1, 0, none⟩ = some (.int .i64 x.prn) ∧ w'.cell? ⟨w.heap.size + 1, 1, none⟩ = some (.slice A0 x.events.length c0) ∧ w'.cell? ⟨w.heap.size + 2, 0, none⟩ = some (.int .i64 y.prn) ∧ w'.cell? ⟨w.heap.size + 2, 1, none⟩ = some (.slice B0 y.events.length d0))
  case atStart => exact ⟨0, rfl, by omega, by omega, Lib.hid ⟨by omega, by simp [HN.out]⟩, bel, by go_simp, by go_simp, by go_simp, by go_simp⟩
  case round =>
    obtain ⟨i, rfl, hi, hi2, HP, hb, q0, q1, q2, q3⟩ := hrel
    obtain ⟨gk, rfl⟩ : ∃ m, gk = m + 1 := ⟨gk - 1, by omega⟩
    by_cases h1 : i < x.events.length
    rotate_left
    · have e1 : decide (i < x.events.length) = false := decide_eq_false h1
      have HS0 := Lib.hid (agreeL_x (xs := x.events) (ys := y.events) (i := i) (by omega)); clear h1
      go_wp2_with fail
      go_quiet (fail)
      go_wp2
      go_ret
      exact ⟨by have := HP.out.2; rw [HS0.out] at this; rw [this]; rfl, bdrewN hb _⟩
    have e1 : decide (i < x.events.length) = true := decide_eq_true h1
    by_cases h2 : i < y.events.length
    rotate_left
    · have e2 : decide (i < y.events.length) = false := decide_eq_false h2
      have HS0 := Lib.hid (agreeL_y (xs := x.events) (ys := y.events) (i := i) (by omega)); clear h2
      go_wp2_with fail
      go_quiet (fail)
      go_wp2
      go_ret
      exact ⟨by have := HP.out.2; rw [HS0.out] at this; rw [this]; rfl, bdrewN hb _⟩
    have e2 : decide (i < y.events.length) = true := decide_eq_true h2
    obtain ⟨b, o, rfl, g0, g1, g2, g3⟩ := kDeed_at (HR.out.below hb) h1
    obtain ⟨b', o', rfl, k0, k1, k2, k3⟩ := kDeed_at (HS.out.below hb) h2
    by_cases he : x.events[i] = y.events[i]
    · have e3 : sameDeed x.events[i].g x.events[i].op x.events[i].obj x.events[i].cas y.events[i].g y.events[i].op y.events[i].obj y.events[i].cas = true := by rw [sameDeed_eq]; exact decide_eq_true he
      have He := Lib.hid he; clear he
      go_wp2_with fail
      go_quiet (fail)
      go_wp2
      go_roundg gk
      case measure => omega
      case rel => exact ⟨i + 1, by go_num, by omega, by omega, Lib.hid ⟨by omega, by have := HP.out.2; rw [agreeL_step h1 h2 He.out] at this; omega⟩, bdrewN hb _, keepc (bdrewN (Below.refl _ _) _) q0, keepc (bdrewN (Below.refl _ _) _) q1, keepc (bdrewN (Below.refl _ _) _) q2, keepc (bdrewN (Below.refl _ _) _) q3⟩
    · have e3 : sameDeed x.events[i].g x.events[i].op x.events[i].obj x.events[i].cas y.events[i].g y.events[i].op y.events[i].obj y.events[i].cas = false := by rw [sameDeed_eq]; exact decide_eq_false he
      have HS0 := Lib.hid (agreeL_stop h1 h2 he); clear he
      go_wp2_with fail
      go_quiet (fail)
      go_wp2
      go_ret
      exact ⟨by have := HP.out.2; rw [HS0.out] at this; rw [this]; rfl, bdrewN hb _⟩
theorem spec_Agree_calls (p : MProg) (x y : MLog) (ps cs ds : List Value) (w : World) (hp : kProg.K w p ps) (hx : kLog.K w x cs) (hy : kLog.K w y ds) (hcp : cntProg p ≤ 1048576) (hc : cntLog x ≤ 1048576) (hd : cntLog y ≤ 1048576) :
    Calls Try.prog 22 #[.agg ps.toArray, .agg cs.toArray, .agg ds.toArray] w fun e w' => e = .returned (.int .i64 (agree x y)) ∧ Below w.heap.size w w' := by
  obtain ⟨P0, p0, P1, p1, P2, p2, rfl, u0, v0, u1, v1, u2, v2⟩ := kProg_K hp
  obtain ⟨A0, c0, rfl, l0, r0⟩ := kLog_K hx
  obtain ⟨B0, d0, rfl, m0, s0⟩ := kLog_K hy
  clear hx hy hp u0 v0 u1 v1 u2 v2
  have hlx : x.events.length ≤ 1048576 := by unfold cntLog at hc; omega
  have hly : y.events.length ≤ 1048576 := by unfold cntLog at hd; omega
  have HR := Lib.hid r0; have HS := Lib.hid s0; clear r0 s0 hc hd hcp
  unfold agree
  obtain ⟨N, hN⟩ : ∃ N, agreeL x.events y.events = N := ⟨_, rfl⟩
  have HN := Lib.hid hN; rw [hN]; clear hN
  go_enter Try.func22, Try.ntmps22
  go_wp2
  go_loopg [7] (x.events.length + 1) (fun kq v7 w' => ∃ i : Nat, v7 = .int .i64 i ∧ i + kq = x.events.length + 1 ∧ i ≤ x.events.length ∧ Hid (i ≤ y.events.length ∧ N = i + agreeL (x.events.drop i) (y.events.drop i)) ∧ Below w.heap.size w w' ∧ w'.cell? ⟨w.heap.size + 1, 0, none⟩ = some (.int .i64 x.prn) ∧ w'.cell? ⟨w.heap.size + 1, 1, none⟩ = some (.slice A0 x.events.length c0) ∧ w'.cell? ⟨w.heap.size + 2, 0, none⟩ = some (.int .i64 y.prn) ∧ w'.cell? ⟨w.heap.size + 2, 1, none⟩ = some (.slice B0 y.events.length d0))
  case atStart => exact ⟨0, rfl, by omega, by omega, Lib.hid ⟨by omega, by simp [HN.out]⟩, bel, by go_simp, by go_simp, by go_simp, by go_simp⟩
  case round =>
    obtain ⟨i, rfl, hi, hi2, HP, hb, q0, q1, q2, q3⟩ := hrel
    obtain ⟨gk, rfl⟩ : ∃ m, gk = m + 1 := ⟨gk - 1, by omega⟩
    by_cases h1 : i < x.events.length
    rotate_left
    · have e1 : decide (i < x.events.length) = false := decide_eq_false h1
      have HS0 := Lib.hid (agreeL_x (xs := x.events) (ys := y.events) (i := i) (by omega)); clear h1
      go_wp2_with fail
      go_quiet (fail)
      go_wp2
      go_ret
      exact ⟨by have := HP.out.2; rw [HS0.out] at this; rw [this]; rfl, bdrewN hb _⟩
    have e1 : decide (i < x.events.length) = true := decide_eq_true h1
    by_cases h2 : i < y.events.length
    rotate_left
    · have e2 : decide (i < y.events.length) = false := decide_eq_false h2
      have HS0 := Lib.hid (agreeL_y (xs := x.events) (ys := y.events) (i := i) (by omega)); clear h2
      go_wp2_with fail
      go_quiet (fail)
      go_wp2
      go_ret
      exact ⟨by have := HP.out.2; rw [HS0.out] at this; rw [this]; rfl, bdrewN hb _⟩
    have e2 : decide (i < y.events.length) = true := decide_eq_true h2
    obtain ⟨b, o, rfl, g0, g1, g2, g3⟩ := kDeed_at (HR.out.below hb) h1
    obtain ⟨b', o', rfl, k0, k1, k2, k3⟩ := kDeed_at (HS.out.below hb) h2
    by_cases he : x.events[i] = y.events[i]
    · have e3 : sameDeed x.events[i].g x.events[i].op x.events[i].obj x.events[i].cas y.events[i].g y.events[i].op y.events[i].obj y.events[i].cas = true := by rw [sameDeed_eq]; exact decide_eq_true he
      have He := Lib.hid he; clear he
      go_wp2_with fail
      go_quiet (fail)
      go_wp2
      go_roundg gk
      case measure => omega
      case rel => exact ⟨i + 1, by go_num, by omega, by omega, Lib.hid ⟨by omega, by have := HP.out.2; rw [agreeL_step h1 h2 He.out] at this; omega⟩, bdrewN hb _, keepc (bdrewN (Below.refl _ _) _) q0, keepc (bdrewN (Below.refl _ _) _) q1, keepc (bdrewN (Below.refl _ _) _) q2, keepc (bdrewN (Below.refl _ _) _) q3⟩
    · have e3 : sameDeed x.events[i].g x.events[i].op x.events[i].obj x.events[i].cas y.events[i].g y.events[i].op y.events[i].obj y.events[i].cas = false := by rw [sameDeed_eq]; exact decide_eq_false he
      have HS0 := Lib.hid (agreeL_stop h1 h2 he); clear he
      go_wp2_with fail
      go_quiet (fail)
      go_wp2
      go_ret
      exact ⟨by have := HP.out.2; rw [HS0.out] at this; rw [this]; rfl, bdrewN hb _⟩
end Go.Proofs.Ytplkfpjcfalifaa.Wd

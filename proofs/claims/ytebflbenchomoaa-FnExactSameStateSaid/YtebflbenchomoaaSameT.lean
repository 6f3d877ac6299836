/- The reference's SameState, whole. Conditions: none. -/
import Derived.Test.YtebflbenchomoaaSameS
namespace Go.Proofs.Ytebflbenchomoaa.Wd
open Go.RowKit
set_option linter.unusedVariables false
set_option linter.unusedSimpArgs false
set_option maxHeartbeats 4000000
set_option maxRecDepth 100000
theorem spec_SameState_calls (x y : MEng) (cs ds : List Value) (w : World) (hx : kEng.K w x cs) (hy : kEng.K w y ds) (_ : cntEng x ≤ 1048576) (_ : cntEng y ≤ 1048576) :
    Calls Try.prog 21 #[.agg cs.toArray, .agg ds.toArray] w fun e w' => e = .returned (.bool (decide (x = y))) ∧ Below w.heap.size w w' := by
  obtain ⟨A0, c0, A1, c1, A2, c2, rfl, l0, r0, l1, r1, l2, r2⟩ := kEng_K hx
  obtain ⟨B0, d0, B1, d1, B2, d2, rfl, m0, s0, m1, s1, m2, s2⟩ := kEng_K hy
  have HX := Lib.hid (And.intro r0 (And.intro r1 r2)); have HY := Lib.hid (And.intro s0 (And.intro s1 s2))
  have hb0 := r0.1; have hb1 := r1.1; have hb2 := r2.1
  clear hx hy r0 r1 r2 s0 s1 s2
  by_cases h0 : x.gs.length = y.gs.length
  rotate_left
  · have e0 : (x.gs.length != y.gs.length) = true := by simpa using h0
    have e0' : ((x.gs.length : Int) != y.gs.length) = true := by simp; omega
    have H0 := Lib.hid h0; clear h0
    go_enter Try.func21, Try.ntmps21
    go_wp2
    go_ret
    exact ⟨retF (fun h => H0.out (by rw [h])), bel⟩
  have e0 : (x.gs.length != y.gs.length) = false := by simpa using h0
  have e0' : ((x.gs.length : Int) != y.gs.length) = false := by simp [h0]
  have H0 := Lib.hid h0; clear h0
  by_cases h1 : x.chans.length = y.chans.length
  rotate_left
  · have e1 : (x.chans.length != y.chans.length) = true := by simpa using h1
    have e1' : ((x.chans.length : Int) != y.chans.length) = true := by simp; omega
    have H1 := Lib.hid h1; clear h1
    go_enter Try.func21, Try.ntmps21
    go_wp2
    go_ret
    exact ⟨retF (fun h => H1.out (by rw [h])), bel⟩
  have e1 : (x.chans.length != y.chans.length) = false := by simpa using h1
  have e1' : ((x.chans.length : Int) != y.chans.length) = false := by simp [h1]
  have H1 := Lib.hid h1; clear h1
  by_cases h2 : x.mus.length = y.mus.length
  rotate_left
  · have e2 : (x.mus.length != y.mus.length) = true := by simpa using h2
    have e2' : ((x.mus.length : Int) != y.mus.length) = true := by simp; omega
    have H2 := Lib.hid h2; clear h2
    go_enter Try.func21, Try.ntmps21
    go_wp2
    go_ret
    exact ⟨retF (fun h => H2.out (by rw [h])), bel⟩
  have e2 : (x.mus.length != y.mus.length) = false := by simpa using h2
  have e2' : ((x.mus.length : Int) != y.mus.length) = false := by simp [h2]
  have H2 := Lib.hid h2; clear h2
  go_enter Try.func21, Try.ntmps21
  go_wp2
  go_loopg [35] (x.gs.length + 1) (fun kq v35 w' => ∃ i : Nat, v35 = .int .i64 i ∧ i + kq = x.gs.length + 1 ∧ i ≤ x.gs.length ∧ Hid (∀ j, j < i → x.gs[j]? = y.gs[j]?) ∧ Below w.heap.size w w' ∧ w'.cell? ⟨w.heap.size, 0, none⟩ = some (.slice A0 x.gs.length c0) ∧ w'.cell? ⟨w.heap.size, 1, none⟩ = some (.slice A1 x.chans.length c1) ∧ w'.cell? ⟨w.heap.size, 2, none⟩ = some (.slice A2 x.mus.length c2) ∧ w'.cell? ⟨w.heap.size + 1, 0, none⟩ = some (.slice B0 y.gs.length d0) ∧ w'.cell? ⟨w.heap.size + 1, 1, none⟩ = some (.slice B1 y.chans.length d1) ∧ w'.cell? ⟨w.heap.size + 1, 2, none⟩ = some (.slice B2 y.mus.length d2))
  case atStart => exact ⟨0, rfl, by omega, by omega, Lib.hid fun j hj => absurd hj (by omega), bel, by go_simp, by go_simp, by go_simp, by go_simp, by go_simp, by go_simp⟩
  case round =>
    obtain ⟨i, rfl, hi, hi2, HP, hb, q0, q1, q2, q3, q4, q5⟩ := hrel
    obtain ⟨gk, rfl⟩ : ∃ m, gk = m + 1 := ⟨gk - 1, by omega⟩
    have z0 : w.heap.size < wr.heap.size := World.block_lt_of_cell? wr _ q0
    have z1 : w.heap.size + 1 < wr.heap.size := World.block_lt_of_cell? wr _ q3
    by_cases hlt : i < x.gs.length
    · have hlt' : i < y.gs.length := by have := H0.out; omega
      obtain ⟨b, o, P0, p0, P1, p1, rfl, g0, g1, g2, g3, g4, u0, t0, u1, t1⟩ := kGor_at (HX.out.1.below hb) hlt
      obtain ⟨b', o', Q0, s0, Q1, s1, rfl, k0, k1, k2, k3, k4, u0', t0', u1', t1'⟩ := kGor_at (HY.out.1.below hb) hlt'
      have HT := Lib.hid (And.intro t0 t1); have HT' := Lib.hid (And.intro t0' t1'); clear t0 t1 t0' t1'
      have zb : b < wr.heap.size := World.block_lt_of_cell? wr _ g0
      have zb' : b' < wr.heap.size := World.block_lt_of_cell? wr _ k0
      have hne : x.gs[i] ≠ y.gs[i] → ¬ (x = y) := fun h h2 => h (by simp only [h2])
      have HNE := Lib.hid hne; clear hne
      generalize hcx : x.gs[i] = cx at *
      generalize hcy : y.gs[i] = cy at *
      have HCX := Lib.hid hcx; have HCY := Lib.hid hcy; clear hcx hcy
      go_wp2_with fail
      go_still_tail 10, (by kernel_rfl)
      change wpList _ _ _ _ _ wr.drew
      go_wp2_with fail
      refine (l21Gor_calls cx cy [_, _, _, _, _] [_, _, _, _, _] _ (kGor_mk _ _ u0 (HT.out.1.below bel) u1 (HT.out.2.below bel)) (kGor_mk _ _ u0' (HT'.out.1.below bel) u1' (HT'.out.2.below bel))).mono ?_
      rintro e w1 ⟨rfl, hb1⟩
      have hk : Below wr.heap.size wr w1 := bstep (Below.refl _ _) hb1
      by_cases he : cx = cy
      · have hd : decide (cx = cy) = true := decide_eq_true he
        have He := Lib.hid he; clear he
        go_wp2
        go_roundg gk
        case measure => omega
        case rel => exact ⟨i + 1, by go_num, by omega, by omega, Lib.hid fun j hj => (by
          rcases Nat.lt_succ_iff_lt_or_eq.1 hj with h | rfl
          · exact HP.out j h
          · rw [List.getElem?_eq_getElem hlt, List.getElem?_eq_getElem hlt', HCX.out, HCY.out, He.out]), bvia hk hb, keepc hk q0, keepc hk q1, keepc hk q2, keepc hk q3, keepc hk q4, keepc hk q5⟩
      · have hd : decide (cx = cy) = false := decide_eq_false he
        have He := Lib.hid he; clear he
        go_wp2
        go_ret
        exact ⟨retF (HNE.out He.out), bvia hk hb⟩
    · have hi' : i = x.gs.length := by omega
      have hgs : x.gs = y.gs := take_eq H0.out (fun j hj => HP.out j (by omega))
      have HGS := Lib.hid hgs; clear hgs HP
      subst hi'
      obtain ⟨wo, rfl⟩ : ∃ wo : World, wo = wr := ⟨_, rfl⟩
      go_wp2
      go_loopg [54] (x.chans.length + 1) (fun kq v54 w' => ∃ i : Nat, v54 = .int .i64 i ∧ i + kq = x.chans.length + 1 ∧ i ≤ x.chans.length ∧ Hid (∀ j, j < i → (x.chans[j]?).map MChan.cap = (y.chans[j]?).map MChan.cap) ∧ Below wo.heap.size wo w' ∧ w'.cell? ⟨w.heap.size, 0, none⟩ = some (.slice A0 x.gs.length c0) ∧ w'.cell? ⟨w.heap.size, 1, none⟩ = some (.slice A1 x.chans.length c1) ∧ w'.cell? ⟨w.heap.size, 2, none⟩ = some (.slice A2 x.mus.length c2) ∧ w'.cell? ⟨w.heap.size + 1, 0, none⟩ = some (.slice B0 y.gs.length d0) ∧ w'.cell? ⟨w.heap.size + 1, 1, none⟩ = some (.slice B1 y.chans.length d1) ∧ w'.cell? ⟨w.heap.size + 1, 2, none⟩ = some (.slice B2 y.mus.length d2))
      case atStart => exact ⟨0, rfl, by omega, by omega, Lib.hid fun j hj => absurd hj (by omega), bel, q0, q1, q2, q3, q4, q5⟩
      case round =>
        clear q0 q1 q2 q3 q4 q5
        obtain ⟨i, rfl, hi3, hi4, HP, hb3, q0, q1, q2, q3, q4, q5⟩ := hrel
        obtain ⟨gk, rfl⟩ : ∃ m, gk = m + 1 := ⟨gk - 1, by omega⟩
        have hbw : Below w.heap.size w wr := bvia hb3 hb
        by_cases hlt : i < x.chans.length
        · have hlt' : i < y.chans.length := by have := H1.out; omega
          obtain ⟨b, o, P0, p0, P1, p1, P2, p2, rfl, g0, g1, g2, g3, g4, u0, t0, u1, t1, u2, t2⟩ := kChan_at (HX.out.2.1.below hbw) hlt
          obtain ⟨b', o', Q0, s0, Q1, s1, Q2, s2, rfl, k0, k1, k2, k3, k4, u0', t0', u1', t1', u2', t2'⟩ := kChan_at (HY.out.2.1.below hbw) hlt'
          have hne : x.chans[i].cap ≠ y.chans[i].cap → ¬ (x = y) := fun h h2 => h (by simp only [h2])
          have HNE := Lib.hid hne; clear hne t0 t1 t2 t0' t1' t2'
          generalize hcx : x.chans[i] = cx at *
          generalize hcy : y.chans[i] = cy at *
          have HCX := Lib.hid hcx; have HCY := Lib.hid hcy; clear hcx hcy
          by_cases he : cx.cap = cy.cap
          · have hd : (cx.cap != cy.cap) = false := by simpa using he
            have He := Lib.hid he; clear he
            go_wp2_with fail
            go_quiet (fail)
            go_wp2
            have hk : Below wr.heap.size wr (wr.drewN nq) := bel
            go_roundg gk
            case measure => omega
            case rel => exact ⟨i + 1, by go_num, by omega, by omega, Lib.hid fun j hj => (by
              rcases Nat.lt_succ_iff_lt_or_eq.1 hj with h | rfl
              · exact HP.out j h
              · rw [List.getElem?_eq_getElem hlt, List.getElem?_eq_getElem hlt', HCX.out, HCY.out]; simp [He.out]), bvia hk hb3, keepc hk q0, keepc hk q1, keepc hk q2, keepc hk q3, keepc hk q4, keepc hk q5⟩
          · have hd : (cx.cap != cy.cap) = true := by simpa using he
            have He := Lib.hid he; clear he
            go_wp2_with fail
            go_quiet (fail)
            go_wp2
            go_ret
            exact ⟨retF (HNE.out He.out), bel⟩
        · have hi' : i = x.chans.length := by omega
          subst hi'
          go_wp2_with fail
          refine (l21Objects_calls x y [_, _, _] [_, _, _] _ (kEng_mk _ _ l0 (HX.out.1.below hbw) l1 (HX.out.2.1.below hbw) l2 (HX.out.2.2.below hbw)) (kEng_mk _ _ m0 (HY.out.1.below hbw) m1 (HY.out.2.1.below hbw) m2 (HY.out.2.2.below hbw)) H1.out H2.out HP.out).mono ?_
          rintro e w1 ⟨rfl, hb1⟩
          have hde : decide (x.chans = y.chans ∧ x.mus = y.mus) = decide (x = y) := decide_eq_decide.2 ⟨fun h => MEng.ext HGS.out h.1 h.2, fun h => by rw [h]; exact ⟨rfl, rfl⟩⟩
          rw [hde]
          go_wp2
          go_ret
          exact ⟨rfl, bvia hb1 hbw⟩
end Go.Proofs.Ytebflbenchomoaa.Wd

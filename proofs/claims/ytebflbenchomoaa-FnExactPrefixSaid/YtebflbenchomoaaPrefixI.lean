/- Both Prefix functions tell whether each goroutine's trace begins another's. Conditions: the engines are of at most 1048576 values. -/
import Derived.Test.YtebflbenchomoaaPrefix
import Derived.Test.YtebflbenchomoaaSame
import Derived.Deep.RegionHeld3
namespace Go.Proofs.Ytebflbenchomoaa.Wd
open Go.RowKit
set_option linter.unusedVariables false
set_option linter.unusedSimpArgs false
set_option maxHeartbeats 2000000
set_option maxRecDepth 100000
theorem impl_Prefix_calls (x y : MEng) (cs ds : List Value) (w : World) (hx : kEng.K w x cs) (hy : kEng.K w y ds) (hc : cntEng x ≤ 1048576) (hd : cntEng y ≤ 1048576) :
    Calls Try.prog 13 #[.agg cs.toArray, .agg ds.toArray] w fun e w' => e = .returned (.bool (decide (preE x y))) ∧ Below w.heap.size w w' := by
  obtain ⟨A0, c0, A1, c1, A2, c2, rfl, l0, r0, l1, r1, l2, r2⟩ := kEng_K hx
  obtain ⟨B0, d0, B1, d1, B2, d2, rfl, m0, s0, m1, s1, m2, s2⟩ := kEng_K hy
  have HX := Lib.hid (And.intro r0 (And.intro r1 r2)); have HY := Lib.hid (And.intro s0 (And.intro s1 s2))
  clear hx hy r0 r1 r2 s0 s1 s2
  have hnx : x.gs.length ≤ 1048576 := by unfold cntEng at hc; omega
  have hny : y.gs.length ≤ 1048576 := by unfold cntEng at hd; omega
  by_cases hle : x.gs.length ≤ y.gs.length
  · have hg : decide (y.gs.length < x.gs.length) = false := by simp; omega
    go_enter Try.func13, Try.ntmps13
    go_wp2
    go_loopg [18] (x.gs.length + 1) (fun kq v18 w' => ∃ i : Nat, v18 = .int .i64 i ∧ i + kq = x.gs.length + 1 ∧ i ≤ x.gs.length ∧ Hid (∀ n, n < i → preAt x y n) ∧ Below w.heap.size w w' ∧ w'.cell? ⟨w.heap.size, 0, none⟩ = some (.slice A0 x.gs.length c0) ∧ w'.cell? ⟨w.heap.size, 1, none⟩ = some (.slice A1 x.chans.length c1) ∧ w'.cell? ⟨w.heap.size, 2, none⟩ = some (.slice A2 x.mus.length c2) ∧ w'.cell? ⟨w.heap.size + 1, 0, none⟩ = some (.slice B0 y.gs.length d0) ∧ w'.cell? ⟨w.heap.size + 1, 1, none⟩ = some (.slice B1 y.chans.length d1) ∧ w'.cell? ⟨w.heap.size + 1, 2, none⟩ = some (.slice B2 y.mus.length d2))
    case atStart => exact ⟨0, rfl, by omega, by omega, Lib.hid fun j hj => absurd hj (by omega), bel, by go_simp, by go_simp, by go_simp, by go_simp, by go_simp, by go_simp⟩
    case round =>
      obtain ⟨i, rfl, hi, hi2, HP, hb, q0, q1, q2, q3, q4, q5⟩ := hrel
      obtain ⟨gk, rfl⟩ : ∃ m, gk = m + 1 := ⟨gk - 1, by omega⟩
      by_cases hlt : i < x.gs.length
      · have z0 : w.heap.size < wr.heap.size := World.block_lt_of_cell? wr _ q0
        have z1 : w.heap.size + 1 < wr.heap.size := World.block_lt_of_cell? wr _ q3
        go_wp2_with fail
        go_region_held3 (fun w' => w'.cell? ⟨w.heap.size, 0, none⟩ = some (.slice A0 x.gs.length c0) ∧ w'.cell? ⟨w.heap.size, 1, none⟩ = some (.slice A1 x.chans.length c1) ∧ w'.cell? ⟨w.heap.size, 2, none⟩ = some (.slice A2 x.mus.length c2) ∧ w'.cell? ⟨w.heap.size + 1, 0, none⟩ = some (.slice B0 y.gs.length d0) ∧ w'.cell? ⟨w.heap.size + 1, 1, none⟩ = some (.slice B1 y.chans.length d1) ∧ w'.cell? ⟨w.heap.size + 1, 2, none⟩ = some (.slice B2 y.mus.length d2)) (first | (go_keep; done) | (go_split_ands; refine ⟨?_, ?_, ?_, ?_, ?_, ?_⟩ <;> first | exact keepc hb2 (by assumption) | exact keepc hb1 (by assumption)))
          (first
            | (go_at_call 43; (with_reducible refine (impl_TraceOf_calls x [_, _, _] i _ (kEng_mk _ _ l0 (HX.out.1.below bel) l1 (HX.out.2.1.below bel) l2 (HX.out.2.2.below bel)) hc (by omega)).mono ?_); rintro e w1 ⟨D1, e1, bs1, rfl, ho1, hf1, hb1⟩; have HO1 := Lib.hid ho1; have HF1 := Lib.hid hf1; clear ho1 hf1; obtain ⟨C1, F1⟩ := bcell hb1)
            | (go_at_call 43; (with_reducible refine (impl_TraceOf_calls y [_, _, _] i _ (kEng_mk _ _ m0 (HY.out.1.below bel) m1 (HY.out.2.1.below bel) m2 (HY.out.2.2.below bel)) hd (by omega)).mono ?_); rintro e w2 ⟨D2, e2, bs2, rfl, ho2, hf2, hb2⟩; have HO2 := Lib.hid ho2; have HF2 := Lib.hid hf2; clear ho2 hf2; obtain ⟨C2, F2⟩ := bcell hb2))
        obtain ⟨_, _, hv, hl1, hr1⟩ := HO1.out.row
        cases hv
        obtain ⟨_, _, hv, hl2, hr2⟩ := HO2.out.row
        cases hv
        have S1 := Lib.hid (hr1.below hb2); have S2 := Lib.hid hr2; clear hr1 hr2
        have hm1 := HO1.out.row
        generalize hX : traceOf x i = X at *
        generalize hY : traceOf y i = Y at *
        have HXX := Lib.hid hX; have HYY := Lib.hid hY; clear hX hY
        by_cases hll : X.length ≤ Y.length
        · have hg2 : decide (Y.length < X.length) = false := by simp; omega
          cases D2 with
          | none =>
            have hY0 : Y = [] := row_none S2.out
            subst hY0
            have hX0 : X = [] := List.eq_nil_of_length_eq_zero (by simpa using hll)
            subst hX0
            go_wp2_with fail
            refine (Equal_Item_calls (xs := []) (ys := []) _ (S1.out.below bel) (S2.out.below bel)).mono ?_
            rintro e w3 ⟨rfl, hb3⟩
            have hk : Below wr.heap.size wr w3 := bel
            go_wp2
            go_roundg gk
            case measure => omega
            case rel => exact ⟨i + 1, by go_num, by omega, by omega, Lib.hid fun j hj => (by
              rcases Nat.lt_succ_iff_lt_or_eq.1 hj with h | rfl
              · exact HP.out j h
              · unfold preAt; rw [HXX.out, HYY.out]; simp), bel, keepc hk q0, keepc hk q1, keepc hk q2, keepc hk q3, keepc hk q4, keepc hk q5⟩
          | some ad =>
            go_wp2_with fail
            refine (same_len (Equal_Item_calls (xs := X) (ys := Y.take X.length) _ (S1.out.below bel) (row_take (S2.out.below bel) _)) (by simp; omega)).mono ?_
            rintro e w3 ⟨rfl, hb3⟩
            have hk : Below wr.heap.size wr w3 := bel
            by_cases he : X = Y.take X.length
            · have hdd : decide (X = Y.take X.length) = true := decide_eq_true he
              have He := Lib.hid he; clear he
              go_wp2
              go_roundg gk
              case measure => omega
              case rel => exact ⟨i + 1, by go_num, by omega, by omega, Lib.hid fun j hj => (by
                rcases Nat.lt_succ_iff_lt_or_eq.1 hj with h | rfl
                · exact HP.out j h
                · unfold preAt; rw [HXX.out, HYY.out]; exact ⟨hll, He.out⟩), bel, keepc hk q0, keepc hk q1, keepc hk q2, keepc hk q3, keepc hk q4, keepc hk q5⟩
            · have hdd : decide (X = Y.take X.length) = false := decide_eq_false he
              have He := Lib.hid he; clear he
              go_wp2
              go_ret
              refine ⟨retF (fun h => ?_), bel⟩
              have := (h.2 i hlt).2
              rw [HXX.out, HYY.out] at this
              exact He.out this
        · have hg2 : decide (Y.length < X.length) = true := by simp; omega
          go_wp2
          go_ret
          refine ⟨retF (fun h => ?_), bel⟩
          have := (h.2 i hlt).1
          rw [HXX.out, HYY.out] at this
          omega
      · have hi' : i = x.gs.length := by omega
        have hP : preE x y := ⟨hle, fun n hn => HP.out n (by omega)⟩
        have HPP := Lib.hid hP; clear hP
        go_wp2
        go_ret
        exact ⟨retT HPP.out, bel⟩
  · have hg : decide (y.gs.length < x.gs.length) = true := by simp; omega
    have hP : ¬ preE x y := fun h => hle h.1
    have HPP := Lib.hid hP; clear hP
    go_enter Try.func13, Try.ntmps13
    go_wp2
    go_ret
    exact ⟨retF HPP.out, bel⟩
end Go.Proofs.Ytebflbenchomoaa.Wd

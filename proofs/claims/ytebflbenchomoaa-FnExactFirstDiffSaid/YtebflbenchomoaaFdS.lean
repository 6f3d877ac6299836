/- The reference's FirstDiff. Conditions: the engines are of at most 1048576 values. -/
import Derived.Test.YtebflbenchomoaaDiff
namespace Go.Proofs.Ytebflbenchomoaa.Wd
open Go.RowKit
set_option linter.unusedVariables false
set_option linter.unusedSimpArgs false
set_option maxHeartbeats 4000000
set_option maxRecDepth 100000
theorem spec_FirstDiff_calls (x y : MEng) (cs ds : List Value) (w : World) (hx : kEng.K w x cs) (hy : kEng.K w y ds) (hc : cntEng x ≤ 1048576) (hd : cntEng y ≤ 1048576) :
    Calls Try.prog 23 #[.agg cs.toArray, .agg ds.toArray] w fun e w' => e = .returned (.tuple #[.agg #[.int .i64 (firstDiff x y).1.g, .int .i64 (firstDiff x y).1.at_, .int .i64 (firstDiff x y).1.here.kind, .int .i64 (firstDiff x y).1.here.obj, .int .i64 (firstDiff x y).1.here.val, .bool (firstDiff x y).1.here.ok, .int .i64 (firstDiff x y).1.there.kind, .int .i64 (firstDiff x y).1.there.obj, .int .i64 (firstDiff x y).1.there.val, .bool (firstDiff x y).1.there.ok], .bool (firstDiff x y).2]) ∧ Below w.heap.size w w' := by
  obtain ⟨A0, c0, A1, c1, A2, c2, rfl, l0, r0, l1, r1, l2, r2⟩ := kEng_K hx
  obtain ⟨B0, d0, B1, d1, B2, d2, rfl, m0, s0, m1, s1, m2, s2⟩ := kEng_K hy
  have HX := Lib.hid (And.intro r0 (And.intro r1 r2)); have HY := Lib.hid (And.intro s0 (And.intro s1 s2))
  clear hx hy r0 r1 r2 s0 s1 s2
  have hnx : x.gs.length ≤ 1048576 := by unfold cntEng at hc; omega
  have hny : y.gs.length ≤ 1048576 := by unfold cntEng at hd; omega
  obtain ⟨N, hN⟩ : ∃ N, max x.gs.length y.gs.length = N := ⟨_, rfl⟩
  have hNb : N ≤ 1048576 := by omega
  have hF : firstDiff x y = fdFrom x y N 0 := by unfold firstDiff; rw [hN]
  have HF := Lib.hid hF; have HN := Lib.hid hN; clear hF hN
  go_enter Try.func23, Try.ntmps23
  go_wp2
  go_loopg [6] (N + 1) (fun kq v6 w' => ∃ i : Nat, v6 = .int .i64 i ∧ i + kq = N + 1 ∧ i ≤ N ∧ Hid (firstDiff x y = fdFrom x y (N - i) i) ∧ Below w.heap.size w w' ∧ w'.cell? ⟨w.heap.size, 0, none⟩ = some (.slice A0 x.gs.length c0) ∧ w'.cell? ⟨w.heap.size, 1, none⟩ = some (.slice A1 x.chans.length c1) ∧ w'.cell? ⟨w.heap.size, 2, none⟩ = some (.slice A2 x.mus.length c2) ∧ w'.cell? ⟨w.heap.size + 1, 0, none⟩ = some (.slice B0 y.gs.length d0) ∧ w'.cell? ⟨w.heap.size + 1, 1, none⟩ = some (.slice B1 y.chans.length d1) ∧ w'.cell? ⟨w.heap.size + 1, 2, none⟩ = some (.slice B2 y.mus.length d2) ∧ w'.heap[w.heap.size + 1 + 1]? = some (.cells #[.int .i64 0, .int .i64 0, .int .i64 0, .int .i64 0, .int .i64 0, .bool false, .int .i64 0, .int .i64 0, .int .i64 0, .bool false] 45 (0, 0)))
  case atStart => exact ⟨0, rfl, by omega, by omega, Lib.hid (by rw [Nat.sub_zero]; exact HF.out), bel, by go_simp, by go_simp, by go_simp, by go_simp, by go_simp, by go_simp, box3 _ _ _ _⟩
  case round =>
    clear HF
    obtain ⟨i, rfl, hi, hi2, HF, hb, q0, q1, q2, q3, q4, q5, hblk⟩ := hrel
    obtain ⟨ko, rfl⟩ : ∃ m, gk = m + 1 := ⟨gk - 1, by omega⟩
    have z0 : w.heap.size < wr.heap.size := World.block_lt_of_cell? wr _ q0
    have z1 : w.heap.size + 1 < wr.heap.size := World.block_lt_of_cell? wr _ q3
    have z2 : w.heap.size + 1 + 1 < wr.heap.size := (Array.getElem?_eq_some_iff.1 hblk).1
    obtain ⟨wo, rfl⟩ : ∃ wo : World, wo = wr := ⟨_, rfl⟩
    by_cases hlt : i < N
    rotate_left
    · have hi' : i = N := by omega
      subst hi'
      have hz : firstDiff x y = (⟨0, 0, ⟨0, 0, 0, false⟩, ⟨0, 0, 0, false⟩⟩, false) := by rw [HF.out, Nat.sub_self]; rfl
      have HZ := Lib.hid hz; clear hz
      have eb1 : decide (i < x.gs.length) = false := by have := HN.out; simp; omega
      have eb2 : decide (i < y.gs.length) = false := by have := HN.out; simp; omega
      have hblk2 : wo.heap[w.heap.size + 1 + 1]? = some (.cells #[.int .i64 0, .int .i64 0, .int .i64 0, .int .i64 0, .int .i64 0, .bool false, .int .i64 0, .int .i64 0, .int .i64 0, .bool false] 45 (0, 0)) := ((Below.refl wo.heap.size wo).block _ (by have := (Array.getElem?_eq_some_iff.1 hblk).1; omega)).trans hblk
      have t0 : wo.cell? ⟨w.heap.size + 1 + 1, 0, none⟩ = some (.int .i64 0) := (blk_cell hblk2 (by decide)).1
      have v0 : wo.frozen? ⟨w.heap.size + 1 + 1, 0, none⟩ = false := (blk_cell hblk2 (j := 0) (by decide)).2
      have t1 : wo.cell? ⟨w.heap.size + 1 + 1, 1, none⟩ = some (.int .i64 0) := (blk_cell hblk2 (by decide)).1
      have v1 : wo.frozen? ⟨w.heap.size + 1 + 1, 1, none⟩ = false := (blk_cell hblk2 (j := 1) (by decide)).2
      have t2 : wo.cell? ⟨w.heap.size + 1 + 1, 2, none⟩ = some (.int .i64 0) := (blk_cell hblk2 (by decide)).1
      have v2 : wo.frozen? ⟨w.heap.size + 1 + 1, 2, none⟩ = false := (blk_cell hblk2 (j := 2) (by decide)).2
      have t3 : wo.cell? ⟨w.heap.size + 1 + 1, 3, none⟩ = some (.int .i64 0) := (blk_cell hblk2 (by decide)).1
      have v3 : wo.frozen? ⟨w.heap.size + 1 + 1, 3, none⟩ = false := (blk_cell hblk2 (j := 3) (by decide)).2
      have t4 : wo.cell? ⟨w.heap.size + 1 + 1, 4, none⟩ = some (.int .i64 0) := (blk_cell hblk2 (by decide)).1
      have v4 : wo.frozen? ⟨w.heap.size + 1 + 1, 4, none⟩ = false := (blk_cell hblk2 (j := 4) (by decide)).2
      have t5 : wo.cell? ⟨w.heap.size + 1 + 1, 5, none⟩ = some (.bool false) := (blk_cell hblk2 (by decide)).1
      have v5 : wo.frozen? ⟨w.heap.size + 1 + 1, 5, none⟩ = false := (blk_cell hblk2 (j := 5) (by decide)).2
      have t6 : wo.cell? ⟨w.heap.size + 1 + 1, 6, none⟩ = some (.int .i64 0) := (blk_cell hblk2 (by decide)).1
      have v6 : wo.frozen? ⟨w.heap.size + 1 + 1, 6, none⟩ = false := (blk_cell hblk2 (j := 6) (by decide)).2
      have t7 : wo.cell? ⟨w.heap.size + 1 + 1, 7, none⟩ = some (.int .i64 0) := (blk_cell hblk2 (by decide)).1
      have v7 : wo.frozen? ⟨w.heap.size + 1 + 1, 7, none⟩ = false := (blk_cell hblk2 (j := 7) (by decide)).2
      have t8 : wo.cell? ⟨w.heap.size + 1 + 1, 8, none⟩ = some (.int .i64 0) := (blk_cell hblk2 (by decide)).1
      have v8 : wo.frozen? ⟨w.heap.size + 1 + 1, 8, none⟩ = false := (blk_cell hblk2 (j := 8) (by decide)).2
      have t9 : wo.cell? ⟨w.heap.size + 1 + 1, 9, none⟩ = some (.bool false) := (blk_cell hblk2 (by decide)).1
      have v9 : wo.frozen? ⟨w.heap.size + 1 + 1, 9, none⟩ = false := (blk_cell hblk2 (j := 9) (by decide)).2
      have zr : w.heap.size + 1 + 1 < wo.heap.size := World.block_lt_of_cell? _ _ t0
      clear hblk2
      clear hlt
      go_wp2
      rw [HZ.out]
      refine bodyPost_ret (v := .tuple #[.agg #[.int .i64 0, .int .i64 0, .int .i64 0, .int .i64 0, .int .i64 0, .bool false, .int .i64 0, .int .i64 0, .int .i64 0, .bool false], .bool false]) ?_ ?_ ?_
      · simp only [results, Try.results23]
        go_simp
      · rfl
      · exact ⟨rfl, by have := hb; exact bel⟩
    by_cases hbx : i < x.gs.length
    · have eb1 : decide (i < x.gs.length) = true := decide_eq_true hbx
      by_cases hby : i < y.gs.length
      · have eb2 : decide (i < y.gs.length) = true := decide_eq_true hby
        have Hb := Lib.hid (And.intro hbx hby); clear hbx hby
        go_wp2_with fail
        refine (spec_TraceOf_calls x [_, _, _] i _ (kEng_mk _ _ l0 (HX.out.1.below hb) l1 (HX.out.2.1.below hb) l2 (HX.out.2.2.below hb)) hc (by omega)).mono ?_
        rintro e w1 ⟨D1, e1, bs1, rfl, ho1, hf1, hb1⟩
        have HO1 := Lib.hid ho1; clear ho1 hf1
        obtain ⟨C1, F1⟩ := bcell hb1
        have y1 : wo.heap.size ≤ w1.heap.size := hb1.size
        go_wp2_with fail
        refine (spec_TraceOf_calls y [_, _, _] i _ (kEng_mk _ _ m0 (HY.out.1.below bel) m1 (HY.out.2.1.below bel) m2 (HY.out.2.2.below bel)) hd (by omega)).mono ?_
        rintro e w2 ⟨D2, e2, bs2, rfl, ho2, hf2, hb2⟩
        have HO2 := Lib.hid ho2; clear ho2 hf2
        have hk2 : Below wo.heap.size wo w2 := bel
        have S1 := Lib.hid ((row_of HO1.out).2.below hb2); have S2 := Lib.hid (row_of HO2.out).2
        have p0 := keepc hk2 q0; have p1 := keepc hk2 q1; have p2 := keepc hk2 q2; have p3 := keepc hk2 q3; have p4 := keepc hk2 q4; have p5 := keepc hk2 q5
        have zp0 : w.heap.size < w2.heap.size := World.block_lt_of_cell? _ _ p0; have zp1 : w.heap.size + 1 < w2.heap.size := World.block_lt_of_cell? _ _ p3
        generalize hX : traceOf x i = X at *
        generalize hY : traceOf y i = Y at *
        have hXb : X.length ≤ 1048576 := by rw [← hX]; exact traceOf_bd hc i
        have hYb : Y.length ≤ 1048576 := by rw [← hY]; exact traceOf_bd hd i
        obtain ⟨km, hkm⟩ : ∃ km, N - i = km + 1 := ⟨N - i - 1, by omega⟩
        have hstep : firstDiff x y = (match diffAt x y i with | some d => (d, true) | none => fdFrom x y km (i + 1)) := by rw [HF.out, hkm]; rfl
        have hDA : diffAt x y i = if i < x.gs.length ∧ i < y.gs.length ∧ X = Y then none else some ⟨i, cpl X Y, itemAt X (cpl X Y), itemAt Y (cpl X Y)⟩ := by unfold diffAt; rw [hX, hY]
        have hnone : i < x.gs.length ∧ i < y.gs.length ∧ X = Y → firstDiff x y = fdFrom x y (N - (i + 1)) (i + 1) := fun h => by
          rw [hstep, hDA, if_pos h, show N - (i + 1) = km by omega]
        have hsome : ∀ k, ¬ (i < x.gs.length ∧ i < y.gs.length ∧ X = Y) → cpl X Y = k → firstDiff x y = (⟨i, k, itemAt X k, itemAt Y k⟩, true) := fun k h hk => by
          rw [hstep, hDA, if_neg h, hk]
        have hXo : ¬ i < x.gs.length → X = [] := fun h => by rw [← hX]; exact traceOf_out h
        have hYo : ¬ i < y.gs.length → Y = [] := fun h => by rw [← hY]; exact traceOf_out h
        have HNONE := Lib.hid hnone; have HSOME := Lib.hid hsome; have HXO := Lib.hid hXo; have HYO := Lib.hid hYo; clear hnone hsome hstep hDA hX hY hXo hYo
        go_wp2_with fail
        refine (l14Same_calls _ (S1.out.below bel) (S2.out.below bel)).mono ?_
        rintro e w3 ⟨rfl, hb3⟩
        have hk3 : Below wo.heap.size wo w3 := bel
        by_cases hs : X = Y
        · have hs2 : decide (X = Y) = true := decide_eq_true hs
          have HR := Lib.hid (HNONE.out ⟨Hb.out.1, Hb.out.2, hs⟩)
          clear hs
          have p0 := keepc hk3 q0; have p3 := keepc hk3 q3
          go_wp2
          go_roundg ko
          case measure => omega
          case rel => exact ⟨i + 1, by go_num, by omega, by omega, HR, bvia hk3 hb, keepc hk3 q0, keepc hk3 q1, keepc hk3 q2, keepc hk3 q3, keepc hk3 q4, keepc hk3 q5, (hk3.block _ (by omega)).trans hblk⟩
        · have hs2 : decide (X = Y) = false := decide_eq_false hs
          have Hs := Lib.hid hs; clear hs
          have S3 := Lib.hid (S1.out.below hb3); have S4 := Lib.hid (S2.out.below hb3)
          go_wp2
          go_loopg [10] (X.length + 1) (fun kq v10 w' => ∃ k : Nat, v10 = .int .i64 k ∧ k + kq = X.length + 1 ∧ k ≤ X.length ∧ k ≤ Y.length ∧ Hid (∀ j, j < k → X[j]? = Y[j]?) ∧ Below w3.heap.size w3 w')
          case atStart => exact ⟨0, rfl, by omega, by omega, by omega, Lib.hid fun j hj => absurd hj (by omega), bel⟩
          case round =>
            obtain ⟨k, rfl, hk, hkX, hkY, HP, hb4⟩ := hrel
            obtain ⟨gk, rfl⟩ : ∃ m, gk = m + 1 := ⟨gk - 1, by omega⟩
            have hk4 : Below wo.heap.size wo wr := bel
            by_cases h1 : k < X.length
            rotate_left
            · have e1 : decide (k < X.length) = false := decide_eq_false h1
              have HSTOP := Lib.hid (fun h : k < X.length ∧ k < Y.length ∧ X[k]? = Y[k]? => h1 h.1)
              have HR := Lib.hid (HSOME.out k (fun h => Hs.out h.2.2) (cpl_of k X Y HP.out hkX hkY HSTOP.out))
              have S1 := Lib.hid (S3.out.below hb4); have S2 := Lib.hid (S4.out.below hb4)
              go_wp2_with fail
              go_quiet (fail)
              have hk5 : Below wo.heap.size wo (wr.drewN nq) := bel
              go_wp2_with fail
              refine (item_calls_spec _ k _ (S1.out.below bel) (by omega)).mono ?_
              rintro e wa ⟨rfl, hba⟩
              go_wp2_with fail
              refine (item_calls_spec _ k _ (S2.out.below bel) (by omega)).mono ?_
              rintro e wb ⟨rfl, hbb⟩
              have hkb : Below wo.heap.size wo wb := bel
              have hblk2 : wb.heap[w.heap.size + 1 + 1]? = some (.cells #[.int .i64 0, .int .i64 0, .int .i64 0, .int .i64 0, .int .i64 0, .bool false, .int .i64 0, .int .i64 0, .int .i64 0, .bool false] 45 (0, 0)) := (hkb.block _ (by have := (Array.getElem?_eq_some_iff.1 hblk).1; omega)).trans hblk
              have t0 : wb.cell? ⟨w.heap.size + 1 + 1, 0, none⟩ = some (.int .i64 0) := (blk_cell hblk2 (by decide)).1
              have v0 : wb.frozen? ⟨w.heap.size + 1 + 1, 0, none⟩ = false := (blk_cell hblk2 (j := 0) (by decide)).2
              have t1 : wb.cell? ⟨w.heap.size + 1 + 1, 1, none⟩ = some (.int .i64 0) := (blk_cell hblk2 (by decide)).1
              have v1 : wb.frozen? ⟨w.heap.size + 1 + 1, 1, none⟩ = false := (blk_cell hblk2 (j := 1) (by decide)).2
              have t2 : wb.cell? ⟨w.heap.size + 1 + 1, 2, none⟩ = some (.int .i64 0) := (blk_cell hblk2 (by decide)).1
              have v2 : wb.frozen? ⟨w.heap.size + 1 + 1, 2, none⟩ = false := (blk_cell hblk2 (j := 2) (by decide)).2
              have t3 : wb.cell? ⟨w.heap.size + 1 + 1, 3, none⟩ = some (.int .i64 0) := (blk_cell hblk2 (by decide)).1
              have v3 : wb.frozen? ⟨w.heap.size + 1 + 1, 3, none⟩ = false := (blk_cell hblk2 (j := 3) (by decide)).2
              have t4 : wb.cell? ⟨w.heap.size + 1 + 1, 4, none⟩ = some (.int .i64 0) := (blk_cell hblk2 (by decide)).1
              have v4 : wb.frozen? ⟨w.heap.size + 1 + 1, 4, none⟩ = false := (blk_cell hblk2 (j := 4) (by decide)).2
              have t5 : wb.cell? ⟨w.heap.size + 1 + 1, 5, none⟩ = some (.bool false) := (blk_cell hblk2 (by decide)).1
              have v5 : wb.frozen? ⟨w.heap.size + 1 + 1, 5, none⟩ = false := (blk_cell hblk2 (j := 5) (by decide)).2
              have t6 : wb.cell? ⟨w.heap.size + 1 + 1, 6, none⟩ = some (.int .i64 0) := (blk_cell hblk2 (by decide)).1
              have v6 : wb.frozen? ⟨w.heap.size + 1 + 1, 6, none⟩ = false := (blk_cell hblk2 (j := 6) (by decide)).2
              have t7 : wb.cell? ⟨w.heap.size + 1 + 1, 7, none⟩ = some (.int .i64 0) := (blk_cell hblk2 (by decide)).1
              have v7 : wb.frozen? ⟨w.heap.size + 1 + 1, 7, none⟩ = false := (blk_cell hblk2 (j := 7) (by decide)).2
              have t8 : wb.cell? ⟨w.heap.size + 1 + 1, 8, none⟩ = some (.int .i64 0) := (blk_cell hblk2 (by decide)).1
              have v8 : wb.frozen? ⟨w.heap.size + 1 + 1, 8, none⟩ = false := (blk_cell hblk2 (j := 8) (by decide)).2
              have t9 : wb.cell? ⟨w.heap.size + 1 + 1, 9, none⟩ = some (.bool false) := (blk_cell hblk2 (by decide)).1
              have v9 : wb.frozen? ⟨w.heap.size + 1 + 1, 9, none⟩ = false := (blk_cell hblk2 (j := 9) (by decide)).2
              have zr : w.heap.size + 1 + 1 < wb.heap.size := World.block_lt_of_cell? _ _ t0
              clear hblk2
              go_wp2
              rw [HR.out]
              refine bodyPost_ret (v := .tuple #[.agg #[.int .i64 i, .int .i64 k, .int .i64 (itemAt X k).kind, .int .i64 (itemAt X k).obj, .int .i64 (itemAt X k).val, .bool (itemAt X k).ok, .int .i64 (itemAt Y k).kind, .int .i64 (itemAt Y k).obj, .int .i64 (itemAt Y k).val, .bool (itemAt Y k).ok], .bool true]) ?_ ?_ ?_
              · simp only [results, Try.results23]
                go_simp
              · rfl
              · exact ⟨rfl, by have := bvia hkb hb; exact bel⟩
            have e1 : decide (k < X.length) = true := decide_eq_true h1
            by_cases h2 : k < Y.length
            rotate_left
            · have e2 : decide (k < Y.length) = false := decide_eq_false h2
              have HSTOP := Lib.hid (fun h : k < X.length ∧ k < Y.length ∧ X[k]? = Y[k]? => h2 h.2.1)
              have HR := Lib.hid (HSOME.out k (fun h => Hs.out h.2.2) (cpl_of k X Y HP.out hkX hkY HSTOP.out))
              have S1 := Lib.hid (S3.out.below hb4); have S2 := Lib.hid (S4.out.below hb4)
              go_wp2_with fail
              go_quiet (fail)
              have hk5 : Below wo.heap.size wo (wr.drewN nq) := bel
              go_wp2_with fail
              refine (item_calls_spec _ k _ (S1.out.below bel) (by omega)).mono ?_
              rintro e wa ⟨rfl, hba⟩
              go_wp2_with fail
              refine (item_calls_spec _ k _ (S2.out.below bel) (by omega)).mono ?_
              rintro e wb ⟨rfl, hbb⟩
              have hkb : Below wo.heap.size wo wb := bel
              have hblk2 : wb.heap[w.heap.size + 1 + 1]? = some (.cells #[.int .i64 0, .int .i64 0, .int .i64 0, .int .i64 0, .int .i64 0, .bool false, .int .i64 0, .int .i64 0, .int .i64 0, .bool false] 45 (0, 0)) := (hkb.block _ (by have := (Array.getElem?_eq_some_iff.1 hblk).1; omega)).trans hblk
              have t0 : wb.cell? ⟨w.heap.size + 1 + 1, 0, none⟩ = some (.int .i64 0) := (blk_cell hblk2 (by decide)).1
              have v0 : wb.frozen? ⟨w.heap.size + 1 + 1, 0, none⟩ = false := (blk_cell hblk2 (j := 0) (by decide)).2
              have t1 : wb.cell? ⟨w.heap.size + 1 + 1, 1, none⟩ = some (.int .i64 0) := (blk_cell hblk2 (by decide)).1
              have v1 : wb.frozen? ⟨w.heap.size + 1 + 1, 1, none⟩ = false := (blk_cell hblk2 (j := 1) (by decide)).2
              have t2 : wb.cell? ⟨w.heap.size + 1 + 1, 2, none⟩ = some (.int .i64 0) := (blk_cell hblk2 (by decide)).1
              have v2 : wb.frozen? ⟨w.heap.size + 1 + 1, 2, none⟩ = false := (blk_cell hblk2 (j := 2) (by decide)).2
              have t3 : wb.cell? ⟨w.heap.size + 1 + 1, 3, none⟩ = some (.int .i64 0) := (blk_cell hblk2 (by decide)).1
              have v3 : wb.frozen? ⟨w.heap.size + 1 + 1, 3, none⟩ = false := (blk_cell hblk2 (j := 3) (by decide)).2
              have t4 : wb.cell? ⟨w.heap.size + 1 + 1, 4, none⟩ = some (.int .i64 0) := (blk_cell hblk2 (by decide)).1
              have v4 : wb.frozen? ⟨w.heap.size + 1 + 1, 4, none⟩ = false := (blk_cell hblk2 (j := 4) (by decide)).2
              have t5 : wb.cell? ⟨w.heap.size + 1 + 1, 5, none⟩ = some (.bool false) := (blk_cell hblk2 (by decide)).1
              have v5 : wb.frozen? ⟨w.heap.size + 1 + 1, 5, none⟩ = false := (blk_cell hblk2 (j := 5) (by decide)).2
              have t6 : wb.cell? ⟨w.heap.size + 1 + 1, 6, none⟩ = some (.int .i64 0) := (blk_cell hblk2 (by decide)).1
              have v6 : wb.frozen? ⟨w.heap.size + 1 + 1, 6, none⟩ = false := (blk_cell hblk2 (j := 6) (by decide)).2
              have t7 : wb.cell? ⟨w.heap.size + 1 + 1, 7, none⟩ = some (.int .i64 0) := (blk_cell hblk2 (by decide)).1
              have v7 : wb.frozen? ⟨w.heap.size + 1 + 1, 7, none⟩ = false := (blk_cell hblk2 (j := 7) (by decide)).2
              have t8 : wb.cell? ⟨w.heap.size + 1 + 1, 8, none⟩ = some (.int .i64 0) := (blk_cell hblk2 (by decide)).1
              have v8 : wb.frozen? ⟨w.heap.size + 1 + 1, 8, none⟩ = false := (blk_cell hblk2 (j := 8) (by decide)).2
              have t9 : wb.cell? ⟨w.heap.size + 1 + 1, 9, none⟩ = some (.bool false) := (blk_cell hblk2 (by decide)).1
              have v9 : wb.frozen? ⟨w.heap.size + 1 + 1, 9, none⟩ = false := (blk_cell hblk2 (j := 9) (by decide)).2
              have zr : w.heap.size + 1 + 1 < wb.heap.size := World.block_lt_of_cell? _ _ t0
              clear hblk2
              go_wp2
              rw [HR.out]
              refine bodyPost_ret (v := .tuple #[.agg #[.int .i64 i, .int .i64 k, .int .i64 (itemAt X k).kind, .int .i64 (itemAt X k).obj, .int .i64 (itemAt X k).val, .bool (itemAt X k).ok, .int .i64 (itemAt Y k).kind, .int .i64 (itemAt Y k).obj, .int .i64 (itemAt Y k).val, .bool (itemAt Y k).ok], .bool true]) ?_ ?_ ?_
              · simp only [results, Try.results23]
                go_simp
              · rfl
              · exact ⟨rfl, by have := bvia hkb hb; exact bel⟩
            have e2 : decide (k < Y.length) = true := decide_eq_true h2
            obtain ⟨b, o, rfl, g0, g1, g2, g3⟩ := kItem_at (S3.out.below hb4) h1
            obtain ⟨b', o', rfl, k0, k1, k2, k3⟩ := kItem_at (S4.out.below hb4) h2
            by_cases he : X[k] = Y[k]
            · have e3 : sameItem X[k].kind X[k].obj X[k].val X[k].ok Y[k].kind Y[k].obj Y[k].val Y[k].ok = true := by rw [sameItem_eq]; exact decide_eq_true he
              have He := Lib.hid he; clear he
              go_wp2_with fail
              go_quiet (fail)
              go_wp2
              go_roundg gk
              case measure => omega
              case rel => exact ⟨k + 1, by go_num, by omega, by omega, by omega, Lib.hid fun j hj => (by
                rcases Nat.lt_succ_iff_lt_or_eq.1 hj with h | rfl
                · exact HP.out j h
                · rw [List.getElem?_eq_getElem h1, List.getElem?_eq_getElem h2, He.out]), bdrewN hb4 _⟩
            · have e3 : sameItem X[k].kind X[k].obj X[k].val X[k].ok Y[k].kind Y[k].obj Y[k].val Y[k].ok = false := by rw [sameItem_eq]; exact decide_eq_false he
              have HSTOP := Lib.hid (fun h : k < X.length ∧ k < Y.length ∧ X[k]? = Y[k]? => by have := h.2.2; rw [List.getElem?_eq_getElem h1, List.getElem?_eq_getElem h2] at this; exact he (by simpa using this))
              clear he
              have HR := Lib.hid (HSOME.out k (fun h => Hs.out h.2.2) (cpl_of k X Y HP.out hkX hkY HSTOP.out))
              have S1 := Lib.hid (S3.out.below hb4); have S2 := Lib.hid (S4.out.below hb4)
              go_wp2_with fail
              go_quiet (fail)
              have hk5 : Below wo.heap.size wo (wr.drewN nq) := bel
              go_wp2_with fail
              refine (item_calls_spec _ k _ (S1.out.below bel) (by omega)).mono ?_
              rintro e wa ⟨rfl, hba⟩
              go_wp2_with fail
              refine (item_calls_spec _ k _ (S2.out.below bel) (by omega)).mono ?_
              rintro e wb ⟨rfl, hbb⟩
              have hkb : Below wo.heap.size wo wb := bel
              have hblk2 : wb.heap[w.heap.size + 1 + 1]? = some (.cells #[.int .i64 0, .int .i64 0, .int .i64 0, .int .i64 0, .int .i64 0, .bool false, .int .i64 0, .int .i64 0, .int .i64 0, .bool false] 45 (0, 0)) := (hkb.block _ (by have := (Array.getElem?_eq_some_iff.1 hblk).1; omega)).trans hblk
              have t0 : wb.cell? ⟨w.heap.size + 1 + 1, 0, none⟩ = some (.int .i64 0) := (blk_cell hblk2 (by decide)).1
              have v0 : wb.frozen? ⟨w.heap.size + 1 + 1, 0, none⟩ = false := (blk_cell hblk2 (j := 0) (by decide)).2
              have t1 : wb.cell? ⟨w.heap.size + 1 + 1, 1, none⟩ = some (.int .i64 0) := (blk_cell hblk2 (by decide)).1
              have v1 : wb.frozen? ⟨w.heap.size + 1 + 1, 1, none⟩ = false := (blk_cell hblk2 (j := 1) (by decide)).2
              have t2 : wb.cell? ⟨w.heap.size + 1 + 1, 2, none⟩ = some (.int .i64 0) := (blk_cell hblk2 (by decide)).1
              have v2 : wb.frozen? ⟨w.heap.size + 1 + 1, 2, none⟩ = false := (blk_cell hblk2 (j := 2) (by decide)).2
              have t3 : wb.cell? ⟨w.heap.size + 1 + 1, 3, none⟩ = some (.int .i64 0) := (blk_cell hblk2 (by decide)).1
              have v3 : wb.frozen? ⟨w.heap.size + 1 + 1, 3, none⟩ = false := (blk_cell hblk2 (j := 3) (by decide)).2
              have t4 : wb.cell? ⟨w.heap.size + 1 + 1, 4, none⟩ = some (.int .i64 0) := (blk_cell hblk2 (by decide)).1
              have v4 : wb.frozen? ⟨w.heap.size + 1 + 1, 4, none⟩ = false := (blk_cell hblk2 (j := 4) (by decide)).2
              have t5 : wb.cell? ⟨w.heap.size + 1 + 1, 5, none⟩ = some (.bool false) := (blk_cell hblk2 (by decide)).1
              have v5 : wb.frozen? ⟨w.heap.size + 1 + 1, 5, none⟩ = false := (blk_cell hblk2 (j := 5) (by decide)).2
              have t6 : wb.cell? ⟨w.heap.size + 1 + 1, 6, none⟩ = some (.int .i64 0) := (blk_cell hblk2 (by decide)).1
              have v6 : wb.frozen? ⟨w.heap.size + 1 + 1, 6, none⟩ = false := (blk_cell hblk2 (j := 6) (by decide)).2
              have t7 : wb.cell? ⟨w.heap.size + 1 + 1, 7, none⟩ = some (.int .i64 0) := (blk_cell hblk2 (by decide)).1
              have v7 : wb.frozen? ⟨w.heap.size + 1 + 1, 7, none⟩ = false := (blk_cell hblk2 (j := 7) (by decide)).2
              have t8 : wb.cell? ⟨w.heap.size + 1 + 1, 8, none⟩ = some (.int .i64 0) := (blk_cell hblk2 (by decide)).1
              have v8 : wb.frozen? ⟨w.heap.size + 1 + 1, 8, none⟩ = false := (blk_cell hblk2 (j := 8) (by decide)).2
              have t9 : wb.cell? ⟨w.heap.size + 1 + 1, 9, none⟩ = some (.bool false) := (blk_cell hblk2 (by decide)).1
              have v9 : wb.frozen? ⟨w.heap.size + 1 + 1, 9, none⟩ = false := (blk_cell hblk2 (j := 9) (by decide)).2
              have zr : w.heap.size + 1 + 1 < wb.heap.size := World.block_lt_of_cell? _ _ t0
              clear hblk2
              go_wp2
              rw [HR.out]
              refine bodyPost_ret (v := .tuple #[.agg #[.int .i64 i, .int .i64 k, .int .i64 (itemAt X k).kind, .int .i64 (itemAt X k).obj, .int .i64 (itemAt X k).val, .bool (itemAt X k).ok, .int .i64 (itemAt Y k).kind, .int .i64 (itemAt Y k).obj, .int .i64 (itemAt Y k).val, .bool (itemAt Y k).ok], .bool true]) ?_ ?_ ?_
              · simp only [results, Try.results23]
                go_simp
              · rfl
              · exact ⟨rfl, by have := bvia hkb hb; exact bel⟩
      · have eb2 : decide (i < y.gs.length) = false := decide_eq_false hby
        have Hn : Hid (¬ (i < x.gs.length ∧ i < y.gs.length)) := Lib.hid (fun h => hby h.2)
        clear hbx hby
        go_wp2_with fail
        refine (spec_TraceOf_calls x [_, _, _] i _ (kEng_mk _ _ l0 (HX.out.1.below hb) l1 (HX.out.2.1.below hb) l2 (HX.out.2.2.below hb)) hc (by omega)).mono ?_
        rintro e w1 ⟨D1, e1, bs1, rfl, ho1, hf1, hb1⟩
        have HO1 := Lib.hid ho1; clear ho1 hf1
        obtain ⟨C1, F1⟩ := bcell hb1
        have y1 : wo.heap.size ≤ w1.heap.size := hb1.size
        go_wp2_with fail
        refine (spec_TraceOf_calls y [_, _, _] i _ (kEng_mk _ _ m0 (HY.out.1.below bel) m1 (HY.out.2.1.below bel) m2 (HY.out.2.2.below bel)) hd (by omega)).mono ?_
        rintro e w2 ⟨D2, e2, bs2, rfl, ho2, hf2, hb2⟩
        have HO2 := Lib.hid ho2; clear ho2 hf2
        have hk2 : Below wo.heap.size wo w2 := bel
        have S1 := Lib.hid ((row_of HO1.out).2.below hb2); have S2 := Lib.hid (row_of HO2.out).2
        have p0 := keepc hk2 q0; have p1 := keepc hk2 q1; have p2 := keepc hk2 q2; have p3 := keepc hk2 q3; have p4 := keepc hk2 q4; have p5 := keepc hk2 q5
        have zp0 : w.heap.size < w2.heap.size := World.block_lt_of_cell? _ _ p0; have zp1 : w.heap.size + 1 < w2.heap.size := World.block_lt_of_cell? _ _ p3
        generalize hX : traceOf x i = X at *
        generalize hY : traceOf y i = Y at *
        have hXb : X.length ≤ 1048576 := by rw [← hX]; exact traceOf_bd hc i
        have hYb : Y.length ≤ 1048576 := by rw [← hY]; exact traceOf_bd hd i
        obtain ⟨km, hkm⟩ : ∃ km, N - i = km + 1 := ⟨N - i - 1, by omega⟩
        have hstep : firstDiff x y = (match diffAt x y i with | some d => (d, true) | none => fdFrom x y km (i + 1)) := by rw [HF.out, hkm]; rfl
        have hDA : diffAt x y i = if i < x.gs.length ∧ i < y.gs.length ∧ X = Y then none else some ⟨i, cpl X Y, itemAt X (cpl X Y), itemAt Y (cpl X Y)⟩ := by unfold diffAt; rw [hX, hY]
        have hnone : i < x.gs.length ∧ i < y.gs.length ∧ X = Y → firstDiff x y = fdFrom x y (N - (i + 1)) (i + 1) := fun h => by
          rw [hstep, hDA, if_pos h, show N - (i + 1) = km by omega]
        have hsome : ∀ k, ¬ (i < x.gs.length ∧ i < y.gs.length ∧ X = Y) → cpl X Y = k → firstDiff x y = (⟨i, k, itemAt X k, itemAt Y k⟩, true) := fun k h hk => by
          rw [hstep, hDA, if_neg h, hk]
        have hXo : ¬ i < x.gs.length → X = [] := fun h => by rw [← hX]; exact traceOf_out h
        have hYo : ¬ i < y.gs.length → Y = [] := fun h => by rw [← hY]; exact traceOf_out h
        have HNONE := Lib.hid hnone; have HSOME := Lib.hid hsome; have HXO := Lib.hid hXo; have HYO := Lib.hid hYo; clear hnone hsome hstep hDA hX hY hXo hYo
        have hXY : X = [] ∨ Y = [] := by
          by_cases h : i < x.gs.length
          · exact .inr (HYO.out (fun h2 => Hn.out ⟨h, h2⟩))
          · exact .inl (HXO.out h)
        have HR0 := Lib.hid (HSOME.out 0 (fun h => Hn.out ⟨h.1, h.2.1⟩) (by rcases hXY with h | h <;> rw [h] <;> cases X <;> simp [cpl]))
        clear hXY
        go_wp2
        go_loopg [10] 1 (fun kq v10 w' => ∃ k : Nat, v10 = .int .i64 k ∧ k = 0 ∧ kq = 1 ∧ Below w2.heap.size w2 w')
        case atStart => exact ⟨0, rfl, rfl, rfl, bel⟩
        case round =>
          obtain ⟨k, rfl, hk0, hk, hb4⟩ := hrel
          have HR : Hid (firstDiff x y = (⟨i, k, itemAt X k, itemAt Y k⟩, true)) := Lib.hid (by rw [hk0]; exact HR0.out)
          have hkb : k ≤ 1048576 := by omega
          have hk4 : Below wo.heap.size wo wr := bvia hb4 hk2
          have S1 := Lib.hid (S1.out.below hb4); have S2 := Lib.hid (S2.out.below hb4)
          clear hk0
          go_wp2_with fail
          go_quiet (fail)
          have hk5 : Below wo.heap.size wo (wr.drewN nq) := bel
          go_wp2_with fail
          refine (item_calls_spec _ k _ (S1.out.below bel) (by omega)).mono ?_
          rintro e wa ⟨rfl, hba⟩
          go_wp2_with fail
          refine (item_calls_spec _ k _ (S2.out.below bel) (by omega)).mono ?_
          rintro e wb ⟨rfl, hbb⟩
          have hkb : Below wo.heap.size wo wb := bel
          have hblk2 : wb.heap[w.heap.size + 1 + 1]? = some (.cells #[.int .i64 0, .int .i64 0, .int .i64 0, .int .i64 0, .int .i64 0, .bool false, .int .i64 0, .int .i64 0, .int .i64 0, .bool false] 45 (0, 0)) := (hkb.block _ (by have := (Array.getElem?_eq_some_iff.1 hblk).1; omega)).trans hblk
          have t0 : wb.cell? ⟨w.heap.size + 1 + 1, 0, none⟩ = some (.int .i64 0) := (blk_cell hblk2 (by decide)).1
          have v0 : wb.frozen? ⟨w.heap.size + 1 + 1, 0, none⟩ = false := (blk_cell hblk2 (j := 0) (by decide)).2
          have t1 : wb.cell? ⟨w.heap.size + 1 + 1, 1, none⟩ = some (.int .i64 0) := (blk_cell hblk2 (by decide)).1
          have v1 : wb.frozen? ⟨w.heap.size + 1 + 1, 1, none⟩ = false := (blk_cell hblk2 (j := 1) (by decide)).2
          have t2 : wb.cell? ⟨w.heap.size + 1 + 1, 2, none⟩ = some (.int .i64 0) := (blk_cell hblk2 (by decide)).1
          have v2 : wb.frozen? ⟨w.heap.size + 1 + 1, 2, none⟩ = false := (blk_cell hblk2 (j := 2) (by decide)).2
          have t3 : wb.cell? ⟨w.heap.size + 1 + 1, 3, none⟩ = some (.int .i64 0) := (blk_cell hblk2 (by decide)).1
          have v3 : wb.frozen? ⟨w.heap.size + 1 + 1, 3, none⟩ = false := (blk_cell hblk2 (j := 3) (by decide)).2
          have t4 : wb.cell? ⟨w.heap.size + 1 + 1, 4, none⟩ = some (.int .i64 0) := (blk_cell hblk2 (by decide)).1
          have v4 : wb.frozen? ⟨w.heap.size + 1 + 1, 4, none⟩ = false := (blk_cell hblk2 (j := 4) (by decide)).2
          have t5 : wb.cell? ⟨w.heap.size + 1 + 1, 5, none⟩ = some (.bool false) := (blk_cell hblk2 (by decide)).1
          have v5 : wb.frozen? ⟨w.heap.size + 1 + 1, 5, none⟩ = false := (blk_cell hblk2 (j := 5) (by decide)).2
          have t6 : wb.cell? ⟨w.heap.size + 1 + 1, 6, none⟩ = some (.int .i64 0) := (blk_cell hblk2 (by decide)).1
          have v6 : wb.frozen? ⟨w.heap.size + 1 + 1, 6, none⟩ = false := (blk_cell hblk2 (j := 6) (by decide)).2
          have t7 : wb.cell? ⟨w.heap.size + 1 + 1, 7, none⟩ = some (.int .i64 0) := (blk_cell hblk2 (by decide)).1
          have v7 : wb.frozen? ⟨w.heap.size + 1 + 1, 7, none⟩ = false := (blk_cell hblk2 (j := 7) (by decide)).2
          have t8 : wb.cell? ⟨w.heap.size + 1 + 1, 8, none⟩ = some (.int .i64 0) := (blk_cell hblk2 (by decide)).1
          have v8 : wb.frozen? ⟨w.heap.size + 1 + 1, 8, none⟩ = false := (blk_cell hblk2 (j := 8) (by decide)).2
          have t9 : wb.cell? ⟨w.heap.size + 1 + 1, 9, none⟩ = some (.bool false) := (blk_cell hblk2 (by decide)).1
          have v9 : wb.frozen? ⟨w.heap.size + 1 + 1, 9, none⟩ = false := (blk_cell hblk2 (j := 9) (by decide)).2
          have zr : w.heap.size + 1 + 1 < wb.heap.size := World.block_lt_of_cell? _ _ t0
          clear hblk2
          go_wp2
          rw [HR.out]
          refine bodyPost_ret (v := .tuple #[.agg #[.int .i64 i, .int .i64 k, .int .i64 (itemAt X k).kind, .int .i64 (itemAt X k).obj, .int .i64 (itemAt X k).val, .bool (itemAt X k).ok, .int .i64 (itemAt Y k).kind, .int .i64 (itemAt Y k).obj, .int .i64 (itemAt Y k).val, .bool (itemAt Y k).ok], .bool true]) ?_ ?_ ?_
          · simp only [results, Try.results23]
            go_simp
          · rfl
          · exact ⟨rfl, by have := bvia hkb hb; exact bel⟩
    · have eb1 : decide (i < x.gs.length) = false := decide_eq_false hbx
      have hby : i < y.gs.length := by have := HN.out; omega
      have eb2 : decide (i < y.gs.length) = true := decide_eq_true hby
      have Hn : Hid (¬ (i < x.gs.length ∧ i < y.gs.length)) := Lib.hid (fun h => hbx h.1)
      clear hbx hby
      go_wp2_with fail
      refine (spec_TraceOf_calls x [_, _, _] i _ (kEng_mk _ _ l0 (HX.out.1.below hb) l1 (HX.out.2.1.below hb) l2 (HX.out.2.2.below hb)) hc (by omega)).mono ?_
      rintro e w1 ⟨D1, e1, bs1, rfl, ho1, hf1, hb1⟩
      have HO1 := Lib.hid ho1; clear ho1 hf1
      obtain ⟨C1, F1⟩ := bcell hb1
      have y1 : wo.heap.size ≤ w1.heap.size := hb1.size
      go_wp2_with fail
      refine (spec_TraceOf_calls y [_, _, _] i _ (kEng_mk _ _ m0 (HY.out.1.below bel) m1 (HY.out.2.1.below bel) m2 (HY.out.2.2.below bel)) hd (by omega)).mono ?_
      rintro e w2 ⟨D2, e2, bs2, rfl, ho2, hf2, hb2⟩
      have HO2 := Lib.hid ho2; clear ho2 hf2
      have hk2 : Below wo.heap.size wo w2 := bel
      have S1 := Lib.hid ((row_of HO1.out).2.below hb2); have S2 := Lib.hid (row_of HO2.out).2
      have p0 := keepc hk2 q0; have p1 := keepc hk2 q1; have p2 := keepc hk2 q2; have p3 := keepc hk2 q3; have p4 := keepc hk2 q4; have p5 := keepc hk2 q5
      have zp0 : w.heap.size < w2.heap.size := World.block_lt_of_cell? _ _ p0; have zp1 : w.heap.size + 1 < w2.heap.size := World.block_lt_of_cell? _ _ p3
      generalize hX : traceOf x i = X at *
      generalize hY : traceOf y i = Y at *
      have hXb : X.length ≤ 1048576 := by rw [← hX]; exact traceOf_bd hc i
      have hYb : Y.length ≤ 1048576 := by rw [← hY]; exact traceOf_bd hd i
      obtain ⟨km, hkm⟩ : ∃ km, N - i = km + 1 := ⟨N - i - 1, by omega⟩
      have hstep : firstDiff x y = (match diffAt x y i with | some d => (d, true) | none => fdFrom x y km (i + 1)) := by rw [HF.out, hkm]; rfl
      have hDA : diffAt x y i = if i < x.gs.length ∧ i < y.gs.length ∧ X = Y then none else some ⟨i, cpl X Y, itemAt X (cpl X Y), itemAt Y (cpl X Y)⟩ := by unfold diffAt; rw [hX, hY]
      have hnone : i < x.gs.length ∧ i < y.gs.length ∧ X = Y → firstDiff x y = fdFrom x y (N - (i + 1)) (i + 1) := fun h => by
        rw [hstep, hDA, if_pos h, show N - (i + 1) = km by omega]
      have hsome : ∀ k, ¬ (i < x.gs.length ∧ i < y.gs.length ∧ X = Y) → cpl X Y = k → firstDiff x y = (⟨i, k, itemAt X k, itemAt Y k⟩, true) := fun k h hk => by
        rw [hstep, hDA, if_neg h, hk]
      have hXo : ¬ i < x.gs.length → X = [] := fun h => by rw [← hX]; exact traceOf_out h
      have hYo : ¬ i < y.gs.length → Y = [] := fun h => by rw [← hY]; exact traceOf_out h
      have HNONE := Lib.hid hnone; have HSOME := Lib.hid hsome; have HXO := Lib.hid hXo; have HYO := Lib.hid hYo; clear hnone hsome hstep hDA hX hY hXo hYo
      have hXY : X = [] ∨ Y = [] := by
        by_cases h : i < x.gs.length
        · exact .inr (HYO.out (fun h2 => Hn.out ⟨h, h2⟩))
        · exact .inl (HXO.out h)
      have HR0 := Lib.hid (HSOME.out 0 (fun h => Hn.out ⟨h.1, h.2.1⟩) (by rcases hXY with h | h <;> rw [h] <;> cases X <;> simp [cpl]))
      clear hXY
      go_wp2
      go_loopg [10] 1 (fun kq v10 w' => ∃ k : Nat, v10 = .int .i64 k ∧ k = 0 ∧ kq = 1 ∧ Below w2.heap.size w2 w')
      case atStart => exact ⟨0, rfl, rfl, rfl, bel⟩
      case round =>
        obtain ⟨k, rfl, hk0, hk, hb4⟩ := hrel
        have HR : Hid (firstDiff x y = (⟨i, k, itemAt X k, itemAt Y k⟩, true)) := Lib.hid (by rw [hk0]; exact HR0.out)
        have hkb : k ≤ 1048576 := by omega
        have hk4 : Below wo.heap.size wo wr := bvia hb4 hk2
        have S1 := Lib.hid (S1.out.below hb4); have S2 := Lib.hid (S2.out.below hb4)
        clear hk0
        go_wp2_with fail
        go_quiet (fail)
        have hk5 : Below wo.heap.size wo (wr.drewN nq) := bel
        go_wp2_with fail
        refine (item_calls_spec _ k _ (S1.out.below bel) (by omega)).mono ?_
        rintro e wa ⟨rfl, hba⟩
        go_wp2_with fail
        refine (item_calls_spec _ k _ (S2.out.below bel) (by omega)).mono ?_
        rintro e wb ⟨rfl, hbb⟩
        have hkb : Below wo.heap.size wo wb := bel
        have hblk2 : wb.heap[w.heap.size + 1 + 1]? = some (.cells #[.int .i64 0, .int .i64 0, .int .i64 0, .int .i64 0, .int .i64 0, .bool false, .int .i64 0, .int .i64 0, .int .i64 0, .bool false] 45 (0, 0)) := (hkb.block _ (by have := (Array.getElem?_eq_some_iff.1 hblk).1; omega)).trans hblk
        have t0 : wb.cell? ⟨w.heap.size + 1 + 1, 0, none⟩ = some (.int .i64 0) := (blk_cell hblk2 (by decide)).1
        have v0 : wb.frozen? ⟨w.heap.size + 1 + 1, 0, none⟩ = false := (blk_cell hblk2 (j := 0) (by decide)).2
        have t1 : wb.cell? ⟨w.heap.size + 1 + 1, 1, none⟩ = some (.int .i64 0) := (blk_cell hblk2 (by decide)).1
        have v1 : wb.frozen? ⟨w.heap.size + 1 + 1, 1, none⟩ = false := (blk_cell hblk2 (j := 1) (by decide)).2
        have t2 : wb.cell? ⟨w.heap.size + 1 + 1, 2, none⟩ = some (.int .i64 0) := (blk_cell hblk2 (by decide)).1
        have v2 : wb.frozen? ⟨w.heap.size + 1 + 1, 2, none⟩ = false := (blk_cell hblk2 (j := 2) (by decide)).2
        have t3 : wb.cell? ⟨w.heap.size + 1 + 1, 3, none⟩ = some (.int .i64 0) := (blk_cell hblk2 (by decide)).1
        have v3 : wb.frozen? ⟨w.heap.size + 1 + 1, 3, none⟩ = false := (blk_cell hblk2 (j := 3) (by decide)).2
        have t4 : wb.cell? ⟨w.heap.size + 1 + 1, 4, none⟩ = some (.int .i64 0) := (blk_cell hblk2 (by decide)).1
        have v4 : wb.frozen? ⟨w.heap.size + 1 + 1, 4, none⟩ = false := (blk_cell hblk2 (j := 4) (by decide)).2
        have t5 : wb.cell? ⟨w.heap.size + 1 + 1, 5, none⟩ = some (.bool false) := (blk_cell hblk2 (by decide)).1
        have v5 : wb.frozen? ⟨w.heap.size + 1 + 1, 5, none⟩ = false := (blk_cell hblk2 (j := 5) (by decide)).2
        have t6 : wb.cell? ⟨w.heap.size + 1 + 1, 6, none⟩ = some (.int .i64 0) := (blk_cell hblk2 (by decide)).1
        have v6 : wb.frozen? ⟨w.heap.size + 1 + 1, 6, none⟩ = false := (blk_cell hblk2 (j := 6) (by decide)).2
        have t7 : wb.cell? ⟨w.heap.size + 1 + 1, 7, none⟩ = some (.int .i64 0) := (blk_cell hblk2 (by decide)).1
        have v7 : wb.frozen? ⟨w.heap.size + 1 + 1, 7, none⟩ = false := (blk_cell hblk2 (j := 7) (by decide)).2
        have t8 : wb.cell? ⟨w.heap.size + 1 + 1, 8, none⟩ = some (.int .i64 0) := (blk_cell hblk2 (by decide)).1
        have v8 : wb.frozen? ⟨w.heap.size + 1 + 1, 8, none⟩ = false := (blk_cell hblk2 (j := 8) (by decide)).2
        have t9 : wb.cell? ⟨w.heap.size + 1 + 1, 9, none⟩ = some (.bool false) := (blk_cell hblk2 (by decide)).1
        have v9 : wb.frozen? ⟨w.heap.size + 1 + 1, 9, none⟩ = false := (blk_cell hblk2 (j := 9) (by decide)).2
        have zr : w.heap.size + 1 + 1 < wb.heap.size := World.block_lt_of_cell? _ _ t0
        clear hblk2
        go_wp2
        rw [HR.out]
        refine bodyPost_ret (v := .tuple #[.agg #[.int .i64 i, .int .i64 k, .int .i64 (itemAt X k).kind, .int .i64 (itemAt X k).obj, .int .i64 (itemAt X k).val, .bool (itemAt X k).ok, .int .i64 (itemAt Y k).kind, .int .i64 (itemAt Y k).obj, .int .i64 (itemAt Y k).val, .bool (itemAt Y k).ok], .bool true]) ?_ ?_ ?_
        · simp only [results, Try.results23]
          go_simp
        · rfl
        · exact ⟨rfl, by have := bvia hkb hb; exact bel⟩
end Go.Proofs.Ytebflbenchomoaa.Wd

/- The law FnExactFirstDiff returns true at every argument. Conditions: none. -/
import Derived.Test.YtebflbenchomoaaFdS
import Derived.Test.YtebflbenchomoaaFdI
import Derived.Test.YtebflbenchomoaaEqD
import Derived.Test.YtebflbenchomoaaToE
import Derived.Test.YtebflbenchomoaaSzE
import Derived.Deep.RegionHeld3
import Derived.Deep.CutRange
namespace Go.Proofs.Ytebflbenchomoaa.Wd
open Go.RowKit
set_option linter.unusedVariables false
set_option linter.unusedSimpArgs false
set_option maxHeartbeats 2000000
set_option maxRecDepth 100000
theorem law_FirstDiff (a0 : MEng) (a1 : MEng) (cs0 : List Value) (cs1 : List Value) (w : World) (h0 : kEng.K w a0 cs0) (h1 : kEng.K w a1 cs1) :
    Calls Try.prog 6 #[.agg cs0.toArray, .agg cs1.toArray] w fun e w' => e = .returned (.bool true) ∧ Below w.heap.size w w' := by
  obtain ⟨Ea0_0, ea0_0, Ea0_1, ea0_1, Ea0_2, ea0_2, rfl, l0_0, r0_0, l0_1, r0_1, l0_2, r0_2⟩ := kEng_K h0
  have R0_0 := Lib.hid r0_0; clear r0_0
  have R0_1 := Lib.hid r0_1; clear r0_1
  have R0_2 := Lib.hid r0_2; clear r0_2
  obtain ⟨Ea1_0, ea1_0, Ea1_1, ea1_1, Ea1_2, ea1_2, rfl, l1_0, r1_0, l1_1, r1_1, l1_2, r1_2⟩ := kEng_K h1
  have R1_0 := Lib.hid r1_0; clear r1_0
  have R1_1 := Lib.hid r1_1; clear r1_1
  have R1_2 := Lib.hid r1_2; clear r1_2
  clear h0 h1
  by_cases hc0 : ((cntEng a0 : Nat) : Int) ≤ 1048576
  rotate_left
  · go_enter Try.func6, Try.ntmps6
    go_wp2_with fail
    refine (sz_no (szEng_calls a0 [_, _, _] (1048576) _ (kEng_mk _ _ l0_0 (R0_0.out.below bel) l0_1 (R0_1.out.below bel) l0_2 (R0_2.out.below bel)) (by omega) (by omega)) rfl (by omega)).mono ?_
    rintro e ws0 ⟨rfl, hbs0⟩
    have f0_0_0 : ws0.cell? ⟨w.heap.size, 0, none⟩ = some (.slice Ea0_0 a0.gs.length ea0_0) := by obtain ⟨C, D⟩ := bcell hbs0; go_simp
    have f0_1_0 : ws0.cell? ⟨w.heap.size, 1, none⟩ = some (.slice Ea0_1 a0.chans.length ea0_1) := by obtain ⟨C, D⟩ := bcell hbs0; go_simp
    have f0_2_0 : ws0.cell? ⟨w.heap.size, 2, none⟩ = some (.slice Ea0_2 a0.mus.length ea0_2) := by obtain ⟨C, D⟩ := bcell hbs0; go_simp
    have f1_0_0 : ws0.cell? ⟨w.heap.size + 1, 0, none⟩ = some (.slice Ea1_0 a1.gs.length ea1_0) := by obtain ⟨C, D⟩ := bcell hbs0; go_simp
    have f1_1_0 : ws0.cell? ⟨w.heap.size + 1, 1, none⟩ = some (.slice Ea1_1 a1.chans.length ea1_1) := by obtain ⟨C, D⟩ := bcell hbs0; go_simp
    have f1_2_0 : ws0.cell? ⟨w.heap.size + 1, 2, none⟩ = some (.slice Ea1_2 a1.mus.length ea1_2) := by obtain ⟨C, D⟩ := bcell hbs0; go_simp
    have z0_ws0 : w.heap.size < ws0.heap.size := World.block_lt_of_cell? _ _ f0_0_0
    have z1_ws0 : w.heap.size + 1 < ws0.heap.size := World.block_lt_of_cell? _ _ f1_0_0
    go_wp2
    go_ret
    exact ⟨rfl, bel⟩
  by_cases hc1 : ((cntEng a0 : Nat) : Int) + ((cntEng a1 : Nat) : Int) ≤ 1048576
  rotate_left
  · have t0 : decide (1048576 - ((cntEng a0 : Nat) : Int) < 0) = false := by simp; omega
    go_enter Try.func6, Try.ntmps6
    go_wp2_with fail
    refine (sz_yes (szEng_calls a0 [_, _, _] (1048576) _ (kEng_mk _ _ l0_0 (R0_0.out.below bel) l0_1 (R0_1.out.below bel) l0_2 (R0_2.out.below bel)) (by omega) (by omega)) rfl (by omega)).mono ?_
    rintro e ws0 ⟨rfl, hbs0⟩
    have f0_0_1 : ws0.cell? ⟨w.heap.size, 0, none⟩ = some (.slice Ea0_0 a0.gs.length ea0_0) := by obtain ⟨C, D⟩ := bcell hbs0; go_simp
    have f0_1_1 : ws0.cell? ⟨w.heap.size, 1, none⟩ = some (.slice Ea0_1 a0.chans.length ea0_1) := by obtain ⟨C, D⟩ := bcell hbs0; go_simp
    have f0_2_1 : ws0.cell? ⟨w.heap.size, 2, none⟩ = some (.slice Ea0_2 a0.mus.length ea0_2) := by obtain ⟨C, D⟩ := bcell hbs0; go_simp
    have f1_0_1 : ws0.cell? ⟨w.heap.size + 1, 0, none⟩ = some (.slice Ea1_0 a1.gs.length ea1_0) := by obtain ⟨C, D⟩ := bcell hbs0; go_simp
    have f1_1_1 : ws0.cell? ⟨w.heap.size + 1, 1, none⟩ = some (.slice Ea1_1 a1.chans.length ea1_1) := by obtain ⟨C, D⟩ := bcell hbs0; go_simp
    have f1_2_1 : ws0.cell? ⟨w.heap.size + 1, 2, none⟩ = some (.slice Ea1_2 a1.mus.length ea1_2) := by obtain ⟨C, D⟩ := bcell hbs0; go_simp
    have z0_ws0 : w.heap.size < ws0.heap.size := World.block_lt_of_cell? _ _ f0_0_1
    have z1_ws0 : w.heap.size + 1 < ws0.heap.size := World.block_lt_of_cell? _ _ f1_0_1
    go_wp2_with fail
    refine (sz_no (szEng_calls a1 [_, _, _] (1048576 - ((cntEng a0 : Nat) : Int)) _ (kEng_mk _ _ l1_0 (R1_0.out.below bel) l1_1 (R1_1.out.below bel) l1_2 (R1_2.out.below bel)) (by omega) (by omega)) rfl (by omega)).mono ?_
    rintro e ws1 ⟨rfl, hbs1⟩
    have hk2 : Below ws0.heap.size ws0 ws1 := bel
    have f0_0_2 := keepc hk2 f0_0_1
    have f0_1_2 := keepc hk2 f0_1_1
    have f0_2_2 := keepc hk2 f0_2_1
    have f1_0_2 := keepc hk2 f1_0_1
    have f1_1_2 := keepc hk2 f1_1_1
    have f1_2_2 := keepc hk2 f1_2_1
    clear f0_0_1 f0_1_1 f0_2_1 f1_0_1 f1_1_1 f1_2_1 z0_ws0 z1_ws0
    have z0_ws1 : w.heap.size < ws1.heap.size := World.block_lt_of_cell? _ _ f0_0_2
    have z1_ws1 : w.heap.size + 1 < ws1.heap.size := World.block_lt_of_cell? _ _ f1_0_2
    go_wp2
    go_ret
    exact ⟨rfl, bel⟩
  have t0 : decide (1048576 - ((cntEng a0 : Nat) : Int) < 0) = false := by simp; omega
  have t1 : decide (1048576 - ((cntEng a0 : Nat) : Int) - ((cntEng a1 : Nat) : Int) < 0) = false := by simp; omega
  go_enter Try.func6, Try.ntmps6
  go_wp2_with fail
  refine (sz_yes (szEng_calls a0 [_, _, _] (1048576) _ (kEng_mk _ _ l0_0 (R0_0.out.below bel) l0_1 (R0_1.out.below bel) l0_2 (R0_2.out.below bel)) (by omega) (by omega)) rfl (by omega)).mono ?_
  rintro e ws0 ⟨rfl, hbs0⟩
  have f0_0_3 : ws0.cell? ⟨w.heap.size, 0, none⟩ = some (.slice Ea0_0 a0.gs.length ea0_0) := by obtain ⟨C, D⟩ := bcell hbs0; go_simp
  have f0_1_3 : ws0.cell? ⟨w.heap.size, 1, none⟩ = some (.slice Ea0_1 a0.chans.length ea0_1) := by obtain ⟨C, D⟩ := bcell hbs0; go_simp
  have f0_2_3 : ws0.cell? ⟨w.heap.size, 2, none⟩ = some (.slice Ea0_2 a0.mus.length ea0_2) := by obtain ⟨C, D⟩ := bcell hbs0; go_simp
  have f1_0_3 : ws0.cell? ⟨w.heap.size + 1, 0, none⟩ = some (.slice Ea1_0 a1.gs.length ea1_0) := by obtain ⟨C, D⟩ := bcell hbs0; go_simp
  have f1_1_3 : ws0.cell? ⟨w.heap.size + 1, 1, none⟩ = some (.slice Ea1_1 a1.chans.length ea1_1) := by obtain ⟨C, D⟩ := bcell hbs0; go_simp
  have f1_2_3 : ws0.cell? ⟨w.heap.size + 1, 2, none⟩ = some (.slice Ea1_2 a1.mus.length ea1_2) := by obtain ⟨C, D⟩ := bcell hbs0; go_simp
  have z0_ws0 : w.heap.size < ws0.heap.size := World.block_lt_of_cell? _ _ f0_0_3
  have z1_ws0 : w.heap.size + 1 < ws0.heap.size := World.block_lt_of_cell? _ _ f1_0_3
  go_wp2_with fail
  refine (sz_yes (szEng_calls a1 [_, _, _] (1048576 - ((cntEng a0 : Nat) : Int)) _ (kEng_mk _ _ l1_0 (R1_0.out.below bel) l1_1 (R1_1.out.below bel) l1_2 (R1_2.out.below bel)) (by omega) (by omega)) rfl (by omega)).mono ?_
  rintro e ws1 ⟨rfl, hbs1⟩
  have hk4 : Below ws0.heap.size ws0 ws1 := bel
  have f0_0_4 := keepc hk4 f0_0_3
  have f0_1_4 := keepc hk4 f0_1_3
  have f0_2_4 := keepc hk4 f0_2_3
  have f1_0_4 := keepc hk4 f1_0_3
  have f1_1_4 := keepc hk4 f1_1_3
  have f1_2_4 := keepc hk4 f1_2_3
  clear f0_0_3 f0_1_3 f0_2_3 f1_0_3 f1_1_3 f1_2_3 z0_ws0 z1_ws0
  have z0_ws1 : w.heap.size < ws1.heap.size := World.block_lt_of_cell? _ _ f0_0_4
  have z1_ws1 : w.heap.size + 1 < ws1.heap.size := World.block_lt_of_cell? _ _ f1_0_4
  go_wp2_with fail
  refine settleR ?_
  intro W5 hW5
  have hbW5 : Below ws1.heap.size ws1 W5 := by rw [hW5]; exact bel
  have f0_0_5 := keepc hbW5 f0_0_4
  have f0_1_5 := keepc hbW5 f0_1_4
  have f0_2_5 := keepc hbW5 f0_2_4
  have f1_0_5 := keepc hbW5 f1_0_4
  have f1_1_5 := keepc hbW5 f1_1_4
  have f1_2_5 := keepc hbW5 f1_2_4
  clear hW5
  clear f0_0_4 f0_1_4 f0_2_4 f1_0_4 f1_1_4 f1_2_4 z0_ws1 z1_ws1
  have z0_W5 : w.heap.size < W5.heap.size := World.block_lt_of_cell? _ _ f0_0_5
  have z1_W5 : w.heap.size + 1 < W5.heap.size := World.block_lt_of_cell? _ _ f1_0_5
  go_cut [6, 7] from 22 to 29 (fun v6 v7 wx => ∃ bq5_0, v6 = .pointer (some ⟨bq5_0, 0, none⟩) ∧ v7 = .bool ((firstDiff a0 a1).2) ∧ Below W5.heap.size W5 wx ∧ wx.cell? ⟨bq5_0, 0, none⟩ = some (.int .i64 ((firstDiff a0 a1).1).g) ∧ wx.cell? ⟨bq5_0, 1, none⟩ = some (.int .i64 ((firstDiff a0 a1).1).at_) ∧ wx.cell? ⟨bq5_0, 2, none⟩ = some (.int .i64 ((firstDiff a0 a1).1).here.kind) ∧ wx.cell? ⟨bq5_0, 3, none⟩ = some (.int .i64 ((firstDiff a0 a1).1).here.obj) ∧ wx.cell? ⟨bq5_0, 4, none⟩ = some (.int .i64 ((firstDiff a0 a1).1).here.val) ∧ wx.cell? ⟨bq5_0, 5, none⟩ = some (.bool ((firstDiff a0 a1).1).here.ok) ∧ wx.cell? ⟨bq5_0, 6, none⟩ = some (.int .i64 ((firstDiff a0 a1).1).there.kind) ∧ wx.cell? ⟨bq5_0, 7, none⟩ = some (.int .i64 ((firstDiff a0 a1).1).there.obj) ∧ wx.cell? ⟨bq5_0, 8, none⟩ = some (.int .i64 ((firstDiff a0 a1).1).there.val) ∧ wx.cell? ⟨bq5_0, 9, none⟩ = some (.bool ((firstDiff a0 a1).1).there.ok))
  case first =>
    go_region_held3 (fun w' => w'.cell? ⟨w.heap.size, 0, none⟩ = some (.slice Ea0_0 a0.gs.length ea0_0) ∧ w'.cell? ⟨w.heap.size, 1, none⟩ = some (.slice Ea0_1 a0.chans.length ea0_1) ∧ w'.cell? ⟨w.heap.size, 2, none⟩ = some (.slice Ea0_2 a0.mus.length ea0_2) ∧ w'.cell? ⟨w.heap.size + 1, 0, none⟩ = some (.slice Ea1_0 a1.gs.length ea1_0) ∧ w'.cell? ⟨w.heap.size + 1, 1, none⟩ = some (.slice Ea1_1 a1.chans.length ea1_1) ∧ w'.cell? ⟨w.heap.size + 1, 2, none⟩ = some (.slice Ea1_2 a1.mus.length ea1_2)) (exact ⟨keepc bel f0_0_5, keepc bel f0_1_5, keepc bel f0_2_5, keepc bel f1_0_5, keepc bel f1_1_5, keepc bel f1_2_5⟩)
      (first
        | (go_at_call 12; (with_reducible refine (toEng_calls a0 [_, _, _] _ (kEng_mk _ _ l0_0 (R0_0.out.below bel) l0_1 (R0_1.out.below bel) l0_2 (R0_2.out.below bel)) (by omega)).mono ?_); rintro e wp0 ⟨csp0, bp0, rfl, op0, frp0, hbp0⟩; have Op0 := Lib.hid op0; have Frp0 := Lib.hid frp0; clear frp0; obtain ⟨Ep0_0, ep0_0, yp0_0, Ep0_1, ep0_1, yp0_1, Ep0_2, ep0_2, yp0_2, rfl, rfl, qp0_0, qp0_1, qp0_2⟩ := kEng_O op0; clear op0 qp0_0 qp0_1 qp0_2; obtain ⟨Cwp0, Dwp0⟩ := bcell hbp0; have s_wp0 : W5.heap.size ≤ wp0.heap.size := (by have := hbp0.size; (try simp at this); omega); try (have z_W5_wp0 : W5.heap.size < wp0.heap.size := (by have := hbp0.size; (try simp at this); omega)))
        | (go_at_call 12; (with_reducible refine (toEng_calls a1 [_, _, _] _ (kEng_mk _ _ l1_0 (R1_0.out.below bel) l1_1 (R1_1.out.below bel) l1_2 (R1_2.out.below bel)) (by omega)).mono ?_); rintro e wp1 ⟨csp1, bp1, rfl, op1, frp1, hbp1⟩; have Op1 := Lib.hid op1; have Frp1 := Lib.hid frp1; clear frp1; obtain ⟨Ep1_0, ep1_0, yp1_0, Ep1_1, ep1_1, yp1_1, Ep1_2, ep1_2, yp1_2, rfl, rfl, qp1_0, qp1_1, qp1_2⟩ := kEng_O op1; clear op1 qp1_0 qp1_1 qp1_2; obtain ⟨Cwp1, Dwp1⟩ := bcell hbp1; have s_wp1 : wp0.heap.size ≤ wp1.heap.size := (by have := hbp1.size; (try simp at this); omega); try (have z_W5_wp1 : W5.heap.size < wp1.heap.size := (by have := hbp1.size; (try simp at this); omega)); try (have z_wp0_wp1 : wp0.heap.size < wp1.heap.size := (by have := hbp1.size; (try simp at this); omega)))
        | (go_at_call 23; (with_reducible refine (spec_FirstDiff_calls a0 a1 [_, _, _] [_, _, _] _ (kEng.K_below bel (kEng.O_K Op0.out)) (kEng.K_below bel (kEng.O_K Op1.out)) (by omega) (by omega)).mono ?_); rintro e wq ⟨rfl, hbq⟩; obtain ⟨Cwq, Dwq⟩ := bcell hbq; have s_wq : wp1.heap.size ≤ wq.heap.size := (by have := hbq.size; (try simp at this); omega); try (have z_W5_wq : W5.heap.size < wq.heap.size := (by have := hbq.size; (try simp at this); omega)); try (have z_wp0_wq : wp0.heap.size < wq.heap.size := (by have := hbq.size; (try simp at this); omega)); try (have z_wp1_wq : wp1.heap.size < wq.heap.size := (by have := hbq.size; (try simp at this); omega))))
    all_goals (go_wp2_with fail; go_meet; case rel => exact ⟨_, rfl, rfl, bel, by go_simp, by go_simp, by go_simp, by go_simp, by go_simp, by go_simp, by go_simp, by go_simp, by go_simp, by go_simp⟩)
  obtain ⟨bq5_0, rfl, rfl, hbc5, g5_0_0, g5_0_1, g5_0_2, g5_0_3, g5_0_4, g5_0_5, g5_0_6, g5_0_7, g5_0_8, g5_0_9⟩ := hcut
  obtain ⟨wc5, rfl⟩ : ∃ wq : World, wq = wc := ⟨_, rfl⟩
  have f0_0_5c := keepc hbc5 f0_0_5
  have f0_1_5c := keepc hbc5 f0_1_5
  have f0_2_5c := keepc hbc5 f0_2_5
  have f1_0_5c := keepc hbc5 f1_0_5
  have f1_1_5c := keepc hbc5 f1_1_5
  have f1_2_5c := keepc hbc5 f1_2_5
  clear f0_0_5 f0_1_5 f0_2_5 f1_0_5 f1_1_5 f1_2_5 z0_W5 z1_W5
  have z0_wc5 : w.heap.size < wc5.heap.size := World.block_lt_of_cell? _ _ f0_0_5c
  have z1_wc5 : w.heap.size + 1 < wc5.heap.size := World.block_lt_of_cell? _ _ f1_0_5c
  have z2_wc5 : bq5_0 < wc5.heap.size := World.block_lt_of_cell? _ _ g5_0_0
  go_wp2_with fail
  go_at_call 12; (refine (toEng_calls a0 [_, _, _] _ (kEng_mk _ _ l0_0 (R0_0.out.below bel) l0_1 (R0_1.out.below bel) l0_2 (R0_2.out.below bel)) (by omega)).mono ?_); rintro e wx0 ⟨csx0, bx0, rfl, ox0, frx0, hbx0⟩; have Ox0 := Lib.hid ox0; have Frx0 := Lib.hid frx0; clear frx0; obtain ⟨Ex0_0, ex0_0, yx0_0, Ex0_1, ex0_1, yx0_1, Ex0_2, ex0_2, yx0_2, rfl, rfl, qx0_0, qx0_1, qx0_2⟩ := kEng_O ox0; clear ox0 qx0_0 qx0_1 qx0_2
  have hk6 : Below wc5.heap.size wc5 wx0 := bel
  have f0_0_6 := keepc hk6 f0_0_5c
  have f0_1_6 := keepc hk6 f0_1_5c
  have f0_2_6 := keepc hk6 f0_2_5c
  have f1_0_6 := keepc hk6 f1_0_5c
  have f1_1_6 := keepc hk6 f1_1_5c
  have f1_2_6 := keepc hk6 f1_2_5c
  have f2_0_6 := keepc hk6 g5_0_0
  have f2_1_6 := keepc hk6 g5_0_1
  have f2_2_6 := keepc hk6 g5_0_2
  have f2_3_6 := keepc hk6 g5_0_3
  have f2_4_6 := keepc hk6 g5_0_4
  have f2_5_6 := keepc hk6 g5_0_5
  have f2_6_6 := keepc hk6 g5_0_6
  have f2_7_6 := keepc hk6 g5_0_7
  have f2_8_6 := keepc hk6 g5_0_8
  have f2_9_6 := keepc hk6 g5_0_9
  clear f0_0_5c f0_1_5c f0_2_5c f1_0_5c f1_1_5c f1_2_5c g5_0_0 g5_0_1 g5_0_2 g5_0_3 g5_0_4 g5_0_5 g5_0_6 g5_0_7 g5_0_8 g5_0_9 z0_wc5 z1_wc5 z2_wc5
  have z0_wx0 : w.heap.size < wx0.heap.size := World.block_lt_of_cell? _ _ f0_0_6
  have z1_wx0 : w.heap.size + 1 < wx0.heap.size := World.block_lt_of_cell? _ _ f1_0_6
  have z2_wx0 : bq5_0 < wx0.heap.size := World.block_lt_of_cell? _ _ f2_0_6
  go_wp2_with fail
  go_at_call 12; (refine (toEng_calls a1 [_, _, _] _ (kEng_mk _ _ l1_0 (R1_0.out.below bel) l1_1 (R1_1.out.below bel) l1_2 (R1_2.out.below bel)) (by omega)).mono ?_); rintro e wx1 ⟨csx1, bx1, rfl, ox1, frx1, hbx1⟩; have Ox1 := Lib.hid ox1; have Frx1 := Lib.hid frx1; clear frx1; obtain ⟨Ex1_0, ex1_0, yx1_0, Ex1_1, ex1_1, yx1_1, Ex1_2, ex1_2, yx1_2, rfl, rfl, qx1_0, qx1_1, qx1_2⟩ := kEng_O ox1; clear ox1 qx1_0 qx1_1 qx1_2
  have hk7 : Below wx0.heap.size wx0 wx1 := bel
  have f0_0_7 := keepc hk7 f0_0_6
  have f0_1_7 := keepc hk7 f0_1_6
  have f0_2_7 := keepc hk7 f0_2_6
  have f1_0_7 := keepc hk7 f1_0_6
  have f1_1_7 := keepc hk7 f1_1_6
  have f1_2_7 := keepc hk7 f1_2_6
  have f2_0_7 := keepc hk7 f2_0_6
  have f2_1_7 := keepc hk7 f2_1_6
  have f2_2_7 := keepc hk7 f2_2_6
  have f2_3_7 := keepc hk7 f2_3_6
  have f2_4_7 := keepc hk7 f2_4_6
  have f2_5_7 := keepc hk7 f2_5_6
  have f2_6_7 := keepc hk7 f2_6_6
  have f2_7_7 := keepc hk7 f2_7_6
  have f2_8_7 := keepc hk7 f2_8_6
  have f2_9_7 := keepc hk7 f2_9_6
  have f3_0_7 : wx1.cell? ⟨wx0.heap.size, 0, none⟩ = some (.slice Ex0_0 a0.gs.length ex0_0) := by obtain ⟨C, D⟩ := bcell hbx1; go_simp
  have f3_1_7 : wx1.cell? ⟨wx0.heap.size, 1, none⟩ = some (.slice Ex0_1 a0.chans.length ex0_1) := by obtain ⟨C, D⟩ := bcell hbx1; go_simp
  have f3_2_7 : wx1.cell? ⟨wx0.heap.size, 2, none⟩ = some (.slice Ex0_2 a0.mus.length ex0_2) := by obtain ⟨C, D⟩ := bcell hbx1; go_simp
  clear f0_0_6 f0_1_6 f0_2_6 f1_0_6 f1_1_6 f1_2_6 f2_0_6 f2_1_6 f2_2_6 f2_3_6 f2_4_6 f2_5_6 f2_6_6 f2_7_6 f2_8_6 f2_9_6 z0_wx0 z1_wx0 z2_wx0
  have z0_wx1 : w.heap.size < wx1.heap.size := World.block_lt_of_cell? _ _ f0_0_7
  have z1_wx1 : w.heap.size + 1 < wx1.heap.size := World.block_lt_of_cell? _ _ f1_0_7
  have z2_wx1 : bq5_0 < wx1.heap.size := World.block_lt_of_cell? _ _ f2_0_7
  have z3_wx1 : wx0.heap.size < wx1.heap.size := World.block_lt_of_cell? _ _ f3_0_7
  go_wp2_with fail
  go_at_call 24; (refine (impl_FirstDiff_calls a0 a1 [_, _, _] [_, _, _] _ (kEng.K_below bel (kEng.O_K Ox0.out)) (kEng.K_below bel (kEng.O_K Ox1.out)) (by omega) (by omega)).mono ?_); rintro e wi ⟨rfl, hbi⟩
  have hk8 : Below wx1.heap.size wx1 wi := bel
  have f0_0_8 := keepc hk8 f0_0_7
  have f0_1_8 := keepc hk8 f0_1_7
  have f0_2_8 := keepc hk8 f0_2_7
  have f1_0_8 := keepc hk8 f1_0_7
  have f1_1_8 := keepc hk8 f1_1_7
  have f1_2_8 := keepc hk8 f1_2_7
  have f2_0_8 := keepc hk8 f2_0_7
  have f2_1_8 := keepc hk8 f2_1_7
  have f2_2_8 := keepc hk8 f2_2_7
  have f2_3_8 := keepc hk8 f2_3_7
  have f2_4_8 := keepc hk8 f2_4_7
  have f2_5_8 := keepc hk8 f2_5_7
  have f2_6_8 := keepc hk8 f2_6_7
  have f2_7_8 := keepc hk8 f2_7_7
  have f2_8_8 := keepc hk8 f2_8_7
  have f2_9_8 := keepc hk8 f2_9_7
  have f3_0_8 := keepc hk8 f3_0_7
  have f3_1_8 := keepc hk8 f3_1_7
  have f3_2_8 := keepc hk8 f3_2_7
  have f4_0_8 : wi.cell? ⟨wx1.heap.size, 0, none⟩ = some (.slice Ex1_0 a1.gs.length ex1_0) := by obtain ⟨C, D⟩ := bcell hbi; go_simp
  have f4_1_8 : wi.cell? ⟨wx1.heap.size, 1, none⟩ = some (.slice Ex1_1 a1.chans.length ex1_1) := by obtain ⟨C, D⟩ := bcell hbi; go_simp
  have f4_2_8 : wi.cell? ⟨wx1.heap.size, 2, none⟩ = some (.slice Ex1_2 a1.mus.length ex1_2) := by obtain ⟨C, D⟩ := bcell hbi; go_simp
  clear f0_0_7 f0_1_7 f0_2_7 f1_0_7 f1_1_7 f1_2_7 f2_0_7 f2_1_7 f2_2_7 f2_3_7 f2_4_7 f2_5_7 f2_6_7 f2_7_7 f2_8_7 f2_9_7 f3_0_7 f3_1_7 f3_2_7 z0_wx1 z1_wx1 z2_wx1 z3_wx1
  have z0_wi : w.heap.size < wi.heap.size := World.block_lt_of_cell? _ _ f0_0_8
  have z1_wi : w.heap.size + 1 < wi.heap.size := World.block_lt_of_cell? _ _ f1_0_8
  have z2_wi : bq5_0 < wi.heap.size := World.block_lt_of_cell? _ _ f2_0_8
  have z3_wi : wx0.heap.size < wi.heap.size := World.block_lt_of_cell? _ _ f3_0_8
  have z4_wi : wx1.heap.size < wi.heap.size := World.block_lt_of_cell? _ _ f4_0_8
  go_wp2_with fail
  go_at_call 25; (refine (eqDiff_calls ((firstDiff a0 a1).1) ((firstDiff a0 a1).1) [_, _, _, _, _, _, _, _, _, _] [_, _, _, _, _, _, _, _, _, _] _ (kDiff_mk _ _) (kDiff_mk _ _)).mono ?_); rintro e wc0 ⟨rfl, hbc0⟩
  have hk9 : Below wi.heap.size wi wc0 := bel
  have f0_0_9 := keepc hk9 f0_0_8
  have f0_1_9 := keepc hk9 f0_1_8
  have f0_2_9 := keepc hk9 f0_2_8
  have f1_0_9 := keepc hk9 f1_0_8
  have f1_1_9 := keepc hk9 f1_1_8
  have f1_2_9 := keepc hk9 f1_2_8
  have f2_0_9 := keepc hk9 f2_0_8
  have f2_1_9 := keepc hk9 f2_1_8
  have f2_2_9 := keepc hk9 f2_2_8
  have f2_3_9 := keepc hk9 f2_3_8
  have f2_4_9 := keepc hk9 f2_4_8
  have f2_5_9 := keepc hk9 f2_5_8
  have f2_6_9 := keepc hk9 f2_6_8
  have f2_7_9 := keepc hk9 f2_7_8
  have f2_8_9 := keepc hk9 f2_8_8
  have f2_9_9 := keepc hk9 f2_9_8
  have f3_0_9 := keepc hk9 f3_0_8
  have f3_1_9 := keepc hk9 f3_1_8
  have f3_2_9 := keepc hk9 f3_2_8
  have f4_0_9 := keepc hk9 f4_0_8
  have f4_1_9 := keepc hk9 f4_1_8
  have f4_2_9 := keepc hk9 f4_2_8
  have f5_0_9 : wc0.cell? ⟨wi.heap.size, 0, none⟩ = some (.int .i64 ((firstDiff a0 a1).1).g) := by obtain ⟨C, D⟩ := bcell hbc0; go_simp
  have f5_1_9 : wc0.cell? ⟨wi.heap.size, 1, none⟩ = some (.int .i64 ((firstDiff a0 a1).1).at_) := by obtain ⟨C, D⟩ := bcell hbc0; go_simp
  have f5_2_9 : wc0.cell? ⟨wi.heap.size, 2, none⟩ = some (.int .i64 ((firstDiff a0 a1).1).here.kind) := by obtain ⟨C, D⟩ := bcell hbc0; go_simp
  have f5_3_9 : wc0.cell? ⟨wi.heap.size, 3, none⟩ = some (.int .i64 ((firstDiff a0 a1).1).here.obj) := by obtain ⟨C, D⟩ := bcell hbc0; go_simp
  have f5_4_9 : wc0.cell? ⟨wi.heap.size, 4, none⟩ = some (.int .i64 ((firstDiff a0 a1).1).here.val) := by obtain ⟨C, D⟩ := bcell hbc0; go_simp
  have f5_5_9 : wc0.cell? ⟨wi.heap.size, 5, none⟩ = some (.bool ((firstDiff a0 a1).1).here.ok) := by obtain ⟨C, D⟩ := bcell hbc0; go_simp
  have f5_6_9 : wc0.cell? ⟨wi.heap.size, 6, none⟩ = some (.int .i64 ((firstDiff a0 a1).1).there.kind) := by obtain ⟨C, D⟩ := bcell hbc0; go_simp
  have f5_7_9 : wc0.cell? ⟨wi.heap.size, 7, none⟩ = some (.int .i64 ((firstDiff a0 a1).1).there.obj) := by obtain ⟨C, D⟩ := bcell hbc0; go_simp
  have f5_8_9 : wc0.cell? ⟨wi.heap.size, 8, none⟩ = some (.int .i64 ((firstDiff a0 a1).1).there.val) := by obtain ⟨C, D⟩ := bcell hbc0; go_simp
  have f5_9_9 : wc0.cell? ⟨wi.heap.size, 9, none⟩ = some (.bool ((firstDiff a0 a1).1).there.ok) := by obtain ⟨C, D⟩ := bcell hbc0; go_simp
  clear f0_0_8 f0_1_8 f0_2_8 f1_0_8 f1_1_8 f1_2_8 f2_0_8 f2_1_8 f2_2_8 f2_3_8 f2_4_8 f2_5_8 f2_6_8 f2_7_8 f2_8_8 f2_9_8 f3_0_8 f3_1_8 f3_2_8 f4_0_8 f4_1_8 f4_2_8 z0_wi z1_wi z2_wi z3_wi z4_wi
  have z0_wc0 : w.heap.size < wc0.heap.size := World.block_lt_of_cell? _ _ f0_0_9
  have z1_wc0 : w.heap.size + 1 < wc0.heap.size := World.block_lt_of_cell? _ _ f1_0_9
  have z2_wc0 : bq5_0 < wc0.heap.size := World.block_lt_of_cell? _ _ f2_0_9
  have z3_wc0 : wx0.heap.size < wc0.heap.size := World.block_lt_of_cell? _ _ f3_0_9
  have z4_wc0 : wx1.heap.size < wc0.heap.size := World.block_lt_of_cell? _ _ f4_0_9
  have z5_wc0 : wi.heap.size < wc0.heap.size := World.block_lt_of_cell? _ _ f5_0_9
  go_wp2_with fail
  refine settleR ?_
  intro W10 hW10
  have hbW10 : Below wc0.heap.size wc0 W10 := by rw [hW10]; exact bel
  have f0_0_10 := keepc hbW10 f0_0_9
  have f0_1_10 := keepc hbW10 f0_1_9
  have f0_2_10 := keepc hbW10 f0_2_9
  have f1_0_10 := keepc hbW10 f1_0_9
  have f1_1_10 := keepc hbW10 f1_1_9
  have f1_2_10 := keepc hbW10 f1_2_9
  have f2_0_10 := keepc hbW10 f2_0_9
  have f2_1_10 := keepc hbW10 f2_1_9
  have f2_2_10 := keepc hbW10 f2_2_9
  have f2_3_10 := keepc hbW10 f2_3_9
  have f2_4_10 := keepc hbW10 f2_4_9
  have f2_5_10 := keepc hbW10 f2_5_9
  have f2_6_10 := keepc hbW10 f2_6_9
  have f2_7_10 := keepc hbW10 f2_7_9
  have f2_8_10 := keepc hbW10 f2_8_9
  have f2_9_10 := keepc hbW10 f2_9_9
  have f3_0_10 := keepc hbW10 f3_0_9
  have f3_1_10 := keepc hbW10 f3_1_9
  have f3_2_10 := keepc hbW10 f3_2_9
  have f4_0_10 := keepc hbW10 f4_0_9
  have f4_1_10 := keepc hbW10 f4_1_9
  have f4_2_10 := keepc hbW10 f4_2_9
  have f5_0_10 := keepc hbW10 f5_0_9
  have f5_1_10 := keepc hbW10 f5_1_9
  have f5_2_10 := keepc hbW10 f5_2_9
  have f5_3_10 := keepc hbW10 f5_3_9
  have f5_4_10 := keepc hbW10 f5_4_9
  have f5_5_10 := keepc hbW10 f5_5_9
  have f5_6_10 := keepc hbW10 f5_6_9
  have f5_7_10 := keepc hbW10 f5_7_9
  have f5_8_10 := keepc hbW10 f5_8_9
  have f5_9_10 := keepc hbW10 f5_9_9
  clear hW10
  clear f0_0_9 f0_1_9 f0_2_9 f1_0_9 f1_1_9 f1_2_9 f2_0_9 f2_1_9 f2_2_9 f2_3_9 f2_4_9 f2_5_9 f2_6_9 f2_7_9 f2_8_9 f2_9_9 f3_0_9 f3_1_9 f3_2_9 f4_0_9 f4_1_9 f4_2_9 f5_0_9 f5_1_9 f5_2_9 f5_3_9 f5_4_9 f5_5_9 f5_6_9 f5_7_9 f5_8_9 f5_9_9 z0_wc0 z1_wc0 z2_wc0 z3_wc0 z4_wc0 z5_wc0
  have z0_W10 : w.heap.size < W10.heap.size := World.block_lt_of_cell? _ _ f0_0_10
  have z1_W10 : w.heap.size + 1 < W10.heap.size := World.block_lt_of_cell? _ _ f1_0_10
  have z2_W10 : bq5_0 < W10.heap.size := World.block_lt_of_cell? _ _ f2_0_10
  have z3_W10 : wx0.heap.size < W10.heap.size := World.block_lt_of_cell? _ _ f3_0_10
  have z4_W10 : wx1.heap.size < W10.heap.size := World.block_lt_of_cell? _ _ f4_0_10
  have z5_W10 : wi.heap.size < W10.heap.size := World.block_lt_of_cell? _ _ f5_0_10
  go_region_held3 (fun w' => w'.cell? ⟨w.heap.size, 0, none⟩ = some (.slice Ea0_0 a0.gs.length ea0_0) ∧ w'.cell? ⟨w.heap.size, 1, none⟩ = some (.slice Ea0_1 a0.chans.length ea0_1) ∧ w'.cell? ⟨w.heap.size, 2, none⟩ = some (.slice Ea0_2 a0.mus.length ea0_2) ∧ w'.cell? ⟨w.heap.size + 1, 0, none⟩ = some (.slice Ea1_0 a1.gs.length ea1_0) ∧ w'.cell? ⟨w.heap.size + 1, 1, none⟩ = some (.slice Ea1_1 a1.chans.length ea1_1) ∧ w'.cell? ⟨w.heap.size + 1, 2, none⟩ = some (.slice Ea1_2 a1.mus.length ea1_2) ∧ w'.cell? ⟨bq5_0, 0, none⟩ = some (.int .i64 ((firstDiff a0 a1).1).g) ∧ w'.cell? ⟨bq5_0, 1, none⟩ = some (.int .i64 ((firstDiff a0 a1).1).at_) ∧ w'.cell? ⟨bq5_0, 2, none⟩ = some (.int .i64 ((firstDiff a0 a1).1).here.kind) ∧ w'.cell? ⟨bq5_0, 3, none⟩ = some (.int .i64 ((firstDiff a0 a1).1).here.obj) ∧ w'.cell? ⟨bq5_0, 4, none⟩ = some (.int .i64 ((firstDiff a0 a1).1).here.val) ∧ w'.cell? ⟨bq5_0, 5, none⟩ = some (.bool ((firstDiff a0 a1).1).here.ok) ∧ w'.cell? ⟨bq5_0, 6, none⟩ = some (.int .i64 ((firstDiff a0 a1).1).there.kind) ∧ w'.cell? ⟨bq5_0, 7, none⟩ = some (.int .i64 ((firstDiff a0 a1).1).there.obj) ∧ w'.cell? ⟨bq5_0, 8, none⟩ = some (.int .i64 ((firstDiff a0 a1).1).there.val) ∧ w'.cell? ⟨bq5_0, 9, none⟩ = some (.bool ((firstDiff a0 a1).1).there.ok) ∧ w'.cell? ⟨wx0.heap.size, 0, none⟩ = some (.slice Ex0_0 a0.gs.length ex0_0) ∧ w'.cell? ⟨wx0.heap.size, 1, none⟩ = some (.slice Ex0_1 a0.chans.length ex0_1) ∧ w'.cell? ⟨wx0.heap.size, 2, none⟩ = some (.slice Ex0_2 a0.mus.length ex0_2) ∧ w'.cell? ⟨wx1.heap.size, 0, none⟩ = some (.slice Ex1_0 a1.gs.length ex1_0) ∧ w'.cell? ⟨wx1.heap.size, 1, none⟩ = some (.slice Ex1_1 a1.chans.length ex1_1) ∧ w'.cell? ⟨wx1.heap.size, 2, none⟩ = some (.slice Ex1_2 a1.mus.length ex1_2) ∧ w'.cell? ⟨wi.heap.size, 0, none⟩ = some (.int .i64 ((firstDiff a0 a1).1).g) ∧ w'.cell? ⟨wi.heap.size, 1, none⟩ = some (.int .i64 ((firstDiff a0 a1).1).at_) ∧ w'.cell? ⟨wi.heap.size, 2, none⟩ = some (.int .i64 ((firstDiff a0 a1).1).here.kind) ∧ w'.cell? ⟨wi.heap.size, 3, none⟩ = some (.int .i64 ((firstDiff a0 a1).1).here.obj) ∧ w'.cell? ⟨wi.heap.size, 4, none⟩ = some (.int .i64 ((firstDiff a0 a1).1).here.val) ∧ w'.cell? ⟨wi.heap.size, 5, none⟩ = some (.bool ((firstDiff a0 a1).1).here.ok) ∧ w'.cell? ⟨wi.heap.size, 6, none⟩ = some (.int .i64 ((firstDiff a0 a1).1).there.kind) ∧ w'.cell? ⟨wi.heap.size, 7, none⟩ = some (.int .i64 ((firstDiff a0 a1).1).there.obj) ∧ w'.cell? ⟨wi.heap.size, 8, none⟩ = some (.int .i64 ((firstDiff a0 a1).1).there.val) ∧ w'.cell? ⟨wi.heap.size, 9, none⟩ = some (.bool ((firstDiff a0 a1).1).there.ok)) (exact ⟨keepc bel f0_0_10, keepc bel f0_1_10, keepc bel f0_2_10, keepc bel f1_0_10, keepc bel f1_1_10, keepc bel f1_2_10, keepc bel f2_0_10, keepc bel f2_1_10, keepc bel f2_2_10, keepc bel f2_3_10, keepc bel f2_4_10, keepc bel f2_5_10, keepc bel f2_6_10, keepc bel f2_7_10, keepc bel f2_8_10, keepc bel f2_9_10, keepc bel f3_0_10, keepc bel f3_1_10, keepc bel f3_2_10, keepc bel f4_0_10, keepc bel f4_1_10, keepc bel f4_2_10, keepc bel f5_0_10, keepc bel f5_1_10, keepc bel f5_2_10, keepc bel f5_3_10, keepc bel f5_4_10, keepc bel f5_5_10, keepc bel f5_6_10, keepc bel f5_7_10, keepc bel f5_8_10, keepc bel f5_9_10⟩)
    (first
      | (go_at_call 12; (with_reducible refine (toEng_calls a0 [_, _, _] _ (kEng_mk _ _ l0_0 (R0_0.out.below bel) l0_1 (R0_1.out.below bel) l0_2 (R0_2.out.below bel)) (by omega)).mono ?_); rintro e we0 ⟨cse0, be0, rfl, oe0, fre0, hbe0⟩; have Oe0 := Lib.hid oe0; have Fre0 := Lib.hid fre0; clear fre0; obtain ⟨Ee0_0, ee0_0, ye0_0, Ee0_1, ee0_1, ye0_1, Ee0_2, ee0_2, ye0_2, rfl, rfl, qe0_0, qe0_1, qe0_2⟩ := kEng_O oe0; clear oe0 qe0_0 qe0_1 qe0_2)
      | (go_at_call 14; (with_reducible refine (eqEng_calls a0 a0 [_, _, _] [_, _, _] _ (kEng.K_below bel (kEng.O_K Ox0.out)) (kEng.K_below bel (kEng.O_K Oe0.out))).mono ?_); rintro e wr0 ⟨rfl, hbr0⟩))
  have hk11 : Below W10.heap.size W10 wr0 := bel
  have f0_0_11 := keepc hk11 f0_0_10
  have f0_1_11 := keepc hk11 f0_1_10
  have f0_2_11 := keepc hk11 f0_2_10
  have f1_0_11 := keepc hk11 f1_0_10
  have f1_1_11 := keepc hk11 f1_1_10
  have f1_2_11 := keepc hk11 f1_2_10
  have f2_0_11 := keepc hk11 f2_0_10
  have f2_1_11 := keepc hk11 f2_1_10
  have f2_2_11 := keepc hk11 f2_2_10
  have f2_3_11 := keepc hk11 f2_3_10
  have f2_4_11 := keepc hk11 f2_4_10
  have f2_5_11 := keepc hk11 f2_5_10
  have f2_6_11 := keepc hk11 f2_6_10
  have f2_7_11 := keepc hk11 f2_7_10
  have f2_8_11 := keepc hk11 f2_8_10
  have f2_9_11 := keepc hk11 f2_9_10
  have f3_0_11 := keepc hk11 f3_0_10
  have f3_1_11 := keepc hk11 f3_1_10
  have f3_2_11 := keepc hk11 f3_2_10
  have f4_0_11 := keepc hk11 f4_0_10
  have f4_1_11 := keepc hk11 f4_1_10
  have f4_2_11 := keepc hk11 f4_2_10
  have f5_0_11 := keepc hk11 f5_0_10
  have f5_1_11 := keepc hk11 f5_1_10
  have f5_2_11 := keepc hk11 f5_2_10
  have f5_3_11 := keepc hk11 f5_3_10
  have f5_4_11 := keepc hk11 f5_4_10
  have f5_5_11 := keepc hk11 f5_5_10
  have f5_6_11 := keepc hk11 f5_6_10
  have f5_7_11 := keepc hk11 f5_7_10
  have f5_8_11 := keepc hk11 f5_8_10
  have f5_9_11 := keepc hk11 f5_9_10
  clear f0_0_10 f0_1_10 f0_2_10 f1_0_10 f1_1_10 f1_2_10 f2_0_10 f2_1_10 f2_2_10 f2_3_10 f2_4_10 f2_5_10 f2_6_10 f2_7_10 f2_8_10 f2_9_10 f3_0_10 f3_1_10 f3_2_10 f4_0_10 f4_1_10 f4_2_10 f5_0_10 f5_1_10 f5_2_10 f5_3_10 f5_4_10 f5_5_10 f5_6_10 f5_7_10 f5_8_10 f5_9_10 z0_W10 z1_W10 z2_W10 z3_W10 z4_W10 z5_W10
  have z0_wr0 : w.heap.size < wr0.heap.size := World.block_lt_of_cell? _ _ f0_0_11
  have z1_wr0 : w.heap.size + 1 < wr0.heap.size := World.block_lt_of_cell? _ _ f1_0_11
  have z2_wr0 : bq5_0 < wr0.heap.size := World.block_lt_of_cell? _ _ f2_0_11
  have z3_wr0 : wx0.heap.size < wr0.heap.size := World.block_lt_of_cell? _ _ f3_0_11
  have z4_wr0 : wx1.heap.size < wr0.heap.size := World.block_lt_of_cell? _ _ f4_0_11
  have z5_wr0 : wi.heap.size < wr0.heap.size := World.block_lt_of_cell? _ _ f5_0_11
  go_wp2_with fail
  refine settleR ?_
  intro W12 hW12
  have hbW12 : Below wr0.heap.size wr0 W12 := by rw [hW12]; exact bel
  have f0_0_12 := keepc hbW12 f0_0_11
  have f0_1_12 := keepc hbW12 f0_1_11
  have f0_2_12 := keepc hbW12 f0_2_11
  have f1_0_12 := keepc hbW12 f1_0_11
  have f1_1_12 := keepc hbW12 f1_1_11
  have f1_2_12 := keepc hbW12 f1_2_11
  have f2_0_12 := keepc hbW12 f2_0_11
  have f2_1_12 := keepc hbW12 f2_1_11
  have f2_2_12 := keepc hbW12 f2_2_11
  have f2_3_12 := keepc hbW12 f2_3_11
  have f2_4_12 := keepc hbW12 f2_4_11
  have f2_5_12 := keepc hbW12 f2_5_11
  have f2_6_12 := keepc hbW12 f2_6_11
  have f2_7_12 := keepc hbW12 f2_7_11
  have f2_8_12 := keepc hbW12 f2_8_11
  have f2_9_12 := keepc hbW12 f2_9_11
  have f3_0_12 := keepc hbW12 f3_0_11
  have f3_1_12 := keepc hbW12 f3_1_11
  have f3_2_12 := keepc hbW12 f3_2_11
  have f4_0_12 := keepc hbW12 f4_0_11
  have f4_1_12 := keepc hbW12 f4_1_11
  have f4_2_12 := keepc hbW12 f4_2_11
  have f5_0_12 := keepc hbW12 f5_0_11
  have f5_1_12 := keepc hbW12 f5_1_11
  have f5_2_12 := keepc hbW12 f5_2_11
  have f5_3_12 := keepc hbW12 f5_3_11
  have f5_4_12 := keepc hbW12 f5_4_11
  have f5_5_12 := keepc hbW12 f5_5_11
  have f5_6_12 := keepc hbW12 f5_6_11
  have f5_7_12 := keepc hbW12 f5_7_11
  have f5_8_12 := keepc hbW12 f5_8_11
  have f5_9_12 := keepc hbW12 f5_9_11
  clear hW12
  clear f0_0_11 f0_1_11 f0_2_11 f1_0_11 f1_1_11 f1_2_11 f2_0_11 f2_1_11 f2_2_11 f2_3_11 f2_4_11 f2_5_11 f2_6_11 f2_7_11 f2_8_11 f2_9_11 f3_0_11 f3_1_11 f3_2_11 f4_0_11 f4_1_11 f4_2_11 f5_0_11 f5_1_11 f5_2_11 f5_3_11 f5_4_11 f5_5_11 f5_6_11 f5_7_11 f5_8_11 f5_9_11 z0_wr0 z1_wr0 z2_wr0 z3_wr0 z4_wr0 z5_wr0
  have z0_W12 : w.heap.size < W12.heap.size := World.block_lt_of_cell? _ _ f0_0_12
  have z1_W12 : w.heap.size + 1 < W12.heap.size := World.block_lt_of_cell? _ _ f1_0_12
  have z2_W12 : bq5_0 < W12.heap.size := World.block_lt_of_cell? _ _ f2_0_12
  have z3_W12 : wx0.heap.size < W12.heap.size := World.block_lt_of_cell? _ _ f3_0_12
  have z4_W12 : wx1.heap.size < W12.heap.size := World.block_lt_of_cell? _ _ f4_0_12
  have z5_W12 : wi.heap.size < W12.heap.size := World.block_lt_of_cell? _ _ f5_0_12
  go_region_held3 (fun w' => w'.cell? ⟨w.heap.size, 0, none⟩ = some (.slice Ea0_0 a0.gs.length ea0_0) ∧ w'.cell? ⟨w.heap.size, 1, none⟩ = some (.slice Ea0_1 a0.chans.length ea0_1) ∧ w'.cell? ⟨w.heap.size, 2, none⟩ = some (.slice Ea0_2 a0.mus.length ea0_2) ∧ w'.cell? ⟨w.heap.size + 1, 0, none⟩ = some (.slice Ea1_0 a1.gs.length ea1_0) ∧ w'.cell? ⟨w.heap.size + 1, 1, none⟩ = some (.slice Ea1_1 a1.chans.length ea1_1) ∧ w'.cell? ⟨w.heap.size + 1, 2, none⟩ = some (.slice Ea1_2 a1.mus.length ea1_2) ∧ w'.cell? ⟨bq5_0, 0, none⟩ = some (.int .i64 ((firstDiff a0 a1).1).g) ∧ w'.cell? ⟨bq5_0, 1, none⟩ = some (.int .i64 ((firstDiff a0 a1).1).at_) ∧ w'.cell? ⟨bq5_0, 2, none⟩ = some (.int .i64 ((firstDiff a0 a1).1).here.kind) ∧ w'.cell? ⟨bq5_0, 3, none⟩ = some (.int .i64 ((firstDiff a0 a1).1).here.obj) ∧ w'.cell? ⟨bq5_0, 4, none⟩ = some (.int .i64 ((firstDiff a0 a1).1).here.val) ∧ w'.cell? ⟨bq5_0, 5, none⟩ = some (.bool ((firstDiff a0 a1).1).here.ok) ∧ w'.cell? ⟨bq5_0, 6, none⟩ = some (.int .i64 ((firstDiff a0 a1).1).there.kind) ∧ w'.cell? ⟨bq5_0, 7, none⟩ = some (.int .i64 ((firstDiff a0 a1).1).there.obj) ∧ w'.cell? ⟨bq5_0, 8, none⟩ = some (.int .i64 ((firstDiff a0 a1).1).there.val) ∧ w'.cell? ⟨bq5_0, 9, none⟩ = some (.bool ((firstDiff a0 a1).1).there.ok) ∧ w'.cell? ⟨wx0.heap.size, 0, none⟩ = some (.slice Ex0_0 a0.gs.length ex0_0) ∧ w'.cell? ⟨wx0.heap.size, 1, none⟩ = some (.slice Ex0_1 a0.chans.length ex0_1) ∧ w'.cell? ⟨wx0.heap.size, 2, none⟩ = some (.slice Ex0_2 a0.mus.length ex0_2) ∧ w'.cell? ⟨wx1.heap.size, 0, none⟩ = some (.slice Ex1_0 a1.gs.length ex1_0) ∧ w'.cell? ⟨wx1.heap.size, 1, none⟩ = some (.slice Ex1_1 a1.chans.length ex1_1) ∧ w'.cell? ⟨wx1.heap.size, 2, none⟩ = some (.slice Ex1_2 a1.mus.length ex1_2) ∧ w'.cell? ⟨wi.heap.size, 0, none⟩ = some (.int .i64 ((firstDiff a0 a1).1).g) ∧ w'.cell? ⟨wi.heap.size, 1, none⟩ = some (.int .i64 ((firstDiff a0 a1).1).at_) ∧ w'.cell? ⟨wi.heap.size, 2, none⟩ = some (.int .i64 ((firstDiff a0 a1).1).here.kind) ∧ w'.cell? ⟨wi.heap.size, 3, none⟩ = some (.int .i64 ((firstDiff a0 a1).1).here.obj) ∧ w'.cell? ⟨wi.heap.size, 4, none⟩ = some (.int .i64 ((firstDiff a0 a1).1).here.val) ∧ w'.cell? ⟨wi.heap.size, 5, none⟩ = some (.bool ((firstDiff a0 a1).1).here.ok) ∧ w'.cell? ⟨wi.heap.size, 6, none⟩ = some (.int .i64 ((firstDiff a0 a1).1).there.kind) ∧ w'.cell? ⟨wi.heap.size, 7, none⟩ = some (.int .i64 ((firstDiff a0 a1).1).there.obj) ∧ w'.cell? ⟨wi.heap.size, 8, none⟩ = some (.int .i64 ((firstDiff a0 a1).1).there.val) ∧ w'.cell? ⟨wi.heap.size, 9, none⟩ = some (.bool ((firstDiff a0 a1).1).there.ok)) (exact ⟨keepc bel f0_0_12, keepc bel f0_1_12, keepc bel f0_2_12, keepc bel f1_0_12, keepc bel f1_1_12, keepc bel f1_2_12, keepc bel f2_0_12, keepc bel f2_1_12, keepc bel f2_2_12, keepc bel f2_3_12, keepc bel f2_4_12, keepc bel f2_5_12, keepc bel f2_6_12, keepc bel f2_7_12, keepc bel f2_8_12, keepc bel f2_9_12, keepc bel f3_0_12, keepc bel f3_1_12, keepc bel f3_2_12, keepc bel f4_0_12, keepc bel f4_1_12, keepc bel f4_2_12, keepc bel f5_0_12, keepc bel f5_1_12, keepc bel f5_2_12, keepc bel f5_3_12, keepc bel f5_4_12, keepc bel f5_5_12, keepc bel f5_6_12, keepc bel f5_7_12, keepc bel f5_8_12, keepc bel f5_9_12⟩)
    (first
      | (go_at_call 12; (with_reducible refine (toEng_calls a1 [_, _, _] _ (kEng_mk _ _ l1_0 (R1_0.out.below bel) l1_1 (R1_1.out.below bel) l1_2 (R1_2.out.below bel)) (by omega)).mono ?_); rintro e we1 ⟨cse1, be1, rfl, oe1, fre1, hbe1⟩; have Oe1 := Lib.hid oe1; have Fre1 := Lib.hid fre1; clear fre1; obtain ⟨Ee1_0, ee1_0, ye1_0, Ee1_1, ee1_1, ye1_1, Ee1_2, ee1_2, ye1_2, rfl, rfl, qe1_0, qe1_1, qe1_2⟩ := kEng_O oe1; clear oe1 qe1_0 qe1_1 qe1_2)
      | (go_at_call 14; (with_reducible refine (eqEng_calls a1 a1 [_, _, _] [_, _, _] _ (kEng.K_below bel (kEng.O_K Ox1.out)) (kEng.K_below bel (kEng.O_K Oe1.out))).mono ?_); rintro e wr1 ⟨rfl, hbr1⟩))
  have hk13 : Below W12.heap.size W12 wr1 := bel
  have f0_0_13 := keepc hk13 f0_0_12
  have f0_1_13 := keepc hk13 f0_1_12
  have f0_2_13 := keepc hk13 f0_2_12
  have f1_0_13 := keepc hk13 f1_0_12
  have f1_1_13 := keepc hk13 f1_1_12
  have f1_2_13 := keepc hk13 f1_2_12
  have f2_0_13 := keepc hk13 f2_0_12
  have f2_1_13 := keepc hk13 f2_1_12
  have f2_2_13 := keepc hk13 f2_2_12
  have f2_3_13 := keepc hk13 f2_3_12
  have f2_4_13 := keepc hk13 f2_4_12
  have f2_5_13 := keepc hk13 f2_5_12
  have f2_6_13 := keepc hk13 f2_6_12
  have f2_7_13 := keepc hk13 f2_7_12
  have f2_8_13 := keepc hk13 f2_8_12
  have f2_9_13 := keepc hk13 f2_9_12
  have f3_0_13 := keepc hk13 f3_0_12
  have f3_1_13 := keepc hk13 f3_1_12
  have f3_2_13 := keepc hk13 f3_2_12
  have f4_0_13 := keepc hk13 f4_0_12
  have f4_1_13 := keepc hk13 f4_1_12
  have f4_2_13 := keepc hk13 f4_2_12
  have f5_0_13 := keepc hk13 f5_0_12
  have f5_1_13 := keepc hk13 f5_1_12
  have f5_2_13 := keepc hk13 f5_2_12
  have f5_3_13 := keepc hk13 f5_3_12
  have f5_4_13 := keepc hk13 f5_4_12
  have f5_5_13 := keepc hk13 f5_5_12
  have f5_6_13 := keepc hk13 f5_6_12
  have f5_7_13 := keepc hk13 f5_7_12
  have f5_8_13 := keepc hk13 f5_8_12
  have f5_9_13 := keepc hk13 f5_9_12
  clear f0_0_12 f0_1_12 f0_2_12 f1_0_12 f1_1_12 f1_2_12 f2_0_12 f2_1_12 f2_2_12 f2_3_12 f2_4_12 f2_5_12 f2_6_12 f2_7_12 f2_8_12 f2_9_12 f3_0_12 f3_1_12 f3_2_12 f4_0_12 f4_1_12 f4_2_12 f5_0_12 f5_1_12 f5_2_12 f5_3_12 f5_4_12 f5_5_12 f5_6_12 f5_7_12 f5_8_12 f5_9_12 z0_W12 z1_W12 z2_W12 z3_W12 z4_W12 z5_W12
  have z0_wr1 : w.heap.size < wr1.heap.size := World.block_lt_of_cell? _ _ f0_0_13
  have z1_wr1 : w.heap.size + 1 < wr1.heap.size := World.block_lt_of_cell? _ _ f1_0_13
  have z2_wr1 : bq5_0 < wr1.heap.size := World.block_lt_of_cell? _ _ f2_0_13
  have z3_wr1 : wx0.heap.size < wr1.heap.size := World.block_lt_of_cell? _ _ f3_0_13
  have z4_wr1 : wx1.heap.size < wr1.heap.size := World.block_lt_of_cell? _ _ f4_0_13
  have z5_wr1 : wi.heap.size < wr1.heap.size := World.block_lt_of_cell? _ _ f5_0_13
  go_wp2
  go_ret
  exact ⟨rfl, bel⟩
end Go.Proofs.Ytebflbenchomoaa.Wd

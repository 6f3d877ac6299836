/- The law FnExactAgree returns true at every argument. Conditions: none. -/
import Derived.Test.YtplkfpjcfalifaaAgree
import Derived.Test.YtplkfpjcfalifaaEqA
import Derived.Test.YtplkfpjcfalifaaToA
import Derived.Test.YtplkfpjcfalifaaSzA
import Derived.Test.YtplkfpjcfalifaaApw
import Derived.Deep.RegionHeld3
import Derived.Deep.CutRange
namespace Go.Proofs.Ytplkfpjcfalifaa.Wd
open Go.RowKit
set_option linter.unusedVariables false
set_option linter.unusedSimpArgs false
set_option maxHeartbeats 2000000
set_option maxRecDepth 100000
theorem law_Agree (a0 : MProg) (a1 : MLog) (a2 : MLog) (cs0 : List Value) (cs1 : List Value) (cs2 : List Value) (w : World) (h0 : kProg.K w a0 cs0) (h1 : kLog.K w a1 cs1) (h2 : kLog.K w a2 cs2) :
    Calls Try.prog 7 #[.agg cs0.toArray, .agg cs1.toArray, .agg cs2.toArray] w fun e w' => e = .returned (.bool true) ∧ Below w.heap.size w w' := by
  obtain ⟨Ea0_0, ea0_0, Ea0_1, ea0_1, Ea0_2, ea0_2, rfl, l0_0, r0_0, l0_1, r0_1, l0_2, r0_2⟩ := kProg_K h0
  have R0_0 := Lib.hid r0_0; clear r0_0
  have R0_1 := Lib.hid r0_1; clear r0_1
  have R0_2 := Lib.hid r0_2; clear r0_2
  obtain ⟨Ea1_0, ea1_0, rfl, l1_0, r1_0⟩ := kLog_K h1
  have R1_0 := Lib.hid r1_0; clear r1_0
  obtain ⟨Ea2_0, ea2_0, rfl, l2_0, r2_0⟩ := kLog_K h2
  have R2_0 := Lib.hid r2_0; clear r2_0
  clear h0 h1 h2
  by_cases hc0 : ((cntProg a0 : Nat) : Int) ≤ 1048576
  rotate_left
  · go_enter Try.func7, Try.ntmps7
    go_wp2_with fail
    refine (sz_no (szProg_calls a0 [_, _, _, _] (1048576) _ (kProg_mk _ _ l0_0 (R0_0.out.below bel) l0_1 (R0_1.out.below bel) l0_2 (R0_2.out.below bel)) (by omega) (by omega)) rfl (by omega)).mono ?_
    rintro e ws0 ⟨rfl, hbs0⟩
    have f0_0_0 : ws0.cell? ⟨w.heap.size, 0, none⟩ = some (.slice Ea0_0 a0.caps.length ea0_0) := by obtain ⟨C, D⟩ := bcell hbs0; go_simp
    have f0_1_0 : ws0.cell? ⟨w.heap.size, 1, none⟩ = some (.int .i64 a0.mus) := by obtain ⟨C, D⟩ := bcell hbs0; go_simp
    have f0_2_0 : ws0.cell? ⟨w.heap.size, 2, none⟩ = some (.slice Ea0_1 a0.sels.length ea0_1) := by obtain ⟨C, D⟩ := bcell hbs0; go_simp
    have f0_3_0 : ws0.cell? ⟨w.heap.size, 3, none⟩ = some (.slice Ea0_2 a0.procs.length ea0_2) := by obtain ⟨C, D⟩ := bcell hbs0; go_simp
    have f1_0_0 : ws0.cell? ⟨w.heap.size + 1, 0, none⟩ = some (.int .i64 a1.prn) := by obtain ⟨C, D⟩ := bcell hbs0; go_simp
    have f1_1_0 : ws0.cell? ⟨w.heap.size + 1, 1, none⟩ = some (.slice Ea1_0 a1.events.length ea1_0) := by obtain ⟨C, D⟩ := bcell hbs0; go_simp
    have f2_0_0 : ws0.cell? ⟨w.heap.size + 1 + 1, 0, none⟩ = some (.int .i64 a2.prn) := by obtain ⟨C, D⟩ := bcell hbs0; go_simp
    have f2_1_0 : ws0.cell? ⟨w.heap.size + 1 + 1, 1, none⟩ = some (.slice Ea2_0 a2.events.length ea2_0) := by obtain ⟨C, D⟩ := bcell hbs0; go_simp
    have z0_ws0 : w.heap.size < ws0.heap.size := World.block_lt_of_cell? _ _ f0_0_0
    have z1_ws0 : w.heap.size + 1 < ws0.heap.size := World.block_lt_of_cell? _ _ f1_0_0
    have z2_ws0 : w.heap.size + 1 + 1 < ws0.heap.size := World.block_lt_of_cell? _ _ f2_0_0
    go_wp2
    go_ret
    exact ⟨rfl, bel⟩
  by_cases hc1 : ((cntProg a0 : Nat) : Int) + ((cntLog a1 : Nat) : Int) ≤ 1048576
  rotate_left
  · have t0 : decide (1048576 - ((cntProg a0 : Nat) : Int) < 0) = false := by simp; omega
    go_enter Try.func7, Try.ntmps7
    go_wp2_with fail
    refine (sz_yes (szProg_calls a0 [_, _, _, _] (1048576) _ (kProg_mk _ _ l0_0 (R0_0.out.below bel) l0_1 (R0_1.out.below bel) l0_2 (R0_2.out.below bel)) (by omega) (by omega)) rfl (by omega)).mono ?_
    rintro e ws0 ⟨rfl, hbs0⟩
    have f0_0_1 : ws0.cell? ⟨w.heap.size, 0, none⟩ = some (.slice Ea0_0 a0.caps.length ea0_0) := by obtain ⟨C, D⟩ := bcell hbs0; go_simp
    have f0_1_1 : ws0.cell? ⟨w.heap.size, 1, none⟩ = some (.int .i64 a0.mus) := by obtain ⟨C, D⟩ := bcell hbs0; go_simp
    have f0_2_1 : ws0.cell? ⟨w.heap.size, 2, none⟩ = some (.slice Ea0_1 a0.sels.length ea0_1) := by obtain ⟨C, D⟩ := bcell hbs0; go_simp
    have f0_3_1 : ws0.cell? ⟨w.heap.size, 3, none⟩ = some (.slice Ea0_2 a0.procs.length ea0_2) := by obtain ⟨C, D⟩ := bcell hbs0; go_simp
    have f1_0_1 : ws0.cell? ⟨w.heap.size + 1, 0, none⟩ = some (.int .i64 a1.prn) := by obtain ⟨C, D⟩ := bcell hbs0; go_simp
    have f1_1_1 : ws0.cell? ⟨w.heap.size + 1, 1, none⟩ = some (.slice Ea1_0 a1.events.length ea1_0) := by obtain ⟨C, D⟩ := bcell hbs0; go_simp
    have f2_0_1 : ws0.cell? ⟨w.heap.size + 1 + 1, 0, none⟩ = some (.int .i64 a2.prn) := by obtain ⟨C, D⟩ := bcell hbs0; go_simp
    have f2_1_1 : ws0.cell? ⟨w.heap.size + 1 + 1, 1, none⟩ = some (.slice Ea2_0 a2.events.length ea2_0) := by obtain ⟨C, D⟩ := bcell hbs0; go_simp
    have z0_ws0 : w.heap.size < ws0.heap.size := World.block_lt_of_cell? _ _ f0_0_1
    have z1_ws0 : w.heap.size + 1 < ws0.heap.size := World.block_lt_of_cell? _ _ f1_0_1
    have z2_ws0 : w.heap.size + 1 + 1 < ws0.heap.size := World.block_lt_of_cell? _ _ f2_0_1
    go_wp2_with fail
    refine (sz_no (szLog_calls a1 [_, _] (1048576 - ((cntProg a0 : Nat) : Int)) _ (kLog_mk _ _ l1_0 (R1_0.out.below bel)) (by omega) (by omega)) rfl (by omega)).mono ?_
    rintro e ws1 ⟨rfl, hbs1⟩
    have hk2 : Below ws0.heap.size ws0 ws1 := bel
    have f0_0_2 := keepc hk2 f0_0_1
    have f0_1_2 := keepc hk2 f0_1_1
    have f0_2_2 := keepc hk2 f0_2_1
    have f0_3_2 := keepc hk2 f0_3_1
    have f1_0_2 := keepc hk2 f1_0_1
    have f1_1_2 := keepc hk2 f1_1_1
    have f2_0_2 := keepc hk2 f2_0_1
    have f2_1_2 := keepc hk2 f2_1_1
    clear f0_0_1 f0_1_1 f0_2_1 f0_3_1 f1_0_1 f1_1_1 f2_0_1 f2_1_1 z0_ws0 z1_ws0 z2_ws0
    have z0_ws1 : w.heap.size < ws1.heap.size := World.block_lt_of_cell? _ _ f0_0_2
    have z1_ws1 : w.heap.size + 1 < ws1.heap.size := World.block_lt_of_cell? _ _ f1_0_2
    have z2_ws1 : w.heap.size + 1 + 1 < ws1.heap.size := World.block_lt_of_cell? _ _ f2_0_2
    go_wp2
    go_ret
    exact ⟨rfl, bel⟩
  by_cases hc2 : ((cntProg a0 : Nat) : Int) + ((cntLog a1 : Nat) : Int) + ((cntLog a2 : Nat) : Int) ≤ 1048576
  rotate_left
  · have t0 : decide (1048576 - ((cntProg a0 : Nat) : Int) < 0) = false := by simp; omega
    have t1 : decide (1048576 - ((cntProg a0 : Nat) : Int) - ((cntLog a1 : Nat) : Int) < 0) = false := by simp; omega
    go_enter Try.func7, Try.ntmps7
    go_wp2_with fail
    refine (sz_yes (szProg_calls a0 [_, _, _, _] (1048576) _ (kProg_mk _ _ l0_0 (R0_0.out.below bel) l0_1 (R0_1.out.below bel) l0_2 (R0_2.out.below bel)) (by omega) (by omega)) rfl (by omega)).mono ?_
    rintro e ws0 ⟨rfl, hbs0⟩
    have f0_0_3 : ws0.cell? ⟨w.heap.size, 0, none⟩ = some (.slice Ea0_0 a0.caps.length ea0_0) := by obtain ⟨C, D⟩ := bcell hbs0; go_simp
    have f0_1_3 : ws0.cell? ⟨w.heap.size, 1, none⟩ = some (.int .i64 a0.mus) := by obtain ⟨C, D⟩ := bcell hbs0; go_simp
    have f0_2_3 : ws0.cell? ⟨w.heap.size, 2, none⟩ = some (.slice Ea0_1 a0.sels.length ea0_1) := by obtain ⟨C, D⟩ := bcell hbs0; go_simp
    have f0_3_3 : ws0.cell? ⟨w.heap.size, 3, none⟩ = some (.slice Ea0_2 a0.procs.length ea0_2) := by obtain ⟨C, D⟩ := bcell hbs0; go_simp
    have f1_0_3 : ws0.cell? ⟨w.heap.size + 1, 0, none⟩ = some (.int .i64 a1.prn) := by obtain ⟨C, D⟩ := bcell hbs0; go_simp
    have f1_1_3 : ws0.cell? ⟨w.heap.size + 1, 1, none⟩ = some (.slice Ea1_0 a1.events.length ea1_0) := by obtain ⟨C, D⟩ := bcell hbs0; go_simp
    have f2_0_3 : ws0.cell? ⟨w.heap.size + 1 + 1, 0, none⟩ = some (.int .i64 a2.prn) := by obtain ⟨C, D⟩ := bcell hbs0; go_simp
    have f2_1_3 : ws0.cell? ⟨w.heap.size + 1 + 1, 1, none⟩ = some (.slice Ea2_0 a2.events.length ea2_0) := by obtain ⟨C, D⟩ := bcell hbs0; go_simp
    have z0_ws0 : w.heap.size < ws0.heap.size := World.block_lt_of_cell? _ _ f0_0_3
    have z1_ws0 : w.heap.size + 1 < ws0.heap.size := World.block_lt_of_cell? _ _ f1_0_3
    have z2_ws0 : w.heap.size + 1 + 1 < ws0.heap.size := World.block_lt_of_cell? _ _ f2_0_3
    go_wp2_with fail
    refine (sz_yes (szLog_calls a1 [_, _] (1048576 - ((cntProg a0 : Nat) : Int)) _ (kLog_mk _ _ l1_0 (R1_0.out.below bel)) (by omega) (by omega)) rfl (by omega)).mono ?_
    rintro e ws1 ⟨rfl, hbs1⟩
    have hk4 : Below ws0.heap.size ws0 ws1 := bel
    have f0_0_4 := keepc hk4 f0_0_3
    have f0_1_4 := keepc hk4 f0_1_3
    have f0_2_4 := keepc hk4 f0_2_3
    have f0_3_4 := keepc hk4 f0_3_3
    have f1_0_4 := keepc hk4 f1_0_3
    have f1_1_4 := keepc hk4 f1_1_3
    have f2_0_4 := keepc hk4 f2_0_3
    have f2_1_4 := keepc hk4 f2_1_3
    clear f0_0_3 f0_1_3 f0_2_3 f0_3_3 f1_0_3 f1_1_3 f2_0_3 f2_1_3 z0_ws0 z1_ws0 z2_ws0
    have z0_ws1 : w.heap.size < ws1.heap.size := World.block_lt_of_cell? _ _ f0_0_4
    have z1_ws1 : w.heap.size + 1 < ws1.heap.size := World.block_lt_of_cell? _ _ f1_0_4
    have z2_ws1 : w.heap.size + 1 + 1 < ws1.heap.size := World.block_lt_of_cell? _ _ f2_0_4
    go_wp2_with fail
    refine (sz_no (szLog_calls a2 [_, _] (1048576 - ((cntProg a0 : Nat) : Int) - ((cntLog a1 : Nat) : Int)) _ (kLog_mk _ _ l2_0 (R2_0.out.below bel)) (by omega) (by omega)) rfl (by omega)).mono ?_
    rintro e ws2 ⟨rfl, hbs2⟩
    have hk5 : Below ws1.heap.size ws1 ws2 := bel
    have f0_0_5 := keepc hk5 f0_0_4
    have f0_1_5 := keepc hk5 f0_1_4
    have f0_2_5 := keepc hk5 f0_2_4
    have f0_3_5 := keepc hk5 f0_3_4
    have f1_0_5 := keepc hk5 f1_0_4
    have f1_1_5 := keepc hk5 f1_1_4
    have f2_0_5 := keepc hk5 f2_0_4
    have f2_1_5 := keepc hk5 f2_1_4
    clear f0_0_4 f0_1_4 f0_2_4 f0_3_4 f1_0_4 f1_1_4 f2_0_4 f2_1_4 z0_ws1 z1_ws1 z2_ws1
    have z0_ws2 : w.heap.size < ws2.heap.size := World.block_lt_of_cell? _ _ f0_0_5
    have z1_ws2 : w.heap.size + 1 < ws2.heap.size := World.block_lt_of_cell? _ _ f1_0_5
    have z2_ws2 : w.heap.size + 1 + 1 < ws2.heap.size := World.block_lt_of_cell? _ _ f2_0_5
    go_wp2
    go_ret
    exact ⟨rfl, bel⟩
  have t0 : decide (1048576 - ((cntProg a0 : Nat) : Int) < 0) = false := by simp; omega
  have t1 : decide (1048576 - ((cntProg a0 : Nat) : Int) - ((cntLog a1 : Nat) : Int) < 0) = false := by simp; omega
  have t2 : decide (1048576 - ((cntProg a0 : Nat) : Int) - ((cntLog a1 : Nat) : Int) - ((cntLog a2 : Nat) : Int) < 0) = false := by simp; omega
  go_enter Try.func7, Try.ntmps7
  go_wp2_with fail
  refine (sz_yes (szProg_calls a0 [_, _, _, _] (1048576) _ (kProg_mk _ _ l0_0 (R0_0.out.below bel) l0_1 (R0_1.out.below bel) l0_2 (R0_2.out.below bel)) (by omega) (by omega)) rfl (by omega)).mono ?_
  rintro e ws0 ⟨rfl, hbs0⟩
  have f0_0_6 : ws0.cell? ⟨w.heap.size, 0, none⟩ = some (.slice Ea0_0 a0.caps.length ea0_0) := by obtain ⟨C, D⟩ := bcell hbs0; go_simp
  have f0_1_6 : ws0.cell? ⟨w.heap.size, 1, none⟩ = some (.int .i64 a0.mus) := by obtain ⟨C, D⟩ := bcell hbs0; go_simp
  have f0_2_6 : ws0.cell? ⟨w.heap.size, 2, none⟩ = some (.slice Ea0_1 a0.sels.length ea0_1) := by obtain ⟨C, D⟩ := bcell hbs0; go_simp
  have f0_3_6 : ws0.cell? ⟨w.heap.size, 3, none⟩ = some (.slice Ea0_2 a0.procs.length ea0_2) := by obtain ⟨C, D⟩ := bcell hbs0; go_simp
  have f1_0_6 : ws0.cell? ⟨w.heap.size + 1, 0, none⟩ = some (.int .i64 a1.prn) := by obtain ⟨C, D⟩ := bcell hbs0; go_simp
  have f1_1_6 : ws0.cell? ⟨w.heap.size + 1, 1, none⟩ = some (.slice Ea1_0 a1.events.length ea1_0) := by obtain ⟨C, D⟩ := bcell hbs0; go_simp
  have f2_0_6 : ws0.cell? ⟨w.heap.size + 1 + 1, 0, none⟩ = some (.int .i64 a2.prn) := by obtain ⟨C, D⟩ := bcell hbs0; go_simp
  have f2_1_6 : ws0.cell? ⟨w.heap.size + 1 + 1, 1, none⟩ = some (.slice Ea2_0 a2.events.length ea2_0) := by obtain ⟨C, D⟩ := bcell hbs0; go_simp
  have z0_ws0 : w.heap.size < ws0.heap.size := World.block_lt_of_cell? _ _ f0_0_6
  have z1_ws0 : w.heap.size + 1 < ws0.heap.size := World.block_lt_of_cell? _ _ f1_0_6
  have z2_ws0 : w.heap.size + 1 + 1 < ws0.heap.size := World.block_lt_of_cell? _ _ f2_0_6
  go_wp2_with fail
  refine (sz_yes (szLog_calls a1 [_, _] (1048576 - ((cntProg a0 : Nat) : Int)) _ (kLog_mk _ _ l1_0 (R1_0.out.below bel)) (by omega) (by omega)) rfl (by omega)).mono ?_
  rintro e ws1 ⟨rfl, hbs1⟩
  have hk7 : Below ws0.heap.size ws0 ws1 := bel
  have f0_0_7 := keepc hk7 f0_0_6
  have f0_1_7 := keepc hk7 f0_1_6
  have f0_2_7 := keepc hk7 f0_2_6
  have f0_3_7 := keepc hk7 f0_3_6
  have f1_0_7 := keepc hk7 f1_0_6
  have f1_1_7 := keepc hk7 f1_1_6
  have f2_0_7 := keepc hk7 f2_0_6
  have f2_1_7 := keepc hk7 f2_1_6
  clear f0_0_6 f0_1_6 f0_2_6 f0_3_6 f1_0_6 f1_1_6 f2_0_6 f2_1_6 z0_ws0 z1_ws0 z2_ws0
  have z0_ws1 : w.heap.size < ws1.heap.size := World.block_lt_of_cell? _ _ f0_0_7
  have z1_ws1 : w.heap.size + 1 < ws1.heap.size := World.block_lt_of_cell? _ _ f1_0_7
  have z2_ws1 : w.heap.size + 1 + 1 < ws1.heap.size := World.block_lt_of_cell? _ _ f2_0_7
  go_wp2_with fail
  refine (sz_yes (szLog_calls a2 [_, _] (1048576 - ((cntProg a0 : Nat) : Int) - ((cntLog a1 : Nat) : Int)) _ (kLog_mk _ _ l2_0 (R2_0.out.below bel)) (by omega) (by omega)) rfl (by omega)).mono ?_
  rintro e ws2 ⟨rfl, hbs2⟩
  have hk8 : Below ws1.heap.size ws1 ws2 := bel
  have f0_0_8 := keepc hk8 f0_0_7
  have f0_1_8 := keepc hk8 f0_1_7
  have f0_2_8 := keepc hk8 f0_2_7
  have f0_3_8 := keepc hk8 f0_3_7
  have f1_0_8 := keepc hk8 f1_0_7
  have f1_1_8 := keepc hk8 f1_1_7
  have f2_0_8 := keepc hk8 f2_0_7
  have f2_1_8 := keepc hk8 f2_1_7
  clear f0_0_7 f0_1_7 f0_2_7 f0_3_7 f1_0_7 f1_1_7 f2_0_7 f2_1_7 z0_ws1 z1_ws1 z2_ws1
  have z0_ws2 : w.heap.size < ws2.heap.size := World.block_lt_of_cell? _ _ f0_0_8
  have z1_ws2 : w.heap.size + 1 < ws2.heap.size := World.block_lt_of_cell? _ _ f1_0_8
  have z2_ws2 : w.heap.size + 1 + 1 < ws2.heap.size := World.block_lt_of_cell? _ _ f2_0_8
  go_wp2_with fail
  refine settleR ?_
  intro W9 hW9
  have hbW9 : Below ws2.heap.size ws2 W9 := by rw [hW9]; exact bel
  have f0_0_9 := keepc hbW9 f0_0_8
  have f0_1_9 := keepc hbW9 f0_1_8
  have f0_2_9 := keepc hbW9 f0_2_8
  have f0_3_9 := keepc hbW9 f0_3_8
  have f1_0_9 := keepc hbW9 f1_0_8
  have f1_1_9 := keepc hbW9 f1_1_8
  have f2_0_9 := keepc hbW9 f2_0_8
  have f2_1_9 := keepc hbW9 f2_1_8
  clear hW9
  clear f0_0_8 f0_1_8 f0_2_8 f0_3_8 f1_0_8 f1_1_8 f2_0_8 f2_1_8 z0_ws2 z1_ws2 z2_ws2
  have z0_W9 : w.heap.size < W9.heap.size := World.block_lt_of_cell? _ _ f0_0_9
  have z1_W9 : w.heap.size + 1 < W9.heap.size := World.block_lt_of_cell? _ _ f1_0_9
  have z2_W9 : w.heap.size + 1 + 1 < W9.heap.size := World.block_lt_of_cell? _ _ f2_0_9
  go_region_held3 (fun w' => w'.cell? ⟨w.heap.size, 0, none⟩ = some (.slice Ea0_0 a0.caps.length ea0_0) ∧ w'.cell? ⟨w.heap.size, 1, none⟩ = some (.int .i64 a0.mus) ∧ w'.cell? ⟨w.heap.size, 2, none⟩ = some (.slice Ea0_1 a0.sels.length ea0_1) ∧ w'.cell? ⟨w.heap.size, 3, none⟩ = some (.slice Ea0_2 a0.procs.length ea0_2) ∧ w'.cell? ⟨w.heap.size + 1, 0, none⟩ = some (.int .i64 a1.prn) ∧ w'.cell? ⟨w.heap.size + 1, 1, none⟩ = some (.slice Ea1_0 a1.events.length ea1_0) ∧ w'.cell? ⟨w.heap.size + 1 + 1, 0, none⟩ = some (.int .i64 a2.prn) ∧ w'.cell? ⟨w.heap.size + 1 + 1, 1, none⟩ = some (.slice Ea2_0 a2.events.length ea2_0)) (exact ⟨keepc bel f0_0_9, keepc bel f0_1_9, keepc bel f0_2_9, keepc bel f0_3_9, keepc bel f1_0_9, keepc bel f1_1_9, keepc bel f2_0_9, keepc bel f2_1_9⟩)
    (first
      | (go_at_call 23; (with_reducible refine (toProg_calls a0 [_, _, _, _] _ (kProg_mk _ _ l0_0 (R0_0.out.below bel) l0_1 (R0_1.out.below bel) l0_2 (R0_2.out.below bel)) (by omega)).mono ?_); rintro e wp0 ⟨csp0, bp0, rfl, op0, frp0, hbp0⟩; have Op0 := Lib.hid op0; have Frp0 := Lib.hid frp0; clear frp0; obtain ⟨Ep0_0, ep0_0, yp0_0, Ep0_1, ep0_1, yp0_1, Ep0_2, ep0_2, yp0_2, rfl, rfl, qp0_0, qp0_1, qp0_2⟩ := kProg_O op0; clear op0; clear qp0_0 qp0_1 qp0_2)
      | (go_at_call 24; (with_reducible refine (toLog_calls a1 [_, _] _ (kLog_mk _ _ l1_0 (R1_0.out.below bel)) (by omega)).mono ?_); rintro e wp1 ⟨csp1, bp1, rfl, op1, frp1, hbp1⟩; have Op1 := Lib.hid op1; have Frp1 := Lib.hid frp1; clear frp1; obtain ⟨Ep1_0, ep1_0, yp1_0, rfl, rfl, qp1_0⟩ := kLog_O op1; clear op1; clear qp1_0)
      | (go_at_call 24; (with_reducible refine (toLog_calls a2 [_, _] _ (kLog_mk _ _ l2_0 (R2_0.out.below bel)) (by omega)).mono ?_); rintro e wp2 ⟨csp2, bp2, rfl, op2, frp2, hbp2⟩; have Op2 := Lib.hid op2; have Frp2 := Lib.hid frp2; clear frp2; obtain ⟨Ep2_0, ep2_0, yp2_0, rfl, rfl, qp2_0⟩ := kLog_O op2; clear op2; clear qp2_0)
      | (go_at_call 22; (with_reducible refine (spec_Agree_calls a0 a1 a2 [_, _, _, _] [_, _] [_, _] _ (kProg.K_below bel (kProg.O_K Op0.out)) (kLog.K_below bel (kLog.O_K Op1.out)) (kLog.K_below bel (kLog.O_K Op2.out)) (by omega) (by omega) (by omega)).mono ?_); rintro e wq ⟨rfl, hbq⟩))
  have hk10 : Below W9.heap.size W9 wq := bel
  have f0_0_10 := keepc hk10 f0_0_9
  have f0_1_10 := keepc hk10 f0_1_9
  have f0_2_10 := keepc hk10 f0_2_9
  have f0_3_10 := keepc hk10 f0_3_9
  have f1_0_10 := keepc hk10 f1_0_9
  have f1_1_10 := keepc hk10 f1_1_9
  have f2_0_10 := keepc hk10 f2_0_9
  have f2_1_10 := keepc hk10 f2_1_9
  clear f0_0_9 f0_1_9 f0_2_9 f0_3_9 f1_0_9 f1_1_9 f2_0_9 f2_1_9 z0_W9 z1_W9 z2_W9
  have z0_wq : w.heap.size < wq.heap.size := World.block_lt_of_cell? _ _ f0_0_10
  have z1_wq : w.heap.size + 1 < wq.heap.size := World.block_lt_of_cell? _ _ f1_0_10
  have z2_wq : w.heap.size + 1 + 1 < wq.heap.size := World.block_lt_of_cell? _ _ f2_0_10
  go_wp2_with fail
  go_at_call 23; (refine (toProg_calls a0 [_, _, _, _] _ (kProg_mk _ _ l0_0 (R0_0.out.below bel) l0_1 (R0_1.out.below bel) l0_2 (R0_2.out.below bel)) (by omega)).mono ?_); rintro e wx0 ⟨csx0, bx0, rfl, ox0, frx0, hbx0⟩; have Ox0 := Lib.hid ox0; have Frx0 := Lib.hid frx0; clear frx0; obtain ⟨Ex0_0, ex0_0, yx0_0, Ex0_1, ex0_1, yx0_1, Ex0_2, ex0_2, yx0_2, rfl, rfl, qx0_0, qx0_1, qx0_2⟩ := kProg_O ox0; clear ox0; clear qx0_0 qx0_1 qx0_2
  have hk11 : Below wq.heap.size wq wx0 := bel
  have f0_0_11 := keepc hk11 f0_0_10
  have f0_1_11 := keepc hk11 f0_1_10
  have f0_2_11 := keepc hk11 f0_2_10
  have f0_3_11 := keepc hk11 f0_3_10
  have f1_0_11 := keepc hk11 f1_0_10
  have f1_1_11 := keepc hk11 f1_1_10
  have f2_0_11 := keepc hk11 f2_0_10
  have f2_1_11 := keepc hk11 f2_1_10
  clear f0_0_10 f0_1_10 f0_2_10 f0_3_10 f1_0_10 f1_1_10 f2_0_10 f2_1_10 z0_wq z1_wq z2_wq
  have z0_wx0 : w.heap.size < wx0.heap.size := World.block_lt_of_cell? _ _ f0_0_11
  have z1_wx0 : w.heap.size + 1 < wx0.heap.size := World.block_lt_of_cell? _ _ f1_0_11
  have z2_wx0 : w.heap.size + 1 + 1 < wx0.heap.size := World.block_lt_of_cell? _ _ f2_0_11
  go_wp2_with fail
  go_at_call 24; (refine (toLog_calls a1 [_, _] _ (kLog_mk _ _ l1_0 (R1_0.out.below bel)) (by omega)).mono ?_); rintro e wx1 ⟨csx1, bx1, rfl, ox1, frx1, hbx1⟩; have Ox1 := Lib.hid ox1; have Frx1 := Lib.hid frx1; clear frx1; obtain ⟨Ex1_0, ex1_0, yx1_0, rfl, rfl, qx1_0⟩ := kLog_O ox1; clear ox1; clear qx1_0
  have hk12 : Below wx0.heap.size wx0 wx1 := bel
  have f0_0_12 := keepc hk12 f0_0_11
  have f0_1_12 := keepc hk12 f0_1_11
  have f0_2_12 := keepc hk12 f0_2_11
  have f0_3_12 := keepc hk12 f0_3_11
  have f1_0_12 := keepc hk12 f1_0_11
  have f1_1_12 := keepc hk12 f1_1_11
  have f2_0_12 := keepc hk12 f2_0_11
  have f2_1_12 := keepc hk12 f2_1_11
  have f3_0_12 : wx1.cell? ⟨wx0.heap.size, 0, none⟩ = some (.slice Ex0_0 a0.caps.length ex0_0) := by obtain ⟨C, D⟩ := bcell hbx1; go_simp
  have f3_1_12 : wx1.cell? ⟨wx0.heap.size, 1, none⟩ = some (.int .i64 a0.mus) := by obtain ⟨C, D⟩ := bcell hbx1; go_simp
  have f3_2_12 : wx1.cell? ⟨wx0.heap.size, 2, none⟩ = some (.slice Ex0_1 a0.sels.length ex0_1) := by obtain ⟨C, D⟩ := bcell hbx1; go_simp
  have f3_3_12 : wx1.cell? ⟨wx0.heap.size, 3, none⟩ = some (.slice Ex0_2 a0.procs.length ex0_2) := by obtain ⟨C, D⟩ := bcell hbx1; go_simp
  clear f0_0_11 f0_1_11 f0_2_11 f0_3_11 f1_0_11 f1_1_11 f2_0_11 f2_1_11 z0_wx0 z1_wx0 z2_wx0
  have z0_wx1 : w.heap.size < wx1.heap.size := World.block_lt_of_cell? _ _ f0_0_12
  have z1_wx1 : w.heap.size + 1 < wx1.heap.size := World.block_lt_of_cell? _ _ f1_0_12
  have z2_wx1 : w.heap.size + 1 + 1 < wx1.heap.size := World.block_lt_of_cell? _ _ f2_0_12
  have z3_wx1 : wx0.heap.size < wx1.heap.size := World.block_lt_of_cell? _ _ f3_0_12
  go_wp2_with fail
  go_at_call 24; (refine (toLog_calls a2 [_, _] _ (kLog_mk _ _ l2_0 (R2_0.out.below bel)) (by omega)).mono ?_); rintro e wx2 ⟨csx2, bx2, rfl, ox2, frx2, hbx2⟩; have Ox2 := Lib.hid ox2; have Frx2 := Lib.hid frx2; clear frx2; obtain ⟨Ex2_0, ex2_0, yx2_0, rfl, rfl, qx2_0⟩ := kLog_O ox2; clear ox2; clear qx2_0
  have hk13 : Below wx1.heap.size wx1 wx2 := bel
  have f0_0_13 := keepc hk13 f0_0_12
  have f0_1_13 := keepc hk13 f0_1_12
  have f0_2_13 := keepc hk13 f0_2_12
  have f0_3_13 := keepc hk13 f0_3_12
  have f1_0_13 := keepc hk13 f1_0_12
  have f1_1_13 := keepc hk13 f1_1_12
  have f2_0_13 := keepc hk13 f2_0_12
  have f2_1_13 := keepc hk13 f2_1_12
  have f3_0_13 := keepc hk13 f3_0_12
  have f3_1_13 := keepc hk13 f3_1_12
  have f3_2_13 := keepc hk13 f3_2_12
  have f3_3_13 := keepc hk13 f3_3_12
  have f4_0_13 : wx2.cell? ⟨wx1.heap.size, 0, none⟩ = some (.int .i64 a1.prn) := by obtain ⟨C, D⟩ := bcell hbx2; go_simp
  have f4_1_13 : wx2.cell? ⟨wx1.heap.size, 1, none⟩ = some (.slice Ex1_0 a1.events.length ex1_0) := by obtain ⟨C, D⟩ := bcell hbx2; go_simp
  clear f0_0_12 f0_1_12 f0_2_12 f0_3_12 f1_0_12 f1_1_12 f2_0_12 f2_1_12 f3_0_12 f3_1_12 f3_2_12 f3_3_12 z0_wx1 z1_wx1 z2_wx1 z3_wx1
  have z0_wx2 : w.heap.size < wx2.heap.size := World.block_lt_of_cell? _ _ f0_0_13
  have z1_wx2 : w.heap.size + 1 < wx2.heap.size := World.block_lt_of_cell? _ _ f1_0_13
  have z2_wx2 : w.heap.size + 1 + 1 < wx2.heap.size := World.block_lt_of_cell? _ _ f2_0_13
  have z3_wx2 : wx0.heap.size < wx2.heap.size := World.block_lt_of_cell? _ _ f3_0_13
  have z4_wx2 : wx1.heap.size < wx2.heap.size := World.block_lt_of_cell? _ _ f4_0_13
  go_wp2_with fail
  go_at_call 25; (refine (impl_Agree_calls a0 a1 a2 [_, _, _, _] [_, _] [_, _] _ (kProg.K_below bel (kProg.O_K Ox0.out)) (kLog.K_below bel (kLog.O_K Ox1.out)) (kLog.K_below bel (kLog.O_K Ox2.out)) (by omega) (by omega) (by omega)).mono ?_); rintro e wi ⟨rfl, hbi⟩
  have hk14 : Below wx2.heap.size wx2 wi := bel
  have f0_0_14 := keepc hk14 f0_0_13
  have f0_1_14 := keepc hk14 f0_1_13
  have f0_2_14 := keepc hk14 f0_2_13
  have f0_3_14 := keepc hk14 f0_3_13
  have f1_0_14 := keepc hk14 f1_0_13
  have f1_1_14 := keepc hk14 f1_1_13
  have f2_0_14 := keepc hk14 f2_0_13
  have f2_1_14 := keepc hk14 f2_1_13
  have f3_0_14 := keepc hk14 f3_0_13
  have f3_1_14 := keepc hk14 f3_1_13
  have f3_2_14 := keepc hk14 f3_2_13
  have f3_3_14 := keepc hk14 f3_3_13
  have f4_0_14 := keepc hk14 f4_0_13
  have f4_1_14 := keepc hk14 f4_1_13
  have f5_0_14 : wi.cell? ⟨wx2.heap.size, 0, none⟩ = some (.int .i64 a2.prn) := by obtain ⟨C, D⟩ := bcell hbi; go_simp
  have f5_1_14 : wi.cell? ⟨wx2.heap.size, 1, none⟩ = some (.slice Ex2_0 a2.events.length ex2_0) := by obtain ⟨C, D⟩ := bcell hbi; go_simp
  clear f0_0_13 f0_1_13 f0_2_13 f0_3_13 f1_0_13 f1_1_13 f2_0_13 f2_1_13 f3_0_13 f3_1_13 f3_2_13 f3_3_13 f4_0_13 f4_1_13 z0_wx2 z1_wx2 z2_wx2 z3_wx2 z4_wx2
  have z0_wi : w.heap.size < wi.heap.size := World.block_lt_of_cell? _ _ f0_0_14
  have z1_wi : w.heap.size + 1 < wi.heap.size := World.block_lt_of_cell? _ _ f1_0_14
  have z2_wi : w.heap.size + 1 + 1 < wi.heap.size := World.block_lt_of_cell? _ _ f2_0_14
  have z3_wi : wx0.heap.size < wi.heap.size := World.block_lt_of_cell? _ _ f3_0_14
  have z4_wi : wx1.heap.size < wi.heap.size := World.block_lt_of_cell? _ _ f4_0_14
  have z5_wi : wx2.heap.size < wi.heap.size := World.block_lt_of_cell? _ _ f5_0_14
  go_wp2_with fail
  refine settleR ?_
  intro W15 hW15
  have hbW15 : Below wi.heap.size wi W15 := by rw [hW15]; exact bel
  have f0_0_15 := keepc hbW15 f0_0_14
  have f0_1_15 := keepc hbW15 f0_1_14
  have f0_2_15 := keepc hbW15 f0_2_14
  have f0_3_15 := keepc hbW15 f0_3_14
  have f1_0_15 := keepc hbW15 f1_0_14
  have f1_1_15 := keepc hbW15 f1_1_14
  have f2_0_15 := keepc hbW15 f2_0_14
  have f2_1_15 := keepc hbW15 f2_1_14
  have f3_0_15 := keepc hbW15 f3_0_14
  have f3_1_15 := keepc hbW15 f3_1_14
  have f3_2_15 := keepc hbW15 f3_2_14
  have f3_3_15 := keepc hbW15 f3_3_14
  have f4_0_15 := keepc hbW15 f4_0_14
  have f4_1_15 := keepc hbW15 f4_1_14
  have f5_0_15 := keepc hbW15 f5_0_14
  have f5_1_15 := keepc hbW15 f5_1_14
  clear hW15
  clear f0_0_14 f0_1_14 f0_2_14 f0_3_14 f1_0_14 f1_1_14 f2_0_14 f2_1_14 f3_0_14 f3_1_14 f3_2_14 f3_3_14 f4_0_14 f4_1_14 f5_0_14 f5_1_14 z0_wi z1_wi z2_wi z3_wi z4_wi z5_wi
  have z0_W15 : w.heap.size < W15.heap.size := World.block_lt_of_cell? _ _ f0_0_15
  have z1_W15 : w.heap.size + 1 < W15.heap.size := World.block_lt_of_cell? _ _ f1_0_15
  have z2_W15 : w.heap.size + 1 + 1 < W15.heap.size := World.block_lt_of_cell? _ _ f2_0_15
  have z3_W15 : wx0.heap.size < W15.heap.size := World.block_lt_of_cell? _ _ f3_0_15
  have z4_W15 : wx1.heap.size < W15.heap.size := World.block_lt_of_cell? _ _ f4_0_15
  have z5_W15 : wx2.heap.size < W15.heap.size := World.block_lt_of_cell? _ _ f5_0_15
  go_region_held3 (fun w' => w'.cell? ⟨w.heap.size, 0, none⟩ = some (.slice Ea0_0 a0.caps.length ea0_0) ∧ w'.cell? ⟨w.heap.size, 1, none⟩ = some (.int .i64 a0.mus) ∧ w'.cell? ⟨w.heap.size, 2, none⟩ = some (.slice Ea0_1 a0.sels.length ea0_1) ∧ w'.cell? ⟨w.heap.size, 3, none⟩ = some (.slice Ea0_2 a0.procs.length ea0_2) ∧ w'.cell? ⟨w.heap.size + 1, 0, none⟩ = some (.int .i64 a1.prn) ∧ w'.cell? ⟨w.heap.size + 1, 1, none⟩ = some (.slice Ea1_0 a1.events.length ea1_0) ∧ w'.cell? ⟨w.heap.size + 1 + 1, 0, none⟩ = some (.int .i64 a2.prn) ∧ w'.cell? ⟨w.heap.size + 1 + 1, 1, none⟩ = some (.slice Ea2_0 a2.events.length ea2_0) ∧ w'.cell? ⟨wx0.heap.size, 0, none⟩ = some (.slice Ex0_0 a0.caps.length ex0_0) ∧ w'.cell? ⟨wx0.heap.size, 1, none⟩ = some (.int .i64 a0.mus) ∧ w'.cell? ⟨wx0.heap.size, 2, none⟩ = some (.slice Ex0_1 a0.sels.length ex0_1) ∧ w'.cell? ⟨wx0.heap.size, 3, none⟩ = some (.slice Ex0_2 a0.procs.length ex0_2) ∧ w'.cell? ⟨wx1.heap.size, 0, none⟩ = some (.int .i64 a1.prn) ∧ w'.cell? ⟨wx1.heap.size, 1, none⟩ = some (.slice Ex1_0 a1.events.length ex1_0) ∧ w'.cell? ⟨wx2.heap.size, 0, none⟩ = some (.int .i64 a2.prn) ∧ w'.cell? ⟨wx2.heap.size, 1, none⟩ = some (.slice Ex2_0 a2.events.length ex2_0)) (exact ⟨keepc bel f0_0_15, keepc bel f0_1_15, keepc bel f0_2_15, keepc bel f0_3_15, keepc bel f1_0_15, keepc bel f1_1_15, keepc bel f2_0_15, keepc bel f2_1_15, keepc bel f3_0_15, keepc bel f3_1_15, keepc bel f3_2_15, keepc bel f3_3_15, keepc bel f4_0_15, keepc bel f4_1_15, keepc bel f5_0_15, keepc bel f5_1_15⟩)
    (first
      | (go_at_call 23; (with_reducible refine (toProg_calls a0 [_, _, _, _] _ (kProg_mk _ _ l0_0 (R0_0.out.below bel) l0_1 (R0_1.out.below bel) l0_2 (R0_2.out.below bel)) (by omega)).mono ?_); rintro e we0 ⟨cse0, be0, rfl, oe0, fre0, hbe0⟩; have Oe0 := Lib.hid oe0; have Fre0 := Lib.hid fre0; clear fre0; obtain ⟨Ee0_0, ee0_0, ye0_0, Ee0_1, ee0_1, ye0_1, Ee0_2, ee0_2, ye0_2, rfl, rfl, qe0_0, qe0_1, qe0_2⟩ := kProg_O oe0; clear oe0; clear qe0_0 qe0_1 qe0_2)
      | (go_at_call 26; (with_reducible refine (eqProg_calls a0 a0 [_, _, _, _] [_, _, _, _] _ (kProg.K_below bel (kProg.O_K Ox0.out)) (kProg.K_below bel (kProg.O_K Oe0.out))).mono ?_); rintro e wr0 ⟨rfl, hbr0⟩))
  have hk16 : Below W15.heap.size W15 wr0 := bel
  have f0_0_16 := keepc hk16 f0_0_15
  have f0_1_16 := keepc hk16 f0_1_15
  have f0_2_16 := keepc hk16 f0_2_15
  have f0_3_16 := keepc hk16 f0_3_15
  have f1_0_16 := keepc hk16 f1_0_15
  have f1_1_16 := keepc hk16 f1_1_15
  have f2_0_16 := keepc hk16 f2_0_15
  have f2_1_16 := keepc hk16 f2_1_15
  have f3_0_16 := keepc hk16 f3_0_15
  have f3_1_16 := keepc hk16 f3_1_15
  have f3_2_16 := keepc hk16 f3_2_15
  have f3_3_16 := keepc hk16 f3_3_15
  have f4_0_16 := keepc hk16 f4_0_15
  have f4_1_16 := keepc hk16 f4_1_15
  have f5_0_16 := keepc hk16 f5_0_15
  have f5_1_16 := keepc hk16 f5_1_15
  clear f0_0_15 f0_1_15 f0_2_15 f0_3_15 f1_0_15 f1_1_15 f2_0_15 f2_1_15 f3_0_15 f3_1_15 f3_2_15 f3_3_15 f4_0_15 f4_1_15 f5_0_15 f5_1_15 z0_W15 z1_W15 z2_W15 z3_W15 z4_W15 z5_W15
  have z0_wr0 : w.heap.size < wr0.heap.size := World.block_lt_of_cell? _ _ f0_0_16
  have z1_wr0 : w.heap.size + 1 < wr0.heap.size := World.block_lt_of_cell? _ _ f1_0_16
  have z2_wr0 : w.heap.size + 1 + 1 < wr0.heap.size := World.block_lt_of_cell? _ _ f2_0_16
  have z3_wr0 : wx0.heap.size < wr0.heap.size := World.block_lt_of_cell? _ _ f3_0_16
  have z4_wr0 : wx1.heap.size < wr0.heap.size := World.block_lt_of_cell? _ _ f4_0_16
  have z5_wr0 : wx2.heap.size < wr0.heap.size := World.block_lt_of_cell? _ _ f5_0_16
  go_wp2_with fail
  refine settleR ?_
  intro W17 hW17
  have hbW17 : Below wr0.heap.size wr0 W17 := by rw [hW17]; exact bel
  have f0_0_17 := keepc hbW17 f0_0_16
  have f0_1_17 := keepc hbW17 f0_1_16
  have f0_2_17 := keepc hbW17 f0_2_16
  have f0_3_17 := keepc hbW17 f0_3_16
  have f1_0_17 := keepc hbW17 f1_0_16
  have f1_1_17 := keepc hbW17 f1_1_16
  have f2_0_17 := keepc hbW17 f2_0_16
  have f2_1_17 := keepc hbW17 f2_1_16
  have f3_0_17 := keepc hbW17 f3_0_16
  have f3_1_17 := keepc hbW17 f3_1_16
  have f3_2_17 := keepc hbW17 f3_2_16
  have f3_3_17 := keepc hbW17 f3_3_16
  have f4_0_17 := keepc hbW17 f4_0_16
  have f4_1_17 := keepc hbW17 f4_1_16
  have f5_0_17 := keepc hbW17 f5_0_16
  have f5_1_17 := keepc hbW17 f5_1_16
  clear hW17
  clear f0_0_16 f0_1_16 f0_2_16 f0_3_16 f1_0_16 f1_1_16 f2_0_16 f2_1_16 f3_0_16 f3_1_16 f3_2_16 f3_3_16 f4_0_16 f4_1_16 f5_0_16 f5_1_16 z0_wr0 z1_wr0 z2_wr0 z3_wr0 z4_wr0 z5_wr0
  have z0_W17 : w.heap.size < W17.heap.size := World.block_lt_of_cell? _ _ f0_0_17
  have z1_W17 : w.heap.size + 1 < W17.heap.size := World.block_lt_of_cell? _ _ f1_0_17
  have z2_W17 : w.heap.size + 1 + 1 < W17.heap.size := World.block_lt_of_cell? _ _ f2_0_17
  have z3_W17 : wx0.heap.size < W17.heap.size := World.block_lt_of_cell? _ _ f3_0_17
  have z4_W17 : wx1.heap.size < W17.heap.size := World.block_lt_of_cell? _ _ f4_0_17
  have z5_W17 : wx2.heap.size < W17.heap.size := World.block_lt_of_cell? _ _ f5_0_17
  go_region_held3 (fun w' => w'.cell? ⟨w.heap.size, 0, none⟩ = some (.slice Ea0_0 a0.caps.length ea0_0) ∧ w'.cell? ⟨w.heap.size, 1, none⟩ = some (.int .i64 a0.mus) ∧ w'.cell? ⟨w.heap.size, 2, none⟩ = some (.slice Ea0_1 a0.sels.length ea0_1) ∧ w'.cell? ⟨w.heap.size, 3, none⟩ = some (.slice Ea0_2 a0.procs.length ea0_2) ∧ w'.cell? ⟨w.heap.size + 1, 0, none⟩ = some (.int .i64 a1.prn) ∧ w'.cell? ⟨w.heap.size + 1, 1, none⟩ = some (.slice Ea1_0 a1.events.length ea1_0) ∧ w'.cell? ⟨w.heap.size + 1 + 1, 0, none⟩ = some (.int .i64 a2.prn) ∧ w'.cell? ⟨w.heap.size + 1 + 1, 1, none⟩ = some (.slice Ea2_0 a2.events.length ea2_0) ∧ w'.cell? ⟨wx0.heap.size, 0, none⟩ = some (.slice Ex0_0 a0.caps.length ex0_0) ∧ w'.cell? ⟨wx0.heap.size, 1, none⟩ = some (.int .i64 a0.mus) ∧ w'.cell? ⟨wx0.heap.size, 2, none⟩ = some (.slice Ex0_1 a0.sels.length ex0_1) ∧ w'.cell? ⟨wx0.heap.size, 3, none⟩ = some (.slice Ex0_2 a0.procs.length ex0_2) ∧ w'.cell? ⟨wx1.heap.size, 0, none⟩ = some (.int .i64 a1.prn) ∧ w'.cell? ⟨wx1.heap.size, 1, none⟩ = some (.slice Ex1_0 a1.events.length ex1_0) ∧ w'.cell? ⟨wx2.heap.size, 0, none⟩ = some (.int .i64 a2.prn) ∧ w'.cell? ⟨wx2.heap.size, 1, none⟩ = some (.slice Ex2_0 a2.events.length ex2_0)) (exact ⟨keepc bel f0_0_17, keepc bel f0_1_17, keepc bel f0_2_17, keepc bel f0_3_17, keepc bel f1_0_17, keepc bel f1_1_17, keepc bel f2_0_17, keepc bel f2_1_17, keepc bel f3_0_17, keepc bel f3_1_17, keepc bel f3_2_17, keepc bel f3_3_17, keepc bel f4_0_17, keepc bel f4_1_17, keepc bel f5_0_17, keepc bel f5_1_17⟩)
    (first
      | (go_at_call 24; (with_reducible refine (toLog_calls a1 [_, _] _ (kLog_mk _ _ l1_0 (R1_0.out.below bel)) (by omega)).mono ?_); rintro e we1 ⟨cse1, be1, rfl, oe1, fre1, hbe1⟩; have Oe1 := Lib.hid oe1; have Fre1 := Lib.hid fre1; clear fre1; obtain ⟨Ee1_0, ee1_0, ye1_0, rfl, rfl, qe1_0⟩ := kLog_O oe1; clear oe1; clear qe1_0)
      | (go_at_call 27; (with_reducible refine (eqLog_calls a1 a1 [_, _] [_, _] _ (kLog.K_below bel (kLog.O_K Ox1.out)) (kLog.K_below bel (kLog.O_K Oe1.out))).mono ?_); rintro e wr1 ⟨rfl, hbr1⟩))
  have hk18 : Below W17.heap.size W17 wr1 := bel
  have f0_0_18 := keepc hk18 f0_0_17
  have f0_1_18 := keepc hk18 f0_1_17
  have f0_2_18 := keepc hk18 f0_2_17
  have f0_3_18 := keepc hk18 f0_3_17
  have f1_0_18 := keepc hk18 f1_0_17
  have f1_1_18 := keepc hk18 f1_1_17
  have f2_0_18 := keepc hk18 f2_0_17
  have f2_1_18 := keepc hk18 f2_1_17
  have f3_0_18 := keepc hk18 f3_0_17
  have f3_1_18 := keepc hk18 f3_1_17
  have f3_2_18 := keepc hk18 f3_2_17
  have f3_3_18 := keepc hk18 f3_3_17
  have f4_0_18 := keepc hk18 f4_0_17
  have f4_1_18 := keepc hk18 f4_1_17
  have f5_0_18 := keepc hk18 f5_0_17
  have f5_1_18 := keepc hk18 f5_1_17
  clear f0_0_17 f0_1_17 f0_2_17 f0_3_17 f1_0_17 f1_1_17 f2_0_17 f2_1_17 f3_0_17 f3_1_17 f3_2_17 f3_3_17 f4_0_17 f4_1_17 f5_0_17 f5_1_17 z0_W17 z1_W17 z2_W17 z3_W17 z4_W17 z5_W17
  have z0_wr1 : w.heap.size < wr1.heap.size := World.block_lt_of_cell? _ _ f0_0_18
  have z1_wr1 : w.heap.size + 1 < wr1.heap.size := World.block_lt_of_cell? _ _ f1_0_18
  have z2_wr1 : w.heap.size + 1 + 1 < wr1.heap.size := World.block_lt_of_cell? _ _ f2_0_18
  have z3_wr1 : wx0.heap.size < wr1.heap.size := World.block_lt_of_cell? _ _ f3_0_18
  have z4_wr1 : wx1.heap.size < wr1.heap.size := World.block_lt_of_cell? _ _ f4_0_18
  have z5_wr1 : wx2.heap.size < wr1.heap.size := World.block_lt_of_cell? _ _ f5_0_18
  go_wp2_with fail
  refine settleR ?_
  intro W19 hW19
  have hbW19 : Below wr1.heap.size wr1 W19 := by rw [hW19]; exact bel
  have f0_0_19 := keepc hbW19 f0_0_18
  have f0_1_19 := keepc hbW19 f0_1_18
  have f0_2_19 := keepc hbW19 f0_2_18
  have f0_3_19 := keepc hbW19 f0_3_18
  have f1_0_19 := keepc hbW19 f1_0_18
  have f1_1_19 := keepc hbW19 f1_1_18
  have f2_0_19 := keepc hbW19 f2_0_18
  have f2_1_19 := keepc hbW19 f2_1_18
  have f3_0_19 := keepc hbW19 f3_0_18
  have f3_1_19 := keepc hbW19 f3_1_18
  have f3_2_19 := keepc hbW19 f3_2_18
  have f3_3_19 := keepc hbW19 f3_3_18
  have f4_0_19 := keepc hbW19 f4_0_18
  have f4_1_19 := keepc hbW19 f4_1_18
  have f5_0_19 := keepc hbW19 f5_0_18
  have f5_1_19 := keepc hbW19 f5_1_18
  clear hW19
  clear f0_0_18 f0_1_18 f0_2_18 f0_3_18 f1_0_18 f1_1_18 f2_0_18 f2_1_18 f3_0_18 f3_1_18 f3_2_18 f3_3_18 f4_0_18 f4_1_18 f5_0_18 f5_1_18 z0_wr1 z1_wr1 z2_wr1 z3_wr1 z4_wr1 z5_wr1
  have z0_W19 : w.heap.size < W19.heap.size := World.block_lt_of_cell? _ _ f0_0_19
  have z1_W19 : w.heap.size + 1 < W19.heap.size := World.block_lt_of_cell? _ _ f1_0_19
  have z2_W19 : w.heap.size + 1 + 1 < W19.heap.size := World.block_lt_of_cell? _ _ f2_0_19
  have z3_W19 : wx0.heap.size < W19.heap.size := World.block_lt_of_cell? _ _ f3_0_19
  have z4_W19 : wx1.heap.size < W19.heap.size := World.block_lt_of_cell? _ _ f4_0_19
  have z5_W19 : wx2.heap.size < W19.heap.size := World.block_lt_of_cell? _ _ f5_0_19
  go_region_held3 (fun w' => w'.cell? ⟨w.heap.size, 0, none⟩ = some (.slice Ea0_0 a0.caps.length ea0_0) ∧ w'.cell? ⟨w.heap.size, 1, none⟩ = some (.int .i64 a0.mus) ∧ w'.cell? ⟨w.heap.size, 2, none⟩ = some (.slice Ea0_1 a0.sels.length ea0_1) ∧ w'.cell? ⟨w.heap.size, 3, none⟩ = some (.slice Ea0_2 a0.procs.length ea0_2) ∧ w'.cell? ⟨w.heap.size + 1, 0, none⟩ = some (.int .i64 a1.prn) ∧ w'.cell? ⟨w.heap.size + 1, 1, none⟩ = some (.slice Ea1_0 a1.events.length ea1_0) ∧ w'.cell? ⟨w.heap.size + 1 + 1, 0, none⟩ = some (.int .i64 a2.prn) ∧ w'.cell? ⟨w.heap.size + 1 + 1, 1, none⟩ = some (.slice Ea2_0 a2.events.length ea2_0) ∧ w'.cell? ⟨wx0.heap.size, 0, none⟩ = some (.slice Ex0_0 a0.caps.length ex0_0) ∧ w'.cell? ⟨wx0.heap.size, 1, none⟩ = some (.int .i64 a0.mus) ∧ w'.cell? ⟨wx0.heap.size, 2, none⟩ = some (.slice Ex0_1 a0.sels.length ex0_1) ∧ w'.cell? ⟨wx0.heap.size, 3, none⟩ = some (.slice Ex0_2 a0.procs.length ex0_2) ∧ w'.cell? ⟨wx1.heap.size, 0, none⟩ = some (.int .i64 a1.prn) ∧ w'.cell? ⟨wx1.heap.size, 1, none⟩ = some (.slice Ex1_0 a1.events.length ex1_0) ∧ w'.cell? ⟨wx2.heap.size, 0, none⟩ = some (.int .i64 a2.prn) ∧ w'.cell? ⟨wx2.heap.size, 1, none⟩ = some (.slice Ex2_0 a2.events.length ex2_0)) (exact ⟨keepc bel f0_0_19, keepc bel f0_1_19, keepc bel f0_2_19, keepc bel f0_3_19, keepc bel f1_0_19, keepc bel f1_1_19, keepc bel f2_0_19, keepc bel f2_1_19, keepc bel f3_0_19, keepc bel f3_1_19, keepc bel f3_2_19, keepc bel f3_3_19, keepc bel f4_0_19, keepc bel f4_1_19, keepc bel f5_0_19, keepc bel f5_1_19⟩)
    (first
      | (go_at_call 24; (with_reducible refine (toLog_calls a2 [_, _] _ (kLog_mk _ _ l2_0 (R2_0.out.below bel)) (by omega)).mono ?_); rintro e we2 ⟨cse2, be2, rfl, oe2, fre2, hbe2⟩; have Oe2 := Lib.hid oe2; have Fre2 := Lib.hid fre2; clear fre2; obtain ⟨Ee2_0, ee2_0, ye2_0, rfl, rfl, qe2_0⟩ := kLog_O oe2; clear oe2; clear qe2_0)
      | (go_at_call 27; (with_reducible refine (eqLog_calls a2 a2 [_, _] [_, _] _ (kLog.K_below bel (kLog.O_K Ox2.out)) (kLog.K_below bel (kLog.O_K Oe2.out))).mono ?_); rintro e wr2 ⟨rfl, hbr2⟩))
  have hk20 : Below W19.heap.size W19 wr2 := bel
  have f0_0_20 := keepc hk20 f0_0_19
  have f0_1_20 := keepc hk20 f0_1_19
  have f0_2_20 := keepc hk20 f0_2_19
  have f0_3_20 := keepc hk20 f0_3_19
  have f1_0_20 := keepc hk20 f1_0_19
  have f1_1_20 := keepc hk20 f1_1_19
  have f2_0_20 := keepc hk20 f2_0_19
  have f2_1_20 := keepc hk20 f2_1_19
  have f3_0_20 := keepc hk20 f3_0_19
  have f3_1_20 := keepc hk20 f3_1_19
  have f3_2_20 := keepc hk20 f3_2_19
  have f3_3_20 := keepc hk20 f3_3_19
  have f4_0_20 := keepc hk20 f4_0_19
  have f4_1_20 := keepc hk20 f4_1_19
  have f5_0_20 := keepc hk20 f5_0_19
  have f5_1_20 := keepc hk20 f5_1_19
  clear f0_0_19 f0_1_19 f0_2_19 f0_3_19 f1_0_19 f1_1_19 f2_0_19 f2_1_19 f3_0_19 f3_1_19 f3_2_19 f3_3_19 f4_0_19 f4_1_19 f5_0_19 f5_1_19 z0_W19 z1_W19 z2_W19 z3_W19 z4_W19 z5_W19
  have z0_wr2 : w.heap.size < wr2.heap.size := World.block_lt_of_cell? _ _ f0_0_20
  have z1_wr2 : w.heap.size + 1 < wr2.heap.size := World.block_lt_of_cell? _ _ f1_0_20
  have z2_wr2 : w.heap.size + 1 + 1 < wr2.heap.size := World.block_lt_of_cell? _ _ f2_0_20
  have z3_wr2 : wx0.heap.size < wr2.heap.size := World.block_lt_of_cell? _ _ f3_0_20
  have z4_wr2 : wx1.heap.size < wr2.heap.size := World.block_lt_of_cell? _ _ f4_0_20
  have z5_wr2 : wx2.heap.size < wr2.heap.size := World.block_lt_of_cell? _ _ f5_0_20
  go_wp2
  go_ret
  exact ⟨rfl, bel⟩
end Go.Proofs.Ytplkfpjcfalifaa.Wd

/- The law FnExactCmdText returns true at every argument. Conditions: none. -/
import Derived.Test.YtplkfpjcfalifaaCmdI
import Derived.Test.YtplkfpjcfalifaaCmdS
import Derived.Test.YtplkfpjcfalifaaHeC
import Derived.Test.YtplkfpjcfalifaaApw
import Derived.Deep.RegionHeld3
import Derived.Deep.CutRange
namespace Go.Proofs.Ytplkfpjcfalifaa.Wd
open Go.RowKit
set_option linter.unusedVariables false
set_option linter.unusedSimpArgs false
set_option maxHeartbeats 2000000
set_option maxRecDepth 100000
theorem law_CmdText (a0 : MCmd) (cs0 : List Value) (w : World) (h0 : kCmd.K w a0 cs0) :
    Calls Try.prog 6 #[.agg cs0.toArray] w fun e w' => e = .returned (.bool true) ∧ Below w.heap.size w w' := by
  obtain ⟨Ea0_0, ea0_0, rfl, l0_0, r0_0⟩ := kCmd_K h0
  have R0_0 := Lib.hid r0_0; clear r0_0
  clear h0
  by_cases hc0 : ((cntCmd a0 : Nat) : Int) ≤ 1048576
  rotate_left
  · go_enter Try.func6, Try.ntmps6
    go_wp2_with fail
    refine (sz_no (szCmd_calls a0 [_, _, _, _] (1048576) _ (kCmd_mk _ _ l0_0 (R0_0.out.below bel)) (by omega) (by omega)) rfl (by omega)).mono ?_
    rintro e ws0 ⟨rfl, hbs0⟩
    have f0_0_0 : ws0.cell? ⟨w.heap.size, 0, none⟩ = some (.int .i64 a0.kind) := by obtain ⟨C, D⟩ := bcell hbs0; go_simp
    have f0_1_0 : ws0.cell? ⟨w.heap.size, 1, none⟩ = some (.int .i64 a0.a) := by obtain ⟨C, D⟩ := bcell hbs0; go_simp
    have f0_2_0 : ws0.cell? ⟨w.heap.size, 2, none⟩ = some (.int .i64 a0.b) := by obtain ⟨C, D⟩ := bcell hbs0; go_simp
    have f0_3_0 : ws0.cell? ⟨w.heap.size, 3, none⟩ = some (.slice Ea0_0 a0.picks.length ea0_0) := by obtain ⟨C, D⟩ := bcell hbs0; go_simp
    have z0_ws0 : w.heap.size < ws0.heap.size := World.block_lt_of_cell? _ _ f0_0_0
    go_wp2
    go_ret
    exact ⟨rfl, bel⟩
  have t0 : decide (1048576 - ((cntCmd a0 : Nat) : Int) < 0) = false := by simp; omega
  go_enter Try.func6, Try.ntmps6
  go_wp2_with fail
  refine (sz_yes (szCmd_calls a0 [_, _, _, _] (1048576) _ (kCmd_mk _ _ l0_0 (R0_0.out.below bel)) (by omega) (by omega)) rfl (by omega)).mono ?_
  rintro e ws0 ⟨rfl, hbs0⟩
  have f0_0_1 : ws0.cell? ⟨w.heap.size, 0, none⟩ = some (.int .i64 a0.kind) := by obtain ⟨C, D⟩ := bcell hbs0; go_simp
  have f0_1_1 : ws0.cell? ⟨w.heap.size, 1, none⟩ = some (.int .i64 a0.a) := by obtain ⟨C, D⟩ := bcell hbs0; go_simp
  have f0_2_1 : ws0.cell? ⟨w.heap.size, 2, none⟩ = some (.int .i64 a0.b) := by obtain ⟨C, D⟩ := bcell hbs0; go_simp
  have f0_3_1 : ws0.cell? ⟨w.heap.size, 3, none⟩ = some (.slice Ea0_0 a0.picks.length ea0_0) := by obtain ⟨C, D⟩ := bcell hbs0; go_simp
  have z0_ws0 : w.heap.size < ws0.heap.size := World.block_lt_of_cell? _ _ f0_0_1
  go_wp2_with fail
  go_at_call 17; (refine (toCmd_calls a0 [_, _, _, _] _ (kCmd_mk _ _ l0_0 (R0_0.out.below bel)) (by omega)).mono ?_); rintro e wp0 ⟨csp0, bp0, rfl, op0, frp0, hbp0⟩; have Op0 := Lib.hid op0; have Frp0 := Lib.hid frp0; clear frp0; obtain ⟨Ep0_0, ep0_0, yp0_0, rfl, rfl, qp0_0⟩ := kCmd_O op0; clear op0; clear qp0_0
  have hk2 : Below ws0.heap.size ws0 wp0 := bel
  have f0_0_2 := keepc hk2 f0_0_1
  have f0_1_2 := keepc hk2 f0_1_1
  have f0_2_2 := keepc hk2 f0_2_1
  have f0_3_2 := keepc hk2 f0_3_1
  clear f0_0_1 f0_1_1 f0_2_1 f0_3_1 z0_ws0
  have z0_wp0 : w.heap.size < wp0.heap.size := World.block_lt_of_cell? _ _ f0_0_2
  go_wp2_with fail
  go_at_call 16; (refine (spec_CmdText_calls a0 [_, _, _, _] _ (kCmd.K_below bel (kCmd.O_K Op0.out)) (by omega)).mono ?_); rintro e wq ⟨rfl, hbq⟩
  have hk3 : Below wp0.heap.size wp0 wq := bel
  have f0_0_3 := keepc hk3 f0_0_2
  have f0_1_3 := keepc hk3 f0_1_2
  have f0_2_3 := keepc hk3 f0_2_2
  have f0_3_3 := keepc hk3 f0_3_2
  clear f0_0_2 f0_1_2 f0_2_2 f0_3_2 z0_wp0
  have z0_wq : w.heap.size < wq.heap.size := World.block_lt_of_cell? _ _ f0_0_3
  go_wp2_with fail
  go_at_call 17; (refine (toCmd_calls a0 [_, _, _, _] _ (kCmd_mk _ _ l0_0 (R0_0.out.below bel)) (by omega)).mono ?_); rintro e wx0 ⟨csx0, bx0, rfl, ox0, frx0, hbx0⟩; have Ox0 := Lib.hid ox0; have Frx0 := Lib.hid frx0; clear frx0; obtain ⟨Ex0_0, ex0_0, yx0_0, rfl, rfl, qx0_0⟩ := kCmd_O ox0; clear ox0; clear qx0_0
  have hk4 : Below wq.heap.size wq wx0 := bel
  have f0_0_4 := keepc hk4 f0_0_3
  have f0_1_4 := keepc hk4 f0_1_3
  have f0_2_4 := keepc hk4 f0_2_3
  have f0_3_4 := keepc hk4 f0_3_3
  clear f0_0_3 f0_1_3 f0_2_3 f0_3_3 z0_wq
  have z0_wx0 : w.heap.size < wx0.heap.size := World.block_lt_of_cell? _ _ f0_0_4
  go_wp2_with fail
  go_at_call 18; (refine (impl_CmdText_calls a0 [_, _, _, _] _ (kCmd.K_below bel (kCmd.O_K Ox0.out)) (by omega)).mono ?_); rintro e wi ⟨rfl, hbi⟩
  have hk5 : Below wx0.heap.size wx0 wi := bel
  have f0_0_5 := keepc hk5 f0_0_4
  have f0_1_5 := keepc hk5 f0_1_4
  have f0_2_5 := keepc hk5 f0_2_4
  have f0_3_5 := keepc hk5 f0_3_4
  have f1_0_5 : wi.cell? ⟨wx0.heap.size, 0, none⟩ = some (.int .i64 a0.kind) := by obtain ⟨C, D⟩ := bcell hbi; go_simp
  have f1_1_5 : wi.cell? ⟨wx0.heap.size, 1, none⟩ = some (.int .i64 a0.a) := by obtain ⟨C, D⟩ := bcell hbi; go_simp
  have f1_2_5 : wi.cell? ⟨wx0.heap.size, 2, none⟩ = some (.int .i64 a0.b) := by obtain ⟨C, D⟩ := bcell hbi; go_simp
  have f1_3_5 : wi.cell? ⟨wx0.heap.size, 3, none⟩ = some (.slice Ex0_0 a0.picks.length ex0_0) := by obtain ⟨C, D⟩ := bcell hbi; go_simp
  clear f0_0_4 f0_1_4 f0_2_4 f0_3_4 z0_wx0
  have z0_wi : w.heap.size < wi.heap.size := World.block_lt_of_cell? _ _ f0_0_5
  have z1_wi : wx0.heap.size < wi.heap.size := World.block_lt_of_cell? _ _ f1_0_5
  go_wp2_with fail
  refine settleR ?_
  intro W6 hW6
  have hbW6 : Below wi.heap.size wi W6 := by rw [hW6]; exact bel
  have f0_0_6 := keepc hbW6 f0_0_5
  have f0_1_6 := keepc hbW6 f0_1_5
  have f0_2_6 := keepc hbW6 f0_2_5
  have f0_3_6 := keepc hbW6 f0_3_5
  have f1_0_6 := keepc hbW6 f1_0_5
  have f1_1_6 := keepc hbW6 f1_1_5
  have f1_2_6 := keepc hbW6 f1_2_5
  have f1_3_6 := keepc hbW6 f1_3_5
  clear hW6
  clear f0_0_5 f0_1_5 f0_2_5 f0_3_5 f1_0_5 f1_1_5 f1_2_5 f1_3_5 z0_wi z1_wi
  have z0_W6 : w.heap.size < W6.heap.size := World.block_lt_of_cell? _ _ f0_0_6
  have z1_W6 : wx0.heap.size < W6.heap.size := World.block_lt_of_cell? _ _ f1_0_6
  go_region_held3 (fun w' => w'.cell? ⟨w.heap.size, 0, none⟩ = some (.int .i64 a0.kind) ∧ w'.cell? ⟨w.heap.size, 1, none⟩ = some (.int .i64 a0.a) ∧ w'.cell? ⟨w.heap.size, 2, none⟩ = some (.int .i64 a0.b) ∧ w'.cell? ⟨w.heap.size, 3, none⟩ = some (.slice Ea0_0 a0.picks.length ea0_0) ∧ w'.cell? ⟨wx0.heap.size, 0, none⟩ = some (.int .i64 a0.kind) ∧ w'.cell? ⟨wx0.heap.size, 1, none⟩ = some (.int .i64 a0.a) ∧ w'.cell? ⟨wx0.heap.size, 2, none⟩ = some (.int .i64 a0.b) ∧ w'.cell? ⟨wx0.heap.size, 3, none⟩ = some (.slice Ex0_0 a0.picks.length ex0_0)) (exact ⟨keepc bel f0_0_6, keepc bel f0_1_6, keepc bel f0_2_6, keepc bel f0_3_6, keepc bel f1_0_6, keepc bel f1_1_6, keepc bel f1_2_6, keepc bel f1_3_6⟩)
    (first
      | (go_at_call 17; (with_reducible refine (toCmd_calls a0 [_, _, _, _] _ (kCmd_mk _ _ l0_0 (R0_0.out.below bel)) (by omega)).mono ?_); rintro e we0 ⟨cse0, be0, rfl, oe0, fre0, hbe0⟩; have Oe0 := Lib.hid oe0; have Fre0 := Lib.hid fre0; clear fre0; obtain ⟨Ee0_0, ee0_0, ye0_0, rfl, rfl, qe0_0⟩ := kCmd_O oe0; clear oe0; clear qe0_0)
      | (go_at_call 19; (with_reducible refine (eqCmd_calls a0 a0 [_, _, _, _] [_, _, _, _] _ (kCmd.K_below bel (kCmd.O_K Ox0.out)) (kCmd.K_below bel (kCmd.O_K Oe0.out))).mono ?_); rintro e wr0 ⟨rfl, hbr0⟩))
  have hk7 : Below W6.heap.size W6 wr0 := bel
  have f0_0_7 := keepc hk7 f0_0_6
  have f0_1_7 := keepc hk7 f0_1_6
  have f0_2_7 := keepc hk7 f0_2_6
  have f0_3_7 := keepc hk7 f0_3_6
  have f1_0_7 := keepc hk7 f1_0_6
  have f1_1_7 := keepc hk7 f1_1_6
  have f1_2_7 := keepc hk7 f1_2_6
  have f1_3_7 := keepc hk7 f1_3_6
  clear f0_0_6 f0_1_6 f0_2_6 f0_3_6 f1_0_6 f1_1_6 f1_2_6 f1_3_6 z0_W6 z1_W6
  have z0_wr0 : w.heap.size < wr0.heap.size := World.block_lt_of_cell? _ _ f0_0_7
  have z1_wr0 : wx0.heap.size < wr0.heap.size := World.block_lt_of_cell? _ _ f1_0_7
  go_wp2
  go_ret
  exact ⟨rfl, bel⟩
end Go.Proofs.Ytplkfpjcfalifaa.Wd

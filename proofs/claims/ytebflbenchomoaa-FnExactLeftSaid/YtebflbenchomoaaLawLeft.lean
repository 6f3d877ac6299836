/- The law FnExactLeft returns true at every argument. Conditions: none. -/
import Derived.Test.YtebflbenchomoaaLeft
import Derived.Test.YtebflbenchomoaaHeR
import Derived.Deep.RegionHeld3
namespace Go.Proofs.Ytebflbenchomoaa.Wd
open Go.RowKit
set_option linter.unusedVariables false
set_option linter.unusedSimpArgs false
set_option maxHeartbeats 2000000
set_option maxRecDepth 100000
theorem law_Left (a0 : MRep) (cs0 : List Value) (w : World) (h0 : kRep.K w a0 cs0) :
    Calls Try.prog 8 #[.agg cs0.toArray] w fun e w' => e = .returned (.bool true) ∧ Below w.heap.size w w' := by
  obtain ⟨A00, c00, A01, c01, A02, c02, A03, c03, A04, c04, rfl, l00, r00, l01, r01, l02, r02, l03, r03, l04, r04⟩ := kRep_K h0
  clear h0
  have R00 := Lib.hid r00; clear r00
  have R01 := Lib.hid r01; clear r01
  have R02 := Lib.hid r02; clear r02
  have R03 := Lib.hid r03; clear r03
  have R04 := Lib.hid r04; clear r04
  by_cases hc0 : (cntRep a0 : Int) ≤ 1048576
  rotate_left
  · go_enter Try.func8, Try.ntmps8
    go_wp2_with fail
    refine (sz_no (szRep_calls a0 [_, _, _, _, _] (1048576) _ (kRep_mk _ _ l00 (R00.out.below bel) l01 (R01.out.below bel) l02 (R02.out.below bel) l03 (R03.out.below bel) l04 (R04.out.below bel)) (by omega) (by omega)) rfl (by omega)).mono ?_
    rintro e ws0 ⟨rfl, hbs0⟩
    obtain ⟨Cs0, Ds0⟩ := bcell hbs0
    have zws0_0 : w.heap.size < ws0.heap.size := (by have := hbs0.size; (try simp at this); omega)
    go_wp2
    go_ret
    exact ⟨rfl, bel⟩
  have t0 : decide (1048576 - (cntRep a0 : Int) < 0) = false := by simp; omega
  go_enter Try.func8, Try.ntmps8
  go_wp2_with fail
  refine (sz_yes (szRep_calls a0 [_, _, _, _, _] (1048576) _ (kRep_mk _ _ l00 (R00.out.below bel) l01 (R01.out.below bel) l02 (R02.out.below bel) l03 (R03.out.below bel) l04 (R04.out.below bel)) (by omega) (by omega)) rfl (by omega)).mono ?_
  rintro e ws0 ⟨rfl, hbs0⟩
  obtain ⟨Cs0, Ds0⟩ := bcell hbs0
  have zws0_0 : w.heap.size < ws0.heap.size := (by have := hbs0.size; (try simp at this); omega)
  go_wp2_with fail
  refine (toRep_calls a0 [_, _, _, _, _] _ (kRep_mk _ _ l00 (R00.out.below bel) l01 (R01.out.below bel) l02 (R02.out.below bel) l03 (R03.out.below bel) l04 (R04.out.below bel)) (by omega)).mono ?_
  rintro e wp0 ⟨ctp0, btp0, rfl, op0, fp0, hbp0⟩
  obtain ⟨Cp0, Dp0⟩ := bcell hbp0
  have zwp0_0 : w.heap.size < wp0.heap.size := (by have := hbp0.size; (try simp at this); omega)
  have Op0 := Lib.hid op0; clear op0
  go_wp2_with fail
  refine (spec_Left_calls a0 ctp0 _ (kRep.K_below bel (kRep.O_K Op0.out)) (by omega)).mono ?_
  rintro e wq ⟨rfl, hbq⟩
  obtain ⟨Cq, Dq⟩ := bcell hbq
  have zwq_0 : w.heap.size < wq.heap.size := (by have := hbq.size; (try simp at this); omega)
  go_wp2_with fail
  refine (toRep_calls a0 [_, _, _, _, _] _ (kRep_mk _ _ l00 (R00.out.below bel) l01 (R01.out.below bel) l02 (R02.out.below bel) l03 (R03.out.below bel) l04 (R04.out.below bel)) (by omega)).mono ?_
  rintro e wx0 ⟨cx0, bx0, rfl, ox0, fx0, hbx0⟩
  obtain ⟨Cx0, Dx0⟩ := bcell hbx0
  have zwx0_0 : w.heap.size < wx0.heap.size := (by have := hbx0.size; (try simp at this); omega)
  have Ox0 := Lib.hid ox0
  obtain ⟨E00, e00, y00, E01, e01, y01, E02, e02, y02, E03, e03, y03, E04, e04, y04, rfl, rfl, q00, q01, q02, q03, q04⟩ := kRep_O ox0
  clear ox0 q00 q01 q02 q03 q04
  have Kx0 := Lib.hid (kRep.O_K Ox0.out)
  go_wp2_with fail
  refine (impl_Left_calls a0 [_, _, _, _, _] _ (kRep.K_below bel Kx0.out) (by omega)).mono ?_
  rintro e wi ⟨rfl, hbi⟩
  obtain ⟨Ci, Di⟩ := bcell hbi
  obtain ⟨zwi_0, zwi_1⟩ : w.heap.size < wi.heap.size ∧ wx0.heap.size < wi.heap.size := (by have := hbi.size; (try simp at this); omega)
  go_wp2_with fail
  have u0_0 : wi.cell? ⟨wx0.heap.size, 0, none⟩ = some (.slice E00 a0.eng.gs.length e00) := by go_simp
  have u0_1 : wi.cell? ⟨wx0.heap.size, 1, none⟩ = some (.slice E01 a0.eng.chans.length e01) := by go_simp
  have u0_2 : wi.cell? ⟨wx0.heap.size, 2, none⟩ = some (.slice E02 a0.eng.mus.length e02) := by go_simp
  have u0_3 : wi.cell? ⟨wx0.heap.size, 3, none⟩ = some (.slice E03 a0.events.length e03) := by go_simp
  have u0_4 : wi.cell? ⟨wx0.heap.size, 4, none⟩ = some (.slice E04 a0.done.length e04) := by go_simp
  have u0_5 : wi.cell? ⟨w.heap.size, 0, none⟩ = some (.slice A00 a0.eng.gs.length c00) := by go_simp
  have u0_6 : wi.cell? ⟨w.heap.size, 1, none⟩ = some (.slice A01 a0.eng.chans.length c01) := by go_simp
  have u0_7 : wi.cell? ⟨w.heap.size, 2, none⟩ = some (.slice A02 a0.eng.mus.length c02) := by go_simp
  have u0_8 : wi.cell? ⟨w.heap.size, 3, none⟩ = some (.slice A03 a0.events.length c03) := by go_simp
  have u0_9 : wi.cell? ⟨w.heap.size, 4, none⟩ = some (.slice A04 a0.done.length c04) := by go_simp
  go_region_held3 (fun w' => w'.cell? ⟨wx0.heap.size, 0, none⟩ = some (.slice E00 a0.eng.gs.length e00) ∧ w'.cell? ⟨wx0.heap.size, 1, none⟩ = some (.slice E01 a0.eng.chans.length e01) ∧ w'.cell? ⟨wx0.heap.size, 2, none⟩ = some (.slice E02 a0.eng.mus.length e02) ∧ w'.cell? ⟨wx0.heap.size, 3, none⟩ = some (.slice E03 a0.events.length e03) ∧ w'.cell? ⟨wx0.heap.size, 4, none⟩ = some (.slice E04 a0.done.length e04) ∧ w'.cell? ⟨w.heap.size, 0, none⟩ = some (.slice A00 a0.eng.gs.length c00) ∧ w'.cell? ⟨w.heap.size, 1, none⟩ = some (.slice A01 a0.eng.chans.length c01) ∧ w'.cell? ⟨w.heap.size, 2, none⟩ = some (.slice A02 a0.eng.mus.length c02) ∧ w'.cell? ⟨w.heap.size, 3, none⟩ = some (.slice A03 a0.events.length c03) ∧ w'.cell? ⟨w.heap.size, 4, none⟩ = some (.slice A04 a0.done.length c04)) (first | go_keep | (go_split_ands; refine ⟨?_, ?_, ?_, ?_, ?_, ?_, ?_, ?_, ?_, ?_⟩ <;> first | exact keepc hbr0 (by assumption) | exact keepc hbe0 (by assumption)))
    (first
      | (go_at_call 30; (with_reducible refine (toRep_calls a0 [_, _, _, _, _] _ (kRep_mk _ _ l00 (R00.out.below bel) l01 (R01.out.below bel) l02 (R02.out.below bel) l03 (R03.out.below bel) l04 (R04.out.below bel)) (by omega)).mono ?_); rintro e we0 ⟨cte0, bte0, rfl, oe0, fe0, hbe0⟩; obtain ⟨Ce0, De0⟩ := bcell hbe0; obtain ⟨zwe0_0, zwe0_1⟩ : w.heap.size < we0.heap.size ∧ wx0.heap.size < we0.heap.size := (by have := hbe0.size; (try simp at this); omega); have Oe0 := Lib.hid oe0; clear oe0)
      | (go_at_call 32; (with_reducible refine (eqRep_calls a0 a0 [_, _, _, _, _] cte0 _ (kRep.K_below bel Kx0.out) (kRep.K_below bel (kRep.O_K Oe0.out))).mono ?_); rintro e wr0 ⟨rfl, hbr0⟩; obtain ⟨Cr0, Dr0⟩ := bcell hbr0; obtain ⟨zwr0_0, zwr0_1⟩ : w.heap.size < wr0.heap.size ∧ wx0.heap.size < wr0.heap.size := (by have := hbr0.size; (try simp at this); omega)))
  clear u0_0 u0_1 u0_2 u0_3 u0_4 u0_5 u0_6 u0_7 u0_8 u0_9
  go_wp2
  go_ret
  exact ⟨rfl, bel⟩
end Go.Proofs.Ytebflbenchomoaa.Wd

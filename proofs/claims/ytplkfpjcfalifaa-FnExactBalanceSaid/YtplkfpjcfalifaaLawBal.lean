/- The law FnExactBalance returns true at every engine and mutex. Conditions: none. -/
import Derived.Test.YtplkfpjcfalifaaBalance
import Derived.Test.YtplkfpjcfalifaaEqE
import Derived.Test.YtplkfpjcfalifaaToE
import Derived.Test.YtplkfpjcfalifaaSzE
import Derived.Deep.RegionHeld3
namespace Go.Proofs.Ytplkfpjcfalifaa.Wd
open Go.RowKit
set_option linter.unusedVariables false
set_option linter.unusedSimpArgs false
set_option maxHeartbeats 2000000
set_option maxRecDepth 100000
theorem law_Balance (x : MEng) (mu : Int) (cs : List Value) (w : World) (hx : kEng.K w x cs) :
    Calls Try.prog 8 #[.agg cs.toArray, .int .i64 mu] w fun e w' => e = .returned (.bool true) ∧ Below w.heap.size w w' := by
  obtain ⟨A0, c0, A1, c1, A2, c2, rfl, l0, r0, l1, r1, l2, r2⟩ := kEng_K hx
  clear hx
  have R0 := Lib.hid r0; clear r0
  have R1 := Lib.hid r1; clear r1
  have R2 := Lib.hid r2; clear r2
  by_cases hc : (cntEng x : Int) ≤ 1048576
  · have t0 : decide (1048576 - (cntEng x : Int) < 0) = false := by simp; omega
    go_enter Try.func8, Try.ntmps8
    go_wp2_with fail
    refine (sz_yes (szEng_calls x [_, _, _] _ _ (kEng_mk _ _ l0 (R0.out.below bel) l1 (R1.out.below bel) l2 (R2.out.below bel)) (by omega) (by omega)) rfl (by omega)).mono ?_
    rintro e w0 ⟨rfl, hb0⟩
    obtain ⟨C0, D0⟩ := bcell hb0
    have z0 : w.heap.size < w0.heap.size := by have := hb0.size; (try simp at this); omega
    go_wp2_with fail
    refine (toEng_calls x [_, _, _] _ (kEng_mk _ _ l0 (R0.out.below bel) l1 (R1.out.below bel) l2 (R2.out.below bel)) (by omega)).mono ?_
    rintro e w1 ⟨cs1, bs1, rfl, o1, f1, hb1⟩
    obtain ⟨C1, D1⟩ := bcell hb1
    have z1 : w.heap.size < w1.heap.size := by have := hb1.size; (try simp at this); omega
    have O1 := Lib.hid o1; clear o1
    go_wp2_with fail
    refine (spec_Balance_calls x mu cs1 _ (kEng.O_K O1.out) (by omega)).mono ?_
    rintro e w2 ⟨rfl, hb2⟩
    obtain ⟨C2, D2⟩ := bcell hb2
    have z2 : w.heap.size < w2.heap.size := by have := hb2.size; (try simp at this); omega
    go_wp2_with fail
    refine (toEng_calls x [_, _, _] _ (kEng_mk _ _ l0 (R0.out.below bel) l1 (R1.out.below bel) l2 (R2.out.below bel)) (by omega)).mono ?_
    rintro e w3 ⟨cs3, bs3, rfl, o3, f3, hb3⟩
    obtain ⟨C3, D3⟩ := bcell hb3
    have z3 : w.heap.size < w3.heap.size := by have := hb3.size; (try simp at this); omega
    have HO3 := Lib.hid o3
    obtain ⟨E0, e0, b0, E1, e1, b1, E2, e2, b2, rfl, rfl, o30, o31, o32⟩ := kEng_O o3
    clear o3 o30 o31 o32
    have K3 := Lib.hid (kEng.O_K HO3.out)
    go_wp2_with fail
    refine (impl_Balance_calls x mu [_, _, _] _ (kEng.K_below bel K3.out) (by omega)).mono ?_
    rintro e w4 ⟨rfl, hb4⟩
    obtain ⟨C4, D4⟩ := bcell hb4
    have z4 : w.heap.size < w4.heap.size ∧ w3.heap.size < w4.heap.size := by have := hb4.size; (try simp at this); omega
    obtain ⟨z4, z4'⟩ := z4
    go_wp2_with fail
    have p0 : w4.cell? ⟨w3.heap.size, 0, none⟩ = some (.slice E0 x.gs.length e0) := by go_simp
    have p1 : w4.cell? ⟨w3.heap.size, 1, none⟩ = some (.slice E1 x.chans.length e1) := by go_simp
    have p2 : w4.cell? ⟨w3.heap.size, 2, none⟩ = some (.slice E2 x.mus.length e2) := by go_simp
    have q0 : w4.cell? ⟨w.heap.size, 0, none⟩ = some (.slice A0 x.gs.length c0) := by go_simp
    have q1 : w4.cell? ⟨w.heap.size, 1, none⟩ = some (.slice A1 x.chans.length c1) := by go_simp
    have q2 : w4.cell? ⟨w.heap.size, 2, none⟩ = some (.slice A2 x.mus.length c2) := by go_simp
    go_region_held3 (fun w' => w'.cell? ⟨w3.heap.size, 0, none⟩ = some (.slice E0 x.gs.length e0) ∧ w'.cell? ⟨w3.heap.size, 1, none⟩ = some (.slice E1 x.chans.length e1) ∧ w'.cell? ⟨w3.heap.size, 2, none⟩ = some (.slice E2 x.mus.length e2) ∧ w'.cell? ⟨w.heap.size, 0, none⟩ = some (.slice A0 x.gs.length c0) ∧ w'.cell? ⟨w.heap.size, 1, none⟩ = some (.slice A1 x.chans.length c1) ∧ w'.cell? ⟨w.heap.size, 2, none⟩ = some (.slice A2 x.mus.length c2)) (first | go_keep | (go_split_ands; refine ⟨?_, ?_, ?_, ?_, ?_, ?_⟩ <;> first | exact keepc hb6 (by assumption) | exact keepc hb5 (by assumption)))
      (first
        | (go_at_call 30; refine (toEng_calls x [_, _, _] _ (kEng_mk _ _ l0 (R0.out.below bel) l1 (R1.out.below bel) l2 (R2.out.below bel)) (by omega)).mono ?_; rintro e w5 ⟨cs5, bs5, rfl, o5, f5, hb5⟩; obtain ⟨C5, D5⟩ := bcell hb5; have O5 := Lib.hid o5; clear o5)
        | (go_at_call 32; refine (eqEng_calls x x [_, _, _] cs5 _ (kEng.K_below bel K3.out) (kEng.K_below bel (kEng.O_K O5.out))).mono ?_; rintro e w6 ⟨rfl, hb6⟩; obtain ⟨C6, D6⟩ := bcell hb6))
    go_wp2
    go_ret
    exact ⟨rfl, bel⟩
  · go_enter Try.func8, Try.ntmps8
    go_wp2_with fail
    refine (sz_no (szEng_calls x [_, _, _] _ _ (kEng_mk _ _ l0 (R0.out.below bel) l1 (R1.out.below bel) l2 (R2.out.below bel)) (by omega) (by omega)) rfl (by omega)).mono ?_
    rintro e w0 ⟨rfl, hb0⟩
    go_wp2
    go_ret
    exact ⟨rfl, bel⟩
end Go.Proofs.Ytplkfpjcfalifaa.Wd

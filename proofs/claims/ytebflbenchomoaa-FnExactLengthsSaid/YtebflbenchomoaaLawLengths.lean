/- The law FnExactLengths returns true at every argument. Conditions: none. -/
import Derived.Test.YtebflbenchomoaaLengths
import Derived.Test.YtebflbenchomoaaMkE
import Derived.Test.YtebflbenchomoaaEqE
import Derived.Test.YtebflbenchomoaaToE
import Derived.Test.YtebflbenchomoaaSzE
import Derived.Deep.RegionHeld3
import Derived.Deep.CutRange
namespace Go.Proofs.Ytebflbenchomoaa.Wd
open Go.RowKit
set_option linter.unusedVariables false
set_option linter.unusedSimpArgs false
set_option maxHeartbeats 2000000
set_option maxRecDepth 100000
theorem law_Lengths (a0 : MEng) (cs0 : List Value) (w : World) (h0 : kEng.K w a0 cs0) :
    Calls Try.prog 9 #[.agg cs0.toArray] w fun e w' => e = .returned (.bool true) ∧ Below w.heap.size w w' := by
  obtain ⟨Ea0_0, ea0_0, Ea0_1, ea0_1, Ea0_2, ea0_2, rfl, l0_0, r0_0, l0_1, r0_1, l0_2, r0_2⟩ := kEng_K h0
  have R0_0 := Lib.hid r0_0; clear r0_0
  have R0_1 := Lib.hid r0_1; clear r0_1
  have R0_2 := Lib.hid r0_2; clear r0_2
  clear h0
  by_cases hc0 : ((cntEng a0 : Nat) : Int) ≤ 1048576
  rotate_left
  · go_enter Try.func9, Try.ntmps9
    go_wp2_with fail
    refine (sz_no (szEng_calls a0 [_, _, _] (1048576) _ (kEng_mk _ _ l0_0 (R0_0.out.below bel) l0_1 (R0_1.out.below bel) l0_2 (R0_2.out.below bel)) (by omega) (by omega)) rfl (by omega)).mono ?_
    rintro e ws0 ⟨rfl, hbs0⟩
    have f0_0_0 : ws0.cell? ⟨w.heap.size, 0, none⟩ = some (.slice Ea0_0 a0.gs.length ea0_0) := by obtain ⟨C, D⟩ := bcell hbs0; go_simp
    have f0_1_0 : ws0.cell? ⟨w.heap.size, 1, none⟩ = some (.slice Ea0_1 a0.chans.length ea0_1) := by obtain ⟨C, D⟩ := bcell hbs0; go_simp
    have f0_2_0 : ws0.cell? ⟨w.heap.size, 2, none⟩ = some (.slice Ea0_2 a0.mus.length ea0_2) := by obtain ⟨C, D⟩ := bcell hbs0; go_simp
    have z0_ws0 : w.heap.size < ws0.heap.size := World.block_lt_of_cell? _ _ f0_0_0
    go_wp2
    go_ret
    exact ⟨rfl, bel⟩
  have t0 : decide (1048576 - ((cntEng a0 : Nat) : Int) < 0) = false := by simp; omega
  go_enter Try.func9, Try.ntmps9
  go_wp2_with fail
  refine (sz_yes (szEng_calls a0 [_, _, _] (1048576) _ (kEng_mk _ _ l0_0 (R0_0.out.below bel) l0_1 (R0_1.out.below bel) l0_2 (R0_2.out.below bel)) (by omega) (by omega)) rfl (by omega)).mono ?_
  rintro e ws0 ⟨rfl, hbs0⟩
  have f0_0_1 : ws0.cell? ⟨w.heap.size, 0, none⟩ = some (.slice Ea0_0 a0.gs.length ea0_0) := by obtain ⟨C, D⟩ := bcell hbs0; go_simp
  have f0_1_1 : ws0.cell? ⟨w.heap.size, 1, none⟩ = some (.slice Ea0_1 a0.chans.length ea0_1) := by obtain ⟨C, D⟩ := bcell hbs0; go_simp
  have f0_2_1 : ws0.cell? ⟨w.heap.size, 2, none⟩ = some (.slice Ea0_2 a0.mus.length ea0_2) := by obtain ⟨C, D⟩ := bcell hbs0; go_simp
  have z0_ws0 : w.heap.size < ws0.heap.size := World.block_lt_of_cell? _ _ f0_0_1
  go_wp2_with fail
  go_at_call 12; (refine (toEng_calls a0 [_, _, _] _ (kEng_mk _ _ l0_0 (R0_0.out.below bel) l0_1 (R0_1.out.below bel) l0_2 (R0_2.out.below bel)) (by omega)).mono ?_); rintro e wp0 ⟨csp0, bp0, rfl, op0, frp0, hbp0⟩; have Op0 := Lib.hid op0; have Frp0 := Lib.hid frp0; clear frp0; obtain ⟨Ep0_0, ep0_0, yp0_0, Ep0_1, ep0_1, yp0_1, Ep0_2, ep0_2, yp0_2, rfl, rfl, qp0_0, qp0_1, qp0_2⟩ := kEng_O op0; clear op0; clear qp0_0 qp0_1 qp0_2
  have hk2 : Below ws0.heap.size ws0 wp0 := bel
  have f0_0_2 := keepc hk2 f0_0_1
  have f0_1_2 := keepc hk2 f0_1_1
  have f0_2_2 := keepc hk2 f0_2_1
  clear f0_0_1 f0_1_1 f0_2_1 z0_ws0
  have z0_wp0 : w.heap.size < wp0.heap.size := World.block_lt_of_cell? _ _ f0_0_2
  go_wp2_with fail
  go_at_call 33; (refine (spec_Lengths_calls a0 [_, _, _] _ (kEng.K_below bel (kEng.O_K Op0.out)) (by omega)).mono ?_); rintro e wq ⟨Eq0, eq0, bq0, rfl, oq0, frq, hbq⟩; have Oq0 := Lib.hid oq0; have Frq := Lib.hid frq; clear frq; clear oq0; have Frq0 := Frq; have Fsq0 : Hid (∀ k ∈ (bq0), wp0.heap.size ≤ k) := Lib.hid (fun k h => by refine Nat.le_trans ?_ (Frq0.out.2 k h); exact (bel : Below wp0.heap.size wp0 _).size); have upq0 : Hid (∀ k ∈ (bq0), k < wq.heap.size) := Lib.hid (Oq0.out.lt); have nbq0_0 : Hid (w.heap.size ∉ (bq0)) := Lib.hid (fun h => by have h3 := Fsq0.out _ h; have h4 := World.block_lt_of_cell? _ _ f0_0_2; omega)
  have hk3 : Below wp0.heap.size wp0 wq := bel
  have f0_0_3 := keepc hk3 f0_0_2
  have f0_1_3 := keepc hk3 f0_1_2
  have f0_2_3 := keepc hk3 f0_2_2
  clear f0_0_2 f0_1_2 f0_2_2 z0_wp0
  have z0_wq : w.heap.size < wq.heap.size := World.block_lt_of_cell? _ _ f0_0_3
  have lwq0 : Hid (∀ k ∈ (bq0), w.heap.size ≤ k) := Lib.hid fun k h => Nat.le_trans (bel : Below w.heap.size w wp0).size (Fsq0.out k h)
  go_wp2_with fail
  go_at_call 12; (refine (toEng_calls a0 [_, _, _] _ (kEng_mk _ _ l0_0 (R0_0.out.below bel) l0_1 (R0_1.out.below bel) l0_2 (R0_2.out.below bel)) (by omega)).mono ?_); rintro e wx0 ⟨csx0, bx0, rfl, ox0, frx0, hbx0⟩; have Ox0 := Lib.hid ox0; have Frx0 := Lib.hid frx0; clear frx0; obtain ⟨Ex0_0, ex0_0, yx0_0, Ex0_1, ex0_1, yx0_1, Ex0_2, ex0_2, yx0_2, rfl, rfl, qx0_0, qx0_1, qx0_2⟩ := kEng_O ox0; clear ox0; have Qx0_0 := Lib.hid qx0_0; have Qx0_1 := Lib.hid qx0_1; have Qx0_2 := Lib.hid qx0_2; have Fsx0 : Hid (∀ k ∈ (yx0_0 ++ yx0_1 ++ yx0_2), wq.heap.size ≤ k) := Lib.hid (fun k h => by refine Nat.le_trans ?_ (Frx0.out.2 k h); exact (bel : Below wq.heap.size wq _).size); have upx0 : Hid (∀ k ∈ (yx0_0 ++ yx0_1 ++ yx0_2), k < wx0.heap.size) := Lib.hid (kEng.O_lt Ox0.out); have nbx0_0 : Hid (w.heap.size ∉ (yx0_0 ++ yx0_1 ++ yx0_2)) := Lib.hid (fun h => by have h3 := Fsx0.out _ h; have h4 := World.block_lt_of_cell? _ _ f0_0_3; omega); have djx0_q0 : Hid (∀ k ∈ (yx0_0 ++ yx0_1 ++ yx0_2), k ∉ (bq0)) := Lib.hid (fun k h h2 => by have h3 := Fsx0.out k h; have h4 := upq0.out k h2; omega); have djq0_x0 : Hid (∀ k ∈ (bq0), k ∉ (yx0_0 ++ yx0_1 ++ yx0_2)) := Lib.hid (fun k h2 h => by have h3 := Fsx0.out k h; have h4 := upq0.out k h2; omega); clear qx0_0 qx0_1 qx0_2
  have hk4 : Below wq.heap.size wq wx0 := bel
  have f0_0_4 := keepc hk4 f0_0_3
  have f0_1_4 := keepc hk4 f0_1_3
  have f0_2_4 := keepc hk4 f0_2_3
  have upq0_4 : Hid (∀ k ∈ (bq0), k < wx0.heap.size) := Lib.hid fun k h => Nat.lt_of_lt_of_le (upq0.out k h) hk4.size
  clear upq0
  clear f0_0_3 f0_1_3 f0_2_3 z0_wq
  have z0_wx0 : w.heap.size < wx0.heap.size := World.block_lt_of_cell? _ _ f0_0_4
  have lwx0 : Hid (∀ k ∈ (yx0_0 ++ yx0_1 ++ yx0_2), w.heap.size ≤ k) := Lib.hid fun k h => Nat.le_trans (bel : Below w.heap.size w wq).size (Fsx0.out k h)
  go_wp2_with fail
  refine settleC ?_
  intro V5 hW5
  have hbW5 : Below wx0.heap.size wx0 V5 := by rw [hW5]; exact bel
  have f0_0_5 := keepc hbW5 f0_0_4
  have f0_1_5 := keepc hbW5 f0_1_4
  have f0_2_5 := keepc hbW5 f0_2_4
  have f1_0_5 : V5.cell? ⟨wx0.heap.size, 0, none⟩ = some (.slice Ex0_0 a0.gs.length ex0_0) := by rw [hW5]; go_simp
  have f1_1_5 : V5.cell? ⟨wx0.heap.size, 1, none⟩ = some (.slice Ex0_1 a0.chans.length ex0_1) := by rw [hW5]; go_simp
  have f1_2_5 : V5.cell? ⟨wx0.heap.size, 2, none⟩ = some (.slice Ex0_2 a0.mus.length ex0_2) := by rw [hW5]; go_simp
  clear hW5
  have nbq0_1 : Hid (wx0.heap.size ∉ (bq0)) := Lib.hid fun h => by have := upq0_4.out _ h; omega
  have upq0_5 : Hid (∀ k ∈ (bq0), k < V5.heap.size) := Lib.hid fun k h => Nat.lt_of_lt_of_le (upq0_4.out k h) hbW5.size
  have nbx0_1 : Hid (wx0.heap.size ∉ (yx0_0 ++ yx0_1 ++ yx0_2)) := Lib.hid fun h => by have := upx0.out _ h; omega
  have upx0_5 : Hid (∀ k ∈ (yx0_0 ++ yx0_1 ++ yx0_2), k < V5.heap.size) := Lib.hid fun k h => Nat.lt_of_lt_of_le (upx0.out k h) hbW5.size
  clear upq0_4 upx0
  clear f0_0_4 f0_1_4 f0_2_4 z0_wx0
  have z0_V5 : w.heap.size < V5.heap.size := World.block_lt_of_cell? _ _ f0_0_5
  have z1_V5 : wx0.heap.size < V5.heap.size := World.block_lt_of_cell? _ _ f1_0_5
  go_at_call 34; (refine (impl_Lengths_calls a0 [_, _, _] _ (kEng.K_below bel (kEng.O_K Ox0.out)) (by omega)).mono ?_); rintro e wi ⟨Eg0, eg0, bg0, rfl, og0, frg, hbi⟩; have Og0 := Lib.hid og0; have Frg := Lib.hid frg; clear frg; clear og0; have Frg0 := Frg; have Fsg0 : Hid (∀ k ∈ (bg0), V5.heap.size ≤ k) := Lib.hid (fun k h => by refine Nat.le_trans ?_ (Frg0.out.2 k h); exact (bel : Below V5.heap.size V5 _).size); have upg0 : Hid (∀ k ∈ (bg0), k < wi.heap.size) := Lib.hid (Og0.out.lt); have nbg0_0 : Hid (w.heap.size ∉ (bg0)) := Lib.hid (fun h => by have h3 := Fsg0.out _ h; have h4 := World.block_lt_of_cell? _ _ f0_0_5; omega); have nbg0_1 : Hid (wx0.heap.size ∉ (bg0)) := Lib.hid (fun h => by have h3 := Fsg0.out _ h; have h4 := World.block_lt_of_cell? _ _ f1_0_5; omega); have djg0_q0 : Hid (∀ k ∈ (bg0), k ∉ (bq0)) := Lib.hid (fun k h h2 => by have h3 := Fsg0.out k h; have h4 := upq0_5.out k h2; omega); have djq0_g0 : Hid (∀ k ∈ (bq0), k ∉ (bg0)) := Lib.hid (fun k h2 h => by have h3 := Fsg0.out k h; have h4 := upq0_5.out k h2; omega); have djg0_x0 : Hid (∀ k ∈ (bg0), k ∉ (yx0_0 ++ yx0_1 ++ yx0_2)) := Lib.hid (fun k h h2 => by have h3 := Fsg0.out k h; have h4 := upx0_5.out k h2; omega); have djx0_g0 : Hid (∀ k ∈ (yx0_0 ++ yx0_1 ++ yx0_2), k ∉ (bg0)) := Lib.hid (fun k h2 h => by have h3 := Fsg0.out k h; have h4 := upx0_5.out k h2; omega)
  have hk6 : Below V5.heap.size V5 wi := bel
  have f0_0_6 := keepc hk6 f0_0_5
  have f0_1_6 := keepc hk6 f0_1_5
  have f0_2_6 := keepc hk6 f0_2_5
  have f1_0_6 := keepc hk6 f1_0_5
  have f1_1_6 := keepc hk6 f1_1_5
  have f1_2_6 := keepc hk6 f1_2_5
  have upq0_6 : Hid (∀ k ∈ (bq0), k < wi.heap.size) := Lib.hid fun k h => Nat.lt_of_lt_of_le (upq0_5.out k h) hk6.size
  have upx0_6 : Hid (∀ k ∈ (yx0_0 ++ yx0_1 ++ yx0_2), k < wi.heap.size) := Lib.hid fun k h => Nat.lt_of_lt_of_le (upx0_5.out k h) hk6.size
  clear upq0_5 upx0_5
  clear f0_0_5 f0_1_5 f0_2_5 f1_0_5 f1_1_5 f1_2_5 z0_V5 z1_V5
  have z0_wi : w.heap.size < wi.heap.size := World.block_lt_of_cell? _ _ f0_0_6
  have z1_wi : wx0.heap.size < wi.heap.size := World.block_lt_of_cell? _ _ f1_0_6
  have lwg0 : Hid (∀ k ∈ (bg0), w.heap.size ≤ k) := Lib.hid fun k h => Nat.le_trans (bel : Below w.heap.size w V5).size (Fsg0.out k h)
  go_wp2_with fail
  go_at_call 17; (refine (eqIntS_calls _ _ _ _ _ _ _ ((row_of Og0.out).2.below bel) ((row_of Oq0.out).2.below bel)).mono ?_); rintro e wc0 ⟨rfl, hbc0⟩
  have hk7 : Below wi.heap.size wi wc0 := bel
  have f0_0_7 := keepc hk7 f0_0_6
  have f0_1_7 := keepc hk7 f0_1_6
  have f0_2_7 := keepc hk7 f0_2_6
  have f1_0_7 := keepc hk7 f1_0_6
  have f1_1_7 := keepc hk7 f1_1_6
  have f1_2_7 := keepc hk7 f1_2_6
  have upq0_7 : Hid (∀ k ∈ (bq0), k < wc0.heap.size) := Lib.hid fun k h => Nat.lt_of_lt_of_le (upq0_6.out k h) hk7.size
  have upx0_7 : Hid (∀ k ∈ (yx0_0 ++ yx0_1 ++ yx0_2), k < wc0.heap.size) := Lib.hid fun k h => Nat.lt_of_lt_of_le (upx0_6.out k h) hk7.size
  have upg0_7 : Hid (∀ k ∈ (bg0), k < wc0.heap.size) := Lib.hid fun k h => Nat.lt_of_lt_of_le (upg0.out k h) hk7.size
  clear upq0_6 upx0_6 upg0
  clear f0_0_6 f0_1_6 f0_2_6 f1_0_6 f1_1_6 f1_2_6 z0_wi z1_wi
  have z0_wc0 : w.heap.size < wc0.heap.size := World.block_lt_of_cell? _ _ f0_0_7
  have z1_wc0 : wx0.heap.size < wc0.heap.size := World.block_lt_of_cell? _ _ f1_0_7
  go_wp2_with fail
  refine settleR ?_
  intro W8 hW8
  have hbW8 : Below wc0.heap.size wc0 W8 := by rw [hW8]; exact bel
  have f0_0_8 := keepc hbW8 f0_0_7
  have f0_1_8 := keepc hbW8 f0_1_7
  have f0_2_8 := keepc hbW8 f0_2_7
  have f1_0_8 := keepc hbW8 f1_0_7
  have f1_1_8 := keepc hbW8 f1_1_7
  have f1_2_8 := keepc hbW8 f1_2_7
  clear hW8
  have upq0_8 : Hid (∀ k ∈ (bq0), k < W8.heap.size) := Lib.hid fun k h => Nat.lt_of_lt_of_le (upq0_7.out k h) hbW8.size
  have upx0_8 : Hid (∀ k ∈ (yx0_0 ++ yx0_1 ++ yx0_2), k < W8.heap.size) := Lib.hid fun k h => Nat.lt_of_lt_of_le (upx0_7.out k h) hbW8.size
  have upg0_8 : Hid (∀ k ∈ (bg0), k < W8.heap.size) := Lib.hid fun k h => Nat.lt_of_lt_of_le (upg0_7.out k h) hbW8.size
  clear upq0_7 upx0_7 upg0_7
  clear f0_0_7 f0_1_7 f0_2_7 f1_0_7 f1_1_7 f1_2_7 z0_wc0 z1_wc0
  have z0_W8 : w.heap.size < W8.heap.size := World.block_lt_of_cell? _ _ f0_0_8
  have z1_W8 : wx0.heap.size < W8.heap.size := World.block_lt_of_cell? _ _ f1_0_8
  go_region_held3 (fun w' => w'.cell? ⟨w.heap.size, 0, none⟩ = some (.slice Ea0_0 a0.gs.length ea0_0) ∧ w'.cell? ⟨w.heap.size, 1, none⟩ = some (.slice Ea0_1 a0.chans.length ea0_1) ∧ w'.cell? ⟨w.heap.size, 2, none⟩ = some (.slice Ea0_2 a0.mus.length ea0_2) ∧ w'.cell? ⟨wx0.heap.size, 0, none⟩ = some (.slice Ex0_0 a0.gs.length ex0_0) ∧ w'.cell? ⟨wx0.heap.size, 1, none⟩ = some (.slice Ex0_1 a0.chans.length ex0_1) ∧ w'.cell? ⟨wx0.heap.size, 2, none⟩ = some (.slice Ex0_2 a0.mus.length ex0_2)) (exact ⟨keepc bel f0_0_8, keepc bel f0_1_8, keepc bel f0_2_8, keepc bel f1_0_8, keepc bel f1_1_8, keepc bel f1_2_8⟩)
    (first
      | (go_at_call 12; (with_reducible refine (toEng_calls a0 [_, _, _] _ (kEng_mk _ _ l0_0 (R0_0.out.below bel) l0_1 (R0_1.out.below bel) l0_2 (R0_2.out.below bel)) (by omega)).mono ?_); rintro e we0 ⟨cse0, be0, rfl, oe0, fre0, hbe0⟩; have Oe0 := Lib.hid oe0; have Fre0 := Lib.hid fre0; clear fre0; obtain ⟨Ee0_0, ee0_0, ye0_0, Ee0_1, ee0_1, ye0_1, Ee0_2, ee0_2, ye0_2, rfl, rfl, qe0_0, qe0_1, qe0_2⟩ := kEng_O oe0; clear oe0; clear qe0_0 qe0_1 qe0_2)
      | (go_at_call 14; (with_reducible refine (eqEng_calls a0 a0 [_, _, _] [_, _, _] _ (kEng.K_below bel (kEng.O_K Ox0.out)) (kEng.K_below bel (kEng.O_K Oe0.out))).mono ?_); rintro e wr0 ⟨rfl, hbr0⟩))
  have hk9 : Below W8.heap.size W8 wr0 := bel
  have f0_0_9 := keepc hk9 f0_0_8
  have f0_1_9 := keepc hk9 f0_1_8
  have f0_2_9 := keepc hk9 f0_2_8
  have f1_0_9 := keepc hk9 f1_0_8
  have f1_1_9 := keepc hk9 f1_1_8
  have f1_2_9 := keepc hk9 f1_2_8
  have upq0_9 : Hid (∀ k ∈ (bq0), k < wr0.heap.size) := Lib.hid fun k h => Nat.lt_of_lt_of_le (upq0_8.out k h) hk9.size
  have upx0_9 : Hid (∀ k ∈ (yx0_0 ++ yx0_1 ++ yx0_2), k < wr0.heap.size) := Lib.hid fun k h => Nat.lt_of_lt_of_le (upx0_8.out k h) hk9.size
  have upg0_9 : Hid (∀ k ∈ (bg0), k < wr0.heap.size) := Lib.hid fun k h => Nat.lt_of_lt_of_le (upg0_8.out k h) hk9.size
  clear upq0_8 upx0_8 upg0_8
  clear f0_0_8 f0_1_8 f0_2_8 f1_0_8 f1_1_8 f1_2_8 z0_W8 z1_W8
  have z0_wr0 : w.heap.size < wr0.heap.size := World.block_lt_of_cell? _ _ f0_0_9
  have z1_wr0 : wx0.heap.size < wr0.heap.size := World.block_lt_of_cell? _ _ f1_0_9
  go_wp2_with fail
  refine (markEng_calls (a0) (1) _ (Qx0_0.out.below bel) (Qx0_1.out.below bel) (Qx0_2.out.below bel) Frx0.out.1 (by have hq := hc0; simp only [cntEng] at hq; omega) (by omega) (by omega)).mono ?_
  rintro e wmx0 ⟨vx0_0, vx0_1, vx0_2, he, hvx0_0, pvx0_0, mvx0_0, hvx0_1, pvx0_1, mvx0_1, hvx0_2, pvx0_2, mvx0_2, hcmx0⟩
  obtain ⟨kmx0, hkm⟩ : ∃ km : Int, 1 + ((mcGorS (a0).gs : Nat) : Int) + ((mcChanS (a0).chans : Nat) : Int) + ((mcMutexS (a0).mus : Nat) : Int) = km := ⟨_, rfl⟩
  rw [hkm] at he mvx0_2; subst he
  have bkx0 : 0 ≤ kmx0 ∧ kmx0 ≤ 34359738368 := by have hq := hc0; simp only [cntEng] at hq; have := mcGorS_le (a0).gs; have := mcChanS_le (a0).chans; have := mcMutexS_le (a0).mus; omega
  have tkx0 : decide (kmx0 < 0) = false := by simp; omega
  clear hkm
  clear mvx0_0 pvx0_0 hvx0_0
  clear mvx0_1 pvx0_1 hvx0_1
  clear mvx0_2 pvx0_2 hvx0_2
  have hbw10 : Below w.heap.size w wmx0 := hcmx0.below lwx0.out bel
  have f0_0_10 := hcmx0.cell nbx0_0.out f0_0_9
  have f0_1_10 := hcmx0.cell nbx0_0.out f0_1_9
  have f0_2_10 := hcmx0.cell nbx0_0.out f0_2_9
  have f1_0_10 := hcmx0.cell nbx0_1.out f1_0_9
  have f1_1_10 := hcmx0.cell nbx0_1.out f1_1_9
  have f1_2_10 := hcmx0.cell nbx0_1.out f1_2_9
  have Owq0_0_10 := Lib.hid (hcmx0.own (fun k h => djq0_x0.out k (by simp [h])) (Oq0.out.below bel))
  have Owg0_0_10 := Lib.hid (hcmx0.own (fun k h => djg0_x0.out k (by simp [h])) (Og0.out.below bel))
  have upq0_10 : Hid (∀ k ∈ (bq0), k < wmx0.heap.size) := Lib.hid fun k h => Nat.lt_of_lt_of_le (upq0_9.out k h) hcmx0.size
  have upx0_10 : Hid (∀ k ∈ (yx0_0 ++ yx0_1 ++ yx0_2), k < wmx0.heap.size) := Lib.hid fun k h => Nat.lt_of_lt_of_le (upx0_9.out k h) hcmx0.size
  have upg0_10 : Hid (∀ k ∈ (bg0), k < wmx0.heap.size) := Lib.hid fun k h => Nat.lt_of_lt_of_le (upg0_9.out k h) hcmx0.size
  clear f0_0_9 f0_1_9 f0_2_9 f1_0_9 f1_1_9 f1_2_9 z0_wr0 z1_wr0
  have z0_wmx0 : w.heap.size < wmx0.heap.size := World.block_lt_of_cell? _ _ f0_0_10
  have z1_wmx0 : wx0.heap.size < wmx0.heap.size := World.block_lt_of_cell? _ _ f1_0_10
  go_wp2_with fail
  go_at_call 17; (refine (eqIntS_calls _ _ _ _ _ _ _ ((row_of Owg0_0_10.out).2.below bel) ((row_of Owq0_0_10.out).2.below bel)).mono ?_); rintro e wd0 ⟨rfl, hbd0⟩
  have hk11 : Below wmx0.heap.size wmx0 wd0 := bel
  have f0_0_11 := keepc hk11 f0_0_10
  have f0_1_11 := keepc hk11 f0_1_10
  have f0_2_11 := keepc hk11 f0_2_10
  have f1_0_11 := keepc hk11 f1_0_10
  have f1_1_11 := keepc hk11 f1_1_10
  have f1_2_11 := keepc hk11 f1_2_10
  have upq0_11 : Hid (∀ k ∈ (bq0), k < wd0.heap.size) := Lib.hid fun k h => Nat.lt_of_lt_of_le (upq0_10.out k h) hk11.size
  have upx0_11 : Hid (∀ k ∈ (yx0_0 ++ yx0_1 ++ yx0_2), k < wd0.heap.size) := Lib.hid fun k h => Nat.lt_of_lt_of_le (upx0_10.out k h) hk11.size
  have upg0_11 : Hid (∀ k ∈ (bg0), k < wd0.heap.size) := Lib.hid fun k h => Nat.lt_of_lt_of_le (upg0_10.out k h) hk11.size
  clear upq0_10 upx0_10 upg0_10
  clear f0_0_10 f0_1_10 f0_2_10 f1_0_10 f1_1_10 f1_2_10 z0_wmx0 z1_wmx0
  have z0_wd0 : w.heap.size < wd0.heap.size := World.block_lt_of_cell? _ _ f0_0_11
  have z1_wd0 : wx0.heap.size < wd0.heap.size := World.block_lt_of_cell? _ _ f1_0_11
  go_wp2_with fail
  refine (markIntS_calls (lengths a0) _ _ (1) _ _ (Owg0_0_10.out.below bel) Frg0.out.1 (by  have hq := hc0; unfold cntEng at hq; have : (lengths a0).length = a0.gs.length := (by simp [lengths, lengthsTo]); omega) (by omega) (by omega)).mono ?_
  rintro e wmg0 ⟨vg0_0, he, hvg0_0, pvg0_0, mvg0_0, hcmg0⟩
  obtain ⟨kmg0, hkm⟩ : ∃ km : Int, 1 + (((lengths a0).length : Nat) : Int) = km := ⟨_, rfl⟩
  rw [hkm] at he mvg0_0; subst he
  have bkg0 : 0 ≤ kmg0 ∧ kmg0 ≤ 34359738368 := by  have hq := hc0; unfold cntEng at hq; have : (lengths a0).length = a0.gs.length := (by simp [lengths, lengthsTo]); omega
  have tkg0 : decide (kmg0 < 0) = false := by simp; omega
  clear hkm
  have Mvg0_0 := Lib.hid mvg0_0; have Pvg0_0 := Lib.hid pvg0_0; clear mvg0_0 pvg0_0
  have hbw12 : Below w.heap.size w wmg0 := hcmg0.below lwg0.out bel
  have f0_0_12 := hcmg0.cell nbg0_0.out f0_0_11
  have f0_1_12 := hcmg0.cell nbg0_0.out f0_1_11
  have f0_2_12 := hcmg0.cell nbg0_0.out f0_2_11
  have f1_0_12 := hcmg0.cell nbg0_1.out f1_0_11
  have f1_1_12 := hcmg0.cell nbg0_1.out f1_1_11
  have f1_2_12 := hcmg0.cell nbg0_1.out f1_2_11
  have Owq0_0_12 := Lib.hid (hcmg0.own (fun k h => djq0_g0.out k (by simp [h])) (Owq0_0_10.out.below bel))
  have upq0_12 : Hid (∀ k ∈ (bq0), k < wmg0.heap.size) := Lib.hid fun k h => Nat.lt_of_lt_of_le (upq0_11.out k h) hcmg0.size
  have upx0_12 : Hid (∀ k ∈ (yx0_0 ++ yx0_1 ++ yx0_2), k < wmg0.heap.size) := Lib.hid fun k h => Nat.lt_of_lt_of_le (upx0_11.out k h) hcmg0.size
  have upg0_12 : Hid (∀ k ∈ (bg0), k < wmg0.heap.size) := Lib.hid fun k h => Nat.lt_of_lt_of_le (upg0_11.out k h) hcmg0.size
  clear f0_0_11 f0_1_11 f0_2_11 f1_0_11 f1_1_11 f1_2_11 z0_wd0 z1_wd0
  have z0_wmg0 : w.heap.size < wmg0.heap.size := World.block_lt_of_cell? _ _ f0_0_12
  have z1_wmg0 : wx0.heap.size < wmg0.heap.size := World.block_lt_of_cell? _ _ f1_0_12
  go_wp2_with fail
  have hs := heldIntS_calls vg0_0 Eg0 eg0 (1) wmg0 ((row_of Pvg0_0.out).2.below bel) _ Mvg0_0.out (by rw [hvg0_0];  have hq := hc0; unfold cntEng at hq; have : (lengths a0).length = a0.gs.length := (by simp [lengths, lengthsTo]); omega) (by omega) (by omega)
  rw [hvg0_0] at hs
  refine hs.mono ?_
  clear hs
  rintro e wha0 ⟨rfl, hbha0⟩
  have hk13 : Below wmg0.heap.size wmg0 wha0 := bel
  have f0_0_13 := keepc hk13 f0_0_12
  have f0_1_13 := keepc hk13 f0_1_12
  have f0_2_13 := keepc hk13 f0_2_12
  have f1_0_13 := keepc hk13 f1_0_12
  have f1_1_13 := keepc hk13 f1_1_12
  have f1_2_13 := keepc hk13 f1_2_12
  have upq0_13 : Hid (∀ k ∈ (bq0), k < wha0.heap.size) := Lib.hid fun k h => Nat.lt_of_lt_of_le (upq0_12.out k h) hk13.size
  have upx0_13 : Hid (∀ k ∈ (yx0_0 ++ yx0_1 ++ yx0_2), k < wha0.heap.size) := Lib.hid fun k h => Nat.lt_of_lt_of_le (upx0_12.out k h) hk13.size
  have upg0_13 : Hid (∀ k ∈ (bg0), k < wha0.heap.size) := Lib.hid fun k h => Nat.lt_of_lt_of_le (upg0_12.out k h) hk13.size
  clear upq0_12 upx0_12 upg0_12
  clear f0_0_12 f0_1_12 f0_2_12 f1_0_12 f1_1_12 f1_2_12 z0_wmg0 z1_wmg0
  have z0_wha0 : w.heap.size < wha0.heap.size := World.block_lt_of_cell? _ _ f0_0_13
  have z1_wha0 : wx0.heap.size < wha0.heap.size := World.block_lt_of_cell? _ _ f1_0_13
  go_wp2_with fail
  go_at_call 12; (refine (toEng_calls a0 [_, _, _] _ (kEng_mk _ _ l0_0 (R0_0.out.below bel) l0_1 (R0_1.out.below bel) l0_2 (R0_2.out.below bel)) (by omega)).mono ?_); rintro e wz0 ⟨csz0, bz0, rfl, oz0, frz0, hbz0⟩; have Oz0 := Lib.hid oz0; have Frz0 := Lib.hid frz0; clear frz0; obtain ⟨Ez0_0, ez0_0, yz0_0, Ez0_1, ez0_1, yz0_1, Ez0_2, ez0_2, yz0_2, rfl, rfl, qz0_0, qz0_1, qz0_2⟩ := kEng_O oz0; clear oz0; clear qz0_0 qz0_1 qz0_2
  have hk14 : Below wha0.heap.size wha0 wz0 := bel
  have f0_0_14 := keepc hk14 f0_0_13
  have f0_1_14 := keepc hk14 f0_1_13
  have f0_2_14 := keepc hk14 f0_2_13
  have f1_0_14 := keepc hk14 f1_0_13
  have f1_1_14 := keepc hk14 f1_1_13
  have f1_2_14 := keepc hk14 f1_2_13
  have upq0_14 : Hid (∀ k ∈ (bq0), k < wz0.heap.size) := Lib.hid fun k h => Nat.lt_of_lt_of_le (upq0_13.out k h) hk14.size
  have upx0_14 : Hid (∀ k ∈ (yx0_0 ++ yx0_1 ++ yx0_2), k < wz0.heap.size) := Lib.hid fun k h => Nat.lt_of_lt_of_le (upx0_13.out k h) hk14.size
  have upg0_14 : Hid (∀ k ∈ (bg0), k < wz0.heap.size) := Lib.hid fun k h => Nat.lt_of_lt_of_le (upg0_13.out k h) hk14.size
  clear upq0_13 upx0_13 upg0_13
  clear f0_0_13 f0_1_13 f0_2_13 f1_0_13 f1_1_13 f1_2_13 z0_wha0 z1_wha0
  have z0_wz0 : w.heap.size < wz0.heap.size := World.block_lt_of_cell? _ _ f0_0_14
  have z1_wz0 : wx0.heap.size < wz0.heap.size := World.block_lt_of_cell? _ _ f1_0_14
  go_wp2_with fail
  go_at_call 34; (refine (impl_Lengths_calls a0 [_, _, _] _ (kEng.K_below bel (kEng.O_K Oz0.out)) (by omega)).mono ?_); rintro e wh ⟨Eh0, eh0, bh0, rfl, oh0, frh, hbh⟩; have Oh0 := Lib.hid oh0; have Frh := Lib.hid frh; clear frh; clear oh0; have Frh0 := Frh
  have hk15 : Below wz0.heap.size wz0 wh := bel
  have f0_0_15 := keepc hk15 f0_0_14
  have f0_1_15 := keepc hk15 f0_1_14
  have f0_2_15 := keepc hk15 f0_2_14
  have f1_0_15 := keepc hk15 f1_0_14
  have f1_1_15 := keepc hk15 f1_1_14
  have f1_2_15 := keepc hk15 f1_2_14
  have upq0_15 : Hid (∀ k ∈ (bq0), k < wh.heap.size) := Lib.hid fun k h => Nat.lt_of_lt_of_le (upq0_14.out k h) hk15.size
  have upx0_15 : Hid (∀ k ∈ (yx0_0 ++ yx0_1 ++ yx0_2), k < wh.heap.size) := Lib.hid fun k h => Nat.lt_of_lt_of_le (upx0_14.out k h) hk15.size
  have upg0_15 : Hid (∀ k ∈ (bg0), k < wh.heap.size) := Lib.hid fun k h => Nat.lt_of_lt_of_le (upg0_14.out k h) hk15.size
  clear upq0_14 upx0_14 upg0_14
  clear f0_0_14 f0_1_14 f0_2_14 f1_0_14 f1_1_14 f1_2_14 z0_wz0 z1_wz0
  have z0_wh : w.heap.size < wh.heap.size := World.block_lt_of_cell? _ _ f0_0_15
  have z1_wh : wx0.heap.size < wh.heap.size := World.block_lt_of_cell? _ _ f1_0_15
  go_wp2_with fail
  go_at_call 17; (refine (eqIntS_calls _ _ _ _ _ _ _ ((row_of Oh0.out).2.below bel) ((row_of Owq0_0_12.out).2.below bel)).mono ?_); rintro e wf0 ⟨rfl, hbf0⟩
  have hk16 : Below wh.heap.size wh wf0 := bel
  have f0_0_16 := keepc hk16 f0_0_15
  have f0_1_16 := keepc hk16 f0_1_15
  have f0_2_16 := keepc hk16 f0_2_15
  have f1_0_16 := keepc hk16 f1_0_15
  have f1_1_16 := keepc hk16 f1_1_15
  have f1_2_16 := keepc hk16 f1_2_15
  have upq0_16 : Hid (∀ k ∈ (bq0), k < wf0.heap.size) := Lib.hid fun k h => Nat.lt_of_lt_of_le (upq0_15.out k h) hk16.size
  have upx0_16 : Hid (∀ k ∈ (yx0_0 ++ yx0_1 ++ yx0_2), k < wf0.heap.size) := Lib.hid fun k h => Nat.lt_of_lt_of_le (upx0_15.out k h) hk16.size
  have upg0_16 : Hid (∀ k ∈ (bg0), k < wf0.heap.size) := Lib.hid fun k h => Nat.lt_of_lt_of_le (upg0_15.out k h) hk16.size
  clear upq0_15 upx0_15 upg0_15
  clear f0_0_15 f0_1_15 f0_2_15 f1_0_15 f1_1_15 f1_2_15 z0_wh z1_wh
  have z0_wf0 : w.heap.size < wf0.heap.size := World.block_lt_of_cell? _ _ f0_0_16
  have z1_wf0 : wx0.heap.size < wf0.heap.size := World.block_lt_of_cell? _ _ f1_0_16
  go_wp2_with fail
  have hs := heldIntS_calls vg0_0 Eg0 eg0 (1) wf0 ((row_of Pvg0_0.out).2.below bel) _ Mvg0_0.out (by rw [hvg0_0];  have hq := hc0; unfold cntEng at hq; have : (lengths a0).length = a0.gs.length := (by simp [lengths, lengthsTo]); omega) (by omega) (by omega)
  rw [hvg0_0] at hs
  refine hs.mono ?_
  clear hs
  rintro e whb0 ⟨rfl, hbhb0⟩
  have hk17 : Below wf0.heap.size wf0 whb0 := bel
  have f0_0_17 := keepc hk17 f0_0_16
  have f0_1_17 := keepc hk17 f0_1_16
  have f0_2_17 := keepc hk17 f0_2_16
  have f1_0_17 := keepc hk17 f1_0_16
  have f1_1_17 := keepc hk17 f1_1_16
  have f1_2_17 := keepc hk17 f1_2_16
  have upq0_17 : Hid (∀ k ∈ (bq0), k < whb0.heap.size) := Lib.hid fun k h => Nat.lt_of_lt_of_le (upq0_16.out k h) hk17.size
  have upx0_17 : Hid (∀ k ∈ (yx0_0 ++ yx0_1 ++ yx0_2), k < whb0.heap.size) := Lib.hid fun k h => Nat.lt_of_lt_of_le (upx0_16.out k h) hk17.size
  have upg0_17 : Hid (∀ k ∈ (bg0), k < whb0.heap.size) := Lib.hid fun k h => Nat.lt_of_lt_of_le (upg0_16.out k h) hk17.size
  clear upq0_16 upx0_16 upg0_16
  clear f0_0_16 f0_1_16 f0_2_16 f1_0_16 f1_1_16 f1_2_16 z0_wf0 z1_wf0
  have z0_whb0 : w.heap.size < whb0.heap.size := World.block_lt_of_cell? _ _ f0_0_17
  have z1_whb0 : wx0.heap.size < whb0.heap.size := World.block_lt_of_cell? _ _ f1_0_17
  go_wp2
  go_ret
  exact ⟨rfl, bel⟩
end Go.Proofs.Ytebflbenchomoaa.Wd

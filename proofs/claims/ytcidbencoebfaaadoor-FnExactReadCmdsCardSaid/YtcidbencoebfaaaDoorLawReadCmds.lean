/- The law FnExactReadCmds returns true at every argument. Conditions: none. -/
import Derived.Test.YtcidbencoebfaaaDoorTxRC
import Derived.Test.YtcidbencoebfaaaDoorMkN
import Derived.Test.YtcidbencoebfaaaDoorHeC
import Derived.Deep.RegionHeld3
import Derived.Deep.CutRange
namespace Go.Proofs.YtcidbencoebfaaaDoor.Wd
open Go.RowKit
set_option linter.unusedVariables false
set_option linter.unusedSimpArgs false
set_option maxHeartbeats 2000000
set_option maxRecDepth 100000
theorem cnt_mc : ∀ xs : List MCmd, cntCmdS xs ≤ mcCmdS xs
  | [] => Nat.le_refl _
  | x :: xs => by
    have := cnt_mc xs
    simp only [cntCmdS, mcCmdS, cntCmd, mcCmd]
    omega
theorem law_ReadCmds (a0 : ByteArray) (w : World) :
    Calls Tryd.prog 5 #[.string a0] w fun e w' => e = .returned (.bool true) ∧ Below w.heap.size w w' := by
  by_cases hs0 : a0.size ≤ 1048576
  rotate_left
  · have e0 : decide (1048576 < a0.size) = true := by simp; omega
    go_enter Tryd.func5, Tryd.ntmps5
    go_wp2
    go_ret
    exact ⟨rfl, bel⟩
  have e0 : decide (1048576 < a0.size) = false := by simp; omega
  go_enter Tryd.func5, Tryd.ntmps5
  go_wp2_with fail
  go_at_call 14; (refine (spec_ReadCmds_calls a0 _ hs0).mono ?_); rintro e wq ⟨Eq0, eq0, bq0, rfl, oq0, frq, hbq⟩; have Oq0 := Lib.hid oq0; have Frq := Lib.hid frq; clear frq; clear oq0; have Frq0 := Frq; have Fsq0 : Hid (∀ k ∈ (bq0), w.heap.size ≤ k) := Lib.hid (fun k h => by refine Nat.le_trans ?_ (Frq0.out.2 k h); exact (bel : Below w.heap.size w _).size); have upq0 : Hid (∀ k ∈ (bq0), k < wq.heap.size) := Lib.hid (Oq0.out.lt)
  have lwq0 : Hid (∀ k ∈ (bq0), w.heap.size ≤ k) := Lib.hid fun k h => Nat.le_trans (bel : Below w.heap.size w w).size (Fsq0.out k h)
  go_wp2_with fail
  go_at_call 8; (refine (impl_ReadCmds_calls a0 _ hs0).mono ?_); rintro e wi ⟨Eg0, eg0, bg0, rfl, og0, frg, hbi⟩; have Og0 := Lib.hid og0; have Frg := Lib.hid frg; clear frg; clear og0; have Frg0 := Frg; have Fsg0 : Hid (∀ k ∈ (bg0), wq.heap.size ≤ k) := Lib.hid (fun k h => by refine Nat.le_trans ?_ (Frg0.out.2 k h); exact (bel : Below wq.heap.size wq _).size); have upg0 : Hid (∀ k ∈ (bg0), k < wi.heap.size) := Lib.hid (Og0.out.lt); have djg0_q0 : Hid (∀ k ∈ (bg0), k ∉ (bq0)) := Lib.hid (fun k h h2 => by have h3 := Fsg0.out k h; have h4 := upq0.out k h2; omega); have djq0_g0 : Hid (∀ k ∈ (bq0), k ∉ (bg0)) := Lib.hid (fun k h2 h => by have h3 := Fsg0.out k h; have h4 := upq0.out k h2; omega)
  have hk1 : Below wq.heap.size wq wi := bel
  have upq0_1 : Hid (∀ k ∈ (bq0), k < wi.heap.size) := Lib.hid fun k h => Nat.lt_of_lt_of_le (upq0.out k h) hk1.size
  clear upq0
  have lwg0 : Hid (∀ k ∈ (bg0), w.heap.size ≤ k) := Lib.hid fun k h => Nat.le_trans (bel : Below w.heap.size w wq).size (Fsg0.out k h)
  go_wp2_with fail
  go_at_call 15; (refine (eqCmdS_calls _ _ _ _ _ _ _ ((row_of Og0.out).2.below bel) ((row_of Oq0.out).2.below bel)).mono ?_); rintro e wc0 ⟨rfl, hbc0⟩
  have hk2 : Below wi.heap.size wi wc0 := bel
  have upq0_2 : Hid (∀ k ∈ (bq0), k < wc0.heap.size) := Lib.hid fun k h => Nat.lt_of_lt_of_le (upq0_1.out k h) hk2.size
  have upg0_2 : Hid (∀ k ∈ (bg0), k < wc0.heap.size) := Lib.hid fun k h => Nat.lt_of_lt_of_le (upg0.out k h) hk2.size
  clear upq0_1 upg0
  go_wp2_with fail
  refine (markCmdS_calls ((readCmds a0).1) _ _ (1) _ _ (Og0.out.below bel) Frg0.out.1 (by  have := (readCmds_bnd (s := a0)).1; have := (readCmds_bnd (s := a0)).2; omega) (by omega) (by omega)).mono ?_
  rintro e wmg0 ⟨vg0_0, he, hvg0_0, pvg0_0, mvg0_0, hcmg0⟩
  obtain ⟨kmg0, hkm⟩ : ∃ km : Int, 1 + ((mcCmdS ((readCmds a0).1) : Nat) : Int) = km := ⟨_, rfl⟩
  rw [hkm] at he mvg0_0; subst he
  have bkg0 : 0 ≤ kmg0 ∧ kmg0 ≤ 34359738368 := by  have := (readCmds_bnd (s := a0)).1; have := (readCmds_bnd (s := a0)).2; have := mcCmdS_le ((readCmds a0).1); omega
  have tkg0 : decide (kmg0 < 0) = false := by simp; omega
  have HKM := Lib.hid hkm; clear hkm
  have Mvg0_0 := Lib.hid mvg0_0; have Pvg0_0 := Lib.hid pvg0_0; clear mvg0_0 pvg0_0
  have hbw3 : Below w.heap.size w wmg0 := hcmg0.below lwg0.out bel
  have Owq0_0_3 := Lib.hid (hcmg0.own (fun k h => djq0_g0.out k (by simp [h])) (Oq0.out.below bel))
  have upq0_3 : Hid (∀ k ∈ (bq0), k < wmg0.heap.size) := Lib.hid fun k h => Nat.lt_of_lt_of_le (upq0_2.out k h) hcmg0.size
  have upg0_3 : Hid (∀ k ∈ (bg0), k < wmg0.heap.size) := Lib.hid fun k h => Nat.lt_of_lt_of_le (upg0_2.out k h) hcmg0.size
  go_wp2_with fail
  have hs := heldCmdS_calls vg0_0 Eg0 eg0 (1) wmg0 ((row_of Pvg0_0.out).2.below bel) _ Mvg0_0.out (by have hz1 := mkCmdS_end Mvg0_0.out; have hz2 := cnt_mc vg0_0; have hz3 := HKM.out; have hz4 := mcCmdS_le (readCmds a0).1; rw [hvg0_0];  have := (readCmds_bnd (s := a0)).1; have := (readCmds_bnd (s := a0)).2; omega) (by omega) (by omega)
  rw [hvg0_0] at hs
  refine hs.mono ?_
  clear hs
  rintro e wha0 ⟨rfl, hbha0⟩
  have hk4 : Below wmg0.heap.size wmg0 wha0 := bel
  have upq0_4 : Hid (∀ k ∈ (bq0), k < wha0.heap.size) := Lib.hid fun k h => Nat.lt_of_lt_of_le (upq0_3.out k h) hk4.size
  have upg0_4 : Hid (∀ k ∈ (bg0), k < wha0.heap.size) := Lib.hid fun k h => Nat.lt_of_lt_of_le (upg0_3.out k h) hk4.size
  clear upq0_3 upg0_3
  go_wp2_with fail
  go_at_call 8; (refine (impl_ReadCmds_calls a0 _ hs0).mono ?_); rintro e wh ⟨Eh0, eh0, bh0, rfl, oh0, frh, hbh⟩; have Oh0 := Lib.hid oh0; have Frh := Lib.hid frh; clear frh; clear oh0; have Frh0 := Frh
  have hk5 : Below wha0.heap.size wha0 wh := bel
  have upq0_5 : Hid (∀ k ∈ (bq0), k < wh.heap.size) := Lib.hid fun k h => Nat.lt_of_lt_of_le (upq0_4.out k h) hk5.size
  have upg0_5 : Hid (∀ k ∈ (bg0), k < wh.heap.size) := Lib.hid fun k h => Nat.lt_of_lt_of_le (upg0_4.out k h) hk5.size
  clear upq0_4 upg0_4
  go_wp2_with fail
  go_at_call 15; (refine (eqCmdS_calls _ _ _ _ _ _ _ ((row_of Oh0.out).2.below bel) ((row_of Owq0_0_3.out).2.below bel)).mono ?_); rintro e wf0 ⟨rfl, hbf0⟩
  have hk6 : Below wh.heap.size wh wf0 := bel
  have upq0_6 : Hid (∀ k ∈ (bq0), k < wf0.heap.size) := Lib.hid fun k h => Nat.lt_of_lt_of_le (upq0_5.out k h) hk6.size
  have upg0_6 : Hid (∀ k ∈ (bg0), k < wf0.heap.size) := Lib.hid fun k h => Nat.lt_of_lt_of_le (upg0_5.out k h) hk6.size
  clear upq0_5 upg0_5
  go_wp2_with fail
  have hs := heldCmdS_calls vg0_0 Eg0 eg0 (1) wf0 ((row_of Pvg0_0.out).2.below bel) _ Mvg0_0.out (by have hz1 := mkCmdS_end Mvg0_0.out; have hz2 := cnt_mc vg0_0; have hz3 := HKM.out; have hz4 := mcCmdS_le (readCmds a0).1; rw [hvg0_0];  have := (readCmds_bnd (s := a0)).1; have := (readCmds_bnd (s := a0)).2; omega) (by omega) (by omega)
  rw [hvg0_0] at hs
  refine hs.mono ?_
  clear hs
  rintro e whb0 ⟨rfl, hbhb0⟩
  have hk7 : Below wf0.heap.size wf0 whb0 := bel
  have upq0_7 : Hid (∀ k ∈ (bq0), k < whb0.heap.size) := Lib.hid fun k h => Nat.lt_of_lt_of_le (upq0_6.out k h) hk7.size
  have upg0_7 : Hid (∀ k ∈ (bg0), k < whb0.heap.size) := Lib.hid fun k h => Nat.lt_of_lt_of_le (upg0_6.out k h) hk7.size
  clear upq0_6 upg0_6
  go_wp2
  go_ret
  exact ⟨rfl, bel⟩
end Go.Proofs.YtcidbencoebfaaaDoor.Wd


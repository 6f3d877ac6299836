/- Both Held functions return what a channel holds. Conditions: the engine is of at most 1048576 values. -/
import Derived.Test.YtebflbenchomoaaTrace
import Derived.Test.YtebflbenchomoaaMk
namespace Go.Proofs.Ytebflbenchomoaa.Wd
open Go.RowKit
set_option linter.unusedVariables false
set_option linter.unusedSimpArgs false
set_option maxHeartbeats 2000000
set_option maxRecDepth 100000
def heldOf (x : MEng) (n : Int) : List Int := if 0 ≤ n ∧ n < x.chans.length then match x.chans[n.toNat]? with | some c => c.buf | none => [] else []
theorem heldOf_in {x : MEng} {m : Nat} (h : m < x.chans.length) : heldOf x m = x.chans[m].buf := by
  unfold heldOf
  rw [if_pos (by omega)]
  simp [List.getElem?_eq_getElem h]
theorem heldOf_out {x : MEng} {n : Int} (h : ¬ (0 ≤ n ∧ n < x.chans.length)) : heldOf x n = [] := by unfold heldOf; rw [if_neg h]
theorem heldOf_le {x : MEng} {n : Int} : (heldOf x n).length ≤ cntChanS x.chans := by
  by_cases h : 0 ≤ n ∧ n < x.chans.length
  · obtain ⟨m, rfl⟩ := Int.eq_ofNat_of_zero_le h.1
    have hm : m < x.chans.length := by omega
    rw [show ((m : Nat) : Int) = Int.ofNat m from rfl] at *
    have := heldOf_in hm
    rw [show Int.ofNat m = ((m : Nat) : Int) from rfl, this]
    have h2 := cntChanS_at hm
    unfold cntChan at h2
    omega
  · rw [heldOf_out h]; simp
theorem spec_Held_calls (x : MEng) (n : Int) (cs : List Value) (w : World) (hx : kEng.K w x cs) (hc : cntEng x ≤ 1048576) :
    Calls Try.prog 26 #[.agg cs.toArray, .int .i64 n] w fun e w' => Copied Rp.int 3 (heldOf x n) w e w' := by
  obtain ⟨A0, c0, A1, c1, A2, c2, rfl, l0, r0, l1, r1, l2, r2⟩ := kEng_K hx
  clear hx
  unfold cntEng at hc
  have R1 := Lib.hid r1; clear r0 r1 r2
  by_cases h : 0 ≤ n ∧ n < x.chans.length
  · obtain ⟨m, rfl⟩ := Int.eq_ofNat_of_zero_le h.1
    have hm : m < x.chans.length := by omega
    rw [heldOf_in hm]
    have h2 := cntChanS_at hm
    unfold cntChan at h2
    obtain ⟨b, o, D0, e0, D1, e1, D2, e2, rfl, g0, g1, g2, g3, g4, m0, s0, m1, s1, m2, s2⟩ := kChan_at R1.out hm
    have S0 := Lib.hid s0; clear s0 s1 s2
    have zb : b < w.heap.size := World.block_lt_of_cell? w _ g0
    clear h
    go_enter Try.func26, Try.ntmps26
    go_wp2_with (at_builtin; refine Paus.out ?_)
    refine ⟨wl_app_row Rp.int flat_int _ rfl _ _ 36 rfl 3 8 _ rfl rfl rfl (by decide) (by decide) rfl (xs := []) (.inl ⟨rfl, rfl, _, rfl⟩) List.nodup_nil rfl (S0.out.below bel) (by simp; omega) ?_⟩
    intro B d w2 bs hres
    have hb' := hres.below (w0 := w) (fun b hb => by cases hb) bel
    have hf := hres.fresh (w0 := w) (fresh_nil _) (fun b hb => by cases hb) (by simp; omega)
    have ho := hres.own
    simp only [List.nil_append] at ho
    simp only [List.nil_append]
    clear hres
    have HO := Lib.hid ho; have HF := Lib.hid hf; clear ho hf
    go_wp2
    go_ret
    exact copied_mk rfl HO.out HF.out hb'
  · rw [heldOf_out h]
    by_cases h0 : n < 0
    · go_enter Try.func26, Try.ntmps26
      go_wp2
      go_ret
      exact copied_nil _ bel
    · have h1 : decide ((x.chans.length : Int) ≤ n) = true := by simp; omega
      clear h
      go_enter Try.func26, Try.ntmps26
      go_wp2
      go_ret
      exact copied_nil _ bel
theorem impl_Held_calls (x : MEng) (n : Int) (cs : List Value) (w : World) (hx : kEng.K w x cs) (hc : cntEng x ≤ 1048576) :
    Calls Try.prog 27 #[.agg cs.toArray, .int .i64 n] w fun e w' => Copied Rp.int 3 (heldOf x n) w e w' := by
  obtain ⟨A0, c0, A1, c1, A2, c2, rfl, l0, r0, l1, r1, l2, r2⟩ := kEng_K hx
  clear hx
  unfold cntEng at hc
  have R1 := Lib.hid r1; clear r0 r1 r2
  by_cases h : 0 ≤ n ∧ n < x.chans.length
  · obtain ⟨m, rfl⟩ := Int.eq_ofNat_of_zero_le h.1
    have hm : m < x.chans.length := by omega
    rw [heldOf_in hm]
    have h2 := cntChanS_at hm
    unfold cntChan at h2
    have hw : decide ((0 : Int) ≤ m ∧ (m : Int) < x.chans.length) = true := by simp; omega
    clear h
    go_enter Try.func27, Try.ntmps27
    go_wp2_with fail
    refine (within_calls _ _ _ _).mono ?_
    rintro e w1 ⟨rfl, hb1⟩
    rw [hw]
    have hbw : Below w.heap.size w w1 := bel
    obtain ⟨C1, D1⟩ := bcell hb1
    have z1 : w.heap.size < w1.heap.size := by have := hb1.size; (try simp at this); omega
    obtain ⟨b, o, D0, e0, D1', e1, D2, e2, rfl, g0, g1, g2, g3, g4, m0, s0, m1, s1, m2, s2⟩ := kChan_at (R1.out.below hbw) hm
    have S0 := Lib.hid s0; clear s0 s1 s2
    go_wp2_with fail
    refine (clone_int_calls _ (S0.out.below bel) m0 (by omega)).mono ?_
    rintro e w2 ⟨B, d, bs, rfl, ho, hf, hb2⟩
    have HO := Lib.hid ho; have HF := Lib.hid hf; clear ho hf
    go_wp2
    go_ret
    exact copied_mk rfl HO.out (HF.out.sub) bel
  · rw [heldOf_out h]
    have hw : decide ((0 : Int) ≤ n ∧ (n : Int) < x.chans.length) = false := by simpa using h
    clear h
    go_enter Try.func27, Try.ntmps27
    go_wp2_with fail
    refine (within_calls _ _ _ _).mono ?_
    rintro e w1 ⟨rfl, hb1⟩
    rw [hw]
    go_wp2
    go_ret
    exact copied_nil _ bel
end Go.Proofs.Ytebflbenchomoaa.Wd

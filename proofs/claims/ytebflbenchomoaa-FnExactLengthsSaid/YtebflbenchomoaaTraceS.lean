/- The reference's TraceOf. Conditions: the engine is of at most 1048576 values. -/
import Derived.Test.YtebflbenchomoaaTrace
namespace Go.Proofs.Ytebflbenchomoaa.Wd
open Go.RowKit
set_option linter.unusedVariables false
set_option linter.unusedSimpArgs false
set_option maxHeartbeats 2000000
set_option maxRecDepth 100000
theorem l14Trace_calls (g : MGor) (cs : List Value) (w : World) (hx : kGor.K w g cs) (hc : cntGor g ≤ 1048576) :
    Calls Try.prog 73 #[.agg cs.toArray] w fun e w' => Copied kItem 43 (trace g.trace) w e w' := by
  obtain ⟨A0, c0, A1, c1, rfl, l0, r0, l1, r1⟩ := kGor_K hx
  clear hx
  unfold cntGor at hc
  have S1 := Lib.hid r1; clear r0 r1
  have hlen : g.trace.length ≤ 1048576 := by omega
  clear hc
  go_enter Try.func73, Try.ntmps73
  go_wp2_with (at_builtin; refine Paus.out ?_)
  refine ⟨wl_app_row kItem flat_Item _ rfl _ _ 66 rfl 43 32 _ rfl rfl rfl (by decide) (by decide) rfl (xs := []) (.inl ⟨rfl, rfl, _, rfl⟩) List.nodup_nil rfl (S1.out.below bel) (by simp; omega) ?_⟩
  intro B d w2 bs hres
  have hb' := hres.below (w0 := w) (fun b hb => by cases hb) bel
  have hf := hres.fresh (w0 := w) (fresh_nil _) (fun b hb => by cases hb) (by simp; omega)
  have ho := hres.own
  simp only [List.nil_append] at ho
  simp only [List.nil_append]
  clear hres
  have HO := Lib.hid ho; have HF := Lib.hid hf; clear ho hf
  obtain ⟨A', c', hv, hle, hr⟩ := HO.out.row
  cases hv
  by_cases h0 : g.trace.length = 0
  · have ht : trace g.trace = g.trace := by rw [List.eq_nil_of_length_eq_zero h0]; rfl
    have HT := Lib.hid ht
    have H0 := Lib.hid h0
    clear ht
    go_wp2
    go_ret
    rw [HT.out]
    exact copied_mk H0.out.symm (by rw [← H0.out]; exact HO.out) HF.out hb'
  · obtain ⟨m, hm⟩ : ∃ m, g.trace.length = m + 1 := ⟨g.trace.length - 1, by omega⟩
    obtain ⟨b', o', rfl, k0, k1, k2, k3⟩ := kItem_at hr (i := m) (by omega)
    by_cases hk : g.trace[m].kind = 9
    · have ht : trace g.trace = g.trace.take m := by
        unfold trace; rw [hm, Nat.add_sub_cancel, List.getElem?_eq_getElem (by omega), if_pos (by simpa using hk)]
      obtain ⟨bs', ho', hnd', hsub⟩ := own_take (k := m) HO.out (by omega) (by omega) HF.out.1
      have HT := Lib.hid ht; have HK := Lib.hid hm; have HO' := Lib.hid ho'
      rw [hk] at k0
      rw [hm] at *
      clear ht
      go_wp2
      go_ret
      rw [HT.out]
      exact copied_mk (by simp; omega) HO'.out ⟨hnd', fun b hb => HF.out.2 b (hsub b hb)⟩ hb'
    · have ht : trace g.trace = g.trace := by
        unfold trace; rw [hm, Nat.add_sub_cancel, List.getElem?_eq_getElem (by omega), if_neg (by simpa using hk)]
      have hd : (g.trace[m].kind == 9) = false := by simpa using hk
      have HT := Lib.hid ht
      clear ht
      go_wp2
      go_ret
      rw [HT.out]
      exact copied_mk hm.symm (by rw [← hm]; exact HO.out) HF.out hb'
theorem spec_TraceOf_calls (x : MEng) (cs : List Value) (n : Nat) (w : World) (hx : kEng.K w x cs) (hc : cntEng x ≤ 1048576) (hn : n ≤ 9223372036854775807) :
    Calls Try.prog 38 #[.agg cs.toArray, .int .i64 n] w fun e w' => Copied kItem 43 (traceOf x n) w e w' := by
  obtain ⟨A0, c0, A1, c1, A2, c2, rfl, l0, r0, l1, r1, l2, r2⟩ := kEng_K hx
  clear hx
  unfold cntEng at hc
  obtain ⟨gs, x1, x2⟩ := x
  simp only at *
  have R0 := Lib.hid r0; clear r0 r1 r2
  unfold traceOf
  simp only
  have hln : gs.length ≤ 1048576 := by omega
  have hlg : cntGorS gs ≤ 1048576 := by omega
  clear hc
  by_cases hlt : n < gs.length
  · have hcn := cntGorS_at hlt
    rw [List.getElem?_eq_getElem hlt]
    simp only
    obtain ⟨g, hg⟩ : ∃ g, gs[n] = g := ⟨_, rfl⟩
    rw [hg] at hcn ⊢
    have Hg := Lib.hid hg; clear hg
    obtain ⟨b, o, B0, d0, B1, d1, rfl, g0, g1, g2, g3, g4, m0, s0, m1, s1⟩ := kGor_at R0.out hlt
    rw [Hg.out] at g0 g1 g2 g3 g4 m0 s0 m1 s1
    have S0 := Lib.hid s0; have S1 := Lib.hid s1; clear s0 s1
    have zb : b < w.heap.size := World.block_lt_of_cell? w _ g0
    go_enter Try.func38, Try.ntmps38
    go_wp2_with fail
    refine (l14Trace_calls g [_, _, _, _, _] _ (kGor_mk _ _ m0 (S0.out.below bel) m1 (S1.out.below bel)) (by omega)).mono ?_
    rintro e w2 ⟨B, d, bs, rfl, ho, hf, hb2⟩
    have HO := Lib.hid ho; have HF := Lib.hid hf; clear ho hf
    go_wp2
    go_ret
    exact copied_mk rfl HO.out (HF.out.sub bel) bel
  · rw [List.getElem?_eq_none (by omega)]
    simp only
    go_enter Try.func38, Try.ntmps38
    go_wp2
    go_ret
    exact copied_nil _ bel
end Go.Proofs.Ytebflbenchomoaa.Wd

/- Both Lengths functions return the lengths of the traces. Conditions: the engine is of at most 1048576 values. -/
import Derived.Test.YtebflbenchomoaaTraceS
import Derived.Test.YtebflbenchomoaaMk
namespace Go.Proofs.Ytebflbenchomoaa.Wd
open Go.RowKit
set_option linter.unusedVariables false
set_option linter.unusedSimpArgs false
set_option maxHeartbeats 2000000
set_option maxRecDepth 100000
def lengthsTo (x : MEng) (n : Nat) : List Int := (List.range n).map fun i => ((traceOf x i).length : Int)
def lengths (x : MEng) : List Int := lengthsTo x x.gs.length
theorem lengthsTo_next (x : MEng) (n : Nat) : lengthsTo x (n + 1) = lengthsTo x n ++ [((traceOf x n).length : Int)] := by unfold lengthsTo; simp [List.range_succ]
theorem impl_Lengths_calls (x : MEng) (cs : List Value) (w : World) (hx : kEng.K w x cs) (hc : cntEng x ≤ 1048576) :
    Calls Try.prog 34 #[.agg cs.toArray] w fun e w' => Copied Rp.int 3 (lengths x) w e w' := by
  obtain ⟨A0, c0, A1, c1, A2, c2, rfl, l0, r0, l1, r1, l2, r2⟩ := kEng_K hx
  clear hx
  have hl : x.gs.length ≤ 1048576 := by unfold cntEng at hc; omega
  have R0 := Lib.hid r0; have R1 := Lib.hid r1; have R2 := Lib.hid r2; clear r0 r1 r2
  unfold lengths
  go_enter Try.func34, Try.ntmps34
  go_wp2
  go_loopg [3, 9] (x.gs.length + 1) (fun kq v3 v9 w' => ∃ (i : Nat) (B : Option Addr) (d : Nat) (bs : List Nat) (zs : List Int), v9 = .int .i64 i ∧ i + kq = x.gs.length + 1 ∧ i ≤ x.gs.length ∧ v3 = .slice B zs.length d ∧ Hid (zs.length = i) ∧ Hid (zs = lengthsTo x i) ∧ Hid (Rp.int.Own 3 w' bs (.slice B zs.length d) zs) ∧ Hid (Fresh w bs) ∧ Hid (∀ b ∈ bs, b ≠ w.heap.size) ∧ Below w.heap.size w w' ∧ w'.cell? ⟨w.heap.size, 0, none⟩ = some (.slice A0 x.gs.length c0) ∧ w'.cell? ⟨w.heap.size, 1, none⟩ = some (.slice A1 x.chans.length c1) ∧ w'.cell? ⟨w.heap.size, 2, none⟩ = some (.slice A2 x.mus.length c2))
  case atStart => exact ⟨0, _, 0, [], [], rfl, by omega, by omega, rfl, Lib.hid rfl, Lib.hid rfl, Lib.hid (.inl ⟨rfl, rfl, _, rfl⟩), Lib.hid (fresh_nil _), Lib.hid (fun b hb => by cases hb), bel, by go_simp, by go_simp, by go_simp⟩
  case round =>
    obtain ⟨i, B, d, bs, zs, rfl, hi, hi2, rfl, hz, HZ, HO, HF, HNE, hb, q0, q1, q2⟩ := hrel
    obtain ⟨gk, rfl⟩ : ∃ m, gk = m + 1 := ⟨gk - 1, by omega⟩
    have z0 : w.heap.size < wr.heap.size := World.block_lt_of_cell? wr _ q0
    by_cases hlt : i < x.gs.length
    · go_wp2_with fail
      refine (impl_TraceOf_calls x [_, _, _] i _ (kEng_mk _ _ l0 (R0.out.below bel) l1 (R1.out.below bel) l2 (R2.out.below bel)) hc (by omega)).mono ?_
      rintro e w1 ⟨D1, e1, bs1, rfl, ho1, hf1, hb1⟩
      have hlen : (traceOf x i).length ≤ 1048576 := by
        unfold traceOf
        rw [List.getElem?_eq_getElem hlt]
        have := trace_le x.gs[i].trace
        have h2 := cntGorS_at hlt
        unfold cntGor at h2; unfold cntEng at hc
        simp only
        omega
      clear ho1 hf1
      have hk : Below wr.heap.size wr w1 := bel
      have f0 := keepc hk q0; have f1 := keepc hk q1; have f2 := keepc hk q2
      clear q0 q1 q2
      have z1 : w.heap.size < w1.heap.size := World.block_lt_of_cell? w1 _ f0
      go_wp2_with (at_builtin; refine Paus.out ?_)
      refine ⟨wl_app_one Rp.int _ rfl _ _ 36 rfl 3 8 _ rfl rfl rfl (by decide) (by decide) rfl (xs := zs) (bs := bs) (HO.out.below bel) (by_ := []) (by simpa using HF.out.1) rfl (y := ((traceOf x i).length : Int)) (cs := [.int .i64 (traceOf x i).length]) ⟨rfl, rfl⟩ (cells_cons (by go_simp) cells_nil) (by have := hz.out; omega) ?_⟩
      intro B2 d2 w2 bs2 hres
      have hb2 := hres.below (w0 := w) HF.out.2 bel
      have hf2 := hres.fresh (w0 := w) HF.out (fun b hb => by cases hb) (by have := hb1.size; have := hb.size; simp; omega)
      have hne2 : ∀ b ∈ bs2, b ≠ w.heap.size := fun b hm => by
        rcases hres.sub b hm with h | h | h
        · exact HNE.out b h
        · cases h
        · have : w1.heap.size ≤ b := by simp at h; omega
          omega
      have k0 : w2.cell? ⟨w.heap.size, 0, none⟩ = some (.slice A0 x.gs.length c0) := hres.chg.cell (fun h => HNE.out _ h rfl) (by go_simp)
      have k1 : w2.cell? ⟨w.heap.size, 1, none⟩ = some (.slice A1 x.chans.length c1) := hres.chg.cell (fun h => HNE.out _ h rfl) (by go_simp)
      have k2 : w2.cell? ⟨w.heap.size, 2, none⟩ = some (.slice A2 x.mus.length c2) := hres.chg.cell (fun h => HNE.out _ h rfl) (by go_simp)
      have HO2 := Lib.hid hres.own; have HF2 := Lib.hid hf2; have HNE2 := Lib.hid hne2; clear hres hf2 hne2
      go_wp2
      go_roundg gk
      case measure => omega
      case rel => exact ⟨i + 1, B2, d2, bs2, zs ++ [((traceOf x i).length : Int)], by go_num, by omega, by omega, by simp, Lib.hid (by simp [hz.out]), Lib.hid (by rw [HZ.out, lengthsTo_next]), Lib.hid (by rw [List.length_append]; exact HO2.out), HF2, HNE2, hb2, k0, k1, k2⟩
    · have hi' : i = x.gs.length := by omega
      have hz2 : zs = lengthsTo x x.gs.length := by rw [← hi']; exact HZ.out
      have HZ2 := Lib.hid hz2; clear hz2
      go_wp2
      go_ret
      rw [← HZ2.out]
      exact copied_mk rfl HO.out HF.out hb
theorem spec_Lengths_calls (x : MEng) (cs : List Value) (w : World) (hx : kEng.K w x cs) (hc : cntEng x ≤ 1048576) :
    Calls Try.prog 33 #[.agg cs.toArray] w fun e w' => Copied Rp.int 3 (lengths x) w e w' := by
  obtain ⟨A0, c0, A1, c1, A2, c2, rfl, l0, r0, l1, r1, l2, r2⟩ := kEng_K hx
  clear hx
  have hl : x.gs.length ≤ 1048576 := by unfold cntEng at hc; omega
  have R0 := Lib.hid r0; have R1 := Lib.hid r1; have R2 := Lib.hid r2; clear r0 r1 r2
  unfold lengths
  go_enter Try.func33, Try.ntmps33
  go_wp2
  go_loopg [3, 9] (x.gs.length + 1) (fun kq v3 v9 w' => ∃ (i : Nat) (B : Option Addr) (d : Nat) (bs : List Nat) (zs : List Int), v9 = .int .i64 i ∧ i + kq = x.gs.length + 1 ∧ i ≤ x.gs.length ∧ v3 = .slice B zs.length d ∧ Hid (zs.length = i) ∧ Hid (zs = lengthsTo x i) ∧ Hid (Rp.int.Own 3 w' bs (.slice B zs.length d) zs) ∧ Hid (Fresh w bs) ∧ Hid (∀ b ∈ bs, b ≠ w.heap.size) ∧ Below w.heap.size w w' ∧ w'.cell? ⟨w.heap.size, 0, none⟩ = some (.slice A0 x.gs.length c0) ∧ w'.cell? ⟨w.heap.size, 1, none⟩ = some (.slice A1 x.chans.length c1) ∧ w'.cell? ⟨w.heap.size, 2, none⟩ = some (.slice A2 x.mus.length c2))
  case atStart => exact ⟨0, _, 0, [], [], rfl, by omega, by omega, rfl, Lib.hid rfl, Lib.hid rfl, Lib.hid (.inl ⟨rfl, rfl, _, rfl⟩), Lib.hid (fresh_nil _), Lib.hid (fun b hb => by cases hb), bel, by go_simp, by go_simp, by go_simp⟩
  case round =>
    obtain ⟨i, B, d, bs, zs, rfl, hi, hi2, rfl, hz, HZ, HO, HF, HNE, hb, q0, q1, q2⟩ := hrel
    obtain ⟨gk, rfl⟩ : ∃ m, gk = m + 1 := ⟨gk - 1, by omega⟩
    have z0 : w.heap.size < wr.heap.size := World.block_lt_of_cell? wr _ q0
    by_cases hlt : i < x.gs.length
    · go_wp2_with fail
      refine (spec_TraceOf_calls x [_, _, _] i _ (kEng_mk _ _ l0 (R0.out.below bel) l1 (R1.out.below bel) l2 (R2.out.below bel)) hc (by omega)).mono ?_
      rintro e w1 ⟨D1, e1, bs1, rfl, ho1, hf1, hb1⟩
      have hlen : (traceOf x i).length ≤ 1048576 := by
        unfold traceOf
        rw [List.getElem?_eq_getElem hlt]
        have := trace_le x.gs[i].trace
        have h2 := cntGorS_at hlt
        unfold cntGor at h2; unfold cntEng at hc
        simp only
        omega
      clear ho1 hf1
      have hk : Below wr.heap.size wr w1 := bel
      have f0 := keepc hk q0; have f1 := keepc hk q1; have f2 := keepc hk q2
      clear q0 q1 q2
      have z1 : w.heap.size < w1.heap.size := World.block_lt_of_cell? w1 _ f0
      go_wp2_with (at_builtin; refine Paus.out ?_)
      refine ⟨wl_app_one Rp.int _ rfl _ _ 36 rfl 3 8 _ rfl rfl rfl (by decide) (by decide) rfl (xs := zs) (bs := bs) (HO.out.below bel) (by_ := []) (by simpa using HF.out.1) rfl (y := ((traceOf x i).length : Int)) (cs := [.int .i64 (traceOf x i).length]) ⟨rfl, rfl⟩ (cells_cons (by go_simp) cells_nil) (by have := hz.out; omega) ?_⟩
      intro B2 d2 w2 bs2 hres
      have hb2 := hres.below (w0 := w) HF.out.2 bel
      have hf2 := hres.fresh (w0 := w) HF.out (fun b hb => by cases hb) (by have := hb1.size; have := hb.size; simp; omega)
      have hne2 : ∀ b ∈ bs2, b ≠ w.heap.size := fun b hm => by
        rcases hres.sub b hm with h | h | h
        · exact HNE.out b h
        · cases h
        · have : w1.heap.size ≤ b := by simp at h; omega
          omega
      have k0 : w2.cell? ⟨w.heap.size, 0, none⟩ = some (.slice A0 x.gs.length c0) := hres.chg.cell (fun h => HNE.out _ h rfl) (by go_simp)
      have k1 : w2.cell? ⟨w.heap.size, 1, none⟩ = some (.slice A1 x.chans.length c1) := hres.chg.cell (fun h => HNE.out _ h rfl) (by go_simp)
      have k2 : w2.cell? ⟨w.heap.size, 2, none⟩ = some (.slice A2 x.mus.length c2) := hres.chg.cell (fun h => HNE.out _ h rfl) (by go_simp)
      have HO2 := Lib.hid hres.own; have HF2 := Lib.hid hf2; have HNE2 := Lib.hid hne2; clear hres hf2 hne2
      go_wp2
      go_roundg gk
      case measure => omega
      case rel => exact ⟨i + 1, B2, d2, bs2, zs ++ [((traceOf x i).length : Int)], by go_num, by omega, by omega, by simp, Lib.hid (by simp [hz.out]), Lib.hid (by rw [HZ.out, lengthsTo_next]), Lib.hid (by rw [List.length_append]; exact HO2.out), HF2, HNE2, hb2, k0, k1, k2⟩
    · have hi' : i = x.gs.length := by omega
      have hz2 : zs = lengthsTo x x.gs.length := by rw [← hi']; exact HZ.out
      have HZ2 := Lib.hid hz2; clear hz2
      go_wp2
      go_ret
      rw [← HZ2.out]
      exact copied_mk rfl HO.out HF.out hb
end Go.Proofs.Ytebflbenchomoaa.Wd

/- Both Owners functions return the owners of the mutexes. Conditions: the engine is of at most 1048576 values. -/
import Derived.Test.YtebflbenchomoaaTrace
import Derived.Test.YtebflbenchomoaaMk
namespace Go.Proofs.Ytebflbenchomoaa.Wd
open Go.RowKit
set_option linter.unusedVariables false
set_option linter.unusedSimpArgs false
set_option maxHeartbeats 2000000
set_option maxRecDepth 100000
def owners (x : MEng) : List Int := x.mus.map (·.owner)
theorem take_map_snoc {α β : Type} (f : α → β) {xs : List α} {i : Nat} (h : i < xs.length) : (xs.take (i + 1)).map f = (xs.take i).map f ++ [f xs[i]] := by
  rw [List.take_succ_eq_append_getElem h, List.map_append]; rfl
theorem impl_Owners_calls (x : MEng) (cs : List Value) (w : World) (hx : kEng.K w x cs) (hc : cntEng x ≤ 1048576) :
    Calls Try.prog 16 #[.agg cs.toArray] w fun e w' => Copied Rp.int 3 (owners x) w e w' := by
  obtain ⟨A0, c0, A1, c1, A2, c2, rfl, l0, r0, l1, r1, l2, r2⟩ := kEng_K hx
  clear hx
  have hl : x.mus.length ≤ 1048576 := by unfold cntEng at hc; omega
  have R2 := Lib.hid r2; clear r0 r1 r2 hc
  unfold owners
  go_enter Try.func16, Try.ntmps16
  go_wp2
  go_loopg [3, 10] (x.mus.length + 1) (fun kq v3 v10 w' => ∃ (i : Nat) (B : Option Addr) (d : Nat) (bs : List Nat) (zs : List Int), v10 = .int .i64 i ∧ i + kq = x.mus.length + 1 ∧ i ≤ x.mus.length ∧ v3 = .slice B zs.length d ∧ Hid (zs.length = i) ∧ Hid (zs = (x.mus.take i).map (·.owner)) ∧ Hid (Rp.int.Own 3 w' bs (.slice B zs.length d) zs) ∧ Hid (Fresh w bs) ∧ Below w.heap.size w w')
  case atStart => exact ⟨0, _, 0, [], [], rfl, by omega, by omega, rfl, Lib.hid rfl, Lib.hid rfl, Lib.hid (.inl ⟨rfl, rfl, _, rfl⟩), Lib.hid (fresh_nil _), bel⟩
  case round =>
    obtain ⟨i, B, d, bs, zs, rfl, hi, hi2, rfl, hz, HZ, HO, HF, hb⟩ := hrel
    obtain ⟨gk, rfl⟩ : ∃ m, gk = m + 1 := ⟨gk - 1, by omega⟩
    by_cases hlt : i < x.mus.length
    · obtain ⟨b, o, D0, e0, rfl, g0, g1, m0, s0⟩ := kMutex_at (R2.out.below hb) hlt
      have zb : b < wr.heap.size := World.block_lt_of_cell? wr _ g0
      clear s0 m0
      go_wp2_with (at_builtin; refine Paus.out ?_)
      refine ⟨wl_app_one Rp.int _ rfl _ _ 36 rfl 3 8 _ rfl rfl rfl (by decide) (by decide) rfl (xs := zs) (bs := bs) (HO.out.below bel) (by_ := []) (by simpa using HF.out.1) rfl (y := x.mus[i].owner) (cs := [.int .i64 x.mus[i].owner]) ⟨rfl, rfl⟩ (cells_cons (by go_simp) cells_nil) (by have := hz.out; omega) ?_⟩
      intro B2 d2 w2 bs2 hres
      have hb2 := hres.below (w0 := w) HF.out.2 bel
      have hf2 := hres.fresh (w0 := w) HF.out (fun b hb => by cases hb) (by have := hb.size; simp; omega)
      have HO2 := Lib.hid hres.own; have HF2 := Lib.hid hf2; clear hres hf2
      go_wp2
      go_roundg gk
      case measure => omega
      case rel => exact ⟨i + 1, B2, d2, bs2, zs ++ [x.mus[i].owner], by go_num, by omega, by omega, by simp, Lib.hid (by simp [hz.out]), Lib.hid (by rw [HZ.out, take_map_snoc _ hlt]), Lib.hid (by rw [List.length_append]; exact HO2.out), HF2, hb2⟩
    · have hi' : i = x.mus.length := by omega
      have hz2 : zs = x.mus.map (·.owner) := by have := HZ.out; rwa [List.take_of_length_le (by omega)] at this
      have HZ2 := Lib.hid hz2; clear hz2
      go_wp2
      go_ret
      rw [← HZ2.out]
      exact copied_mk rfl HO.out HF.out hb
theorem spec_Owners_calls (x : MEng) (cs : List Value) (w : World) (hx : kEng.K w x cs) (hc : cntEng x ≤ 1048576) :
    Calls Try.prog 15 #[.agg cs.toArray] w fun e w' => Copied Rp.int 3 (owners x) w e w' := by
  obtain ⟨A0, c0, A1, c1, A2, c2, rfl, l0, r0, l1, r1, l2, r2⟩ := kEng_K hx
  clear hx
  have hl : x.mus.length ≤ 1048576 := by unfold cntEng at hc; omega
  have R2 := Lib.hid r2; clear r0 r1 r2 hc
  unfold owners
  go_enter Try.func15, Try.ntmps15
  go_wp2
  go_loopg [3, 10] (x.mus.length + 1) (fun kq v3 v10 w' => ∃ (i : Nat) (B : Option Addr) (d : Nat) (bs : List Nat) (zs : List Int), v10 = .int .i64 i ∧ i + kq = x.mus.length + 1 ∧ i ≤ x.mus.length ∧ v3 = .slice B zs.length d ∧ Hid (zs.length = i) ∧ Hid (zs = (x.mus.take i).map (·.owner)) ∧ Hid (Rp.int.Own 3 w' bs (.slice B zs.length d) zs) ∧ Hid (Fresh w bs) ∧ Below w.heap.size w w')
  case atStart => exact ⟨0, _, 0, [], [], rfl, by omega, by omega, rfl, Lib.hid rfl, Lib.hid rfl, Lib.hid (.inl ⟨rfl, rfl, _, rfl⟩), Lib.hid (fresh_nil _), bel⟩
  case round =>
    obtain ⟨i, B, d, bs, zs, rfl, hi, hi2, rfl, hz, HZ, HO, HF, hb⟩ := hrel
    obtain ⟨gk, rfl⟩ : ∃ m, gk = m + 1 := ⟨gk - 1, by omega⟩
    by_cases hlt : i < x.mus.length
    · obtain ⟨b, o, D0, e0, rfl, g0, g1, m0, s0⟩ := kMutex_at (R2.out.below hb) hlt
      have zb : b < wr.heap.size := World.block_lt_of_cell? wr _ g0
      clear s0 m0
      go_wp2_with (at_builtin; refine Paus.out ?_)
      refine ⟨wl_app_one Rp.int _ rfl _ _ 36 rfl 3 8 _ rfl rfl rfl (by decide) (by decide) rfl (xs := zs) (bs := bs) (HO.out.below bel) (by_ := []) (by simpa using HF.out.1) rfl (y := x.mus[i].owner) (cs := [.int .i64 x.mus[i].owner]) ⟨rfl, rfl⟩ (cells_cons (by go_simp) cells_nil) (by have := hz.out; omega) ?_⟩
      intro B2 d2 w2 bs2 hres
      have hb2 := hres.below (w0 := w) HF.out.2 bel
      have hf2 := hres.fresh (w0 := w) HF.out (fun b hb => by cases hb) (by have := hb.size; simp; omega)
      have HO2 := Lib.hid hres.own; have HF2 := Lib.hid hf2; clear hres hf2
      go_wp2
      go_roundg gk
      case measure => omega
      case rel => exact ⟨i + 1, B2, d2, bs2, zs ++ [x.mus[i].owner], by go_num, by omega, by omega, by simp, Lib.hid (by simp [hz.out]), Lib.hid (by rw [HZ.out, take_map_snoc _ hlt]), Lib.hid (by rw [List.length_append]; exact HO2.out), HF2, hb2⟩
    · have hi' : i = x.mus.length := by omega
      have hz2 : zs = x.mus.map (·.owner) := by have := HZ.out; rwa [List.take_of_length_le (by omega)] at this
      have HZ2 := Lib.hid hz2; clear hz2
      go_wp2
      go_ret
      rw [← HZ2.out]
      exact copied_mk rfl HO.out HF.out hb
end Go.Proofs.Ytebflbenchomoaa.Wd

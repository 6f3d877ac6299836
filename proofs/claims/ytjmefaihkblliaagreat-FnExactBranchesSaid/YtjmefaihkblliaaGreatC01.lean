/- Texts of one claim, joined: AbE, AbF, AbG, AbH, AbI, AbJ, AbK, AbL, AbM, AbN, AbO, AbP, AbQ, AbR, AbS, AbT. Conditions: as each says. -/
import Derived.ArgAppend
import Derived.Laws.MakeOwn
import Derived.Orders
import Derived.Maps.RangeRun
import Derived.RangeFuncRecord
import Derived.Test.YtjmefaihkblliaaGreatC00
/- The abstract machine: append. Conditions: none. -/
namespace Go.Proofs.YtjmefaihkblliaaGreat.Ab
open Go.RowKit
set_option linter.unusedVariables false
set_option linter.unusedSimpArgs false
theorem setCells_eq (g : Nat) (t : TypeId) : ∀ (vs : List Value) (o : Nat) (cur : Array Value) (w : World), w.heap[g]? = some (.cells cur t (0, 0)) → o + vs.length ≤ cur.size →
    w.setCells g o vs = w.setRow g (cur.toList.take o ++ vs ++ cur.toList.drop (o + vs.length)).toArray
  | [], o, cur, w, hg, _ => by
    simp only [World.setCells, List.append_nil, List.length_nil, Nat.add_zero, List.take_append_drop, Array.toArray_toList]
    rw [setRow_self w g cur t (0, 0) hg]
  | v :: rest, o, cur, w, hg, hl => by
    have ih := setCells_eq g t rest (o + 1) (cur.setIfInBounds o v) (w.setRow g (cur.setIfInBounds o v)) (setRow_heap w g cur _ t _ hg) (by simp at hl ⊢; omega)
    rw [World.setCells, setCell_eq_setRow w g o cur t (0, 0) v hg, ih, setRow_setRow]
    have e := list_seg_step cur.toList o v rest (by simp at hl ⊢; omega)
    congr 2
    simpa [Array.toList_setIfInBounds, Nat.add_assoc, Nat.add_comm 1] using e
structure Lst (S : Nat → Prop) (w : World) (z : Nat) (cont : List (List C)) (L : List Value) : Prop where
  len : L.length = cont.length * z
  each : ∀ y ∈ cont, y.length = z
  el : ∀ (i : Nat) y (j : Nat) q, cont[i]? = some y → y[j]? = some q → ∃ u, L[i * z + j]? = some u ∧ Rf S w u q
section
variable {S S1 : Nat → Prop} {w w1 : World} {z : Nat} {c0 c1 cont : List (List C)} {L L0 L1 : List Value}
theorem Lst.app (h0 : Lst S w z c0 L0) (h1 : Lst S w z c1 L1) : Lst S w z (c0 ++ c1) (L0 ++ L1) := by
  refine ⟨by rw [List.length_append, List.length_append, h0.len, h1.len, Nat.add_mul], fun y hy => (List.mem_append.1 hy).elim (h0.each y) (h1.each y), fun i y j q hi hj => ?_⟩
  rcases Nat.lt_or_ge i c0.length with h | h
  · rw [List.getElem?_append_left h] at hi
    obtain ⟨u, hu, hr⟩ := h0.el i y j q hi hj
    exact ⟨u, by rw [List.getElem?_append_left (List.getElem?_eq_some_iff.1 hu).1]; exact hu, hr⟩
  · rw [List.getElem?_append_right h] at hi
    obtain ⟨u, hu, hr⟩ := h1.el _ y j q hi hj
    refine ⟨u, ?_, hr⟩
    have hle : c0.length * z ≤ i * z := Nat.mul_le_mul_right _ h
    rw [List.getElem?_append_right (by rw [h0.len]; omega), h0.len, show i * z + j - c0.length * z = (i - c0.length) * z + j by rw [Nat.sub_mul]; omega]
    exact hu
theorem Lst.one (h : Lst S w z cont L) : ∀ u ∈ L, u.oneCell' = true := fun u hu => by
  obtain ⟨k, hk⟩ := List.mem_iff_getElem?.1 hu
  have hlt := (List.getElem?_eq_some_iff.1 hk).1
  rw [h.len] at hlt
  have hz : 0 < z := by
    rcases Nat.eq_zero_or_pos z with hz | hz
    · subst hz; simp at hlt
    · exact hz
  have hi : k / z < cont.length := by rw [Nat.div_lt_iff_lt_mul hz]; exact hlt
  have hmod := Nat.mod_lt k hz
  have hdm := Nat.div_add_mod k z
  have hyl := h.each _ (List.mem_of_getElem? (List.getElem?_eq_getElem hi))
  obtain ⟨u', hu', hr⟩ := h.el (k / z) _ (k % z) _ (List.getElem?_eq_getElem hi) (List.getElem?_eq_getElem (by rw [hyl]; exact hmod))
  rw [show k / z * z + k % z = k by rw [Nat.mul_comm]; exact hdm, hk] at hu'
  cases hu'; exact hr.one
theorem Lst.move (h : Lst S w z cont L) (hm : ∀ v c, Rf S w v c → Rf S1 w1 v c) : Lst S1 w1 z cont L := ⟨h.len, h.each, fun i y j q hi hj => by
  obtain ⟨u, hu, hr⟩ := h.el i y j q hi hj
  exact ⟨u, hu, hm _ _ hr⟩⟩
theorem lst_of (g : Nat → Option Value) (hz : 0 < z) (he : ∀ y ∈ cont, y.length = z) (h : ∀ (i : Nat) y (j : Nat) q, cont[i]? = some y → y[j]? = some q → ∃ u, g (i * z + j) = some u ∧ Rf S w u q) :
    ∃ L, Lst S w z cont L ∧ ∀ k u, L[k]? = some u → g k = some u := by
  have hall : ∀ k, k < cont.length * z → ∃ u, g k = some u := fun k hk => by
    have hi : k / z < cont.length := by rw [Nat.div_lt_iff_lt_mul hz]; exact hk
    have hmod := Nat.mod_lt k hz
    have hdm := Nat.div_add_mod k z
    have hyl := he _ (List.mem_of_getElem? (List.getElem?_eq_getElem hi))
    obtain ⟨u', hu', hr⟩ := h (k / z) _ (k % z) _ (List.getElem?_eq_getElem hi) (List.getElem?_eq_getElem (by rw [hyl]; exact hmod))
    rw [show k / z * z + k % z = k by rw [Nat.mul_comm]; exact hdm] at hu'
    exact ⟨u', hu'⟩
  have hget : ∀ k u, ((List.range (cont.length * z)).map fun k => (g k).getD undef)[k]? = some u → g k = some u := fun k u hk => by
    have hlt : k < cont.length * z := by have := (List.getElem?_eq_some_iff.1 hk).1; simpa using this
    obtain ⟨u', hu'⟩ := hall k hlt
    simp [hlt, hu'] at hk
    rw [hu', hk]
  refine ⟨(List.range (cont.length * z)).map fun k => (g k).getD undef, ⟨by simp, he, fun i y j q hi hj => ?_⟩, hget⟩
  obtain ⟨u, hu, hr⟩ := h i y j q hi hj
  have hil := (List.getElem?_eq_some_iff.1 hi).1
  have hjl := (List.getElem?_eq_some_iff.1 hj).1
  rw [he y (List.mem_of_getElem? hi)] at hjl
  have hlt : i * z + j < cont.length * z := by
    have := Nat.mul_le_mul_right z hil
    rw [Nat.succ_mul] at this
    omega
  exact ⟨u, by simp [hlt, hu], hr⟩
end
def contF (M : Mem) : LV → Option (Nat × List (List C))
  | .dat (.sl z _ g ys) => some (z, ys.map g)
  | .nil (.sl z _ g ys) => some (z, ys.map g)
  | .own id => match M id with
    | some (.row _ z _ g ys) => some (z, ys.map g)
    | _ => none
  | _ => none
section
variable {x : Cx} {M : Mem} {m : Mp} {a : Act} {w : World} {P : Program}
theorem map_get {α : Type} {g : α → List C} {ys : List α} {i : Nat} {y : List C} (h : (ys.map g)[i]? = some y) : ∃ t, ys[i]? = some t ∧ y = g t := by
  rw [List.getElem?_map] at h
  cases hy : ys[i]? with
  | none => rw [hy] at h; cases h
  | some t => rw [hy] at h; cases h; exact ⟨t, rfl, rfl⟩
theorem cont_ok (hblk : ∀ id b, M id = some b → BlkAt x.S0 M m w id b) {v : Value} {l : LV} (hv : R3 x.S0 M m w v l) {z : Nat} {cont : List (List C)} (h : contF M l = some (z, cont)) :
    ∃ A c, v = .slice A cont.length c ∧ (0 < cont.length → ∃ b o, A = some ⟨b, o, none⟩ ∧ ∃ L, Lst (Own x.S0 M m) w z cont L ∧ 0 < z ∧ ∀ k u, L[k]? = some u → w.cell? ⟨b, o + k, none⟩ = some u) := by
  cases l with
  | dat c =>
    cases c with
    | sl z' d g ys =>
      cases h
      obtain ⟨A, c, hvv, hc⟩ := rf_sl hv
      refine ⟨A, c, by rw [List.length_map]; exact hvv, fun hpos => ?_⟩
      obtain ⟨b, o, hA, hz, _, _, _, hl, hcc⟩ := hc (by simpa using hpos)
      obtain ⟨L, hL, hg⟩ := lst_of (S := Own x.S0 M m) (w := w) (cont := ys.map g) (fun k => w.cell? ⟨b, o + k, none⟩) hz (fun y hy => by
        obtain ⟨t, ht, rfl⟩ := List.mem_map.1 hy; exact hl t ht) (fun i y j q hi hj => by
        obtain ⟨t, ht, rfl⟩ := map_get hi
        obtain ⟨u, hu, hr⟩ := hcc i t j q ht hj
        exact ⟨u, by rw [← Nat.add_assoc]; exact hu, hr⟩)
      exact ⟨b, o, hA, L, hL, hz, hg⟩
    | _ => cases h
  | nil c =>
    cases c with
    | sl z' d g ys =>
      cases h
      obtain ⟨hvv, hr⟩ := hv
      obtain ⟨A, c, hv2, _⟩ := rf_sl hr
      rw [hvv] at hv2
      simp only [Value.slice.injEq] at hv2
      obtain ⟨_, hl, _⟩ := hv2
      refine ⟨none, 0, by rw [List.length_map, ← hl]; exact hvv, fun hpos => ?_⟩
      rw [List.length_map] at hpos
      omega
    | _ => cases h
  | own id =>
    simp only [contF] at h
    split at h
    · rename_i e z' α d g ys hm
      cases h
      have hvv := hv.2 _ (show rowLen M id = some _ by unfold rowLen; rw [hm])
      obtain ⟨us, hu, a1, a2, a3, a4, a5, a6, a7⟩ := hblk id _ hm
      refine ⟨_, _, by rw [List.length_map]; exact hvv, fun hpos => ⟨_, _, rfl, ?_⟩⟩
      obtain ⟨L, hL, hg⟩ := lst_of (S := Own x.S0 M m) (w := w) (cont := ys.map g) (fun k => w.cell? ⟨m.blk id, m.off id + k, none⟩) a4 (fun y hy => by
        obtain ⟨t, ht, rfl⟩ := List.mem_map.1 hy; exact a5 t ht) (fun i y j q hi hj => by
        obtain ⟨t, ht, rfl⟩ := map_get hi
        obtain ⟨u, hu', hr⟩ := a7 i t j q ht hj
        exact ⟨u, by rw [blk_cell hu, ← Nat.add_assoc]; exact hu', hr⟩)
      exact ⟨L, hL, a4, hg⟩
    · cases h
  | _ => cases h
end
end Go.Proofs.YtjmefaihkblliaaGreat.Ab
/- The abstract machine: append onto rows of the call's own. Conditions: none. -/
namespace Go.Proofs.YtjmefaihkblliaaGreat.Ab
open Go.RowKit
set_option linter.unusedVariables false
set_option linter.unusedSimpArgs false
section
variable {P : Program} {w : World}
theorem append_zero (t ty e : TypeId) (i : TypeInfo) (ht : P.underlying t = some (.slice e)) (hi : P.info? e = some i) (a0 : Addr) (n cap : Nat) (A : Option Addr) (c : Nat) (hc : n ≤ cap) :
    (Builtin.append_ #[t, t] ty #[.slice (some a0) n cap, .slice A 0 c]).run P w = .ok (.slice (some a0) n cap) w := by
  cases A <;> simp [Builtin.append_, run_underlying ht, sizeOf, typeInfo, hi, Builtin.lenOf, Builtin.firstCells, storeCells, loadCells, loadCellsFrom, hc]
structure Apd (w : World) (e z : Nat) (g : Option Nat) (k : Nat) (L : List Value) (v : Value) (w1 : World) : Prop where
  same : Same (fun k => some k = g) w w1
  os : w1.os = w.os ∧ w1.tape = w.tape ∧ w1.output = w.output
  res : ∃ b o c us, v = .slice (some ⟨b, o, none⟩) k c ∧ (some b = g ∨ w.heap.size ≤ b) ∧ w1.heap[b]? = some (.cells us e (0, 0)) ∧ o + c * z ≤ us.size ∧ k ≤ c ∧ c ≤ 9223372036854775807 ∧ ∀ j u, L[j]? = some u → us[o + j]? = some u
theorem apd_own (t ty e : TypeId) (i : TypeInfo) (zv : Value) (ht : P.underlying t = some (.slice e)) (hi : P.info? e = some i) (hz : i.zero = some zv) (hzs : zv.cells.size = i.size) (hpos : 0 < i.size)
    {g o cap n m c : Nat} {us : Array Value} {L0 L1 : List Value} {A : Option Addr} (hg : w.heap[g]? = some (.cells us e (0, 0))) (hsz : o + cap * i.size ≤ us.size) (hn : n ≤ cap) (hcap : cap ≤ 9223372036854775807)
    (hl0 : L0.length = n * i.size) (h0 : ∀ j u, L0[j]? = some u → us[o + j]? = some u)
    (hl1 : L1.length = m * i.size) (h1 : 0 < m → ∃ b q, A = some ⟨b, q, none⟩ ∧ ∀ j u, L1[j]? = some u → w.cell? ⟨b, q + j, none⟩ = some u) (hone : ∀ u ∈ L1, u.oneCell' = true)
    (hby : (n + m) * i.bytes ≤ 140737488355328) (hb1 : 0 < i.bytes) :
    ∃ v w1, (Builtin.append_ #[t, t] ty #[.slice (some ⟨g, o, none⟩) n cap, .slice A m c]).run P w = .ok v w1 ∧ Apd w e i.size (some g) (n + m) (L0 ++ L1) v w1 := by
  rcases Nat.eq_zero_or_pos m with hm | hm
  · subst hm
    have hL1 : L1 = [] := List.length_eq_zero_iff.1 (by rw [hl1]; simp)
    subst hL1
    refine ⟨_, _, append_zero t ty e i ht hi _ n cap A c hn, .refl _ _, ⟨rfl, rfl, rfl⟩, g, o, cap, us, rfl, .inl rfl, hg, hsz, hn, hcap, fun j u hj => h0 j u (by simpa using hj)⟩
  · obtain ⟨b, q, rfl, hc1⟩ := h1 hm
    have hnews : ∀ j u, L1[j]? = some u → w.cell? ((⟨b, q, none⟩ : Addr).add j) = some u := fun j u hj => by rw [plain_add]; exact hc1 j u hj
    have hmax : n + m ≤ 140737488355328 := Nat.le_trans (Nat.le_mul_of_pos_right _ hb1) hby
    by_cases hroom : n + m ≤ cap
    · have hfit : o + n * i.size + L1.length ≤ us.size := by
        have := Nat.mul_le_mul_right i.size hroom
        rw [Nat.add_mul] at this
        omega
      have hr := run_append_room_cells (P := P) (w := w) t ty e i ht hi g o n cap ⟨b, q, none⟩ m c L1 hl1 hnews hone hroom
        (fun j hj => by rw [blk_cell hg, Array.getElem?_eq_getElem (by omega)]; rfl) (fun j hj => by simp [World.frozen?, hg])
      rw [setCells_eq g e L1 _ us w hg hfit] at hr
      refine ⟨_, _, hr, ⟨(setRow_same w g _).size, fun k hk hne => (setRow_same w g _).at_ k hk (fun e => hne (by rw [e]))⟩, ⟨rfl, rfl, rfl⟩, g, o, cap, _, rfl, .inl rfl, setRow_heap w g us _ e _ hg, ?_, hroom, hcap, fun j u hj => ?_⟩
      · simp only [List.size_toArray, List.length_append, List.length_take, List.length_drop, Array.length_toList]
        omega
      · rw [List.getElem?_toArray]
        rcases Nat.lt_or_ge j L0.length with hj0 | hj0
        · rw [List.getElem?_append_left hj0] at hj
          rw [List.append_assoc, List.getElem?_append_left (by rw [List.length_take, Array.length_toList]; omega), List.getElem?_take_of_lt (by omega), Array.getElem?_toList]
          exact h0 j u hj
        · rw [List.getElem?_append_right hj0] at hj
          have hjl := (List.getElem?_eq_some_iff.1 hj).1
          rw [List.append_assoc, List.getElem?_append_right (by rw [List.length_take, Array.length_toList]; omega), List.getElem?_append_left (by rw [List.length_take, Array.length_toList]; omega), List.length_take, Array.length_toList, Nat.min_eq_left (by omega),
            show o + j - (o + n * i.size) = j - L0.length by omega]
          exact hj
    · obtain ⟨v', w1, hr, hown, hgr⟩ := run_append_arg_grows (P := P) (w := w) t ty e i zv i.size i.bytes ht hi hz rfl rfl hzs hpos ⟨g, o, none⟩ n cap L0 hl0
        (fun j u hj => by rw [plain_add, blk_cell hg]; exact h0 j u hj) ⟨b, q, none⟩ m c L1 hl1 hnews (by omega) (by simp only [maxLen]; omega) hby
      obtain ⟨_, hh⟩ := hown
      rcases hh with ⟨_, h00⟩ | ⟨g', cap', cur, hv', hbg, hgb, hnc, hcm, hcs, htk⟩
      · omega
      · refine ⟨v', w1, hr, ⟨hgr.size, fun k hk _ => hgr.block k hk (by simp)⟩, ⟨hgr.os, hgr.tape, hgr.output⟩, g', 0, cap', cur, hv', .inr hbg, hgb, by rw [hcs]; omega, hnc, by simp only [maxLen] at hcm; omega, fun j u hj => ?_⟩
        rw [← htk] at hj
        have hjl := (List.getElem?_eq_some_iff.1 hj).1
        rw [List.length_take] at hjl
        rw [List.getElem?_take_of_lt (by omega)] at hj
        rw [Nat.zero_add, ← Array.getElem?_toList]; exact hj
end
section
variable {P : Program} {x : Cx} {tb : Tb} {R : Tl → Ml → Prop} {n : Nat} {o : Oper} {T : Tl} {M : Ml} {k : List It}
def slOf (tb : Tb) (t : TypeId) : Option (TypeId × Ty) := match tb t with
  | some y => match y.kd with
    | .sl e => match tb e with
      | some q => some (e, q)
      | none => none
    | _ => none
  | none => none
theorem slOf_ok (htb : TbOk P tb) {t e : TypeId} {y : Ty} (h : slOf tb t = some (e, y)) : P.underlying t = some (.slice e) ∧ tb e = some y := by
  unfold slOf at h
  split at h
  · rename_i y0 hy
    split at h
    · rename_i e' hk
      split at h
      · rename_i q hq
        cases h
        obtain ⟨d, hd, hkd⟩ := (htb t y0 hy).desc
        rw [hk] at hkd
        refine ⟨?_, hq⟩
        cases d <;> simp only [KdOk] at hkd <;> first | (subst hkd; exact hd) | exact hkd.elim
      · cases h
    · cases h
  · cases h
theorem TyOk.zsz {t : TypeId} {y : Ty} (h : TyOk P t y) : ∃ i z, P.info? t = some i ∧ i.size = y.size ∧ i.bytes = y.bytes ∧ i.zero = some z ∧ z.cells.size = i.size := by
  obtain ⟨i, hi, hs, hb, z, hz, hzc, _⟩ := h.info
  refine ⟨i, z, hi, hs, hb, hz, ?_⟩
  rw [hs, ← h.zl.2.1, ← Array.length_toList, hzc, List.length_map]
theorem upd_upd {β : Type 1} (F : Nat → β) (k : Nat) (u v : β) : Ab.upd (Ab.upd F k u) k v = Ab.upd F k v := by
  funext i; unfold Ab.upd; split <;> rfl
theorem rel_app {m : Mp} {a : Act} {w w1 : World} (hr : Rel x (tm T) (mm M) m a w) {id d1 : Nat} {e z : Nat} {α : Type} {d : α} {f : α → List C} {zs : List α} {v : Value} {L : List Value} {gr : Option Nat}
    (hold : gr = none ∨ ∃ id b, mm M id = some b ∧ gr = some (m.blk id) ∧ (mm ((id, none) :: M) d1).isSome = false) (hf : fresh T M d1 = true) (hd1 : mm M d1 = none) (hz : 0 < z)
    (ha : Apd w e z gr zs.length L v w1) (hL : Lst (Own x.S0 (mm M) m) w z (zs.map f) L) (M1 : Ml) (hM1 : (gr = none ∧ M1 = M) ∨ ∃ id b, mm M id = some b ∧ gr = some (m.blk id) ∧ M1 = (id, none) :: M) :
    ∃ m1, Rel x (tm T) (mm ((d1, some (.row e z d f zs)) :: M1)) m1 a w1 ∧ R3 x.S0 (mm ((d1, some (.row e z d f zs)) :: M1)) m1 w1 v (.own d1) := by
  obtain ⟨b, oo, c, us, hv, hb, hub, hsz, hkc, hcm, hLs⟩ := ha.res
  rcases hM1 with ⟨hg, rfl⟩ | ⟨id, bk, hbk, hg, rfl⟩
  · subst hg
    have hb' : w.heap.size ≤ b := by rcases hb with hb | hb; cases hb; exact hb
    have hr1 := hr.upd d1 (some (.row e z d f zs)) (B := b) (O := oo) (c := c) (w1 := w1) ⟨ha.same.size, fun k hk _ => ha.same.at_ k hk (fun e => by cases e)⟩ ha.os (fun _ => .inr hb') (.inr (fresh_ok hf)) (fun b0 hb0 hmv hke => by
      cases hb0
      refine ⟨us, by rw [Mp.set_blk]; exact hub, by rw [Mp.set_off, Mp.set_cap]; exact hsz, by rw [Mp.set_cap]; exact hkc, by rw [Mp.set_cap]; exact hcm, hz, fun y hy => hL.each _ (List.mem_map_of_mem hy), trivial, fun i y j q hi hj => ?_⟩
      obtain ⟨u, hu, hrf⟩ := hL.el i (f y) j q (by rw [List.getElem?_map, hi]; rfl) hj
      exact ⟨u, by rw [Mp.set_off, Nat.add_assoc]; exact hLs _ u hu, hmv.dat hrf⟩)
    refine ⟨_, by rw [mm_cons]; exact hr1, by rw [hv]; rfl, fun k hk => ?_⟩
    rw [mm_cons] at hk
    unfold rowLen at hk; rw [upd_same] at hk; cases hk
    rw [hv, Mp.set_blk, Mp.set_off, Mp.set_cap]
  · subst hg
    have hne : d1 ≠ id := fun e => by rw [e, hbk] at hd1; cases hd1
    have hr0 := hr.rename id d1 hne (by rw [hd1]; rfl) (fresh_ok hf)
    have hown : ∀ k, Own x.S0 (Ab.upd (Ab.upd (mm M) id none) d1 (mm M id)) (m.set d1 (m.blk id) (m.off id) (m.cap id)) k → Own x.S0 (mm M) m k := by
      intro k hk
      rcases hk with hk | ⟨i, hi, hbk'⟩
      · exact .inl hk
      · by_cases e1 : i = d1
        · subst e1; rw [Mp.set_blk] at hbk'; exact .inr ⟨id, by rw [hbk]; rfl, hbk'⟩
        · rw [(Mp.set_ne m d1 _ _ _ e1).1] at hbk'
          rw [upd_ne _ _ e1] at hi
          by_cases e0 : i = id
          · subst e0; rw [upd_same] at hi; cases hi
          · rw [upd_ne _ _ e0] at hi; exact .inr ⟨i, hi, hbk'⟩
    have hlive : ((Ab.upd (Ab.upd (mm M) id none) d1 (mm M id)) d1).isSome = true := by rw [upd_same, hbk]; rfl
    have hfr : Fresh (tm T) (Ab.upd (Ab.upd (mm M) id none) d1 (mm M id)) d1 := by
      refine ⟨(fresh_ok hf).1, fun i b0 hb0 => ?_, (fresh_ok hf).2.2⟩
      by_cases e1 : i = d1
      · subst e1; rw [upd_same] at hb0; exact (fresh_ok hf).2.1 id b0 hb0
      · rw [upd_ne _ _ e1] at hb0
        by_cases e0 : i = id
        · subst e0; rw [upd_same] at hb0; cases hb0
        · rw [upd_ne _ _ e0] at hb0; exact (fresh_ok hf).2.1 i b0 hb0
    have hr1 := hr0.upd d1 (some (.row e z d f zs)) (B := b) (O := oo) (c := c) (w1 := w1)
      ⟨ha.same.size, fun k hk hno => ha.same.at_ k hk (fun e => hno ⟨hlive, by rw [Mp.set_blk]; simpa using e⟩)⟩ ha.os
      (fun _ => by rcases hb with hb | hb
                   · exact .inl ⟨hlive, by rw [Mp.set_blk]; simpa using hb⟩
                   · exact .inr hb) (.inr hfr) (fun b0 hb0 hmv hke => by
      cases hb0
      refine ⟨us, by rw [Mp.set_blk]; exact hub, by rw [Mp.set_off, Mp.set_cap]; exact hsz, by rw [Mp.set_cap]; exact hkc, by rw [Mp.set_cap]; exact hcm, hz, fun y hy => hL.each _ (List.mem_map_of_mem hy), trivial, fun i y j q hi hj => ?_⟩
      obtain ⟨u, hu, hrf⟩ := hL.el i (f y) j q (by rw [List.getElem?_map, hi]; rfl) hj
      exact ⟨u, by rw [Mp.set_off, Nat.add_assoc]; exact hLs _ u hu, hmv.dat (Rf.sub hrf hown)⟩)
    rw [upd_upd, ← mm_cons, ← mm_cons] at hr1
    refine ⟨_, hr1, by rw [hv]; rfl, fun k hk => ?_⟩
    rw [mm_cons] at hk
    unfold rowLen at hk; rw [upd_same] at hk; cases hk
    rw [hv, Mp.set_blk, Mp.set_off, Mp.set_cap]
theorem app_exec {c : Call} {p q : Operand} {t : TypeId} {a : Act} {w w1 : World} {u v r : Value} (hop : o.op = .call c) (hc : c.callee = .builtin .append) (ha : c.args = #[p, q]) (hty : c.argTypes = #[t, t]) (hp : a.eval p = u) (hq : a.eval q = v)
    (hrun : (Builtin.append_ #[t, t] o.type #[u, v]).run P w = .ok r w1) : (execOp a.eval o).run P w = .ok (.value r) w1 := by
  simp only [execOp, hop, resolve, hc, ha, hty, invoke, builtin, Sem.run_bind, Sem.run_pure, Result.andThen_ok, List.map_toArray, List.map_cons, List.map_nil, hp, hq, hrun]
theorem opw_app {t e : TypeId} {y : Ty} {u v : LV} {id d1 z : Nat} {α : Type} {d : α} {f : α → List C} {xs : List α} {cont : List (List C)} (ys : List α) (hn : x.n = n) (htb : TbOk P tb) (hi : AppI n o T t u v) (hu : u = .own id) (hm : mm M id = some (.row e z d f xs))
    (hs : slOf tb t = some (e, y)) (hz : Nat.beq y.size z = true) (hv : contF (mm M) v = some (z, cont)) (hys : cont = ys.map f) (hd : o.dst = some d1) (hf : fresh T M d1 = true) (hd1 : mm M d1 = none)
    (hby : (xs.length + ys.length) * y.bytes ≤ 140737488355328) (h : Wc P x R k ((d1, .own d1) :: T) ((d1, some (.row e z d f (xs ++ ys))) :: (id, none) :: M)) : OpW P x R o k T M := by
  intro m a w hr
  obtain ⟨hdo, c, p, q, hop, hc, ha, hty, hp, hq⟩ := hi
  subst hu
  obtain ⟨ht, hty2⟩ := slOf_ok htb hs
  obtain ⟨i, zv, hinfo, his, hib, hiz, hzs⟩ := (htb e y hty2).zsz
  have hze : y.size = z := nbeq_t.1 hz
  have hpv := val_ok hr p
  have hqv := val_ok hr q
  rw [hp] at hpv
  rw [hq] at hqv
  have hpe := hpv.2 _ (show rowLen (mm M) id = some _ by unfold rowLen; rw [hm])
  obtain ⟨us, hu, a1, a2, a3, a4, a5, a6, a7⟩ := hr.blk id _ hm
  obtain ⟨L0, hL0, hg0⟩ := lst_of (S := Own x.S0 (mm M) m) (w := w) (cont := xs.map f) (fun k => us[m.off id + k]?) a4 (fun y hy => by
    obtain ⟨t, ht, rfl⟩ := List.mem_map.1 hy; exact a5 t ht) (fun i y j q hi hj => by
    obtain ⟨t, ht, rfl⟩ := map_get hi
    obtain ⟨u, hu', hrf⟩ := a7 i t j q ht hj
    exact ⟨u, by rw [← Nat.add_assoc]; exact hu', hrf⟩)
  obtain ⟨A, cc, hqe, hsrc⟩ := cont_ok hr.blk hqv hv
  have hcl : cont.length = ys.length := by rw [hys, List.length_map]
  have hsrc' : ∃ L1, Lst (Own x.S0 (mm M) m) w z cont L1 ∧ (0 < ys.length → ∃ b q, A = some ⟨b, q, none⟩ ∧ ∀ j u, L1[j]? = some u → w.cell? ⟨b, q + j, none⟩ = some u) := by
    rcases Nat.eq_zero_or_pos ys.length with h0 | h0
    · refine ⟨[], ⟨by rw [hcl, h0]; simp, fun y hy => ?_, fun i y j q hi => ?_⟩, fun hh => by omega⟩
      · have : cont = [] := List.length_eq_zero_iff.1 (by omega)
        rw [this] at hy; cases hy
      · have : cont = [] := List.length_eq_zero_iff.1 (by omega)
        rw [this] at hi; cases hi
    · obtain ⟨b, oo, hA, L, hL, _, hg⟩ := hsrc (by omega)
      exact ⟨L, hL, fun _ => ⟨b, oo, hA, hg⟩⟩
  obtain ⟨L1, hL1, hg1⟩ := hsrc'
  have hzi : i.size = z := by rw [his, hze]
  obtain ⟨r, w1, hrun, hapd⟩ := apd_own (P := P) (w := w) t o.type e i zv ht hinfo hiz hzs (by rw [hzi]; exact a4) (g := m.blk id) (o := m.off id) (cap := m.cap id) (n := xs.length) (m := ys.length) (c := cc) (us := us) (L0 := L0) (L1 := L1) (A := A) hu (by rw [hzi]; exact a1) a2 a3
    (by rw [hL0.len, List.length_map, hzi]) (fun j u hj => hg0 j u hj) (by rw [hL1.len, hcl, hzi]) hg1 hL1.one (by rw [hib]; exact hby) (by rw [hib]; exact (htb e y hty2).pos.2)
  have hex := app_exec (P := P) hop hc ha hty hpe (by rw [hqe, hcl]) hrun
  rw [hzi, ← List.length_append] at hapd
  have hcont : Lst (Own x.S0 (mm M) m) w z ((xs ++ ys).map f) (L0 ++ L1) := by
    rw [List.map_append, ← hys]; exact hL0.app hL1
  obtain ⟨m1, hr1, hv1⟩ := rel_app (d := d) (f := f) hr (id := id) (.inr ⟨id, _, hm, rfl, by
    rw [mm_cons]; unfold Ab.upd; split
    · rfl
    · rw [hd1]; rfl⟩) hf hd1 a4 hapd hcont ((id, none) :: M) (.inr ⟨id, _, hm, rfl, rfl⟩)
  unfold Oper.wp
  rw [hex]
  show Ka P x R k .normal (a.put o.dst r) w1
  rw [hd]
  exact h m1 _ w1 (hr1.putd (d := some d1) hn (by rw [← hd]; exact hdo) hv1)
end
end Go.Proofs.YtjmefaihkblliaaGreat.Ab
/- The abstract machine: stores into rows of the call's own; the words of a walk for appends and stores. Conditions: none. -/
namespace Go.Proofs.YtjmefaihkblliaaGreat.Ab
open Go.RowKit
set_option linter.unusedVariables false
set_option linter.unusedSimpArgs false
section
variable {P : Program} {x : Cx} {tb : Tb} {R : Tl → Ml → Prop} {n : Nat} {o : Oper} {T : Tl} {M : Ml} {k : List It}
def idsOf : LV → List Nat
  | .own id => [id]
  | .lagg ls => ids1 ls
  | _ => []
where
  ids1 : List LV → List Nat
    | [] => []
    | .own id :: ls => id :: ids1 ls
    | _ :: ls => ids1 ls
theorem ids1_ok {id : Nat} : ∀ {ls : List LV} {l : LV} {M : Mem} {c : C}, l ∈ ls → l.on1 id → l.data M = some c → id ∈ idsOf.ids1 ls
  | k :: ls, l, M, c, hm, ho, hd => by
    rcases List.mem_cons.1 hm with rfl | hm
    · cases l <;> first
        | (have : _ = id := ho; subst this; exact List.mem_cons_self)
        | exact ho.elim
        | cases hd
    · have := ids1_ok hm ho hd
      cases k <;> first | exact List.mem_cons_of_mem _ this | exact this
theorem go_app (hn : x.n = n) (htb : TbOk P tb) {s : Prop} {T1 : Tl} {M1 : Ml} {k1 : List It} {t e : TypeId} {y : Ty} {v : LV} {id d1 z : Nat} {α : Type} {d : α} {f : α → List C} {xs : List α} {cont : List (List C)} (ys : List α) (ho : run tb n 1000 T M True k = .app t (.own id) v o s T1 M1 k1) (hs : s)
    (hm : mm M1 id = some (.row e z d f xs)) (hsl : slOf tb t = some (e, y)) (hz : Nat.beq y.size z = true) (hv : contF (mm M1) v = some (z, cont)) (hd : o.dst = some d1) (hf : fresh T1 M1 d1 = true) (hd1 : mm M1 d1 = none) (hys : cont = ys.map f)
    (hby : (xs.length + ys.length) * y.bytes ≤ 140737488355328) (h : Wc P x R k1 ((d1, .own d1) :: T1) ((d1, some (.row e z d f (xs ++ ys))) :: (id, none) :: M1)) : Wc P x R k T M :=
  go hn htb ho ⟨hs, fun hi => opw_app ys hn htb hi rfl hm hsl hz hv hys hd hf hd1 hby h⟩
end
end Go.Proofs.YtjmefaihkblliaaGreat.Ab
/- The abstract machine: rows that are made, rows that are written out, cuts. Conditions: none. -/
namespace Go.Proofs.YtjmefaihkblliaaGreat.Ab
open Go.RowKit
set_option linter.unusedVariables false
set_option linter.unusedSimpArgs false
section
variable {P : Program} {x : Cx} {tb : Tb} {R : Tl → Ml → Prop} {n : Nat} {o : Oper} {T : Tl} {M : Ml} {k : List It}
theorem rel_new {m : Mp} {a : Act} {w : World} (hr : Rel x (tm T) (mm M) m a w) {d1 : Nat} {e z cap : Nat} {α : Type} {d : α} {f : α → List C} {zs : List α} {us : Array Value} {L : List Value}
    (hf : fresh T M d1 = true) (hd1 : mm M d1 = none) (hz : 0 < z) (hc : zs.length ≤ cap) (hus : cap * z ≤ us.size) (hmax : cap ≤ 9223372036854775807)
    (hL : Lst (Own x.S0 (mm M) m) w z (zs.map f) L) (hLs : ∀ (j : Nat) (u : Value), L[j]? = some u → us[j]? = some u) :
    ∃ m1, Rel x (tm T) (mm ((d1, some (.row e z d f zs)) :: M)) m1 a (w.alloc (.cells us e)) ∧ R3 x.S0 (mm ((d1, some (.row e z d f zs)) :: M)) m1 (w.alloc (.cells us e)) (.slice (some ⟨w.heap.size, 0, none⟩) zs.length cap) (.own d1) :=
  rel_app (d := d) (f := f) hr (id := d1) (gr := none) (.inl rfl) hf hd1 hz
    ⟨alloc_same _ _ _, ⟨rfl, rfl, rfl⟩, w.heap.size, 0, cap, us, rfl, .inr (Nat.le_refl _), alloc_heap _ _, by omega, hc, hmax, fun j u hj => by rw [Nat.zero_add]; exact hLs j u hj⟩ hL M (.inl ⟨rfl, rfl⟩)
theorem opw_value {a : Act} {w w1 : World} {r : Value} {l : LV} {M1 : Ml} {m1 : Mp} {d1 : Nat} (hn : x.n = n) (hdo : dstOk n o.dst = true) (hd : o.dst = some d1) (hex : (execOp a.eval o).run P w = .ok (.value r) w1) (hr1 : Rel x (tm T) (mm M1) m1 a w1) (hv : R3 x.S0 (mm M1) m1 w1 r l) (h : Wc P x R k ((d1, l) :: T) M1) :
    o.wp P a w (Ka P x R k .normal) (fun _ _ _ => False) := by
  unfold Oper.wp
  rw [hex]
  show Ka P x R k .normal (a.put o.dst r) w1
  rw [hd] at hdo ⊢
  exact h m1 _ w1 (hr1.putd (d := some d1) hn hdo hv)
def bsF (T : Tl) (M : Mem) (y : Ty) : Nat → List (Nat × Operand) → Option (List (List C))
  | _, [] => some []
  | k, (i, q) :: r => match Nat.beq i k with
    | true => ((val T q).typed y).bind fun v => match idsOf v with
      | [] => (dataL M v.cells).bind fun cs => (bsF T M y (k + 1) r).bind fun rest => some (cs :: rest)
      | _ => none
    | false => none
theorem ids_none {v : LV} {l : LV} {M : Mem} {c : C} {i : Nat} (h : idsOf v = []) (hl : l ∈ v.cells) (ho : l.on1 i) (hd : l.data M = some c) : False := by
  cases v with
  | lagg ls =>
    have hm : i ∈ idsOf.ids1 ls := ids1_ok (ls := ls) hl ho hd
    have h' : idsOf.ids1 ls = [] := h
    rw [h'] at hm; cases hm
  | dagg ds =>
    obtain ⟨c0, _, hc0⟩ := List.mem_map.1 hl
    rw [← hc0] at ho; exact ho
  | own id => cases h
  | _ =>
    rw [List.mem_singleton.1 hl] at ho hd
    first
      | exact ho
      | cases hd
theorem bs_ok {y : Ty} {e : TypeId} (hty : TyOk P e y) {m : Mp} {a : Act} {w : World} (h : Rel x (tm T) (mm M) m a w) : ∀ (parts : List (Nat × Operand)) (k : Nat) (cont : List (List C)) (us : List Value), bsF T (mm M) y k parts = some cont → (k + parts.length) * y.size ≤ us.length →
    ∃ us1 : List Value, Instr.fill (fun i => some (i * y.size, y.size)) us.toArray (parts.map fun p => (p.1, a.eval p.2)) = some us1.toArray ∧ us1.length = us.length ∧ cont.length = parts.length ∧ (∀ v ∈ cont, v.length = y.size) ∧ (∀ j, j < k * y.size → us1[j]? = us[j]?) ∧
      ∀ (i : Nat) v (j : Nat) q, cont[i]? = some v → v[j]? = some q → ∃ u, us1[(k + i) * y.size + j]? = some u ∧ Rf (Own x.S0 (mm M) m) w u q
  | [], k, cont, us, hb, hle => by
    cases hb
    exact ⟨us, rfl, rfl, rfl, fun v hv => (by cases hv), fun _ _ => rfl, fun i v j q hv => (by cases hv)⟩
  | (i0, q0) :: r, k, cont, us, hb, hle => by
    simp only [bsF] at hb
    split at hb
    · rename_i hik
      have hik := nbeq_t.1 hik
      subst hik
      obtain ⟨v, hv, hb⟩ := Option.bind_eq_some_iff.1 hb
      split at hb
      · rename_i hids
        obtain ⟨cs, hcs, hb⟩ := Option.bind_eq_some_iff.1 hb
        obtain ⟨rest, hrest, hb⟩ := Option.bind_eq_some_iff.1 hb
        cases hb
        have hq := val_ok h q0
        have hq2 : R2 x.S0 (mm M) m w (a.eval q0) (val T q0) := by
          revert hv hq; cases val T q0 <;> intro hv hq <;> first | exact hq | cases hv
        obtain ⟨vs, hone⟩ := typed_ok hty hq2 hv
        have hrs := rc_rs hone.rc
        obtain ⟨hcl, hcd⟩ := dataL_len hcs
        rw [List.length_cons] at hle
        have hk1 : (i0 + 1) * y.size ≤ us.length := Nat.le_trans (Nat.mul_le_mul_right _ (by omega)) hle
        rw [Nat.succ_mul] at hk1
        have hfs := fill_step (fun i => some (i * y.size, y.size)) us.toArray i0 (a.eval q0) (r.map fun p => (p.1, a.eval p.2)) rfl hone.cells hone.len (by simp; omega)
        have hul : us.toArray.toList.length = us.length := by simp
        have hnl : (us.take (i0 * y.size) ++ vs ++ us.drop (i0 * y.size + vs.length)).length = us.length := by
          have := hone.len
          simp only [List.length_append, List.length_take, List.length_drop]; omega
        obtain ⟨us1, h1, h2, h3, h4, h5, h6⟩ := bs_ok hty h r (i0 + 1) rest (us.take (i0 * y.size) ++ vs ++ us.drop (i0 * y.size + vs.length)) hrest (by rw [hnl]; rw [show i0 + 1 + r.length = i0 + (r.length + 1) by omega]; exact hle)
        refine ⟨us1, ?_, by rw [h2, hnl], by simp [h3], fun v' hv' => ?_, fun j hj => ?_, fun i v' j q hv' hj => ?_⟩
        · rw [List.map_cons, hfs]
          simpa using h1
        · rcases List.mem_cons.1 hv' with rfl | hv'
          · rw [hcl, ← hrs.1]; exact hone.len
          · exact h4 v' hv'
        · rw [h5 j (by rw [Nat.succ_mul]; omega), List.append_assoc, List.getElem?_append_left (by rw [List.length_take]; omega), List.getElem?_take_of_lt hj]
        · cases i with
          | zero =>
            have : cs = v' := by simpa using hv'
            subst this
            have hjl := (List.getElem?_eq_some_iff.1 hj).1
            have hjv : j < vs.length := by rw [hrs.1, ← hcl]; exact hjl
            have hu1 := List.getElem?_eq_getElem hjv
            have hll := List.getElem?_eq_getElem (show j < v.cells.length by rw [← hrs.1]; exact hjv)
            obtain ⟨c', hc', hdat⟩ := hcd j _ hll
            rw [hj] at hc'; cases hc'
            refine ⟨vs[j], ?_, data_rf (fun k hk => hk) h.blk (hrs.2 j _ _ hu1 hll).1 hdat (fun id hon _ _ => ids_none hids (List.mem_of_getElem? hll) hon hdat)⟩
            have hlen := hone.len
            rw [Nat.add_zero, h5 _ (by rw [Nat.succ_mul]; omega), List.append_assoc, List.getElem?_append_right (by rw [List.length_take]; omega), List.getElem?_append_left (by rw [List.length_take]; omega), List.length_take, Nat.min_eq_left (by omega),
              show i0 * y.size + j - i0 * y.size = j by omega]
            exact hu1
          | succ i =>
            have := h6 i v' j q (by simpa using hv') hj
            rwa [show i0 + 1 + i = i0 + (i + 1) by omega] at this
      · cases hb
    · cases hb
theorem opw_lit {t e : TypeId} {y : Ty} {d1 len : Nat} {parts : Array (Nat × Operand)} {cont : List (List C)} {α : Type} {d : α} (f : α → List C) (ys : List α) (hn : x.n = n) (htb : TbOk P tb) (hdo : dstOk n o.dst = true) (hop : o.op = .buildSlice t len parts)
    (hs : slOf tb t = some (e, y)) (hb : bsF T (mm M) y 0 parts.toList = some cont) (hlen : Nat.beq parts.toList.length len = true) (hsm : Nat.ble (len * y.size) 16777216 = true) (hd : o.dst = some d1) (hf : fresh T M d1 = true) (hd1 : mm M d1 = none) (hys : cont = ys.map f)
    (h : Wc P x R k ((d1, .own d1) :: T) ((d1, some (.row e y.size d f ys)) :: M)) : OpW P x R o k T M := by
  intro m a w hr
  obtain ⟨ht, hty2⟩ := slOf_ok htb hs
  have hty := htb e y hty2
  obtain ⟨i, hi, his, hib, zv0, hiz, hzc, _⟩ := hty.info
  have hlen := nbeq_t.1 hlen
  have hsm := Nat.le_of_ble_eq_true hsm
  obtain ⟨us1, hfill, hl1, hl2, hall, _, hel⟩ := bs_ok hty hr parts.toList 0 cont (((Array.range (len * y.size)).map (fun j => (if len * y.size = 0 then #[] else zv0.cells)[j % (if len * y.size = 0 then #[] else zv0.cells).size]!))).toList hb (by rw [Nat.zero_add, hlen]; simp)
  have hcl : cont.length = ys.length := by rw [hys, List.length_map]
  have hus1 : us1.length = len * y.size := by rw [hl1]; simp
  have hrun : (Instr.buildSlice t len (parts.map fun p => (p.1, a.eval p.2))).run P w = .ok (.slice (some ⟨w.heap.size, 0, none⟩) len len) (w.alloc (.cells us1.toArray e)) := by
    have hfill' : Instr.fill (fun j => some (j * i.size, i.size)) ((Array.range (len * i.size)).map (fun j => (if len * i.size = 0 then #[] else zv0.cells)[j % (if len * i.size = 0 then #[] else zv0.cells).size]!)) (parts.map fun p => (p.1, a.eval p.2)).toList = some us1.toArray := by
      rw [his]
      rw [Array.toArray_toList] at hfill
      rw [Array.toList_map]; exact hfill
    by_cases h0 : len * i.size = 0
    · simp only [h0, if_true] at hfill'
      simp only [Instr.buildSlice, Sem.run_bind, run_underlying ht, Result.andThen_ok, run_sizeOf w hi, Program.cellsOf, hi, Option.map_some, Option.getD_some, h0, if_true, Sem.run_pure]
      rw [if_neg (by omega)]
      simp only [Sem.run_pure, Result.andThen_ok, hfill', newRow, Sem.run_bind]
      rfl
    · simp only [h0, if_false] at hfill'
      simp only [Instr.buildSlice, Sem.run_bind, run_underlying ht, Result.andThen_ok, run_sizeOf w hi, Program.cellsOf, hi, Option.map_some, Option.getD_some, h0, if_false, Sem.run_pure]
      rw [if_neg (by rw [his]; omega)]
      simp only [Sem.run_pure, Result.andThen_ok, zeroValue, Sem.run_bind, run_typeInfo w hi, hiz, hfill', newRow]
      rfl
  have hex : (execOp a.eval o).run P w = .ok (.value (.slice (some ⟨w.heap.size, 0, none⟩) ys.length len)) (w.alloc (.cells us1.toArray e)) := by
    have hyl : ys.length = len := by rw [← hcl, hl2, hlen]
    simp only [execOp, hop, Sem.run_bind]
    rw [show (parts.map fun (i, x) => (i, a.eval x)) = (parts.map fun p => (p.1, a.eval p.2)) from rfl, hrun, hyl]
    rfl
  obtain ⟨L, hL, hLs⟩ := lst_of (S := Own x.S0 (mm M) m) (w := w) (z := y.size) (cont := ys.map f) (fun k => us1.toArray[k]?) hty.pos.1 (fun v hv => hall v (by rw [hys]; exact hv)) (fun i v j q hi' hj => by
    obtain ⟨u, h1, h2⟩ := hel i v j q (by rw [hys]; exact hi') hj
    exact ⟨u, by rw [List.getElem?_toArray, ← Nat.zero_add i]; exact h1, h2⟩)
  have hyl : ys.length = len := by rw [← hcl, hl2, hlen]
  obtain ⟨m1, hr1, hv1⟩ := rel_new (d := d) (f := f) (e := e) (cap := len) hr hf hd1 hty.pos.1 (zs := ys) (us := us1.toArray) (L := L) (by omega) (by simp; omega) (by have := Nat.le_mul_of_pos_right len hty.pos.1; omega) hL hLs
  exact opw_value hn hdo hd hex hr1 hv1 h
end
end Go.Proofs.YtjmefaihkblliaaGreat.Ab
/- The abstract machine: cuts of rows. Conditions: none. -/
namespace Go.Proofs.YtjmefaihkblliaaGreat.Ab
open Go.RowKit
set_option linter.unusedVariables false
set_option linter.unusedSimpArgs false
def Bnd (T : Tl) (q : Option Operand) (dflt l : Nat) : Prop := (q = none ∧ l = dflt) ∨ ∃ p kd, q = some p ∧ val T p = .dat (.int kd (l : Int))
theorem Bnd.none {T : Tl} {dflt : Nat} : Bnd T Option.none dflt dflt := .inl ⟨rfl, rfl⟩
theorem Bnd.some {T : Tl} {dflt l : Nat} {p : Operand} (kd : IntKind) (h : val T p = .dat (.int kd (l : Int))) : Bnd T (Option.some p) dflt l := .inr ⟨p, kd, rfl, h⟩
section
variable {P : Program} {w : World}
theorem run_cut {t e : TypeId} (i : TypeInfo) (ht : P.underlying t = some (.slice e)) (hi : P.info? e = some i) (A : Option Addr) (n c : Nat) (lo hi' : Option Value) (l h : Nat) (hlo : (lo = none ∧ l = 0) ∨ ∃ k, lo = some (.int k (l : Int))) (hhi : (hi' = none ∧ h = n) ∨ ∃ k, hi' = some (.int k (h : Int)))
    (hlh : l ≤ h) (hc : h ≤ c) : (Instr.sliceAt t (.slice A n c) lo hi' none).run P w = .ok (.slice (if c = l then A else A.map (·.add (l * i.size))) (h - l) (c - l)) w := by
  have hb : (Instr.sliceBounds true n c lo hi' none).run P w = .ok (l, h, c) w := by
    have h1 : ∀ k code, (Instr.sliceBound (.int k (h : Int)) c code).run P w = .ok h w := fun k code => by
      simp only [Instr.sliceBound, asIntOf, Sem.run_bind, Sem.run_pure, Result.andThen_ok]
      rw [if_pos ⟨by omega, by omega⟩]; simp
    have h2 : ∀ k code, (Instr.sliceBound (.int k (l : Int)) h code).run P w = .ok l w := fun k code => by
      simp only [Instr.sliceBound, asIntOf, Sem.run_bind, Sem.run_pure, Result.andThen_ok]
      rw [if_pos ⟨by omega, by omega⟩]; simp
    rcases hlo with ⟨rfl, rfl⟩ | ⟨k1, rfl⟩ <;> rcases hhi with ⟨rfl, rfl⟩ | ⟨k2, rfl⟩ <;> simp [Instr.sliceBounds, h1, h2]
  simp only [Instr.sliceAt, Instr.slice, Sem.run_bind, run_underlying ht, Result.andThen_ok, hb, run_sizeOf w hi, Program.cellsOf, hi, Option.map_some, Option.getD_some, Sem.run_pure]
end
section
variable {P : Program} {x : Cx} {tb : Tb} {R : Tl → Ml → Prop} {n : Nat} {o : Oper} {T : Tl} {M : Ml} {k : List It}
theorem bnd_val {m : Mp} {a : Act} {w : World} (hr : Rel x (tm T) (mm M) m a w) {q : Option Operand} {dflt l : Nat} (h : Bnd T q dflt l) : ((q.map a.eval) = none ∧ l = dflt) ∨ ∃ k, q.map a.eval = some (.int k (l : Int)) := by
  rcases h with ⟨rfl, h⟩ | ⟨p, kd, rfl, hv⟩
  · exact .inl ⟨rfl, h⟩
  · have := val_ok hr p
    rw [hv] at this
    exact .inr ⟨kd, by rw [Option.map_some, rf_int this]⟩
theorem cut_get {β : Type} {xs : List β} {l h i : Nat} {y : β} (hy : ((xs.take h).drop l)[i]? = some y) : xs[l + i]? = some y ∧ l + i < h := by
  rw [List.getElem?_drop] at hy
  have hlt := (List.getElem?_eq_some_iff.1 hy).1
  rw [List.length_take] at hlt
  rw [List.getElem?_take_of_lt (by omega)] at hy
  exact ⟨hy, by omega⟩
theorem opw_cut {t e : TypeId} {y : Ty} {p : Operand} {lo hi' : Option Operand} {d1 z : Nat} {α : Type} {d : α} {f : α → List C} {xs : List α} (l h : Nat) (hn : x.n = n) (htb : TbOk P tb) (hdo : dstOk n o.dst = true) (hop : o.op = .slice t p lo hi' none) (hp : val T p = .dat (.sl z d f xs))
    (hs : slOf tb t = some (e, y)) (hz : Nat.beq y.size z = true) (hd : o.dst = some d1) (hlo : Bnd T lo 0 l) (hhi : Bnd T hi' xs.length h) (hlh : l ≤ h) (hh : h ≤ xs.length)
    (hw : Wc P x R k ((d1, .dat (.sl z d f ((xs.take h).drop l))) :: T) M) : OpW P x R o k T M := by
  intro m a w hr
  obtain ⟨ht, hty2⟩ := slOf_ok htb hs
  obtain ⟨i, hi, his, _⟩ := (htb e y hty2).info
  have hze : i.size = z := by rw [his]; exact nbeq_t.1 hz
  have hpv := val_ok hr p
  rw [hp] at hpv
  obtain ⟨A, c, hpe, hrow⟩ := rf_sl hpv
  have hhc : h ≤ c := by
    rcases Nat.eq_zero_or_pos xs.length with h0 | h0
    · omega
    · obtain ⟨_, _, _, _, hc, _⟩ := hrow h0; omega
  have hrun := run_cut (P := P) (w := w) i ht hi A xs.length c (lo.map a.eval) (hi'.map a.eval) l h (bnd_val hr hlo) (bnd_val hr hhi) hlh hhc
  have hex : (execOp a.eval o).run P w = .ok (.value (.slice (if c = l then A else A.map (·.add (l * i.size))) (h - l) (c - l))) w := by
    simp only [execOp, hop, hpe, Sem.run_bind, Option.map_none, hrun, Result.andThen_ok, Sem.run_pure]
  have hlen : ((xs.take h).drop l).length = h - l := by rw [List.length_drop, List.length_take]; omega
  refine opw_value hn hdo hd hex hr ?_ hw
  show Rf (Own x.S0 (mm M) m) w _ _
  rcases Nat.eq_zero_or_pos (h - l) with h0 | h0
  · have : (xs.take h).drop l = [] := List.length_eq_zero_iff.1 (by omega)
    rw [this, h0]; exact .nil _ _ z d f
  · obtain ⟨b, oo, rfl, hz0, hc, hm, hS, hl, hcc⟩ := hrow (by omega)
    rw [if_neg (by omega), Option.map_some, plain_add, hze]
    have hall : ∀ i' y' j q, ((xs.take h).drop l)[i']? = some y' → (f y')[j]? = some q → ∃ u, w.cell? ⟨b, oo + l * z + i' * z + j, none⟩ = some u ∧ Rf (Own x.S0 (mm M) m) w u q := fun i' y' j q hi' hj => by
      obtain ⟨h1, _⟩ := cut_get hi'
      obtain ⟨u, h3, h4⟩ := hcc _ y' j q h1 hj
      exact ⟨u, by rw [Nat.add_assoc oo, ← Nat.add_mul]; exact h3, h4⟩
    refine .row b (oo + l * z) (c - l) z (h - l) d f _ (fun i' j => (w.cell? ⟨b, oo + l * z + i' * z + j, none⟩).getD undef) hlen.symm (by omega) hz0 (by omega) (by omega) hS (fun y' hy' => hl y' (List.mem_of_mem_take (List.mem_of_mem_drop hy'))) (fun i' y' j q hi' hj => ?_) (fun i' y' j q hi' hj => ?_)
    · obtain ⟨u, h3, _⟩ := hall i' y' j q hi' hj; rw [h3]; rfl
    · obtain ⟨u, h3, h4⟩ := hall i' y' j q hi' hj
      show Rf _ w ((w.cell? ⟨b, oo + l * z + i' * z + j, none⟩).getD undef) q
      rw [h3]; exact h4
/-! ### the words -/
theorem go_lit (hn : x.n = n) (htb : TbOk P tb) {s : Prop} {T1 : Tl} {M1 : Ml} {k1 : List It} {t e : TypeId} {y : Ty} {d1 len : Nat} {parts : Array (Nat × Operand)} {cont : List (List C)} {α : Type} (d : α) (f : α → List C) (ys : List α) (ho : run tb n 1000 T M True k = .oth o s T1 M1 k1) (hs : s) (hop : o.op = .buildSlice t len parts)
    (hsl : slOf tb t = some (e, y)) (hb : bsF T1 (mm M1) y 0 parts.toList = some cont) (hlen : Nat.beq parts.toList.length len = true) (hsm : Nat.ble (len * y.size) 16777216 = true) (hd : o.dst = some d1) (hf : fresh T1 M1 d1 = true) (hd1 : mm M1 d1 = none) (hys : cont = ys.map f)
    (h : Wc P x R k1 ((d1, .own d1) :: T1) ((d1, some (.row e y.size d f ys)) :: M1)) : Wc P x R k T M :=
  go hn htb ho ⟨hs, fun hdo => opw_lit f ys hn htb hdo hop hsl hb hlen hsm hd hf hd1 hys h⟩
theorem go_cut (hn : x.n = n) (htb : TbOk P tb) {s : Prop} {T1 : Tl} {M1 : Ml} {k1 : List It} {t e : TypeId} {y : Ty} {p : Operand} {lo hi' : Option Operand} {d1 z : Nat} {α : Type} {d : α} {f : α → List C} {xs : List α} (l h : Nat) (ho : run tb n 1000 T M True k = .oth o s T1 M1 k1) (hs : s) (hop : o.op = .slice t p lo hi' none) (hp : val T1 p = .dat (.sl z d f xs))
    (hsl : slOf tb t = some (e, y)) (hz : Nat.beq y.size z = true) (hd : o.dst = some d1) (hlo : Bnd T1 lo 0 l) (hhi : Bnd T1 hi' xs.length h) (hlh : l ≤ h) (hh : h ≤ xs.length)
    (hw : Wc P x R k1 ((d1, .dat (.sl z d f ((xs.take h).drop l))) :: T1) M1) : Wc P x R k T M :=
  go hn htb ho ⟨hs, fun hdo => opw_cut l h hn htb hdo hop hp hsl hz hd hlo hhi hlh hh hw⟩
end
end Go.Proofs.YtjmefaihkblliaaGreat.Ab
/- The abstract machine: operations that only read, in whatever order. Conditions: none. -/
namespace Go.Proofs.YtjmefaihkblliaaGreat.Ab
open Go.RowKit
set_option linter.unusedVariables false
set_option linter.unusedSimpArgs false
def pureOp : Op → Bool
  | .move _ => true
  | .assign _ => true
  | .build _ _ => true
  | .unOp _ _ _ => true
  | .pick _ _ _ => true
  | .nilCheck _ => true
  | .binOp _ _ _ _ _ => true
  | .load _ _ => true
  | .fieldAddr _ _ _ => true
  | .indexAddr _ _ _ => true
  | .extract _ _ => true
  | .call c => match c.callee with
    | .builtin .len => true
    | .builtin .max => true
    | .builtin .min => true
    | _ => false
  | _ => false
structure Alike (T T' : Tl) (M M' : Ml) (xs : List Operand) : Prop where
  val : ∀ q ∈ xs, val T q = val T' q
  mem : ∀ q ∈ xs, ∀ id, (Ab.val T q).on1 id → mm M id = mm M' id
theorem out_congr0 {n : Nat} {T T' : Tl} {M M' : Ml} {s s1 : Option Prop} {o : Oper} {l : LV} {T1 : Tl} {M1 : Ml} (h : out n T M s o l = some (s1, T1, M1)) : T1 = putd o.dst l T ∧ M1 = M ∧ out n T' M' s o l = some (s1, putd o.dst l T', M') := by
  obtain ⟨rfl, rfl, rfl, hd⟩ := out_eq h
  refine ⟨rfl, rfl, ?_⟩
  unfold out putd
  unfold dstOk at hd
  cases hdo : o.dst with
  | none => rfl
  | some t => rw [hdo] at hd; simp only [hd]
theorem out_congr {n : Nat} {T T' : Tl} {M M' : Ml} {s s1 : Option Prop} {o : Oper} {l : LV} {T1 : Tl} {M1 : Ml} (h : out n T M s o l = some (s1, T1, M1)) : ∃ l1, T1 = putd o.dst l1 T ∧ M1 = M ∧ out n T' M' s o l = some (s1, putd o.dst l1 T', M') := ⟨l, out_congr0 h⟩
theorem fl_of {β : Type 1} {l : LV} {k : LV → Option β} (hl : l ≠ .no) : fl l k = k l := by cases l <;> first | rfl | exact absurd rfl hl
theorem fl_congr {n : Nat} {T T' : Tl} {M M' : Ml} {s s1 : Option Prop} {o : Oper} {l : LV} {T1 : Tl} {M1 : Ml} (h : fl l (out n T M s o) = some (s1, T1, M1)) : ∃ l1, T1 = putd o.dst l1 T ∧ M1 = M ∧ fl l (out n T' M' s o) = some (s1, putd o.dst l1 T', M') := by
  have h1 := fl_eq h
  have hl : l ≠ .no := by rintro rfl; cases h
  rw [fl_of hl]
  exact ⟨l, out_congr0 h1⟩
theorem bind_congr {n : Nat} {T T' : Tl} {M M' : Ml} {s s1 : Option Prop} {o : Oper} {e : Option LV} {T1 : Tl} {M1 : Ml} (h : e.bind (out n T M s o) = some (s1, T1, M1)) : ∃ l1, T1 = putd o.dst l1 T ∧ M1 = M ∧ e.bind (out n T' M' s o) = some (s1, putd o.dst l1 T', M') := by
  obtain ⟨l, hl, h⟩ := Option.bind_eq_some_iff.1 h
  obtain ⟨h1, h2, h3⟩ := out_congr0 (T' := T') (M' := M') h
  exact ⟨l, h1, h2, by rw [hl]; exact h3⟩
theorem bldF_congr {tb : Tb} {T T' : Tl} {fields : List (Nat × TypeId)} : ∀ {ps : List (Nat × Operand)} {cur : List LV}, (∀ p ∈ ps, val T p.2 = val T' p.2) → bldF tb T fields cur ps = bldF tb T' fields cur ps
  | [], cur, _ => rfl
  | (i, q) :: r, cur, h => by
    have h0 := h (i, q) List.mem_cons_self
    have ih : ∀ cur, bldF tb T fields cur r = bldF tb T' fields cur r := fun cur => bldF_congr (fun p hp => h p (List.mem_cons_of_mem _ hp))
    simp only [bldF]
    have h0' : val T q = val T' q := h0
    rw [h0']
    simp only [ih]
theorem opF_congr {tb : Tb} {n : Nat} {o : Oper} {T T' : Tl} {M M' : Ml} {s : Option Prop} {T1 : Tl} {M1 : Ml} (hp : pureOp o.op = true) (ha : Alike T T' M M' o.op.operands.toList) (h : opF tb n o T M = some (s, T1, M1)) :
    ∃ l, T1 = putd o.dst l T ∧ M1 = M ∧ opF tb n o T' M' = some (s, putd o.dst l T', M') := by
  cases hop : o.op with
  | move q =>
    have hv := ha.val q (by rw [hop]; simp [Op.operands])
    simp only [opF, hop] at h ⊢
    rw [hv] at h; exact fl_congr h
  | assign q =>
    have hv := ha.val q (by rw [hop]; simp [Op.operands])
    simp only [opF, hop] at h ⊢
    rw [hv] at h; exact fl_congr h
  | build t ps =>
    have hv : ∀ p ∈ ps.toList, val T p.2 = val T' p.2 := fun p hp => ha.val p.2 (by
      rw [hop]; simp only [Op.operands, Array.toList_map, List.mem_map]; exact ⟨p, hp, rfl⟩)
    simp only [opF, hop] at h ⊢
    split at h
    · rename_i y hy
      split at h
      · rename_i hk
        rw [bldF_congr hv] at h
        obtain ⟨l, hl, h⟩ := Option.bind_eq_some_iff.1 h
        simp only [hl, Option.bind_some]
        exact out_congr h
      · cases h
    · cases h
  | unOp u t q =>
    have hv := ha.val q (by rw [hop]; simp [Op.operands])
    cases u <;> simp only [opF, hop] at h ⊢ <;> try cases h
    rw [hv] at h
    generalize val T' q = v at h ⊢
    cases v with
    | known b => cases b <;> exact out_congr h
    | dat c => cases c <;> first | exact out_congr h | cases h
    | _ => cases h
  | pick c p q =>
    have hv := ha.val c (by rw [hop]; simp [Op.operands])
    have hv1 := ha.val p (by rw [hop]; simp [Op.operands])
    have hv2 := ha.val q (by rw [hop]; simp [Op.operands])
    simp only [opF, hop] at h ⊢
    rw [hv, hv1, hv2] at h
    generalize val T' c = v at h ⊢
    cases v with
    | known b => cases b <;> exact fl_congr h
    | _ => cases h
  | nilCheck q =>
    have hv := ha.val q (by rw [hop]; simp [Op.operands])
    have hm := ha.mem q (by rw [hop]; simp [Op.operands])
    simp only [opF, hop] at h ⊢
    rw [hv] at h hm
    generalize val T' q = v at h hm ⊢
    cases v with
    | spt cs off => exact out_congr h
    | ptr id off =>
      simp only [← hm id rfl]
      cases hb : mm M id with
      | none => simp only [hb] at h; cases h
      | some b => simp only [hb] at h ⊢; exact out_congr h
    | ept id i off =>
      simp only [← hm id rfl]
      cases hb : mm M id with
      | none => simp only [hb] at h; cases h
      | some b =>
        simp only [hb] at h ⊢
        cases b with
        | box t v => cases h
        | row e z d f xs => exact out_congr h
    | _ => cases h
  | binOp b t p q ty =>
    have hv1 := ha.val p (by rw [hop]; simp [Op.operands])
    have hv2 := ha.val q (by rw [hop]; simp [Op.operands])
    simp only [opF, hop] at h ⊢
    rw [hv1, hv2] at h
    cases hb : bin b (val T' p) (val T' q) with
    | some r => obtain ⟨s0, l⟩ := r; simp only [hb] at h ⊢; exact out_congr h
    | none =>
      simp only [hb] at h ⊢
      obtain ⟨y, hy, h⟩ := Option.bind_eq_some_iff.1 h
      simp only [hy, Option.bind_some]
      exact bind_congr h
  | load t q =>
    have hv := ha.val q (by rw [hop]; simp [Op.operands])
    have hm := ha.mem q (by rw [hop]; simp [Op.operands])
    simp only [opF, hop] at h ⊢
    rw [hv] at h hm
    generalize val T' q = v at h hm ⊢
    cases hy : tb t with
    | none => simp only [hy] at h; cases h
    | some y =>
      simp only [hy] at h ⊢
      cases v with
      | spt cs off => exact bind_congr h
      | ptr id off =>
        simp only [← hm id rfl]
        cases hb : mm M id with
        | none => simp only [hb] at h; cases h
        | some b =>
          simp only [hb] at h ⊢
          cases b with
          | box t v => exact bind_congr h
          | row e z d f xs => cases h
      | ept id i off =>
        simp only [← hm id rfl]
        cases hb : mm M id with
        | none => simp only [hb] at h; cases h
        | some b =>
          simp only [hb] at h ⊢
          cases b with
          | box t v => cases h
          | row e z d f xs => exact bind_congr h
      | _ => cases h
  | fieldAddr t q i =>
    have hv := ha.val q (by rw [hop]; simp [Op.operands])
    have hm := ha.mem q (by rw [hop]; simp [Op.operands])
    simp only [opF, hop] at h ⊢
    rw [hv] at h hm
    generalize val T' q = v at h hm ⊢
    cases hy : tb t with
    | none => simp only [hy] at h; cases h
    | some y =>
      simp only [hy] at h ⊢
      cases hk : y.kd with
      | st =>
        simp only [hk] at h ⊢
        cases hf : nth y.fields i with
        | none => simp only [hf] at h; cases h
        | some r =>
          obtain ⟨fo, ft⟩ := r
          simp only [hf] at h ⊢
          cases v with
          | spt cs off => exact out_congr h
          | ptr id off =>
            simp only [← hm id rfl]
            cases hb : mm M id with
            | none => simp only [hb] at h; cases h
            | some b => simp only [hb] at h ⊢; exact out_congr h
          | ept id j off =>
            simp only [← hm id rfl]
            cases hb : mm M id with
            | none => simp only [hb] at h; cases h
            | some b =>
              simp only [hb] at h ⊢
              cases b with
              | box t v => cases h
              | row e z d f xs => exact out_congr h
          | _ => cases h
      | _ => simp only [hk] at h; cases h
  | indexAddr t p q =>
    have hv1 := ha.val p (by rw [hop]; simp [Op.operands])
    have hv2 := ha.val q (by rw [hop]; simp [Op.operands])
    have hm := ha.mem p (by rw [hop]; simp [Op.operands])
    simp only [opF, hop] at h ⊢
    rw [hv1, hv2] at h
    rw [hv1] at hm
    generalize val T' p = v at h hm ⊢
    generalize val T' q = u at h ⊢
    cases hy : tb t with
    | none => simp only [hy] at h; cases h
    | some y =>
      simp only [hy] at h ⊢
      cases hk : y.kd with
      | sl e =>
        simp only [hk] at h ⊢
        cases u with
        | dat c => cases c with
          | int kq i => cases v with
            | dat c => cases c with
              | sl z d f xs =>
                cases hz : sizeIs tb e z with
                | true => simp only [hz] at h ⊢; exact out_congr h
                | false => simp only [hz] at h; cases h
              | _ => cases h
            | own id =>
              simp only [← hm id rfl]
              cases hb : mm M id with
              | none => simp only [hb] at h; cases h
              | some b =>
                simp only [hb] at h ⊢
                cases b with
                | box t v => cases h
                | row e' z d f xs =>
                  cases hz : sizeIs tb e z with
                  | true => simp only [hz] at h ⊢; exact out_congr h
                  | false => simp only [hz] at h; cases h
            | _ => cases h
          | _ => cases v <;> first | cases h | (rename_i c; cases c <;> cases h)
        | _ => cases v <;> first | cases h | (rename_i c; cases c <;> cases h)
      | _ => simp only [hk] at h; cases h
  | extract q i =>
    have hv := ha.val q (by rw [hop]; simp [Op.operands])
    simp only [opF, hop] at h ⊢
    rw [hv] at h
    generalize val T' q = v at h ⊢
    cases v with
    | tup ls =>
      obtain ⟨l, hl, h⟩ := Option.bind_eq_some_iff.1 h
      simp only [hl, Option.bind_some]
      exact fl_congr h
    | _ => cases h
  | call c =>
    simp only [opF, hop] at h ⊢
    split at h
    · rename_i p t hc hargs hty
      have hpm : p ∈ o.op.operands.toList := by
        rw [hop]
        have : p ∈ c.args.toList := by rw [hargs]; exact List.mem_cons_self
        simp only [Op.operands, Call.operands, Array.toList_append, List.mem_append]
        exact .inr this
      have hv := ha.val p hpm
      have hm := ha.mem p hpm

      obtain ⟨y, hy, h⟩ := Option.bind_eq_some_iff.1 h
      obtain ⟨j, hj, h⟩ := Option.bind_eq_some_iff.1 h
      have hj' : lenOf (mm M') y (val T' p) = some j := by
        rw [hv] at hj hm
        generalize val T' p = v at hj hm ⊢
        unfold lenOf at hj ⊢
        cases v with
        | own id =>
          have hmm := hm id rfl
          cases hk : y.kd <;> simp only [hk] at hj ⊢ <;> first
            | (rw [hmm] at hj; exact hj)
            | cases hj
        | dat c => cases hk : y.kd <;> simp only [hk] at hj ⊢ <;> cases c <;> first | exact hj | cases hj
        | _ => cases hk : y.kd <;> simp only [hk] at hj ⊢ <;> first | exact hj | cases hj
      simp only [hy, Option.bind_some, hj']
      exact out_congr h
    · rename_i p q hc hargs
      have hin : ∀ r ∈ [p, q], r ∈ o.op.operands.toList := fun r hr => by
        rw [hop]
        have : r ∈ c.args.toList := by rw [hargs]; exact hr
        simp only [Op.operands, Call.operands, Array.toList_append, List.mem_append]
        exact .inr this
      rw [ha.val p (hin p (by simp)), ha.val q (hin q (by simp))] at h
      split at h
      · rename_i i j hi hj
        exact out_congr h
      · cases h
    · rename_i p q hc hargs
      have hin : ∀ r ∈ [p, q], r ∈ o.op.operands.toList := fun r hr => by
        rw [hop]
        have : r ∈ c.args.toList := by rw [hargs]; exact hr
        simp only [Op.operands, Call.operands, Array.toList_append, List.mem_append]
        exact .inr this
      rw [ha.val p (hin p (by simp)), ha.val q (hin q (by simp))] at h
      split at h
      · rename_i i j hi hj
        exact out_congr h
      · cases h
    · cases h
  | _ => rw [hop] at hp; cases hp
end Go.Proofs.YtjmefaihkblliaaGreat.Ab
/- The abstract machine: a region of open order, by one relation over what is listed. Conditions: none. -/
namespace Go.Proofs.YtjmefaihkblliaaGreat.Ab
open Go.RowKit
set_option linter.unusedVariables false
set_option linter.unusedSimpArgs false
section
variable {P : Program} {ops : Array Oper} {Q : Exit → Act → World → Prop}
def left (n : Nat) (listed : Array Bool) : Nat := ((List.range n).filter fun i => !listed.getD i false).length
theorem left_zero {n : Nat} {listed : Array Bool} (h : left n listed = 0) : ∀ i, i < n → listed.getD i false = true := fun i hi => by
  unfold left at h
  have h1 := List.length_eq_zero_iff.1 h
  have h2 := List.filter_eq_nil_iff.1 h1 i (List.mem_range.2 hi)
  simpa using h2
theorem filter_lt {β : Type} {p q : β → Bool} : ∀ {l : List β} {x : β}, x ∈ l → p x = true → q x = false → (∀ y, q y = true → p y = true) → (l.filter q).length < (l.filter p).length
  | [], x, h, _, _, _ => by cases h
  | y :: l, x, h, hp, hq, hpq => by
    have hle : (l.filter q).length ≤ (l.filter p).length := by
      clear h
      induction l with
      | nil => simp
      | cons z l ih =>
        simp only [List.filter_cons]
        by_cases hz : q z = true
        · rw [if_pos hz, if_pos (hpq z hz)]; simp only [List.length_cons]; omega
        · rw [if_neg hz]; split <;> first | (simp only [List.length_cons]; omega) | omega
    rcases List.mem_cons.1 h with rfl | h
    · simp only [List.filter_cons, hp, hq, if_true, Bool.false_eq_true, if_false, List.length_cons]; omega
    · have ih := filter_lt h hp hq hpq
      simp only [List.filter_cons]
      by_cases hy : q y = true
      · rw [if_pos hy, if_pos (hpq y hy)]; simp only [List.length_cons]; omega
      · rw [if_neg hy]; split <;> first | (simp only [List.length_cons]; omega) | omega
theorem getD_set (listed : Array Bool) (i j : Nat) : (listed.setIfInBounds i true).getD j false = true ↔ (listed.getD j false = true ∨ (j = i ∧ i < listed.size)) := by
  rw [Array.getD_eq_getD_getElem?, Array.getD_eq_getD_getElem?]
  by_cases hij : j = i
  · subst hij
    by_cases hl : j < listed.size
    · rw [Array.getElem?_setIfInBounds_self_of_lt hl]; simp [hl]
    · rw [Array.getElem?_eq_none (by simp; omega), Array.getElem?_eq_none (by omega)]; simp [hl]
  · rw [Array.getElem?_setIfInBounds_ne (fun e => hij e.symm)]; simp [hij]
theorem left_set {listed : Array Bool} {i : Nat} (hs : listed.size = ops.size) (hi : i < ops.size) (hn : listed.getD i false = false) : left ops.size (listed.setIfInBounds i true) < left ops.size listed := by
  refine filter_lt (List.mem_range.2 hi) (by simp [hn]) ?_ (fun y hy => ?_)
  · have := (getD_set listed i i).2 (.inr ⟨rfl, by omega⟩); rw [this]; rfl
  · cases hg : listed.getD y false with
    | false => rfl
    | true =>
      have := (getD_set listed i y).2 (.inl hg)
      rw [this] at hy; cases hy
theorem wpAny_inv (Inv : Array Bool → Act → World → Prop)
    (hst : ∀ listed i a w, listed.size = ops.size → i ∈ Region.ready .any ops listed → Inv listed a w → wpOp P ops Q i (fun a w => Inv (listed.setIfInBounds i true) a w) a w)
    (hend : ∀ listed a w, listed.size = ops.size → (∀ i, i < ops.size → listed.getD i false = true) → Inv listed a w → Q .normal a w)
    (hac : ∀ i o, ops[i]? = some o → ∀ e ∈ o.after, Region.binds .any e = true → e.on < i) :
    ∀ (fuel : Nat) (listed : Array Bool) (a : Act) (w : World), listed.size = ops.size → left ops.size listed ≤ fuel → Inv listed a w → wpAny P .any ops Q fuel listed a w := by
  have hready : ∀ listed : Array Bool, listed.size = ops.size → Region.ready .any ops listed = [] → ∀ i, i < ops.size → listed.getD i false = true := by
    intro listed hs hr
    apply Classical.byContradiction
    intro hno
    have hex : ∃ i, i < ops.size ∧ listed.getD i false = false := by
      apply Classical.byContradiction
      intro h2
      exact hno fun i hi => by
        cases hg : listed.getD i false with
        | true => rfl
        | false => exact absurd ⟨i, hi, hg⟩ h2
    obtain ⟨i, ⟨hi, hg⟩, hleast⟩ := exists_least hex
    have hmem : i ∈ Region.ready .any ops listed := by
      unfold Region.ready
      rw [List.mem_filter]
      refine ⟨List.mem_range.2 hi, ?_⟩
      have ho := Array.getElem?_eq_getElem hi
      have hgt : listed.getD i true = false := by
        rw [Array.getD_eq_getD_getElem?, Array.getElem?_eq_getElem (by omega)] at hg ⊢; exact hg
      rw [hgt, ho]
      simp only [Bool.not_false, Bool.true_and, Option.map_some, Option.getD_some]
      rw [Array.all_eq_true']
      intro e he
      cases hb : Region.binds .any e with
      | false => rfl
      | true =>
        have hlt := hac i _ ho e he hb
        cases hge : listed.getD e.on false with
        | true => rfl
        | false => have := hleast e.on ⟨by omega, hge⟩; omega
    rw [hr] at hmem; cases hmem
  intro fuel
  induction fuel with
  | zero =>
    intro listed a w hs hl hI
    have hall := left_zero (Nat.le_zero.1 hl)
    refine ⟨?_, hend listed a w hs hall hI⟩
    rw [List.eq_nil_iff_forall_not_mem]
    intro i hi
    unfold Region.ready at hi
    rw [List.mem_filter] at hi
    have h1 := hall i (List.mem_range.1 hi.1)
    have h2 : listed.getD i true = true := by
      rw [Array.getD_eq_getD_getElem?, Array.getElem?_eq_getElem (by have := List.mem_range.1 hi.1; omega)] at h1 ⊢; exact h1
    rw [h2] at hi; simp at hi
  | succ fuel ih =>
    intro listed a w hs hl hI
    refine ⟨fun hr => hend listed a w hs (hready listed hs hr) hI, fun i hi => ?_⟩
    have hi' := hi
    unfold Region.ready at hi'
    rw [List.mem_filter] at hi'
    have hlt := List.mem_range.1 hi'.1
    have hn : listed.getD i false = false := by
      cases hg : listed.getD i false with
      | false => rfl
      | true =>
        have h2 : listed.getD i true = true := by
          rw [Array.getD_eq_getD_getElem?, Array.getElem?_eq_getElem (by omega)] at hg ⊢; exact hg
        rw [h2] at hi'; simp at hi'
    exact wpOp_mono (fun a w hI' => ih _ a w (by rw [Array.size_setIfInBounds]; exact hs) (by have := left_set hs hlt hn; omega) hI') (hst listed i a w hs hi hI)
end
end Go.Proofs.YtjmefaihkblliaaGreat.Ab
/- The abstract machine: a region whose operations come up in any order, shown in the order in which they are written. Conditions: none. -/
namespace Go.Proofs.YtjmefaihkblliaaGreat.Ab
open Go.RowKit
set_option linter.unusedVariables false
set_option linter.unusedSimpArgs false
structure En : Type 1 where
  dst : Option Nat
  val : LV
  mem : Ml
  new : Option Nat
  ts : List Nat
  ms : List Nat
def elem (k : Nat) : List Nat → Bool
  | [] => false
  | j :: l => match Nat.beq j k with
    | true => true
    | false => elem k l
theorem elem_ok {k : Nat} : ∀ {l : List Nat}, elem k l = true ↔ k ∈ l
  | [] => by simp [elem]
  | j :: l => by
    unfold elem
    cases h : Nat.beq j k with
    | true => have := nbeq_t.1 h; subst this; simp
    | false =>
      have := nbeq.1 h
      show elem k l = true ↔ _
      rw [elem_ok, List.mem_cons]
      exact ⟨.inr, fun h => h.resolve_left (fun e => this e.symm)⟩
def keys : Ml → List Nat
  | [] => []
  | (k, _) :: r => k :: keys r
/-! ### what is known when some are done -/
def selT : List En → (Nat → Bool) → Nat → Tl → Tl
  | [], _, _, T => T
  | e :: l, b, i, T => selT l b (i + 1) (match b i with
    | true => putd e.dst e.val T
    | false => T)
def selM : List En → (Nat → Bool) → Nat → Ml → Ml
  | [], _, _, M => M
  | e :: l, b, i, M => selM l b (i + 1) (match b i with
    | true => e.mem ++ M
    | false => M)
def last {β : Type 1} (W : En → Option β) : List En → (Nat → Bool) → Nat → β → β
  | [], _, _, r => r
  | e :: l, b, i, r => last W l b (i + 1) (match b i with
    | true => (W e).getD r
    | false => r)
def wT (t : Nat) (e : En) : Option LV := match e.dst with
  | some d => match Nat.beq d t with
    | true => some e.val
    | false => none
  | none => none
def found (id : Nat) : Ml → Option (Option Blk)
  | [] => none
  | (k, v) :: r => match Nat.beq k id with
    | true => some v
    | false => found id r
theorem tm_putd (d : Option Nat) (v : LV) (T : Tl) (e : En) (hd : e.dst = d) (hv : e.val = v) (t : Nat) : tm (putd d v T) t = (wT t e).getD (tm T t) := by
  subst hd; subst hv
  unfold wT putd
  cases e.dst with
  | none => rfl
  | some d =>
    show (match Nat.beq d t with | true => e.val | false => look .no T t) = _
    dsimp only
    cases Nat.beq d t <;> rfl
theorem mm_app (E M : Ml) (id : Nat) : mm (E ++ M) id = (found id E).getD (mm M id) := by
  induction E with
  | nil => rfl
  | cons p E ih =>
    obtain ⟨k, v⟩ := p
    show (match Nat.beq k id with | true => v | false => look none (E ++ M) id) = _
    unfold found
    cases Nat.beq k id with
    | true => rfl
    | false => exact ih
theorem tm_selT (t : Nat) : ∀ (l : List En) (b : Nat → Bool) (i : Nat) (T : Tl), tm (selT l b i T) t = last (wT t) l b i (tm T t)
  | [], b, i, T => rfl
  | e :: l, b, i, T => by
    rw [selT, last, tm_selT t l]
    cases b i with
    | true => dsimp only; rw [tm_putd _ _ T e rfl rfl]
    | false => rfl
theorem mm_selM (id : Nat) : ∀ (l : List En) (b : Nat → Bool) (i : Nat) (M : Ml), mm (selM l b i M) id = last (fun e => found id e.mem) l b i (mm M id)
  | [], b, i, M => rfl
  | e :: l, b, i, M => by
    rw [selM, last, mm_selM id l]
    cases b i with
    | true => dsimp only; rw [mm_app]
    | false => rfl
theorem last_congr {β : Type 1} {W : En → Option β} : ∀ {l : List En} {b b' : Nat → Bool} {i : Nat} {r : β}, (∀ (j : Nat) e, l[j]? = some e → W e ≠ none → b (i + j) = b' (i + j)) → last W l b i r = last W l b' i r
  | [], b, b', i, r, h => rfl
  | e :: l, b, b', i, r, h => by
    rw [last, last]
    have ht : ∀ (j : Nat) e', l[j]? = some e' → W e' ≠ none → b (i + 1 + j) = b' (i + 1 + j) := fun j e' hj hw => by
      have := h (j + 1) e' hj hw
      rwa [show i + (j + 1) = i + 1 + j by omega] at this
    cases hw : W e with
    | none =>
      have e1 : ∀ q : Bool, (match q with | true => (none : Option β).getD r | false => r) = r := fun q => by cases q <;> rfl
      rw [e1, e1]
      exact last_congr ht
    | some v =>
      have := h 0 e rfl (by rw [hw]; exact fun h => by cases h)
      rw [Nat.add_zero] at this
      rw [this]
      exact last_congr ht
theorem last_at {β : Type 1} {W : En → Option β} {v : β} : ∀ {l : List En} {b : Nat → Bool} {i j0 : Nat} {e0 : En} {r : β}, l[j0]? = some e0 → W e0 = some v → b (i + j0) = true → (∀ (j : Nat) e, j0 < j → l[j]? = some e → W e ≠ none → b (i + j) = false) → last W l b i r = v
  | [], b, i, j0, e0, r, h0, _, _, _ => by cases h0
  | e :: l, b, i, 0, e0, r, h0, hw, hb, h => by
    have he : e = e0 := by simpa using h0
    subst he
    rw [last]
    rw [Nat.add_zero] at hb
    rw [hb, hw]
    have : ∀ {l : List En} {i : Nat} {r : β}, (∀ (j : Nat) e, l[j]? = some e → W e ≠ none → b (i + j) = false) → last W l b i r = r := by
      intro l
      induction l with
      | nil => intro i r _; rfl
      | cons e l ih =>
        intro i r h
        rw [last]
        cases hw : W e with
        | none =>
          have e1 : (match b i with | true => (none : Option β).getD r | false => r) = r := by cases b i <;> rfl
          rw [e1]
          exact ih (fun j e' hj hne => by have := h (j + 1) e' hj hne; rwa [show i + (j + 1) = i + 1 + j by omega] at this)
        | some v =>
          have := h 0 e rfl (by rw [hw]; exact fun h => by cases h)
          rw [Nat.add_zero] at this
          rw [this]
          exact ih (fun j e' hj hne => by have := h (j + 1) e' hj hne; rwa [show i + (j + 1) = i + 1 + j by omega] at this)
    exact this (fun j e' hj hne => by have := h (j + 1) e' (by omega) hj hne; rwa [show i + (j + 1) = i + 1 + j by omega] at this)
  | e :: l, b, i, j0 + 1, e0, r, h0, hw, hb, h => by
    rw [last]
    exact last_at (i := i + 1) (j0 := j0) (e0 := e0) h0 hw (by rwa [show i + 1 + j0 = i + (j0 + 1) by omega]) (fun j e' hj hl hne => by have := h (j + 1) e' (by omega) hl hne; rwa [show i + (j + 1) = i + 1 + j by omega] at this)
theorem selT_congr : ∀ {l : List En} {b b' : Nat → Bool} {i : Nat} {T : Tl}, (∀ j, j < l.length → b (i + j) = b' (i + j)) → selT l b i T = selT l b' i T
  | [], b, b', i, T, h => rfl
  | e :: l, b, b', i, T, h => by
    have h0 := h 0 (by simp)
    rw [Nat.add_zero] at h0
    rw [selT, selT, h0]
    exact selT_congr (fun j hj => by have := h (j + 1) (by simp; omega); rwa [show i + (j + 1) = i + 1 + j by omega] at this)
theorem selM_congr : ∀ {l : List En} {b b' : Nat → Bool} {i : Nat} {M : Ml}, (∀ j, j < l.length → b (i + j) = b' (i + j)) → selM l b i M = selM l b' i M
  | [], b, b', i, M, h => rfl
  | e :: l, b, b', i, M, h => by
    have h0 := h 0 (by simp)
    rw [Nat.add_zero] at h0
    rw [selM, selM, h0]
    exact selM_congr (fun j hj => by have := h (j + 1) (by simp; omega); rwa [show i + (j + 1) = i + 1 + j by omega] at this)
theorem selT_none : ∀ {l : List En} {b : Nat → Bool} {i : Nat} {T : Tl}, (∀ j, i ≤ j → b j = false) → selT l b i T = T
  | [], b, i, T, h => rfl
  | e :: l, b, i, T, h => by rw [selT, h i (Nat.le_refl _)]; exact selT_none (fun j hj => h j (by omega))
theorem selM_none : ∀ {l : List En} {b : Nat → Bool} {i : Nat} {M : Ml}, (∀ j, i ≤ j → b j = false) → selM l b i M = M
  | [], b, i, M, h => rfl
  | e :: l, b, i, M, h => by rw [selM, h i (Nat.le_refl _)]; exact selM_none (fun j hj => h j (by omega))
def En.free (id : Nat) (e : En) : Bool := (match e.dst with
  | some _ => e.val.free id
  | none => true) && freeM id e.mem
theorem freeT_putd {id : Nat} {e : En} {T : Tl} (h : freeT id T = true) (he : e.free id = true) : freeT id (putd e.dst e.val T) = true := by
  unfold En.free at he
  unfold putd
  cases hd : e.dst with
  | none => exact h
  | some d =>
    rw [hd] at he
    simp only [Bool.and_eq_true] at he
    show (e.val.free id && freeT id T) = true
    rw [he.1, h]; rfl
theorem freeM_app {id : Nat} : ∀ {E M : Ml}, freeM id E = true → freeM id M = true → freeM id (E ++ M) = true
  | [], M, _, h => h
  | (k, none) :: E, M, he, h => freeM_app (E := E) he h
  | (k, some (.row ..)) :: E, M, he, h => freeM_app (E := E) he h
  | (k, some (.box t v)) :: E, M, he, h => by
    have he' : (v.free2 id && freeM id E) = true := he
    simp only [Bool.and_eq_true] at he'
    show (v.free2 id && freeM id (E ++ M)) = true
    rw [he'.1, freeM_app he'.2 h]; rfl
theorem freeT_sel {id : Nat} : ∀ {l : List En} {b : Nat → Bool} {i : Nat} {T : Tl}, freeT id T = true → (∀ (j : Nat) e, l[j]? = some e → b (i + j) = true → e.free id = true) → freeT id (selT l b i T) = true
  | [], b, i, T, h, _ => h
  | e :: l, b, i, T, h, hl => by
    rw [selT]
    refine freeT_sel ?_ (fun j e' hj hb => hl (j + 1) e' hj (by rwa [show i + (j + 1) = i + 1 + j by omega]))
    have h0 := hl 0 e rfl
    rw [Nat.add_zero] at h0
    cases hb : b i with
    | true => exact freeT_putd h (h0 hb)
    | false => exact h
theorem freeM_sel {id : Nat} : ∀ {l : List En} {b : Nat → Bool} {i : Nat} {M : Ml}, freeM id M = true → (∀ (j : Nat) e, l[j]? = some e → b (i + j) = true → e.free id = true) → freeM id (selM l b i M) = true
  | [], b, i, M, h, _ => h
  | e :: l, b, i, M, h, hl => by
    rw [selM]
    refine freeM_sel ?_ (fun j e' hj hb => hl (j + 1) e' hj (by rwa [show i + (j + 1) = i + 1 + j by omega]))
    have h0 := hl 0 e rfl
    rw [Nat.add_zero] at h0
    cases hb : b i with
    | true =>
      have := h0 hb
      unfold En.free at this
      simp only [Bool.and_eq_true] at this
      exact freeM_app this.2 h
    | false => exact h
/-! ### what must come first -/
def insN (k : Nat) (l : List Nat) : List Nat := match elem k l with
  | true => l
  | false => k :: l
def addN : List Nat → List Nat → List Nat
  | [], l => l
  | k :: r, l => addN r (insN k l)
theorem insN_mem {k j : Nat} {l : List Nat} (h : j ∈ insN k l) : j = k ∨ j ∈ l := by
  unfold insN at h
  split at h
  · exact .inr h
  · exact List.mem_cons.1 h
theorem addN_mem {j : Nat} : ∀ {r l : List Nat}, j ∈ addN r l → j ∈ r ∨ j ∈ l
  | [], l, h => .inr h
  | k :: r, l, h => by
    rcases addN_mem (r := r) h with h | h
    · exact .inl (List.mem_cons_of_mem _ h)
    · rcases insN_mem h with rfl | h
      · exact .inl List.mem_cons_self
      · exact .inr h
def onsOf : List Edge → List Nat
  | [] => []
  | e :: l => match Region.binds .any e with
    | true => e.on :: onsOf l
    | false => onsOf l
def deps (o : Oper) : List Nat := onsOf o.after.toList
theorem onsOf_mem {k : Nat} : ∀ {l : List Edge}, k ∈ onsOf l ↔ ∃ e ∈ l, Region.binds .any e = true ∧ e.on = k
  | [] => by simp [onsOf]
  | e :: l => by
    unfold onsOf
    cases h : Region.binds .any e with
    | true =>
      show k ∈ e.on :: onsOf l ↔ _
      rw [List.mem_cons, onsOf_mem]
      constructor
      · rintro (rfl | ⟨e', he, hb, hk⟩)
        · exact ⟨e, List.mem_cons_self, h, rfl⟩
        · exact ⟨e', List.mem_cons_of_mem _ he, hb, hk⟩
      · rintro ⟨e', he, hb, hk⟩
        rcases List.mem_cons.1 he with rfl | he
        · exact .inl hk.symm
        · exact .inr ⟨e', he, hb, hk⟩
    | false =>
      show k ∈ onsOf l ↔ _
      rw [onsOf_mem]
      constructor
      · rintro ⟨e', he, hb, hk⟩; exact ⟨e', List.mem_cons_of_mem _ he, hb, hk⟩
      · rintro ⟨e', he, hb, hk⟩
        rcases List.mem_cons.1 he with rfl | he
        · rw [h] at hb; cases hb
        · exact ⟨e', he, hb, hk⟩
theorem deps_mem {o : Oper} {k : Nat} : k ∈ deps o ↔ ∃ e ∈ o.after, Region.binds .any e = true ∧ e.on = k := by
  unfold deps; rw [onsOf_mem]
  constructor
  · rintro ⟨e, he, h⟩; exact ⟨e, Array.mem_toList_iff.1 he, h⟩
  · rintro ⟨e, he, h⟩; exact ⟨e, Array.mem_toList_iff.2 he, h⟩
def ancs (acc : List (List Nat)) : List Oper → List (List Nat)
  | [] => acc
  | o :: l => ancs (acc ++ [addN (deps o) (upTo acc (deps o))]) l
where
  upTo (acc : List (List Nat)) : List Nat → List Nat
    | [] => []
    | d :: r => addN ((nth acc d).getD []) (upTo acc r)
def Down (all : List Oper) (b : Nat → Bool) : Prop := ∀ (i : Nat) o, all[i]? = some o → b i = true → ∀ k ∈ deps o, b k = true
def Ahead (all : List Oper) (i j : Nat) : Prop := ∀ b, Down all b → (∀ o, all[i]? = some o → ∀ k ∈ deps o, b k = true) → b j = true
theorem upTo_mem {acc : List (List Nat)} {j : Nat} : ∀ {r : List Nat}, j ∈ ancs.upTo acc r → ∃ d ∈ r, ∃ l, acc[d]? = some l ∧ j ∈ l
  | [], h => by cases h
  | d :: r, h => by
    rcases addN_mem (show j ∈ addN ((nth acc d).getD []) (ancs.upTo acc r) from h) with h | h
    · rw [nth_eq] at h
      cases hd : acc[d]? with
      | none => rw [hd] at h; cases h
      | some l => rw [hd] at h; exact ⟨d, List.mem_cons_self, l, hd, h⟩
    · obtain ⟨d', hd', h⟩ := upTo_mem h
      exact ⟨d', List.mem_cons_of_mem _ hd', h⟩
theorem ancs_ok {all : List Oper} : ∀ {l : List Oper} {acc : List (List Nat)}, (∀ (i : Nat) o, l[i]? = some o → all[acc.length + i]? = some o) → (∀ (i : Nat) q, acc[i]? = some q → (∃ o, all[i]? = some o) ∧ ∀ j ∈ q, Ahead all i j) → ∀ (i : Nat) q, (ancs acc l)[i]? = some q → ∀ j ∈ q, Ahead all i j
  | [], acc, _, ha, i, q, hq, j, hj => (ha i q hq).2 j hj
  | o :: l, acc, hl, ha, i, q, hq, j, hj => by
    have ho := hl 0 o rfl
    rw [Nat.add_zero] at ho
    refine ancs_ok (l := l) (acc := acc ++ [addN (deps o) (ancs.upTo acc (deps o))]) (fun i o' hi => ?_) (fun i q hq => ?_) i q hq j hj
    · have := hl (i + 1) o' hi
      rw [List.length_append]
      rwa [show acc.length + (i + 1) = acc.length + [addN (deps o) (ancs.upTo acc (deps o))].length + i by simp; omega] at this
    · rcases Nat.lt_or_ge i acc.length with h | h
      · rw [List.getElem?_append_left h] at hq
        exact ha i q hq
      · rw [List.getElem?_append_right h] at hq
        have hi : i = acc.length := by
          have := (List.getElem?_eq_some_iff.1 hq).1
          simp at this; omega
        subst hi
        rw [Nat.sub_self] at hq
        have hq' : addN (deps o) (ancs.upTo acc (deps o)) = q := by simpa using hq
        subst hq'
        refine ⟨⟨o, ho⟩, fun j hj b hd hi => ?_⟩
        rcases addN_mem hj with hj | hj
        · exact hi o ho j hj
        · obtain ⟨d, hdm, l', hl', hjl⟩ := upTo_mem hj
          have hbd := hi o ho d hdm
          exact (ha d l' hl').2 j hjl b hd (fun o' ho' k hk => hd d o' ho' hbd k hk)
end Go.Proofs.YtjmefaihkblliaaGreat.Ab
/- The abstract machine: a region whose operations come up in any order: its rule. Conditions: none. -/
namespace Go.Proofs.YtjmefaihkblliaaGreat.Ab
open Go.RowKit
set_option linter.unusedVariables false
set_option linter.unusedSimpArgs false
def anyIn : List Nat → List Nat → Bool
  | [], _ => false
  | k :: r, l => elem k l || anyIn r l
theorem anyIn_ok {r l : List Nat} {k : Nat} (h1 : k ∈ r) (h2 : k ∈ l) : anyIn r l = true := by
  induction r with
  | nil => cases h1
  | cons j r ih =>
    show (elem j l || anyIn r l) = true
    rcases List.mem_cons.1 h1 with rfl | h1
    · rw [elem_ok.2 h2]; rfl
    · rw [ih h1, Bool.or_true]
def touches (a b : En) : Bool := (match a.dst with
  | some d => elem d b.ts || (match b.dst with
    | some d' => Nat.beq d d'
    | none => false)
  | none => false) || (anyIn (keys a.mem) b.ms || (anyIn (keys a.mem) (keys b.mem) || (match b.new with
  | some id => !(a.free id)
  | none => false)))
def conflict (a b : En) : Bool := touches a b || touches b a
theorem found_key {id : Nat} : ∀ {E : Ml}, found id E ≠ none → id ∈ keys E
  | [], h => absurd rfl h
  | (k, v) :: E, h => by
    unfold found at h
    show id ∈ k :: keys E
    cases hb : Nat.beq k id with
    | true => have := nbeq_t.1 hb; subst this; exact List.mem_cons_self
    | false => rw [hb] at h; exact List.mem_cons_of_mem _ (found_key h)
theorem wT_dst {t : Nat} {e : En} (h : wT t e ≠ none) : e.dst = some t := by
  unfold wT at h
  cases hd : e.dst with
  | none => rw [hd] at h; exact absurd rfl h
  | some d =>
    rw [hd] at h
    dsimp only at h
    cases hb : Nat.beq d t with
    | true => have := nbeq_t.1 hb; subst this; rfl
    | false => rw [hb] at h; exact absurd rfl h
theorem touch_ts {a b : En} {t : Nat} (h : wT t a ≠ none) (ht : t ∈ b.ts) : conflict a b = true := by
  have hd := wT_dst h
  unfold conflict touches
  rw [hd]
  simp [elem_ok.2 ht]
theorem touch_dst {a b : En} {t : Nat} (h : wT t a ≠ none) (ht : wT t b ≠ none) : conflict a b = true := by
  have hd := wT_dst h
  have hd2 := wT_dst ht
  unfold conflict touches
  rw [hd, hd2]
  simp [nbeq_t.2 rfl]
theorem touch_ms {a b : En} {id : Nat} (h : found id a.mem ≠ none) (ht : id ∈ b.ms) : conflict a b = true := by
  unfold conflict touches
  rw [anyIn_ok (found_key h) ht]; simp
theorem touch_mem {a b : En} {id : Nat} (h : found id a.mem ≠ none) (ht : found id b.mem ≠ none) : conflict a b = true := by
  unfold conflict touches
  rw [anyIn_ok (found_key h) (found_key ht)]; simp
theorem touch_new {a b : En} {id : Nat} (h : b.new = some id) (hf : conflict a b = false) : a.free id = true := by
  unfold conflict touches at hf
  rw [h] at hf
  simp only [Bool.or_eq_false_iff] at hf
  simpa using hf.1.2.2.2
theorem conflict_comm (a b : En) : conflict a b = conflict b a := by unfold conflict; rw [Bool.or_comm]
def vsOk (ej : En) (aj : List Nat) : List En → Nat → Bool
  | [], _ => true
  | ei :: l, i => (!(conflict ei ej) || elem i aj) && vsOk ej aj l (i + 1)
def ordB (an : List (List Nat)) (prev : List En) : List En → Nat → Bool
  | [], _ => true
  | e :: l, j => (match nth an j with
    | some a => vsOk e a prev 0
    | none => false) && ordB an (prev ++ [e]) l (j + 1)
theorem vsOk_ok {ej : En} {aj : List Nat} : ∀ {l : List En} {i0 : Nat}, vsOk ej aj l i0 = true → ∀ (i : Nat) ei, l[i]? = some ei → conflict ei ej = true → i0 + i ∈ aj
  | [], i0, _, i, ei, hi, _ => by cases hi
  | e :: l, i0, h, 0, ei, hi, hc => by
    have he : e = ei := by simpa using hi
    subst he
    simp only [vsOk, Bool.and_eq_true, hc, Bool.not_true, Bool.false_or] at h
    rw [Nat.add_zero]; exact elem_ok.1 h.1
  | e :: l, i0, h, i + 1, ei, hi, hc => by
    simp only [vsOk, Bool.and_eq_true] at h
    have := vsOk_ok h.2 i ei hi hc
    rwa [show i0 + (i + 1) = i0 + 1 + i by omega]
theorem ordB_ok {an : List (List Nat)} : ∀ {l prev : List En} {k : Nat}, prev.length = k → ordB an prev l k = true → ∀ (j : Nat) ej, l[j]? = some ej → ∃ a, an[k + j]? = some a ∧ ∀ (i : Nat) ei, i < k + j → (prev ++ l)[i]? = some ei → conflict ei ej = true → i ∈ a
  | [], prev, k, _, _, j, ej, hj => by cases hj
  | e :: l, prev, k, hk, h, 0, ej, hj => by
    have he : e = ej := by simpa using hj
    subst he
    simp only [ordB, Bool.and_eq_true] at h
    have h1 := h.1
    split at h1
    · rename_i a ha
      rw [nth_eq] at ha
      refine ⟨a, ha, fun i ei hi hei hc => ?_⟩
      rw [Nat.add_zero] at hi
      rw [List.getElem?_append_left (by omega)] at hei
      have := vsOk_ok h1 i ei hei hc
      rwa [Nat.zero_add] at this
    · cases h1
  | e :: l, prev, k, hk, h, j + 1, ej, hj => by
    simp only [ordB, Bool.and_eq_true] at h
    obtain ⟨a, ha, hall⟩ := ordB_ok (prev := prev ++ [e]) (k := k + 1) (by simp [hk]) h.2 j ej hj
    refine ⟨a, by rwa [show k + (j + 1) = k + 1 + j by omega], fun i ei hi hei hc => hall i ei (by omega) ?_ hc⟩
    rw [List.append_assoc]; exact hei
section
variable {P : Program} {x : Cx} {tb : Tb} {R : Tl → Ml → Prop} {n : Nat} {all : List Oper}
def OpG (P : Program) (all : List Oper) (o : Oper) (J : Act → World → Prop) (a : Act) (w : World) : Prop :=
  if Region.wanted o (yielded all.toArray a.tmps) = true then o.wp P a w J (fun _ _ _ => False) else J (a.put o.dst undef) w
structure Does (P : Program) (x : Cx) (all : List Oper) (o : Oper) (e : En) (T : Tl) (M : Ml) : Prop where
  dst : e.dst = o.dst
  ok : ∀ T' M', (∀ t ∈ e.ts, tm T' t = tm T t) → (∀ id ∈ e.ms, mm M' id = mm M id) → (∀ id, e.new = some id → fresh T' M' id = true) → ∀ m a w, Rel x (tm T') (mm M') m a w →
    OpG P all o (fun a w => ∃ m, Rel x (tm (putd e.dst e.val T')) (mm (e.mem ++ M')) m a w) a w
  frs : ∀ id, e.new = some id → fresh T M id = true
inductive Chain (P : Program) (x : Cx) (all : List Oper) : List Oper → List En → Tl → Ml → Prop
  | nil (T : Tl) (M : Ml) : Chain P x all [] [] T M
  | cons {o : Oper} {l : List Oper} {e : En} {lg : List En} {T : Tl} {M : Ml} (h : Does P x all o e T M) (hc : Chain P x all l lg (putd e.dst e.val T) (e.mem ++ M)) : Chain P x all (o :: l) (e :: lg) T M
def pre (i j : Nat) : Bool := Nat.blt j i
theorem pre_t {i j : Nat} : pre i j = true ↔ j < i := by unfold pre; exact iff_of_eq Nat.blt_eq
theorem pre_f {i j : Nat} : pre i j = false ↔ ¬ j < i := by rw [← pre_t, Bool.not_eq_true]
theorem Chain.len {l : List Oper} {lg : List En} {T : Tl} {M : Ml} (h : Chain P x all l lg T M) : lg.length = l.length := by
  induction h with
  | nil => rfl
  | cons h hc ih => simp [ih]
theorem Chain.get {l : List Oper} {lg : List En} {T : Tl} {M : Ml} (h : Chain P x all l lg T M) : ∀ (k j : Nat) o e, l[j]? = some o → lg[j]? = some e → Does P x all o e (selT lg (pre (k + j)) k T) (selM lg (pre (k + j)) k M) := by
  induction h with
  | nil T M => intro k j o e ho; cases ho
  | @cons o0 l0 e0 lg0 T0 M0 h hc ih =>
    intro k j o e ho he
    cases j with
    | zero =>
      have e1 : o0 = o := by simpa using ho
      have e2 : e0 = e := by simpa using he
      subst e1; subst e2
      rw [selT_none (fun j hj => pre_f.2 (by omega)), selM_none (fun j hj => pre_f.2 (by omega))]
      exact h
    | succ j =>
      have := ih (k + 1) j o e (by simpa using ho) (by simpa using he)
      rw [show k + 1 + j = k + (j + 1) by omega] at this
      rw [selT, selM, pre_t.2 (by omega : k < k + (j + 1))]
      exact this
theorem freeT_of {id : Nat} : ∀ {l : List En} {b : Nat → Bool} {i : Nat} {T : Tl}, freeT id (selT l b i T) = true → freeT id T = true ∧ ∀ (j : Nat) e, l[j]? = some e → b (i + j) = true → ∀ d, e.dst = some d → e.val.free id = true
  | [], b, i, T, h => ⟨h, fun j e hj => by cases hj⟩
  | e :: l, b, i, T, h => by
    rw [selT] at h
    obtain ⟨h1, h2⟩ := freeT_of h
    have h3 : freeT id T = true ∧ (b i = true → ∀ d, e.dst = some d → e.val.free id = true) := by
      cases hb : b i with
      | false => rw [hb] at h1; exact ⟨h1, fun h => by cases h⟩
      | true =>
        rw [hb] at h1
        unfold putd at h1
        cases hd : e.dst with
        | none => rw [hd] at h1; exact ⟨h1, fun _ d hd => by cases hd⟩
        | some d =>
          rw [hd] at h1
          have h1' : (e.val.free id && freeT id T) = true := h1
          simp only [Bool.and_eq_true] at h1'
          exact ⟨h1'.2, fun _ _ _ => h1'.1⟩
    refine ⟨h3.1, fun j e' hj hb => ?_⟩
    cases j with
    | zero =>
      have he : e = e' := by simpa using hj
      subst he
      exact h3.2 (by simpa using hb)
    | succ j => exact h2 j e' hj (by rwa [show i + 1 + j = i + (j + 1) by omega])
theorem freeM_of_app {id : Nat} : ∀ {E M : Ml}, freeM id (E ++ M) = true → freeM id E = true ∧ freeM id M = true
  | [], M, h => ⟨rfl, h⟩
  | (k, none) :: E, M, h => freeM_of_app (E := E) h
  | (k, some (.row ..)) :: E, M, h => freeM_of_app (E := E) h
  | (k, some (.box t v)) :: E, M, h => by
    have h' : (v.free2 id && freeM id (E ++ M)) = true := h
    simp only [Bool.and_eq_true] at h'
    obtain ⟨h1, h2⟩ := freeM_of_app h'.2
    refine ⟨?_, h2⟩
    show (v.free2 id && freeM id E) = true
    rw [h'.1, h1]; rfl
theorem freeM_of {id : Nat} : ∀ {l : List En} {b : Nat → Bool} {i : Nat} {M : Ml}, freeM id (selM l b i M) = true → freeM id M = true ∧ ∀ (j : Nat) e, l[j]? = some e → b (i + j) = true → freeM id e.mem = true
  | [], b, i, M, h => ⟨h, fun j e hj => by cases hj⟩
  | e :: l, b, i, M, h => by
    rw [selM] at h
    obtain ⟨h1, h2⟩ := freeM_of h
    have h3 : freeM id M = true ∧ (b i = true → freeM id e.mem = true) := by
      cases hb : b i with
      | false => rw [hb] at h1; exact ⟨h1, fun h => by cases h⟩
      | true => rw [hb] at h1; obtain ⟨h4, h5⟩ := freeM_of_app h1; exact ⟨h5, fun _ => h4⟩
    refine ⟨h3.1, fun j e' hj hb => ?_⟩
    cases j with
    | zero =>
      have he : e = e' := by simpa using hj
      subst he
      exact h3.2 (by simpa using hb)
    | succ j => exact h2 j e' hj (by rwa [show i + 1 + j = i + (j + 1) by omega])
theorem oper_weak {o : Oper} {a : Act} {w : World} {K K' : Act → World → Prop} {Q : Exit → Act → World → Prop} (h1 : o.wp P a w K (fun _ _ _ => False)) (h : ∀ a w, K a w → K' a w) : o.wp P a w K' Q := by
  unfold Oper.wp at h1 ⊢
  revert h1
  cases (execOp a.eval o).run P w with
  | ok nx w1 => cases nx with
    | enter f args =>
      intro h1
      refine Calls.mono h1 fun e w2 he => ?_
      cases e with
      | returned v => exact h _ _ he
      | panicked c => exact he.elim
      | outgrown => obtain ⟨_, _, he⟩ := he; exact he.elim
    | value v => exact fun h1 => h _ _ h1
    | skip => exact fun h1 => h _ _ h1
    | defer d => exact fun h1 => h _ _ h1
    | row r args => exact fun h1 => Rows.mono h1 fun u w2 he => h _ _ he
    | _ => exact fun h1 => h1
  | halt hh w1 => cases hh with
    | panic v => exact fun h1 => h1.elim
    | _ => exact fun h1 => h1
def acB : List Oper → Nat → Bool
  | [], _ => true
  | o :: l, i => ltAll i (deps o) && acB l (i + 1)
where
  ltAll (i : Nat) : List Nat → Bool
    | [] => true
    | k :: r => Nat.blt k i && ltAll i r
theorem ltAll_ok {i : Nat} : ∀ {l : List Nat}, acB.ltAll i l = true → ∀ k ∈ l, k < i
  | [], _, k, hk => by cases hk
  | j :: l, h, k, hk => by
    have h' : (Nat.blt j i && acB.ltAll i l) = true := h
    simp only [Bool.and_eq_true] at h'
    rcases List.mem_cons.1 hk with rfl | hk
    · exact Nat.blt_eq.mp h'.1
    · exact ltAll_ok h'.2 k hk
theorem acB_ok : ∀ {l : List Oper} {i0 : Nat}, acB l i0 = true → ∀ (i : Nat) o, l[i]? = some o → ∀ k ∈ deps o, k < i0 + i
  | [], i0, _, i, o, ho => by cases ho
  | o0 :: l, i0, h, i, o, ho => by
    simp only [acB, Bool.and_eq_true] at h
    cases i with
    | zero =>
      have he : o0 = o := by simpa using ho
      subst he
      exact ltAll_ok h.1
    | succ i =>
      have := acB_ok h.2 i o (by simpa using ho)
      intro k hk
      have := this k hk
      omega
theorem wc_drawn {id : Nat} {ops : Array Oper} {k : List It} {T : Tl} {M : Ml} {lg : List En} (hmix : P.follows .mixedOrders = true) (hac : acB ops.toList 0 = true) (hch : Chain P x ops.toList ops.toList lg T M) (hord : ordB (ancs [] ops.toList) [] lg 0 = true)
    (h : Wc P x R k (selT lg (fun _ => true) 0 T) (selM lg (fun _ => true) 0 M)) : Wc P x R (.code (.region id ops true) :: k) T M := by
  intro m0 a0 w0 hr0
  show (Code.region id ops true).wp P (Ka P x R k) a0 w0
  have hlen : lg.length = ops.size := by rw [hch.len]; simp
  have hac' := acB_ok hac
  simp only [Nat.zero_add] at hac'
  have hget : ∀ (i : Nat) o, ops[i]? = some o → ops.toList[i]? = some o := fun i o ho => by rw [Array.getElem?_toList]; exact ho
  have hget' : ∀ (i : Nat) o, ops.toList[i]? = some o → ops[i]? = some o := fun i o ho => by rw [Array.getElem?_toList] at ho; exact ho
  have han := ancs_ok (all := ops.toList) (l := ops.toList) (acc := []) (fun i o ho => by simpa using ho) (fun i q hq => by cases hq)
  have hord' := ordB_ok (an := ancs [] ops.toList) (prev := []) (k := 0) (l := lg) rfl hord
  simp only [Nat.zero_add, List.nil_append] at hord'
  refine wp_region_any hmix (wpAny_inv (fun listed a w => Down ops.toList (fun j => listed.getD j false) ∧ ∃ m, Rel x (tm (selT lg (fun j => listed.getD j false) 0 T)) (mm (selM lg (fun j => listed.getD j false) 0 M)) m a w) ?_ ?_ ?_ ops.size _ a0 _ (by simp) ?_ ?_)
  · -- one operation
    intro listed i a w hsz hi hinv
    obtain ⟨hdown, m, hr⟩ := hinv
    obtain ⟨hlt, o, ho, hall⟩ := mem_ready.1 hi
    have hio := (Array.getElem?_eq_some_iff.1 ho).1
    have hbi : listed.getD i false = false := by
      rw [Array.getD_eq_getD_getElem?, Array.getElem?_eq_getElem (by omega)] at hlt ⊢; exact hlt
    have hdeps : ∀ q ∈ deps o, listed.getD q false = true := fun q hq => by
      obtain ⟨e, he, hb, rfl⟩ := deps_mem.1 hq
      exact hall e he hb
    obtain ⟨e, he⟩ : ∃ e, lg[i]? = some e := ⟨lg[i]'(by omega), List.getElem?_eq_getElem _⟩
    have hD := hch.get 0 i o e (hget i o ho) he
    rw [Nat.zero_add] at hD
    have agree : ∀ (j : Nat) e', lg[j]? = some e' → conflict e' e = true → listed.getD j false = pre i j := fun j e' hj hc => by
      rcases Nat.lt_trichotomy j i with hji | hji | hji
      · obtain ⟨al, hal, hmem⟩ := hord' i e he
        have := han i al hal j (hmem j e' hji hj hc) (fun j => listed.getD j false) hdown (fun o' ho' q hq => by
          rw [hget i o ho] at ho'; cases ho'; exact hdeps q hq)
        rw [pre_t.2 hji]; exact this
      · subst hji
        rw [hbi, pre_f.2 (by omega)]
      · rw [pre_f.2 (by omega)]
        cases hbj : listed.getD j false with
        | false => rfl
        | true =>
          obtain ⟨al, hal, hmem⟩ := hord' j e' hj
          have := han j al hal i (hmem i e hji he (by rw [conflict_comm]; exact hc)) (fun j => listed.getD j false) hdown (fun o' ho' q hq => hdown j o' ho' hbj q hq)
          rw [hbi] at this; cases this
    have hts : ∀ t ∈ e.ts, tm (selT lg (fun j => listed.getD j false) 0 T) t = tm (selT lg (pre i) 0 T) t := fun t ht => by
      rw [tm_selT, tm_selT]
      refine last_congr fun j e' hj hw => ?_
      rw [Nat.zero_add]; exact agree j e' hj (touch_ts hw ht)
    have hms : ∀ id ∈ e.ms, mm (selM lg (fun j => listed.getD j false) 0 M) id = mm (selM lg (pre i) 0 M) id := fun id ht => by
      rw [mm_selM, mm_selM]
      refine last_congr fun j e' hj hw => ?_
      rw [Nat.zero_add]; exact agree j e' hj (touch_ms hw ht)
    have hfr : ∀ id, e.new = some id → fresh (selT lg (fun j => listed.getD j false) 0 T) (selM lg (fun j => listed.getD j false) 0 M) id = true := fun id hid => by
      have h1 := hD.frs id hid
      unfold fresh at h1 ⊢
      simp only [Bool.and_eq_true] at h1 ⊢
      obtain ⟨t1, t2⟩ := freeT_of h1.1
      obtain ⟨m1, m2⟩ := freeM_of h1.2.1
      have hfree : ∀ (j : Nat) e', lg[j]? = some e' → listed.getD (0 + j) false = true → e'.free id = true := fun j e' hj hb => by
        rw [Nat.zero_add] at hb
        cases hc : conflict e' e with
        | false => exact touch_new hid hc
        | true =>
          have hp := agree j e' hj hc
          rw [hb] at hp
          have t3 := t2 j e' hj (by rw [Nat.zero_add]; exact hp.symm)
          have m3 := m2 j e' hj (by rw [Nat.zero_add]; exact hp.symm)
          unfold En.free
          cases hd : e'.dst with
          | none => rw [m3]; rfl
          | some d => rw [t3 d hd, m3]; rfl
      exact ⟨freeT_sel t1 hfree, freeM_sel m1 hfree, h1.2.2⟩
    have hg := hD.ok _ _ hts hms hfr m a w hr
    have hb' : ∀ j, (listed.setIfInBounds i true).getD j false = true ↔ (listed.getD j false = true ∨ j = i) := fun j => by
      rw [getD_set]
      constructor
      · rintro (h | ⟨h, _⟩)
        · exact .inl h
        · exact .inr h
      · rintro (h | h)
        · exact .inl h
        · exact .inr ⟨h, by omega⟩
    have hbe : ∀ j, j ≠ i → (listed.setIfInBounds i true).getD j false = listed.getD j false := fun j hj => by
      rw [Bool.eq_iff_iff, hb']
      exact ⟨fun h => h.resolve_right hj, .inl⟩
    have hbt : (listed.setIfInBounds i true).getD i false = true := (hb' i).2 (.inr rfl)
    have hK : ∀ a' w', (∃ m, Rel x (tm (putd e.dst e.val (selT lg (fun j => listed.getD j false) 0 T))) (mm (e.mem ++ selM lg (fun j => listed.getD j false) 0 M)) m a' w') →
        Down ops.toList (fun j => (listed.setIfInBounds i true).getD j false) ∧ ∃ m, Rel x (tm (selT lg (fun j => (listed.setIfInBounds i true).getD j false) 0 T)) (mm (selM lg (fun j => (listed.setIfInBounds i true).getD j false) 0 M)) m a' w' := by
      rintro a' w' ⟨m', hr'⟩
      refine ⟨fun j o' ho' hbj q hq => ?_, m', ?_⟩
      · rcases (hb' j).1 hbj with h | h
        · exact (hb' q).2 (.inl (hdown j o' ho' h q hq))
        · subst h
          rw [hget j o ho] at ho'; cases ho'
          exact (hb' q).2 (.inl (hdeps q hq))
      · have eT : tm (putd e.dst e.val (selT lg (fun j => listed.getD j false) 0 T)) = tm (selT lg (fun j => (listed.setIfInBounds i true).getD j false) 0 T) := by
          funext t
          rw [tm_putd _ _ _ e rfl rfl, tm_selT, tm_selT]
          cases hw : wT t e with
          | none =>
            show last _ _ _ _ _ = _
            refine last_congr fun j e' hj hw' => ?_
            rw [Nat.zero_add]
            refine (hbe j fun hji => ?_).symm
            subst hji
            rw [he] at hj; cases hj; exact hw' hw
          | some v =>
            show v = _
            refine (last_at (j0 := i) he hw (by rw [Nat.zero_add]; exact hbt) (fun j e' hij hj hw' => ?_)).symm
            rw [Nat.zero_add, hbe j (by omega), agree j e' hj (touch_dst hw' (by rw [hw]; exact fun h => by cases h)), pre_f.2 (by omega)]
        have eM : mm (e.mem ++ selM lg (fun j => listed.getD j false) 0 M) = mm (selM lg (fun j => (listed.setIfInBounds i true).getD j false) 0 M) := by
          funext id
          rw [mm_app, mm_selM, mm_selM]
          cases hw : found id e.mem with
          | none =>
            show last _ _ _ _ _ = _
            refine last_congr fun j e' hj hw' => ?_
            rw [Nat.zero_add]
            refine (hbe j fun hji => ?_).symm
            subst hji
            rw [he] at hj; cases hj; exact hw' hw
          | some v =>
            show v = _
            refine (last_at (W := fun e => found id e.mem) (j0 := i) he hw (by rw [Nat.zero_add]; exact hbt) (fun j e' hij hj hw' => ?_)).symm
            rw [Nat.zero_add, hbe j (by omega), agree j e' hj (touch_mem (id := id) hw' (by rw [hw]; exact fun h => by cases h)), pre_f.2 (by omega)]
        rw [← eT, ← eM]; exact hr'
    unfold OpG at hg
    rw [Array.toArray_toList] at hg
    show wpOp P ops (Ka P x R k) i _ a w
    unfold wpOp
    simp only [ho]
    split
    · rename_i hw
      rw [if_pos hw] at hg
      exact .inl (oper_weak hg hK)
    · rename_i hw
      rw [if_neg hw] at hg
      exact hK _ _ hg
  · -- all are done
    rintro listed a w hsz hall ⟨_, m, hr⟩
    rw [selT_congr (b' := fun _ => true) (fun j hj => by rw [Nat.zero_add]; exact hall j (by omega)), selM_congr (b' := fun _ => true) (fun j hj => by rw [Nat.zero_add]; exact hall j (by omega))] at hr
    exact h m a w hr
  · intro i o ho e he hb
    exact hac' i o (hget i o ho) e.on (deps_mem.2 ⟨e, he, hb, rfl⟩)
  · unfold left
    refine Nat.le_trans (List.length_filter_le _ _) (by simp)
  · have hz : ∀ j, (Array.replicate ops.size false).getD j false = false := fun j => by
      rw [Array.getD_eq_getD_getElem?, Array.getElem?_replicate]; split <;> rfl
    refine ⟨fun i o ho hb => (by
      have hb' : (Array.replicate ops.size false).getD i false = true := hb
      rw [hz] at hb'; cases hb'), m0, ?_⟩
    rw [selT_none (fun j _ => hz j), selM_none (fun j _ => hz j)]
    exact hr0.drew
end
end Go.Proofs.YtjmefaihkblliaaGreat.Ab
/- The abstract machine: a drawn region, computed. Conditions: none. -/
namespace Go.Proofs.YtjmefaihkblliaaGreat.Ab
open Go.RowKit
set_option linter.unusedVariables false
set_option linter.unusedSimpArgs false
inductive Hn : Type 1 where
  | b (c : Bool)
  | r (v : LV)
  | raw (v : LV) (E : Ml) (new : Option Nat)
inductive Gs where
  | yes
  | no
  | bad
def slotsOf : List Operand → List Nat
  | [] => []
  | .tmp t :: l => t :: slotsOf l
  | _ :: l => slotsOf l
def lk1 : LV → List Nat
  | .own i => [i]
  | .ptr i _ => [i]
  | .ept i _ _ => [i]
  | _ => []
def lk1L : List LV → List Nat
  | [] => []
  | l :: ls => lk1 l ++ lk1L ls
def lk2 : LV → List Nat
  | .lagg ls => lk1L ls
  | l => lk1 l
def lk3 : List LV → List Nat
  | [] => []
  | l :: ls => lk2 l ++ lk3 ls
def lookIds (T : Tl) : List Operand → List Nat
  | [] => []
  | q :: l => lk2 (val T q) ++ lookIds T l
def gslot (all : List Oper) (o : Oper) : Option Nat := match o.guard with
  | some (j, _) => match nth (all.map fun o => o.dst) j with
    | some (some d) => some d
    | _ => none
  | none => none
def tsOf (all : List Oper) (o : Oper) : List Nat := match gslot all o with
  | some d => d :: slotsOf o.op.operands.toList
  | none => slotsOf o.op.operands.toList
def gst (all : List Oper) (o : Oper) (T : Tl) : Gs := match o.guard with
  | none => .yes
  | some (j, want) => match gslot all o with
    | some d => match tm T d with
      | .known b => match b, want with
        | true, true => .yes
        | false, false => .yes
        | true, false => .no
        | false, true => .no
      | .tup _ => .no
      | _ => .bad
    | none => .bad
theorem lk1_ok {l : LV} {id : Nat} (h : l.on1 id) : id ∈ lk1 l := by cases l <;> first | exact h.elim | (have : _ = id := h; subst this; simp [lk1])
theorem lk1L_ok {ls : List LV} {id : Nat} (h : ∃ l ∈ ls, l.on1 id) : id ∈ lk1L ls := by
  obtain ⟨l, hl, h⟩ := h
  induction ls with
  | nil => cases hl
  | cons k ls ih =>
    show id ∈ lk1 k ++ lk1L ls
    rcases List.mem_cons.1 hl with rfl | hl
    · exact List.mem_append_left _ (lk1_ok h)
    · exact List.mem_append_right _ (ih hl)
theorem lk2_ok {l : LV} {id : Nat} (h : l.on2 id) : id ∈ lk2 l := by cases l <;> first | exact lk1L_ok h | exact h.elim | (have : _ = id := h; subst this; simp [lk2, lk1])
theorem on1_on2 {l : LV} {id : Nat} (h : l.on1 id) : l.on2 id := by cases l <;> first | exact h | exact h.elim
theorem lk3_ok {ls : List LV} {id : Nat} (h : ∃ l ∈ ls, l.on2 id) : id ∈ lk3 ls := by
  obtain ⟨l, hl, h⟩ := h
  induction ls with
  | nil => cases hl
  | cons k ls ih =>
    show id ∈ lk2 k ++ lk3 ls
    rcases List.mem_cons.1 hl with rfl | hl
    · exact List.mem_append_left _ (lk2_ok h)
    · exact List.mem_append_right _ (ih hl)
theorem lookIds_ok {T : Tl} {id : Nat} {q : Operand} : ∀ {l : List Operand}, q ∈ l → (val T q).on2 id → id ∈ lookIds T l
  | [], h, _ => by cases h
  | p :: l, h, h2 => by
    show id ∈ lk2 (val T p) ++ lookIds T l
    rcases List.mem_cons.1 h with rfl | h
    · exact List.mem_append_left _ (lk2_ok h2)
    · exact List.mem_append_right _ (lookIds_ok h h2)
theorem slots_ok {t : Nat} : ∀ {l : List Operand}, .tmp t ∈ l → t ∈ slotsOf l
  | [], h => by cases h
  | q :: l, h => by
    rcases List.mem_cons.1 h with h | h
    · subst h; exact List.mem_cons_self
    · have := slots_ok h
      cases q <;> first | exact List.mem_cons_of_mem _ this | exact this
theorem tsOf_ok {all : List Oper} {o : Oper} {t : Nat} (h : t ∈ slotsOf o.op.operands.toList) : t ∈ tsOf all o := by
  unfold tsOf; split
  · exact List.mem_cons_of_mem _ h
  · exact h
theorem val_same {T T' : Tl} {all : List Oper} {o : Oper} (h : ∀ t ∈ tsOf all o, tm T' t = tm T t) {q : Operand} (hq : q ∈ o.op.operands.toList) : val T' q = val T q := by
  cases q with
  | tmp t => exact h t (tsOf_ok (slots_ok hq))
  | const v => rfl
  | global g => rfl
  | func f => rfl
section
variable {P : Program} {x : Cx} {tb : Tb} {R : Tl → Ml → Prop} {n : Nat} {all : List Oper} {o : Oper} {T : Tl} {M : Ml}
theorem gslot_ok {d : Nat} {j : Nat} {want : Bool} (hg : o.guard = some (j, want)) (h : gslot all o = some d) : nth (all.map fun o => o.dst) j = some (some d) := by
  unfold gslot at h
  rw [hg] at h
  dsimp only at h
  split at h
  · cases h; assumption
  · cases h
theorem gst_yes (h : gst all o T = .yes) {T' : Tl} {M' : Ml} (ht : ∀ t ∈ tsOf all o, tm T' t = tm T t) {m : Mp} {a : Act} {w : World} (hr : Rel x (tm T') (mm M') m a w) : Region.wanted o (yielded all.toArray a.tmps) = true := by
  unfold gst at h
  split at h
  · rename_i hg; unfold Region.wanted; rw [hg]
  · rename_i j want hg
    split at h
    · rename_i d hd
      have hd' := gslot_ok hg hd
      have htd := ht d (by unfold tsOf; rw [hd]; exact List.mem_cons_self)
      split at h
      · rename_i b hb
        have hv := hr.tmp d
        rw [htd, hb] at hv
        have := (yielded_of hr hd' (show a.tmps.getD d undef = .bool b from hv)).1 b rfl
        unfold Region.wanted; rw [hg]; simp only [this]
        cases b <;> cases want <;> first | rfl | cases h
      · cases h
      · cases h
    · cases h
theorem gst_no (h : gst all o T = .no) {T' : Tl} {M' : Ml} (ht : ∀ t ∈ tsOf all o, tm T' t = tm T t) {m : Mp} {a : Act} {w : World} (hr : Rel x (tm T') (mm M') m a w) : Region.wanted o (yielded all.toArray a.tmps) = false := by
  unfold gst at h
  split at h
  · cases h
  · rename_i j want hg
    split at h
    · rename_i d hd
      have hd' := gslot_ok hg hd
      have htd := ht d (by unfold tsOf; rw [hd]; exact List.mem_cons_self)
      split at h
      · rename_i b hb
        have hv := hr.tmp d
        rw [htd, hb] at hv
        have := (yielded_of hr hd' (show a.tmps.getD d undef = .bool b from hv)).1 b rfl
        unfold Region.wanted; rw [hg]; simp only [this]
        cases b <;> cases want <;> first | rfl | cases h
      · rename_i ls hb
        have hv := hr.tmp d
        rw [htd, hb] at hv
        obtain ⟨us, hv, _⟩ := hv
        have := (yielded_of hr hd' hv).2 (fun b hh => by cases hh)
        unfold Region.wanted; rw [hg]; simp only [this]; rfl
      · cases h
    · cases h
theorem does_no (hn : x.n = n) (hd : dstOk n o.dst = true) (h : gst all o T = .no) : Does P x all o ⟨o.dst, .tup [], [], none, tsOf all o, []⟩ T M := by
  refine ⟨rfl, fun T' M' ht hm hf m a w hr => ?_, fun id h => by cases h⟩
  unfold OpG
  rw [if_neg (by rw [gst_no h ht hr]; exact Bool.false_ne_true)]
  exact ⟨m, hr.putd hn hd ⟨[], rfl, rfl, fun j u l hu => by cases hu⟩⟩
def StopJ (x : Cx) (d : Option Nat) (v : LV) (E : Ml) (T' : Tl) (M' : Ml) (x1 : Cx) (T1 : Tl) (M1 : Ml) : Prop := x1 = x ∧ T1 = putd d v T' ∧ M1 = E ++ M'
theorem does_opw {v : LV} {E : Ml} {new : Option Nat} {ms : List Nat} (h : gst all o T = .yes) (hf : ∀ id, new = some id → fresh T M id = true)
    (hop : ∀ T' M', (∀ t ∈ tsOf all o, tm T' t = tm T t) → (∀ id ∈ ms, mm M' id = mm M id) → (∀ id, new = some id → fresh T' M' id = true) → OpW P x (fun _ _ => False) o [.stop (StopJ x o.dst v E T' M')] T' M') : Does P x all o ⟨o.dst, v, E, new, tsOf all o, ms⟩ T M := by
  refine ⟨rfl, fun T' M' ht hm hf m a w hr => ?_, hf⟩
  unfold OpG
  rw [if_pos (gst_yes h ht hr)]
  refine oper_weak (hop T' M' ht hm hf m a w hr) fun a w hk => ?_
  obtain ⟨x1, hx, T1, M1, m1, hr1, rfl, rfl, rfl⟩ := hk
  exact ⟨m1, hr1⟩
theorem opw_opF {k : List It} {T1 : Tl} {M1 : Ml} {s : Option Prop} (hn : x.n = n) (htb : TbOk P tb) (ho : opF tb n o T M = some (s, T1, M1)) (hs : ∀ r, s = some r → r) (h : Wc P x R k T1 M1) : OpW P x R o k T M := fun m a w hr => by
  obtain ⟨nx, v, w1, m1, hrun, hnx, hr1⟩ := opF_ok hn htb hr ho hs
  unfold Oper.wp
  rw [hrun]
  rcases hnx with rfl | ⟨rfl, rfl⟩
  · exact h m1 _ w1 hr1
  · exact h m1 _ w1 hr1
theorem putd_inj {d : Option Nat} {u v : LV} {T T' : Tl} (h : putd d u T = putd d v T) : putd d u T' = putd d v T' := by
  cases d with
  | none => rfl
  | some t =>
    have : (t, u) :: T = (t, v) :: T := h
    injection this with h1 _
    injection h1 with _ h2
    subst h2; rfl
theorem alike_of (all : List Oper) {T' : Tl} {M' : Ml} (ht : ∀ t ∈ tsOf all o, tm T' t = tm T t) (hm : ∀ id ∈ lookIds T o.op.operands.toList, mm M' id = mm M id) : Alike T T' M M' o.op.operands.toList :=
  ⟨fun q hq => (val_same ht hq).symm, fun q hq id hi => (hm id (lookIds_ok hq (on1_on2 hi))).symm⟩
theorem does_pure {v : LV} {T1 : Tl} {M1 : Ml} {s : Option Prop} (hn : x.n = n) (htb : TbOk P tb) (hp : pureOp o.op = true) (h : gst all o T = .yes) (ho : opF tb n o T M = some (s, T1, M1)) (hs : ∀ r, s = some r → r) (hv : T1 = putd o.dst v T) :
    Does P x all o ⟨o.dst, v, [], none, tsOf all o, lookIds T o.op.operands.toList⟩ T M := by
  refine does_opw h (fun id h => by cases h) fun T' M' ht hm _ => ?_
  obtain ⟨l, h1, h2, h3⟩ := opF_congr hp (alike_of all ht hm) ho
  have e : putd o.dst l T' = putd o.dst v T' := putd_inj (h1.symm.trans hv)
  rw [e] at h3
  exact opw_opF hn htb h3 hs (fun m a w hr => ⟨x, .refl x, _, _, m, hr, rfl, rfl, rfl⟩)
theorem rel_known {d : Nat} {b c : Bool} (hbc : b = c) {M : Mem} {m : Mp} {a : Act} {w : World} (hr : Rel x (tm ((d, .dat (.bool b)) :: T)) M m a w) : Rel x (tm ((d, .known c) :: T)) M m a w := by
  subst hbc
  refine ⟨fun t => ?_, hr.sz, hr.df, hr.blk, hr.inj, hr.lo, hr.s0, hr.os, hr.tape, hr.output, hr.same, hr.keep⟩
  have := hr.tmp t
  rw [tm_cons] at this ⊢
  unfold upd at this ⊢
  split
  · rename_i ht; rw [if_pos ht] at this; exact rf_bool this
  · rename_i ht; rw [if_neg ht] at this; exact this
theorem does_known {d : Nat} {b c : Bool} {E : Ml} {new : Option Nat} {ts ms : List Nat} (hbc : b = c) (h : Does P x all o ⟨some d, .dat (.bool b), E, new, ts, ms⟩ T M) : Does P x all o ⟨some d, .known c, E, new, ts, ms⟩ T M := by
  refine ⟨h.dst, fun T' M' ht hm hf m a w hr => ?_, h.frs⟩
  have h1 := h.ok T' M' ht hm hf m a w hr
  have key : ∀ a w, (∃ m, Rel x (tm (putd (some d) (.dat (.bool b)) T')) (mm (E ++ M')) m a w) → ∃ m, Rel x (tm (putd (some d) (.known c) T')) (mm (E ++ M')) m a w := fun a w ⟨m, hr⟩ => ⟨m, rel_known hbc hr⟩
  unfold OpG at h1 ⊢
  split
  · rename_i hw; rw [if_pos hw] at h1; exact oper_weak h1 key
  · rename_i hw; rw [if_neg hw] at h1; exact key _ _ h1
/-! ### calls -/
theorem opw_call {k : List It} {c : Call} {f : FuncId} {args : List LV} (htb : TbOk P tb) (hop : o.op = .call c) (hc : c.callee = .value (.func f)) (ha : argsF tb T c.args.toList c.argTypes.toList = some args)
    (h : CallW P x R f args o.dst k T M) : OpW P x R o k T M := fun m a w hr => by
  obtain ⟨⟨fn, cd, hf, hb, hname⟩, h⟩ := h
  have hc1 := h m a w (c.args.toList.map a.eval) hr (by rw [List.length_map, argsF_len ha]) (argsF_ok htb hr ha)
  have hrun : (execOp a.eval o).run P w = .ok (.enter f (c.args.toList.map a.eval).toArray) w := by
    have h1 : fn.name ≠ "runtime.NumGoroutine" := by simpa using hname
    have hfv : a.eval (.func f) = .func (.func f) #[] #[] := rfl
    have hargs : c.args.map a.eval = (c.args.toList.map a.eval).toArray := by rw [← Array.toList_map, Array.toArray_toList]
    simp only [execOp, hop, resolve, hc, hfv, Deferred.ofValue, Sem.run_bind, Sem.run_pure, Result.andThen_ok, invoke, Array.empty_append, Array.append_empty, hargs, callFunc, run_program, hf]
    simp [h1, hb]
  unfold Oper.wp
  rw [hrun]
  refine Calls.mono hc1 fun e w1 he => ?_
  cases e with
  | returned v => exact he
  | panicked c => exact he.elim
  | outgrown => exact he.elim
theorem argsF_congr {T T' : Tl} : ∀ {l : List Operand} {ts : List TypeId}, (∀ q ∈ l, val T' q = val T q) → argsF tb T' l ts = argsF tb T l ts
  | [], [], _ => rfl
  | [], t :: ts, _ => rfl
  | p :: l, [], _ => rfl
  | p :: l, t :: ts, h => by
    show (argV tb T' p t).bind (fun v => (argsF tb T' l ts).bind fun r => some (v :: r)) = _
    unfold argV
    rw [h p List.mem_cons_self, argsF_congr (fun q hq => h q (List.mem_cons_of_mem _ hq))]
    rfl
theorem data_congr {M M' : Mem} {l : LV} (h : ∀ id, l.on1 id → M' id = M id) : l.data M' = l.data M := by
  cases l with
  | own id => simp only [LV.data, h id rfl]
  | _ => rfl
theorem dataL_congr {M M' : Mem} : ∀ {ls : List LV}, (∀ id, (∃ l ∈ ls, l.on1 id) → M' id = M id) → dataL M' ls = dataL M ls
  | [], _ => rfl
  | l :: ls, h => by
    rw [dataL, dataL, data_congr (fun id hi => h id ⟨l, List.mem_cons_self, hi⟩), dataL_congr (fun id ⟨k, hk, hi⟩ => h id ⟨k, List.mem_cons_of_mem _ hk, hi⟩)]
theorem pure_congr {M M' : Mem} {l : LV} (h : ∀ id, l.on2 id → M' id = M id) : l.pure M' = l.pure M := by
  cases l with
  | lagg ls => simp only [LV.pure, dataL_congr (ls := ls) h]
  | own id => simp only [LV.pure, LV.data, h id rfl]
  | _ => rfl
theorem pureL_congr {M M' : Mem} : ∀ {ls : List LV}, (∀ id, (∃ l ∈ ls, l.on2 id) → M' id = M id) → pureL M' ls = pureL M ls
  | [], _ => rfl
  | l :: ls, h => by
    rw [pureL, pureL, pure_congr (fun id hi => h id ⟨l, List.mem_cons_self, hi⟩), pureL_congr (fun id ⟨k, hk, hi⟩ => h id ⟨k, List.mem_cons_of_mem _ hk, hi⟩)]
theorem does_call {c : Call} {f : FuncId} {args args1 : List LV} {r : LV} (hn : x.n = n) (htb : TbOk P tb) (hdo : dstOk n o.dst = true) (h : gst all o T = .yes) (hop : o.op = .call c) (hc : c.callee = .value (.func f)) (ha : argsF tb T c.args.toList c.argTypes.toList = some args)
    (hp : pureL (mm M) args = some args1) (hcon : Con P f args1 r) (hpr : r.isPure = true) (hv : r.flat = true ∨ lk3 args = []) : Does P x all o ⟨o.dst, r, [], none, tsOf all o, lk3 args⟩ T M := by
  refine does_opw h (fun id h => by cases h) fun T' M' ht hm _ => ?_
  have hops : ∀ q ∈ c.args.toList, q ∈ o.op.operands.toList := fun q hq => by
    rw [hop]
    simp only [Op.operands, Call.operands, Array.toList_append, List.mem_append]
    exact .inr hq
  have ha' : argsF tb T' c.args.toList c.argTypes.toList = some args := (argsF_congr fun q hq => val_same ht (hops q hq)).trans ha
  have hp' : pureL (mm M') args = some args1 := (pureL_congr fun id hi => hm id (lk3_ok hi)).trans hp
  refine opw_call htb hop hc ha' (wc_con hn hdo [] hcon hp' hpr (hv.imp id fun h0 id hi => ?_) (fun m a w hr => ⟨x, .refl x, _, _, m, hr, rfl, rfl, rfl⟩))
  have := lk3_ok hi
  rw [h0] at this; cases this
/-! ### variables -/
theorem opF_alloc {t : TypeId} {s : Option Prop} {T1 : Tl} {M1 : Ml} (hop : o.op = .alloc t) (h : opF tb n o T M = some (s, T1, M1)) : ∃ d b, o.dst = some d ∧ fresh T M d = true ∧ s = none ∧ T1 = (d, .ptr d 0) :: T ∧ M1 = (d, b) :: M ∧ ∀ T' M', fresh T' M' d = true → opF tb n o T' M' = some (none, (d, .ptr d 0) :: T', (d, b) :: M') := by
  simp only [opF, hop] at h ⊢
  split at h
  · rename_i y d hy hd
    split at h
    · rename_i hf hag
      obtain ⟨h1, h2, h3, h4⟩ := out_eq h
      rw [hd] at h2 h4
      refine ⟨d, _, hd, hf, h1, h2, h3, fun T' M' hf' => ?_⟩
      rw [hf', hag]
      simp only [out, hd]
      unfold dstOk at h4
      simp only at h4
      rw [h4]
    · rename_i l hf hag hz
      obtain ⟨h1, h2, h3, h4⟩ := out_eq h
      rw [hd] at h2 h4
      refine ⟨d, _, hd, hf, h1, h2, h3, fun T' M' hf' => ?_⟩
      rw [hf', hag, hz]
      simp only [out, hd]
      unfold dstOk at h4
      simp only at h4
      rw [h4]
    · cases h
  · cases h
theorem opF_box {t : TypeId} {q : Operand} {s : Option Prop} {T1 : Tl} {M1 : Ml} (hop : o.op = .box t q) (h : opF tb n o T M = some (s, T1, M1)) : ∃ d b, o.dst = some d ∧ fresh T M d = true ∧ s = none ∧ T1 = (d, .ptr d 0) :: T ∧ M1 = (d, b) :: M ∧ ∀ T' M', val T' q = val T q → fresh T' M' d = true → opF tb n o T' M' = some (none, (d, .ptr d 0) :: T', (d, b) :: M') := by
  simp only [opF, hop] at h ⊢
  split at h
  · rename_i y d hy hd
    split at h
    · rename_i hf
      obtain ⟨v, hv, h⟩ := Option.bind_eq_some_iff.1 h
      obtain ⟨h1, h2, h3, h4⟩ := out_eq h
      rw [hd] at h2 h4
      refine ⟨d, _, hd, hf, h1, h2, h3, fun T' M' hq hf' => ?_⟩
      rw [hf', hq, hv]
      simp only [Option.bind_some, out, hd]
      unfold dstOk at h4
      simp only at h4
      rw [h4]
    · cases h
  · cases h
theorem opF_store {t : TypeId} {p q : Operand} {s : Option Prop} {T1 : Tl} {M1 : Ml} (hop : o.op = .store t p q) (h : opF tb n o T M = some (s, T1, M1)) : ∃ id off b, o.dst = none ∧ val T p = .ptr id off ∧ s = none ∧ T1 = T ∧ M1 = (id, b) :: M ∧ ∀ T' M', val T' p = val T p → val T' q = val T q → mm M' id = mm M id → opF tb n o T' M' = some (none, T', (id, b) :: M') := by
  simp only [opF, hop] at h ⊢
  split at h
  · rename_i y id off hy hp hd
    split at h
    · rename_i t1 v hm
      obtain ⟨u, hu, h⟩ := Option.bind_eq_some_iff.1 h
      cases h
      refine ⟨id, off, _, hd, hp, rfl, rfl, rfl, fun T' M' h1 h2 h3 => ?_⟩
      rw [h1, hp, h2, hy, hd]
      dsimp only
      rw [h3, hm]
      simp only [hu, Option.bind_some]
    · cases h
  · cases h
theorem does_alloc {t : TypeId} {s : Option Prop} {d : Nat} {v : LV} {b : Option Blk} {id : Nat} {T1 : Tl} {M1 : Ml} (hn : x.n = n) (htb : TbOk P tb) (h : gst all o T = .yes) (hop : o.op = .alloc t) (ho : opF tb n o T M = some (s, (d, v) :: T1, (id, b) :: M1)) : Does P x all o ⟨o.dst, v, [(id, b)], some id, tsOf all o, []⟩ T M ∧ o.dst = some d ∧ T1 = T ∧ M1 = M := by
  obtain ⟨d', b', hd, hf, h1, h2, h3, h4⟩ := opF_alloc hop ho
  cases h1; cases h2; cases h3
  refine ⟨does_opw h (fun id hid => by cases hid; exact hf) fun T' M' ht hm hf' => ?_, hd, rfl, rfl⟩
  exact opw_opF hn htb (h4 T' M' (hf' _ rfl)) (fun r hr => by cases hr) (fun m a w hr => ⟨x, .refl x, _, _, m, hr, rfl, by rw [hd]; rfl, rfl⟩)
theorem does_box {t : TypeId} {q : Operand} {s : Option Prop} {d : Nat} {v : LV} {b : Option Blk} {id : Nat} {T1 : Tl} {M1 : Ml} (hn : x.n = n) (htb : TbOk P tb) (h : gst all o T = .yes) (hop : o.op = .box t q) (ho : opF tb n o T M = some (s, (d, v) :: T1, (id, b) :: M1)) : Does P x all o ⟨o.dst, v, [(id, b)], some id, tsOf all o, []⟩ T M ∧ o.dst = some d ∧ T1 = T ∧ M1 = M := by
  obtain ⟨d', b', hd, hf, h1, h2, h3, h4⟩ := opF_box hop ho
  cases h1; cases h2; cases h3
  refine ⟨does_opw h (fun id hid => by cases hid; exact hf) fun T' M' ht hm hf' => ?_, hd, rfl, rfl⟩
  exact opw_opF hn htb (h4 T' M' (val_same ht (by rw [hop]; simp [Op.operands])) (hf' _ rfl)) (fun r hr => by cases hr) (fun m a w hr => ⟨x, .refl x, _, _, m, hr, rfl, by rw [hd]; rfl, rfl⟩)
theorem does_store {t : TypeId} {p q : Operand} {s : Option Prop} {b : Option Blk} {id : Nat} {T1 : Tl} {M1 : Ml} (hn : x.n = n) (htb : TbOk P tb) (h : gst all o T = .yes) (hop : o.op = .store t p q) (ho : opF tb n o T M = some (s, T1, (id, b) :: M1)) : Does P x all o ⟨o.dst, .no, [(id, b)], none, tsOf all o, lookIds T o.op.operands.toList⟩ T M ∧ o.dst = none ∧ T1 = T ∧ M1 = M := by
  obtain ⟨id', off, b', hd, hp, h1, h2, h3, h4⟩ := opF_store hop ho
  cases h1; subst h2; cases h3
  refine ⟨does_opw h (fun id hid => by cases hid) fun T' M' ht hm hf' => ?_, hd, rfl, rfl⟩
  have hpm : p ∈ o.op.operands.toList := by rw [hop]; simp [Op.operands]
  refine opw_opF hn htb (h4 T' M' (val_same ht hpm) (val_same ht (by rw [hop]; simp [Op.operands])) (hm _ (lookIds_ok hpm (by rw [hp]; rfl)))) (fun r hr => by cases hr) (fun m a w hr => ⟨x, .refl x, _, _, m, hr, rfl, by rw [hd]; rfl, rfl⟩)
end
end Go.Proofs.YtjmefaihkblliaaGreat.Ab
/- The abstract machine: a drawn region as a function that computes. Conditions: none. -/
namespace Go.Proofs.YtjmefaihkblliaaGreat.Ab
open Go.RowKit
set_option linter.unusedVariables false
set_option linter.unusedSimpArgs false
inductive DOut : Type 1 where
  | done (s : Prop) (lg : List En) (T : Tl) (M : Ml)
  | cond (b : Bool)
  | bad (o : Oper) (T : Tl) (M : Ml)
def DOut.cons (e : En) : DOut → DOut
  | .done s lg T M => .done s (e :: lg) T M
  | .cond b => .cond b
  | .bad o T M => .bad o T M
def gslots (all : List Oper) : List Oper → List Nat
  | [] => []
  | o :: l => match gslot all o with
    | some d => d :: gslots all l
    | none => gslots all l
def appK {β : Type _} : Ml → Ml → (Ml → β) → β
  | [], M, k => k M
  | p :: E, M, k => appK E M fun M => k (p :: M)
theorem appK_eq {β : Type _} : ∀ (E M : Ml) (k : Ml → β), appK E M k = k (E ++ M)
  | [], M, k => rfl
  | p :: E, M, k => by rw [appK, appK_eq]; rfl
def fin (gsl : List Nat) (d : Option Nat) (v : LV) (E : Ml) (new : Option Nat) (ts ms : List Nat) (hs : List Hn) (s : Prop) (T : Tl) (M : Ml) (k : List Hn → Prop → Tl → Ml → DOut) : DOut := appK E M fun M => match d with
  | none => (k hs s T M).cons ⟨none, v, E, new, ts, ms⟩
  | some t => match elem t gsl, v with
    | true, .dat (.bool b) => match hs with
      | .b c :: hs => (k hs (s ∧ b = c) ((t, .known c) :: T) M).cons ⟨some t, .known c, E, new, ts, ms⟩
      | _ => .cond b
    | _, _ => (k hs s ((t, v) :: T) M).cons ⟨some t, v, E, new, ts, ms⟩
def andO (s : Prop) : Option Prop → Prop
  | some q => s ∧ q
  | none => s
def isNil : List Nat → Bool
  | [] => true
  | _ => false
def needRaw : Op → Bool
  | .alloc _ => false
  | .box _ _ => false
  | .store _ _ _ => false
  | op => !pureOp op
def drF (P : Program) (x : Cx) (tb : Tb) (n : Nat) (all : List Oper) (gsl : List Nat) : List Oper → List Hn → Prop → Tl → Ml → DOut
  | [], hs, s, T, M => .done s [] T M
  | o :: l, hs, s, T, M => match gst all o T, dstOk n o.dst with
    | .no, true => match o.dst with
      | some t => (drF P x tb n all gsl l hs s ((t, .tup []) :: T) M).cons ⟨some t, .tup [], [], none, tsOf all o, []⟩
      | none => (drF P x tb n all gsl l hs s T M).cons ⟨none, .tup [], [], none, tsOf all o, []⟩
    | .yes, true => match hs, needRaw o.op with
      | .raw v E new :: hs, true => fin gsl o.dst v E new (tsOf all o) (lookIds T o.op.operands.toList) hs (s ∧ Does P x all o ⟨o.dst, v, E, new, tsOf all o, lookIds T o.op.operands.toList⟩ T M) T M (drF P x tb n all gsl l)
      | hs, _ => match pureOp o.op with
        | true => match opF tb n o T M, o.dst with
          | some (s1, (_, v) :: _, _), some t => fin gsl (some t) v [] none (tsOf all o) (lookIds T o.op.operands.toList) hs (andO s s1) T M (drF P x tb n all gsl l)
          | some (s1, _, _), none => fin gsl none .no [] none (tsOf all o) (lookIds T o.op.operands.toList) hs (andO s s1) T M (drF P x tb n all gsl l)
          | _, _ => .bad o T M
        | false => match o.op with
          | .alloc t => match opF tb n o T M with
            | some (_, (_, v) :: _, (id, b) :: _) => fin gsl o.dst v [(id, b)] (some id) (tsOf all o) [] hs s T M (drF P x tb n all gsl l)
            | _ => .bad o T M
          | .box t q => match opF tb n o T M with
            | some (_, (_, v) :: _, (id, b) :: _) => fin gsl o.dst v [(id, b)] (some id) (tsOf all o) [] hs s T M (drF P x tb n all gsl l)
            | _ => .bad o T M
          | .store t p q => match opF tb n o T M with
            | some (_, _, (id, b) :: _) => fin gsl o.dst .no [(id, b)] none (tsOf all o) (lookIds T o.op.operands.toList) hs s T M (drF P x tb n all gsl l)
            | _ => .bad o T M
          | .call c => match c.callee, argsF tb T c.args.toList c.argTypes.toList, hs with
            | .value (.func f), some args, .r r :: hs => match pureL (mm M) args, r.isPure, r.flat || isNil (lk3 args) with
              | some args1, true, true => fin gsl o.dst r [] none (tsOf all o) (lk3 args) hs (s ∧ Con P f args1 r) T M (drF P x tb n all gsl l)
              | _, _, _ => .bad o T M
            | _, _, _ => .bad o T M
          | _ => .bad o T M
    | _, _ => .bad o T M
section
variable {P : Program} {x : Cx} {tb : Tb} {R : Tl → Ml → Prop} {n : Nat} {all : List Oper} {gsl : List Nat}
theorem selT_all : ∀ {l : List En} {i j : Nat} {T : Tl}, selT l (fun _ => true) i T = selT l (fun _ => true) j T
  | [], _, _, _ => rfl
  | e :: l, i, j, T => by rw [selT, selT]; exact selT_all
theorem selM_all : ∀ {l : List En} {i j : Nat} {M : Ml}, selM l (fun _ => true) i M = selM l (fun _ => true) j M
  | [], _, _, _ => rfl
  | e :: l, i, j, M => by rw [selM, selM]; exact selM_all
def DOk (P : Program) (x : Cx) (all : List Oper) (l : List Oper) (lg : List En) (T : Tl) (M : Ml) (T1 : Tl) (M1 : Ml) : Prop := Chain P x all l lg T M ∧ T1 = selT lg (fun _ => true) 0 T ∧ M1 = selM lg (fun _ => true) 0 M
theorem DOk.cons {o : Oper} {l : List Oper} {e : En} {lg : List En} {T T1 : Tl} {M M1 : Ml} (h : Does P x all o e T M) (hc : DOk P x all l lg (putd e.dst e.val T) (e.mem ++ M) T1 M1) : DOk P x all (o :: l) (e :: lg) T M T1 M1 := by
  obtain ⟨h1, h2, h3⟩ := hc
  exact ⟨.cons h h1, by rw [h2, selT]; exact selT_all, by rw [h3, selM]; exact selM_all⟩
theorem cons_done {e : En} {d : DOut} {s : Prop} {lg : List En} {T : Tl} {M : Ml} (h : d.cons e = .done s lg T M) : ∃ lg', lg = e :: lg' ∧ d = .done s lg' T M := by
  cases d with
  | done s' lg' T' M' => cases h; exact ⟨lg', rfl, rfl⟩
  | cond b => cases h
  | bad o T M => cases h
def KOk (P : Program) (x : Cx) (all : List Oper) (l : List Oper) (k : List Hn → Prop → Tl → Ml → DOut) : Prop := ∀ hs s T M s1 lg T1 M1, k hs s T M = .done s1 lg T1 M1 → s1 → s ∧ DOk P x all l lg T M T1 M1
theorem fin_ok {o : Oper} {l : List Oper} {d : Option Nat} {v : LV} {E : Ml} {new : Option Nat} {ts ms : List Nat} {hs : List Hn} {s : Prop} {T T1 : Tl} {M M1 : Ml} {k : List Hn → Prop → Tl → Ml → DOut} {s1 : Prop} {lg : List En} (hk : KOk P x all l k)
    (h : fin gsl d v E new ts ms hs s T M k = .done s1 lg T1 M1) (hs1 : s1) (hd : s → Does P x all o ⟨d, v, E, new, ts, ms⟩ T M) : s ∧ DOk P x all (o :: l) lg T M T1 M1 := by
  unfold fin at h
  rw [appK_eq] at h
  split at h
  · obtain ⟨lg', rfl, h'⟩ := cons_done h
    obtain ⟨h1, h2⟩ := hk _ _ _ _ _ _ _ _ h' hs1
    exact ⟨h1, .cons (hd h1) h2⟩
  · rename_i t
    split at h
    · rename_i b hel
      split at h
      · rename_i c hs'
        obtain ⟨lg', rfl, h'⟩ := cons_done h
        obtain ⟨⟨h1, h1'⟩, h2⟩ := hk _ _ _ _ _ _ _ _ h' hs1
        exact ⟨h1, .cons (does_known h1' (hd h1)) h2⟩
      · cases h
    · obtain ⟨lg', rfl, h'⟩ := cons_done h
      obtain ⟨h1, h2⟩ := hk _ _ _ _ _ _ _ _ h' hs1
      exact ⟨h1, .cons (hd h1) h2⟩
theorem andO_1 {s : Prop} {q : Option Prop} (h : andO s q) : s ∧ ∀ r, q = some r → r := by
  cases q with
  | none => exact ⟨h, fun r hr => by cases hr⟩
  | some q => exact ⟨h.1, fun r hr => by cases hr; exact h.2⟩
theorem pure_eq {o : Oper} {T T1 : Tl} {M M1 : Ml} {s : Option Prop} (hp : pureOp o.op = true) (h : opF tb n o T M = some (s, T1, M1)) : ∃ l, T1 = putd o.dst l T ∧ M1 = M := by
  obtain ⟨l, h1, h2, _⟩ := opF_congr (T' := T) (M' := M) hp ⟨fun _ _ => rfl, fun _ _ _ _ => rfl⟩ h
  exact ⟨l, h1, h2⟩
theorem drF_ok (hn : x.n = n) (htb : TbOk P tb) : ∀ (l : List Oper), KOk P x all l (drF P x tb n all gsl l)
  | [], hs, s, T, M, s1, lg, T1, M1, h, hs1 => by
    rw [drF] at h
    cases h
    exact ⟨hs1, .nil T M, rfl, rfl⟩
  | o :: l, hs, s, T, M, s1, lg, T1, M1, h, hs1 => by
    have ih := drF_ok hn htb l
    rw [drF.eq_def] at h
    dsimp only at h
    split at h
    · rename_i hg hdo
      have hno := does_no (P := P) (M := M) hn hdo hg
      split at h
      · rename_i t hd
        rw [hd] at hno
        obtain ⟨lg', rfl, h'⟩ := cons_done h
        obtain ⟨h1, h2⟩ := ih _ _ _ _ _ _ _ _ h' hs1
        exact ⟨h1, .cons hno h2⟩
      · rename_i hd
        rw [hd] at hno
        obtain ⟨lg', rfl, h'⟩ := cons_done h
        obtain ⟨h1, h2⟩ := ih _ _ _ _ _ _ _ _ h' hs1
        exact ⟨h1, .cons hno h2⟩
    · rename_i hg hdo
      split at h
      · obtain ⟨⟨h1, h1'⟩, h2⟩ := fin_ok ih h hs1 (fun hh => hh.2)
        exact ⟨h1, h2⟩
      · split at h
        · rename_i hp
          split at h
          · rename_i s0 t0 v T0 M0 t ho hd
            obtain ⟨l1, h1, h2⟩ := pure_eq hp ho
            rw [hd] at h1
            have h1' : (t0, v) :: T0 = (t, l1) :: T := h1
            obtain ⟨h3, h4⟩ := fin_ok ih h hs1 (fun hh => by
              have := does_pure (all := all) hn htb hp hg ho (andO_1 hh).2 (v := v) (by rw [hd]; show _ = (t, v) :: T; injection h1' with e1 e2; injection e1 with e3 e4; rw [e3, e2])
              rwa [hd] at this)
            exact ⟨(andO_1 h3).1, h4⟩
          · rename_i s0 T0 M0 ho hd
            obtain ⟨l1, h1, h2⟩ := pure_eq hp ho
            rw [hd] at h1
            obtain ⟨h3, h4⟩ := fin_ok ih h hs1 (fun hh => by
              have := does_pure (all := all) hn htb hp hg ho (andO_1 hh).2 (v := .no) (by rw [hd]; exact h1)
              rwa [hd] at this)
            exact ⟨(andO_1 h3).1, h4⟩
          · cases h
        · split at h
          · rename_i t hop
            split at h
            · rename_i s0 t0 v T0 id b M0 ho
              exact fin_ok ih h hs1 (fun _ => (does_alloc hn htb hg hop ho).1)
            · cases h
          · rename_i t q hop
            split at h
            · rename_i s0 t0 v T0 id b M0 ho
              exact fin_ok ih h hs1 (fun _ => (does_box hn htb hg hop ho).1)
            · cases h
          · rename_i t p q hop
            split at h
            · rename_i s0 T0 id b M0 ho
              exact fin_ok ih h hs1 (fun _ => (does_store hn htb hg hop ho).1)
            · cases h
          · rename_i c hop
            split at h
            · rename_i f args r hs' hc ha _
              split at h
              · rename_i args1 hpl hpr hfl
                obtain ⟨⟨h1, h1'⟩, h2⟩ := fin_ok ih h hs1 (fun hh => does_call hn htb hdo hg hop hc ha hpl hh.2 hpr (by
                  rw [Bool.or_eq_true] at hfl
                  refine hfl.imp id fun hh => ?_
                  revert hh; cases lk3 args <;> intro hh <;> first | rfl | cases hh))
                exact ⟨h1, h2⟩
              · cases h
            · cases h
          · cases h
    · cases h
theorem go_draw {id : Nat} {ops : Array Oper} {k k1 : List It} {T T1 T2 : Tl} {M M1 M2 : Ml} {s s2 : Prop} {lg : List En} (hn : x.n = n) (htb : TbOk P tb) (hmix : P.follows .mixedOrders = true) (hs : List Hn) (ho : run tb n 1000 T M True k = .bad s T1 M1 (.code (.region id ops true) :: k1)) (hs0 : s)
    (hd : drF P x tb n ops.toList (gslots ops.toList ops.toList) ops.toList hs True T1 M1 = .done s2 lg T2 M2) (hs2 : s2) (hac : acB ops.toList 0 = true) (hord : ordB (ancs [] ops.toList) [] lg 0 = true) (h : Wc P x R k1 T2 M2) : Wc P x R k T M := by
  refine go hn htb ho ⟨hs0, ?_⟩
  obtain ⟨_, hch, rfl, rfl⟩ := drF_ok hn htb ops.toList hs True T1 M1 s2 lg T2 M2 hd hs2
  exact wc_drawn hmix hac hch hord h
end
end Go.Proofs.YtjmefaihkblliaaGreat.Ab
/- The abstract machine: contracts with rows that are lent and rows that are given back. Conditions: none. -/
namespace Go.Proofs.YtjmefaihkblliaaGreat.Ab
open Go.RowKit
set_option linter.unusedVariables false
set_option linter.unusedSimpArgs false
/-! ### the same knowledge beside another memory -/
def Tr (S : Nat → Prop) (M : Mem) (m : Mp) (S1 : Nat → Prop) (M1 : Mem) (m1 : Mp) (w : World) : Prop := ∀ u c, Rf (Own S M m) w u c → Rf (Own S1 M1 m1) w u c
theorem tr_of {S S1 : Nat → Prop} {M M1 : Mem} {m m1 : Mp} {w : World} (h : ∀ k, Own S1 M1 m1 k → Own S M m k) : Tr S M m S1 M1 m1 w := fun u c hr => Rf.sub hr h
def LV.flatR1 : LV → Bool
  | .dat c => c.flat
  | .spt _ _ => false
  | _ => true
def flatRs : List LV → Bool
  | [] => true
  | l :: ls => l.flatR1 && flatRs ls
def LV.flatR2 : LV → Bool
  | .dagg cs => flats cs
  | .lagg ls => flatRs ls
  | l => l.flatR1
def flatRt : List LV → Bool
  | [] => true
  | l :: ls => l.flatR2 && flatRt ls
def LV.flatR : LV → Bool
  | .tup ls => flatRt ls
  | l => l.flatR2
theorem flatRs_ok {ls : List LV} (h : flatRs ls = true) : ∀ l ∈ ls, l.flatR1 = true := by
  induction ls with
  | nil => intro l hl; cases hl
  | cons k ls ih =>
    simp only [flatRs, Bool.and_eq_true] at h
    intro l hl
    rcases List.mem_cons.1 hl with rfl | hl
    · exact h.1
    · exact ih h.2 l hl
theorem flatRt_ok {ls : List LV} (h : flatRt ls = true) : ∀ l ∈ ls, l.flatR2 = true := by
  induction ls with
  | nil => intro l hl; cases hl
  | cons k ls ih =>
    simp only [flatRt, Bool.and_eq_true] at h
    intro l hl
    rcases List.mem_cons.1 hl with rfl | hl
    · exact h.1
    · exact ih h.2 l hl
section
variable {S S1 : Nat → Prop} {M M1 : Mem} {m m1 : Mp} {w : World}
theorem tr1 {v : Value} {l : LV} (h : ∀ id, l.on1 id → Keep M m M1 m1 id) (ht : Tr S M m S1 M1 m1 w ∨ l.flatR1 = true) (hr : R1 S M m w v l) : R1 S1 M1 m1 w v l := by
  have one : ∀ c, (Tr S M m S1 M1 m1 w ∨ c.flat = true) → Rf (Own S M m) w v c → Rf (Own S1 M1 m1) w v c := fun c hc hh => hc.elim (fun t => t _ _ hh) (fun f => flat_rf f hh)
  cases l with
  | no => trivial
  | nil0 => exact hr
  | nil c =>
    obtain ⟨h1, h2⟩ := hr
    refine ⟨h1, ?_⟩
    subst h1
    cases c with
    | sl z d f xs =>
      obtain ⟨A, q, hv, _⟩ := rf_sl h2
      simp only [Value.slice.injEq] at hv
      have hx : xs = [] := List.length_eq_zero_iff.1 (by omega)
      subst hx
      exact .nil _ _ z d f
    | int k n => cases h2
    | bool b => cases h2
    | str s => cases h2
    | val v => cases h2; exact .val _ rfl
  | known b => exact hr
  | dat c => exact one c ht hr
  | own id =>
    refine ⟨hr.1, fun n hn => ?_⟩
    obtain ⟨h0, h1, h2, h3, h4, h5⟩ := h id rfl (rowLen_some hn)
    rw [h1, h2, h3]; exact hr.2 n (h4 ▸ hn)
  | ptr id off =>
    refine ⟨hr.1, fun hs => ?_⟩
    obtain ⟨h0, h1, _⟩ := h id rfl hs
    rw [h1]; exact hr.2 h0
  | ept id i off =>
    refine ⟨hr.1, fun n hn => ?_⟩
    obtain ⟨h0, h1, h2, h3, h4, h5⟩ := h id rfl (rowLen_some hn)
    rw [h1, h2, h5]; exact hr.2 n (h4 ▸ hn)
  | spt cs off =>
    rcases ht with ht | ht
    · obtain ⟨b, o, hv, hc⟩ := hr
      refine ⟨b, o, hv, fun j c hj => ?_⟩
      obtain ⟨hb, u, hu, hru⟩ := hc j c hj
      refine ⟨fun hh => ?_, u, hu, ht _ _ hru⟩
      have h1 := ht (.slice (some ⟨b, o + j, none⟩) 1 1) (.sl 1 () (fun _ => [c]) [()]) (.row b (o + j) 1 1 1 () (fun _ => [c]) [()] (fun _ _ => u) rfl (by decide) (by decide) (by decide) (by decide) hb (fun _ _ => rfl)
        (fun i x j' q hi hj' => by
          cases i with
          | zero => cases j' with
            | zero => simpa using hu
            | succ j' => simp at hj'
          | succ i => simp at hi)
        (fun i x j' q hi hj' => by
          cases j' with
          | zero => have : c = q := by simpa using hj'
                    subst this; exact hru
          | succ j' => simp at hj'))
      obtain ⟨A, cc, hv1, hc1⟩ := rf_sl h1
      obtain ⟨b1, o1, hA, _, _, _, hb1, _⟩ := hc1 (by decide)
      simp only [Value.slice.injEq] at hv1
      obtain ⟨e1, _, _⟩ := hv1
      rw [← e1] at hA
      simp only [Option.some.injEq, Addr.mk.injEq] at hA
      exact hb1 (hA.1 ▸ hh)
    · cases ht
  | fn f => exact hr
  | dagg cs => exact hr
  | lagg cs => exact hr
  | tup vs => exact hr
theorem tr2 {v : Value} {l : LV} (h : ∀ id, l.on2 id → Keep M m M1 m1 id) (ht : Tr S M m S1 M1 m1 w ∨ l.flatR2 = true) (hr : R2 S M m w v l) : R2 S1 M1 m1 w v l := by
  cases l with
  | dagg cs =>
    obtain ⟨us, hv, hd⟩ := hr
    exact ⟨us, hv, hd.1, fun j u c hu hc => ht.elim (fun t => t _ _ (hd.2 j u c hu hc)) (fun f => flat_rf (flats_ok f c (List.mem_of_getElem? hc)) (hd.2 j u c hu hc))⟩
  | lagg ls =>
    obtain ⟨us, hv, hd⟩ := hr
    exact ⟨us, hv, hd.1, fun j u l hu hl => ⟨tr1 (fun id hi => h id ⟨l, List.mem_of_getElem? hl, hi⟩) (ht.imp id fun f => flatRs_ok f l (List.mem_of_getElem? hl)) (hd.2 j u l hu hl).1, (hd.2 j u l hu hl).2⟩⟩
  | no => trivial
  | nil0 => exact tr1 (l := .nil0) h ht hr
  | nil c => exact tr1 (l := .nil c) h ht hr
  | known b => exact tr1 (l := .known b) h ht hr
  | dat c => exact tr1 (l := .dat c) h ht hr
  | own id => exact tr1 (l := .own id) h ht hr
  | ptr id off => exact tr1 (l := .ptr id off) h ht hr
  | ept id i off => exact tr1 (l := .ept id i off) h ht hr
  | spt cs off => exact tr1 (l := .spt cs off) h ht hr
  | fn f => exact tr1 (l := .fn f) h ht hr
  | tup ls => exact False.elim hr
theorem tr3 {v : Value} {l : LV} (h : ∀ id, l.on id → Keep M m M1 m1 id) (ht : Tr S M m S1 M1 m1 w ∨ l.flatR = true) (hr : R3 S M m w v l) : R3 S1 M1 m1 w v l := by
  cases l with
  | tup ls => obtain ⟨us, hv, hl, hd⟩ := hr; exact ⟨us, hv, hl, fun j u l hu hlj => tr2 (fun id hi => h id ⟨l, List.mem_of_getElem? hlj, hi⟩) (ht.imp id fun f => flatRt_ok f l (List.mem_of_getElem? hlj)) (hd j u l hu hlj)⟩
  | no => trivial
  | nil0 => exact tr2 (l := .nil0) h ht hr
  | nil c => exact tr2 (l := .nil c) h ht hr
  | known b => exact tr2 (l := .known b) h ht hr
  | dat c => exact tr2 (l := .dat c) h ht hr
  | own id => exact tr2 (l := .own id) h ht hr
  | ptr id off => exact tr2 (l := .ptr id off) h ht hr
  | ept id i off => exact tr2 (l := .ept id i off) h ht hr
  | spt cs off => exact tr2 (l := .spt cs off) h ht hr
  | fn f => exact tr2 (l := .fn f) h ht hr
  | dagg cs => exact tr2 (l := .dagg cs) h ht hr
  | lagg cs => exact tr2 (l := .lagg cs) h ht hr
theorem tr_row {id : Nat} (h : Keep M m M1 m1 id) (hl : (M1 id).isSome = true) {e : TypeId} {z : Nat} {α : Type} {f : α → List C} {xs : List α} (ht : Tr S M m S1 M1 m1 w ∨ ∀ y ∈ xs, flats (f y) = true) (hr : RowAt S M m w id e z f xs) : RowAt S1 M1 m1 w id e z f xs := by
  obtain ⟨us, hu, a1, a2, a3, a4, a5, a6, a7⟩ := hr
  obtain ⟨h0, h1, h2, h3, h4, h5⟩ := h hl
  refine ⟨us, by rw [h1]; exact hu, by rw [h2, h3]; exact a1, by rw [h3]; exact a2, by rw [h3]; exact a3, a4, a5, a6, fun i y j c hi hj => ?_⟩
  obtain ⟨u, h6, h7⟩ := a7 i y j c hi hj
  exact ⟨u, by rw [h2]; exact h6, ht.elim (fun t => t _ _ h7) (fun g => flat_rf (flats_ok (g y (List.mem_of_getElem? hi)) c (List.mem_of_getElem? hj)) h7)⟩
theorem trC {us : List Value} {l : LV} (h : ∀ id, l.on2 id → Keep M m M1 m1 id) (ht : Tr S M m S1 M1 m1 w ∨ l.flatR2 = true) (hr : RC S M m w us l) : RC S1 M1 m1 w us l := by
  cases l with
  | dagg cs => exact ⟨hr.1, fun j u c hu hc => ht.elim (fun t => t _ _ (hr.2 j u c hu hc)) (fun f => flat_rf (flats_ok f c (List.mem_of_getElem? hc)) (hr.2 j u c hu hc))⟩
  | lagg ls => exact ⟨hr.1, fun j u l hu hl => ⟨tr1 (fun id hi => h id ⟨l, List.mem_of_getElem? hl, hi⟩) (ht.imp id fun f => flatRs_ok f l (List.mem_of_getElem? hl)) (hr.2 j u l hu hl).1, (hr.2 j u l hu hl).2⟩⟩
  | tup ls => obtain ⟨u, hu, h0, h1⟩ := hr; exact False.elim h0
  | no => obtain ⟨u, hu, _, h1⟩ := hr; exact ⟨u, hu, trivial, h1⟩
  | nil0 => obtain ⟨u, hu, h0, h1⟩ := hr; exact ⟨u, hu, tr1 (l := .nil0) h ht h0, h1⟩
  | nil c => obtain ⟨u, hu, h0, h1⟩ := hr; exact ⟨u, hu, tr1 (l := .nil c) h ht h0, h1⟩
  | known b => obtain ⟨u, hu, h0, h1⟩ := hr; exact ⟨u, hu, tr1 (l := .known b) h ht h0, h1⟩
  | dat c => obtain ⟨u, hu, h0, h1⟩ := hr; exact ⟨u, hu, tr1 (l := .dat c) h ht h0, h1⟩
  | own id => obtain ⟨u, hu, h0, h1⟩ := hr; exact ⟨u, hu, tr1 (l := .own id) h ht h0, h1⟩
  | ptr id off => obtain ⟨u, hu, h0, h1⟩ := hr; exact ⟨u, hu, tr1 (l := .ptr id off) h ht h0, h1⟩
  | ept id i off => obtain ⟨u, hu, h0, h1⟩ := hr; exact ⟨u, hu, tr1 (l := .ept id i off) h ht h0, h1⟩
  | spt cs off => obtain ⟨u, hu, h0, h1⟩ := hr; exact ⟨u, hu, tr1 (l := .spt cs off) h ht h0, h1⟩
  | fn f => obtain ⟨u, hu, h0, h1⟩ := hr; exact ⟨u, hu, tr1 (l := .fn f) h ht h0, h1⟩
theorem tr_blk {id : Nat} {b : Blk} (h : Keep M m M1 m1 id) (hl : (M1 id).isSome = true) (hk : ∀ i, b.on i → Keep M m M1 m1 i) (ht : Tr S M m S1 M1 m1 w) (hr : BlkAt S M m w id b) : BlkAt S1 M1 m1 w id b := by
  cases b with
  | row e z d f xs => exact tr_row h hl (.inl ht) hr
  | box t v =>
    obtain ⟨us, hu, hc⟩ := hr
    exact ⟨us, by rw [(h hl).2.1]; exact hu, trC hk (.inl ht) hc⟩
end
/-! ### contracts -/
structure MemOk (S : Nat → Prop) (M : Mem) (m : Mp) (w : World) : Prop where
  blk : ∀ id b, M id = some b → BlkAt S M m w id b ∧ ∀ i, b.on i → (M i).isSome = true
  inj : ∀ i j, (M i).isSome = true → (M j).isSome = true → m.blk i = m.blk j → i = j
  out : ∀ i, (M i).isSome = true → ¬ S (m.blk i)
structure Back (S : Nat → Prop) (Mi : Mem) (m : Mp) (w : World) (r : LV) (Mo : Mem) (m1 : Mp) (w1 : World) (v : Value) : Prop where
  val : R3 S Mo m1 w1 v r
  mem : MemOk S Mo m1 w1
  new : ∀ i, (Mo i).isSome = true → w.heap.size ≤ m1.blk i ∨ ∃ j, (Mi j).isSome = true ∧ m1.blk i = m.blk j
  keep : ∀ i, (Mi i).isSome = true → (Mo i).isSome = true → m1.blk i = m.blk i ∧ m1.off i = m.off i ∧ m1.cap i = m.cap i ∧ rowLen Mo i = rowLen Mi i ∧ rowZ Mo i = rowZ Mi i
  same : Same (fun k => ∃ j, (Mi j).isSome = true ∧ k = m.blk j) w w1
  os : w1.os = w.os
  tape : w1.tape = w.tape
  output : w1.output = w.output
def Ct (P : Program) (f : FuncId) (args : List LV) (Mi : Ml) (Post : LV → Ml → Prop) : Prop := Callable P f ∧
  ∀ (S : Nat → Prop) (w : World) (m : Mp) (vs : List Value), (∀ k, S k → k < w.heap.size) → MemOk S (mm Mi) m w → vs.length = args.length → (∀ (j : Nat) v l, vs[j]? = some v → args[j]? = some l → R2 S (mm Mi) m w v l) →
    Calls P f vs.toArray w (fun e w1 => ∃ v r Mo m1, e = .returned v ∧ Post r Mo ∧ Back S (mm Mi) m w r (mm Mo) m1 w1 v)
theorem Ct.mono {P : Program} {f : FuncId} {args : List LV} {Mi : Ml} {Post Post1 : LV → Ml → Prop} (h : Ct P f args Mi Post) (hp : ∀ r Mo, Post r Mo → Post1 r Mo) : Ct P f args Mi Post1 :=
  ⟨h.1, fun S w m vs h1 h2 h3 h4 => Calls.mono (h.2 S w m vs h1 h2 h3 h4) fun e w1 ⟨v, r, Mo, m1, he, hpo, hb⟩ => ⟨v, r, Mo, m1, he, hp r Mo hpo, hb⟩⟩
theorem MemOk.lt {S : Nat → Prop} {M : Mem} {m : Mp} {w : World} (h : MemOk S M m w) {id : Nat} (hl : (M id).isSome = true) : m.blk id < w.heap.size := by
  obtain ⟨b, hb⟩ := Option.isSome_iff_exists.1 hl
  exact (h.blk id b hb).1.lt
/-! ### results -/
def LV.ren3L (ρ : Nat → Nat) : List LV → List LV
  | [] => []
  | l :: ls => l.ren2 ρ :: ren3L ρ ls
def LV.ren3 (ρ : Nat → Nat) : LV → LV
  | .tup ls => .tup (LV.ren3L ρ ls)
  | l => l.ren2 ρ
theorem ren3L_get {ρ : Nat → Nat} : ∀ {ls : List LV} (j : Nat), (LV.ren3L ρ ls)[j]? = (ls[j]?).map (LV.ren2 ρ)
  | [], j => rfl
  | l :: ls, 0 => rfl
  | l :: ls, j + 1 => by
    show (LV.ren3L ρ ls)[j]? = _
    rw [ren3L_get j]; rfl
theorem ren3L_len {ρ : Nat → Nat} : ∀ {ls : List LV}, (LV.ren3L ρ ls).length = ls.length
  | [] => rfl
  | l :: ls => by show (LV.ren3L ρ ls).length + 1 = _; rw [ren3L_len]; rfl
theorem Ren.r3 {ρ : Nat → Nat} {S0 : Nat → Prop} {M M1 : Mem} {m m1 : Mp} {w : World} (h : Ren ρ M m M1 m1) {v : Value} {l : LV} (hr : R3 S0 M m w v (l.ren3 ρ)) : R3 S0 M1 m1 w v l := by
  cases l with
  | tup ls =>
    obtain ⟨us, hv, hl, hd⟩ := hr
    refine ⟨us, hv, by rw [hl, ren3L_len], fun j u l hu hlj => h.r2 (hd j u (l.ren2 ρ) hu (by rw [ren3L_get, hlj]; rfl))⟩
  | no => trivial
  | nil0 => exact h.r2 (S0 := S0) (w := w) (l := .nil0) hr
  | nil c => exact h.r2 (S0 := S0) (w := w) (l := .nil c) hr
  | known b => exact h.r2 (S0 := S0) (w := w) (l := .known b) hr
  | dat c => exact h.r2 (S0 := S0) (w := w) (l := .dat c) hr
  | own id => exact h.r2 (S0 := S0) (w := w) (l := .own id) hr
  | ptr id off => exact h.r2 (S0 := S0) (w := w) (l := .ptr id off) hr
  | ept id i off => exact h.r2 (S0 := S0) (w := w) (l := .ept id i off) hr
  | spt cs off => exact h.r2 (S0 := S0) (w := w) (l := .spt cs off) hr
  | fn f => exact h.r2 (S0 := S0) (w := w) (l := .fn f) hr
  | dagg cs => exact h.r2 (S0 := S0) (w := w) (l := .dagg cs) hr
  | lagg cs => exact h.r2 (S0 := S0) (w := w) (l := .lagg cs) hr
def LV.nrm : LV → LV
  | .known b => .dat (.bool b)
  | l => l
def nrmL : List LV → List LV
  | [] => []
  | l :: ls => l.nrm :: nrmL ls
def allDat : List LV → Option (List C)
  | [] => some []
  | .dat c :: ls => (allDat ls).map (c :: ·)
  | _ :: _ => none
def LV.nrm2 : LV → LV
  | .lagg ls => match allDat (nrmL ls) with
    | some cs => .dagg cs
    | none => .lagg (nrmL ls)
  | l => l.nrm
section
variable {S : Nat → Prop} {M : Mem} {m : Mp} {w : World}
theorem nrm_ok {v : Value} {l : LV} (h : R1 S M m w v l) : R1 S M m w v l.nrm := by
  cases l <;> first
    | (rename_i b; have : v = .bool b := h; subst this; exact Rf.bool b)
    | exact h
theorem nrmL_ok {us : List Value} {ls : List LV} (h : Rs S M m w us ls) : Rs S M m w us (nrmL ls) := by
  have hl : ∀ ls : List LV, (nrmL ls).length = ls.length := fun ls => by induction ls with
    | nil => rfl
    | cons l ls ih => show (nrmL ls).length + 1 = _; rw [ih]; rfl
  have hg : ∀ (ls : List LV) (j : Nat), (nrmL ls)[j]? = (ls[j]?).map LV.nrm := fun ls => by induction ls with
    | nil => intro j; rfl
    | cons l ls ih => intro j; cases j with
      | zero => rfl
      | succ j => exact ih j
  refine ⟨by rw [hl]; exact h.1, fun j u l hu hlj => ?_⟩
  rw [hg] at hlj
  obtain ⟨k, hk, rfl⟩ := Option.map_eq_some_iff.1 hlj
  exact ⟨nrm_ok (h.2 j u k hu hk).1, (h.2 j u k hu hk).2⟩
theorem allDat_get : ∀ {ls : List LV} {cs : List C}, allDat ls = some cs → cs.length = ls.length ∧ ∀ (j : Nat) c, cs[j]? = some c → ls[j]? = some (.dat c)
  | [], cs, h => by cases h; exact ⟨rfl, fun j c hc => by cases hc⟩
  | .dat c :: ls, cs, h => by
    simp only [allDat, Option.map_eq_some_iff] at h
    obtain ⟨cs', h1, rfl⟩ := h
    obtain ⟨h2, h3⟩ := allDat_get h1
    refine ⟨by simp [h2], fun j c' hc => ?_⟩
    cases j with
    | zero => have : c = c' := by simpa using hc
              subst this; rfl
    | succ j => exact h3 j c' (by simpa using hc)
  | .no :: ls, cs, h => by cases h
  | .nil0 :: ls, cs, h => by cases h
  | .nil _ :: ls, cs, h => by cases h
  | .known _ :: ls, cs, h => by cases h
  | .dagg _ :: ls, cs, h => by cases h
  | .lagg _ :: ls, cs, h => by cases h
  | .own _ :: ls, cs, h => by cases h
  | .ptr _ _ :: ls, cs, h => by cases h
  | .ept _ _ _ :: ls, cs, h => by cases h
  | .spt _ _ :: ls, cs, h => by cases h
  | .fn _ :: ls, cs, h => by cases h
  | .tup _ :: ls, cs, h => by cases h
theorem nrm2_ok {v : Value} {l : LV} (h : R2 S M m w v l) : R2 S M m w v l.nrm2 := by
  cases l with
  | lagg ls =>
    obtain ⟨us, hv, hd⟩ := h
    have hd' := nrmL_ok hd
    show R2 S M m w v (match allDat (nrmL ls) with | some cs => .dagg cs | none => .lagg (nrmL ls))
    cases ha : allDat (nrmL ls) with
    | none => exact ⟨us, hv, hd'⟩
    | some cs =>
      obtain ⟨h1, h2⟩ := allDat_get ha
      refine ⟨us, hv, by rw [hd'.1, h1], fun j u c hu hc => ?_⟩
      exact (hd'.2 j u _ hu (h2 j c hc)).1
  | known b => exact nrm_ok (l := .known b) h
  | dagg cs => exact h
  | tup ls => exact h
  | no => exact h
  | nil0 => exact h
  | nil c => exact h
  | dat c => exact h
  | own id => exact h
  | ptr id off => exact h
  | ept id i off => exact h
  | spt cs off => exact h
  | fn f => exact h
end
def resC (tb : Tb) (M : Mem) (T : Tl) : List (ResultVar × TypeId) → Option (List LV)
  | [] => some []
  | q :: l => (tb (tyR q)).bind fun y => (resV M T y q.1).bind fun v => (resC tb M T l).bind fun rs => some (v.nrm2 :: rs)
def liveL (M : Ml) : List Nat → Bool
  | [] => true
  | i :: r => (match look none M i with
    | some _ => true
    | none => false) && liveL M r
def closedL (M0 : Ml) : Ml → Bool
  | [] => true
  | (_, none) :: r => closedL M0 r
  | (_, some (.row ..)) :: r => closedL M0 r
  | (_, some (.box _ v)) :: r => liveL M0 (lk2 v) && closedL M0 r
def closedM (M : Ml) : Bool := closedL M M
theorem liveL_ok {M : Ml} : ∀ {l : List Nat}, liveL M l = true → ∀ i ∈ l, (mm M i).isSome = true
  | [], _, i, hi => by cases hi
  | j :: l, h, i, hi => by
    simp only [liveL, Bool.and_eq_true] at h
    rcases List.mem_cons.1 hi with rfl | hi
    · have h1 := h.1
      unfold mm
      split at h1
      · rename_i hb; rw [hb]; rfl
      · cases h1
    · exact liveL_ok h.2 i hi
theorem closedL_ok {M0 : Ml} : ∀ {M : Ml}, closedL M0 M = true → ∀ id b, mm M id = some b → ∀ i, b.on i → (mm M0 i).isSome = true
  | [], _, id, b, hb => by cases hb
  | (k, none) :: r, h, id, b, hb => by
    rw [mm_cons] at hb; unfold upd at hb
    split at hb
    · cases hb
    · exact closedL_ok (M := r) h id b hb
  | (k, some (.row e z d f xs)) :: r, h, id, b, hb => by
    rw [mm_cons] at hb; unfold upd at hb
    split at hb
    · cases hb; exact fun i hi => hi.elim
    · exact closedL_ok (M := r) h id b hb
  | (k, some (.box t v)) :: r, h, id, b, hb => by
    simp only [closedL, Bool.and_eq_true] at h
    rw [mm_cons] at hb; unfold upd at hb
    split at hb
    · cases hb; exact fun i hi => liveL_ok h.1 i (lk2_ok hi)
    · exact closedL_ok (M := r) h.2 id b hb
theorem closedM_ok {M : Ml} (h : closedM M = true) : ∀ id b, mm M id = some b → ∀ i, b.on i → (mm M i).isSome = true := closedL_ok h
def RetC (tb : Tb) (rs : List (ResultVar × TypeId)) (Mi : Ml) (Post : LV → Ml → Prop) (T : Tl) (M : Ml) : Prop :=
  ∃ ls r Mo ρ, resC tb (mm M) T rs = some ls ∧ tupOf ls = LV.ren3 (rn ρ) r ∧ LeM (rn ρ) M Mo ∧ injOn (rn ρ) (keysM Mo) = true ∧ closedM Mo = true ∧ fixed (rn ρ) (keysM Mi) = true ∧ Post r Mo
where
  fixed (ρ : Nat → Nat) : List Nat → Bool
    | [] => true
    | k :: r => Nat.beq (ρ k) k && fixed ρ r
theorem fixed_ok {ρ : Nat → Nat} : ∀ {l : List Nat}, RetC.fixed ρ l = true → ∀ k ∈ l, ρ k = k
  | [], _, k, hk => by cases hk
  | j :: l, h, k, hk => by
    have h' : (Nat.beq (ρ j) j && RetC.fixed ρ l) = true := h
    simp only [Bool.and_eq_true] at h'
    rcases List.mem_cons.1 hk with rfl | hk
    · exact nbeq_t.1 h'.1
    · exact fixed_ok h'.2 k hk
def bigM : Ml → Bool
  | [] => true
  | (k, _) :: r => Nat.ble 1000 k && bigM r
theorem live_key {id : Nat} : ∀ {M : Ml}, (mm M id).isSome = true → id ∈ keysM M
  | [], h => by cases h
  | (k, v) :: M, h => by
    rw [mm_cons] at h; unfold upd at h
    show id ∈ k :: keysM M
    split at h
    · rename_i e; subst e; exact List.mem_cons_self
    · exact List.mem_cons_of_mem _ (live_key h)
theorem bigM_ok : ∀ {M : Ml}, bigM M = true → ∀ i ∈ keysM M, 1000 ≤ i
  | [], _, i, hi => by cases hi
  | (k, v) :: M, h, i, hi => by
    simp only [bigM, Bool.and_eq_true] at h
    rcases List.mem_cons.1 (show i ∈ k :: keysM M from hi) with rfl | hi
    · exact Nat.le_of_ble_eq_true h.1
    · exact bigM_ok h.2 i hi
section
variable {P : Program} {x : Cx} {tb : Tb} {T : Tl} {M : Ml} {m : Mp} {a : Act} {w : World}
theorem resC_ok (htb : TbOk P tb) (h : Rel x (tm T) (mm M) m a w) : ∀ (rs : List (ResultVar × TypeId)) (ls : List LV), resC tb (mm M) T rs = some ls →
    ∃ vs : List Value, ((rs.map (·.1)).mapM (resS P a.tmps)).run P w = .ok vs w ∧ ls.length = vs.length ∧ ∀ (j : Nat) v l, vs[j]? = some v → ls[j]? = some l → R2 x.S0 (mm M) m w v l
  | [], ls, hr => by cases hr; exact ⟨[], rfl, rfl, fun j q l hq => by cases hq⟩
  | q :: rs, ls, hr => by
    simp only [resC] at hr
    obtain ⟨y, hy, hr⟩ := Option.bind_eq_some_iff.1 hr
    obtain ⟨v, hv, hr⟩ := Option.bind_eq_some_iff.1 hr
    obtain ⟨rs', hrs, hr⟩ := Option.bind_eq_some_iff.1 hr
    cases hr
    obtain ⟨vs, h1, h2, h3⟩ := resC_ok htb h rs rs' hrs
    obtain ⟨u, hu, hur⟩ := resV_ok htb h hy hv
    refine ⟨u :: vs, ?_, by simp [h2], fun j v' l hv' hl => ?_⟩
    · rw [List.map_cons, List.mapM_cons]
      simp only [Sem.run_bind, hu, Result.andThen_ok, h1, Sem.run_pure]
    · cases j with
      | zero =>
        have e1 : u = v' := by simpa using hv'
        have e2 : v.nrm2 = l := by simpa using hl
        subst e1; subst e2
        exact nrm2_ok hur
      | succ j => exact h3 j v' l (by simpa using hv') (by simpa using hl)
theorem ct_body {f : FuncId} {fn : Func} {c : Code} {args : List LV} {rs : List (ResultVar × TypeId)} {Mi : Ml} {Post : LV → Ml → Prop} (htb : TbOk P tb) (hf : P.funcs[f]? = some fn) (hb : fn.body = some c) (hname : (fn.name == "runtime.NumGoroutine") = false)
    (hres : fn.results = (rs.map (·.1)).toArray) (hn : args.length ≤ fn.ntmps) (hbig : bigM Mi = true)
    (h : ∀ x : Cx, x.n = fn.ntmps → (∀ i, x.lent i ↔ (mm Mi i).isSome = true) → Wc P x (RetC tb rs Mi Post) [.code c] (args0 0 args) Mi) : Ct P f args Mi Post := by
  refine ⟨⟨fn, c, hf, hb, hname⟩, fun S w m vs hS hM hl hvs => ?_⟩
  let x : Cx := ⟨S, fun k => ∃ j, (mm Mi j).isSome = true ∧ k = m.blk j, w, fn.ntmps, fun i => (mm Mi i).isSome = true, m, rowLen (mm Mi), rowZ (mm Mi), fun i hi => bigM_ok hbig i (live_key hi), S, fun k => ∃ j, (mm Mi j).isSome = true ∧ k = m.blk j, w, fun _ h => h, fun _ h => .inl h, .refl _ _, rfl, rfl, rfl⟩
  have hent : Rel x (tm (args0 0 args)) (mm Mi) m { tmps := vs.toArray ++ Array.replicate (fn.ntmps - vs.toArray.size) undef, defers := [] } w := by
    refine ⟨fun t => ?_, by show (vs.toArray ++ Array.replicate (fn.ntmps - vs.toArray.size) undef).size = fn.ntmps; simp; omega, rfl, fun id b hb => ?_, hM.inj, fun i hi => ⟨.inr ⟨i, hi, rfl⟩, hM.out i hi⟩, hS, rfl, rfl, rfl, Same.refl _ _, fun i _ _ => ⟨rfl, rfl, rfl, rfl, rfl⟩⟩
    · unfold tm
      rw [look_args0, if_pos (Nat.zero_le _), Nat.sub_zero]
      by_cases ht : t < args.length
      · have htv : t < vs.length := by omega
        have hg : (vs.toArray ++ Array.replicate (fn.ntmps - vs.toArray.size) undef).getD t undef = vs[t] := by
          rw [Array.getD_eq_getD_getElem?, Array.getElem?_append_left (by simpa using htv)]
          simp [htv]
        rw [List.getElem?_eq_getElem ht]
        show R3 S (mm Mi) m w ((vs.toArray ++ Array.replicate (fn.ntmps - vs.toArray.size) undef).getD t undef) args[t]
        rw [hg]
        exact r2_r3 (hvs t _ _ (List.getElem?_eq_getElem htv) (List.getElem?_eq_getElem ht))
      · rw [List.getElem?_eq_none (by omega)]; trivial
    · exact (hM.blk id b hb).1
  refine calls_of_wp hf hb (wp_mono (h x rfl (fun i => Iff.rfl) m _ w hent) ?_)
  have key : ∀ a w1, Ends x (RetC tb rs Mi Post) a w1 → a.defers = [] ∧ ∃ v, (results fn a.tmps).run P w1 = .ok v w1 ∧ ∃ v' r Mo m1, Ending.returned v = .returned v' ∧ Post r Mo ∧ Back S (mm Mi) m w r (mm Mo) m1 w1 v' := by
    rintro a w1 ⟨x1, hx, T, M, m0, hr1, ls, r, Mo, ρ, hls, heq, hle, hinj, hro, hfix, hpost⟩
    have hr := hx.rel (x := x) ⟨rfl, rfl, rfl⟩ hS hr1
    obtain ⟨vs1, h0, h1, h2⟩ := resC_ok htb hr rs ls hls
    have hval : R3 S (mm M) m0 w1 (valOf vs1) (tupOf ls) := tupOf_ok h1 h2
    rw [heq] at hval
    have hren : Ren (rn ρ) (mm M) m0 (mm Mo) ⟨fun i => m0.blk (rn ρ i), fun i => m0.off (rn ρ i), fun i => m0.cap (rn ρ i)⟩ := by
      refine ⟨fun id hid => ?_, fun _ => rfl, fun _ => rfl, fun _ => rfl⟩
      obtain ⟨b, hb⟩ := Option.isSome_iff_exists.1 hid
      obtain ⟨h1, _⟩ := leM_get hle id b hb
      refine ⟨by rw [h1]; rfl, ?_, ?_⟩
      · unfold rowLen; rw [hb, h1]; cases b <;> rfl
      · unfold rowZ; rw [hb, h1]; cases b <;> rfl
    refine ⟨hr.df, _, res_ok hres h0, _, r, Mo, ⟨fun i => m0.blk (rn ρ i), fun i => m0.off (rn ρ i), fun i => m0.cap (rn ρ i)⟩, rfl, hpost, hren.r3 hval, ⟨fun id b hb => ?_, fun i j hi hj hij => ?_, fun i hi => ?_⟩, fun i hi => ?_, fun i hi hi2 => ?_, hr.same, hr.os, hr.tape, hr.output⟩
    · refine ⟨?_, closedM_ok hro id b hb⟩
      obtain ⟨h1, _⟩ := leM_get hle id _ hb
      have hbk := hr.blk _ _ h1
      cases b with
      | row e z d f xs =>
        obtain ⟨us, hu, a1, a2, a3, a4, a5, a6, a7⟩ := hbk
        refine ⟨us, hu, a1, a2, a3, a4, a5, a6, fun i y j c hi hj => ?_⟩
        obtain ⟨u, h3, h4⟩ := a7 i y j c hi hj
        exact ⟨u, h3, h4.sub fun k hk => hren.own hk⟩
      | box t v =>
        obtain ⟨us, hu, hc⟩ := hbk
        exact ⟨us, hu, hren.rc hc⟩
    · obtain ⟨bi, hbi⟩ := Option.isSome_iff_exists.1 hi
      obtain ⟨bj, hbj⟩ := Option.isSome_iff_exists.1 hj
      obtain ⟨h1, k1⟩ := leM_get hle i bi hbi
      obtain ⟨h2, k2⟩ := leM_get hle j bj hbj
      exact injOn_ok hinj i k1 j k2 (hr.inj _ _ (by rw [h1]; rfl) (by rw [h2]; rfl) hij)
    · obtain ⟨bi, hbi⟩ := Option.isSome_iff_exists.1 hi
      obtain ⟨h1, _⟩ := leM_get hle i bi hbi
      exact (hr.lo _ (by rw [h1]; rfl)).2
    · obtain ⟨bi, hbi⟩ := Option.isSome_iff_exists.1 hi
      obtain ⟨h1, _⟩ := leM_get hle i bi hbi
      exact (hr.lo _ (by rw [h1]; rfl)).1.imp id (fun ⟨j, h3, h4⟩ => ⟨j, h3, h4⟩)
    · obtain ⟨h3, h4, h5⟩ := hren.live i hi2
      have hri : rn ρ i = i := fixed_ok hfix i (live_key hi)
      rw [hri] at h3 h4 h5
      obtain ⟨k1, k2, k3, k4, k5⟩ := hr.keep i hi h3
      exact ⟨by show m0.blk (rn ρ i) = _; rw [hri]; exact k1, by show m0.off (rn ρ i) = _; rw [hri]; exact k2, by show m0.cap (rn ρ i) = _; rw [hri]; exact k3, h4.trans k4, h5.trans k5⟩
  intro e a w1 he
  rcases Ka.bad he with rfl | ⟨i, rfl⟩ | rfl
  · exact key a w1 he
  · exact he.elim
  · exact key a w1 he
end
end Go.Proofs.YtjmefaihkblliaaGreat.Ab
/- The abstract machine: calls with rows that are lent and rows that are given back. Conditions: none. -/
namespace Go.Proofs.YtjmefaihkblliaaGreat.Ab
open Go.RowKit
set_option linter.unusedVariables false
set_option linter.unusedSimpArgs false
def argsV (M : Mem) : List Bool → List LV → Option (List LV)
  | [], [] => some []
  | true :: fl, a :: as => (argsV M fl as).bind fun r => some (a :: r)
  | false :: fl, a :: as => (a.pure M).bind fun l => (argsV M fl as).bind fun r => some (l :: r)
  | _, _ => none
def dIds : List Bool → List LV → List Nat
  | false :: fl, a :: as => lk2 a ++ dIds fl as
  | true :: fl, _ :: as => dIds fl as
  | _, _ => []
theorem argsV_ok {M : Mem} : ∀ {fl : List Bool} {as ls : List LV}, argsV M fl as = some ls → ls.length = as.length ∧ ∀ (j : Nat) a, as[j]? = some a → ∃ l, ls[j]? = some l ∧ (a = l ∨ (a.pure M = some l ∧ ∀ id, a.on2 id → id ∈ dIds fl as))
  | [], [], ls, h => by cases h; exact ⟨rfl, fun j a ha => by cases ha⟩
  | true :: fl, b :: as, ls, h => by
    simp only [argsV] at h
    obtain ⟨r, hr, h⟩ := Option.bind_eq_some_iff.1 h
    cases h
    obtain ⟨h1, h2⟩ := argsV_ok hr
    refine ⟨by simp [h1], fun j a ha => ?_⟩
    cases j with
    | zero => have : b = a := by simpa using ha
              subst this; exact ⟨b, rfl, .inl rfl⟩
    | succ j => exact h2 j a (by simpa using ha)
  | false :: fl, b :: as, ls, h => by
    simp only [argsV] at h
    obtain ⟨l, hl, h⟩ := Option.bind_eq_some_iff.1 h
    obtain ⟨r, hr, h⟩ := Option.bind_eq_some_iff.1 h
    cases h
    obtain ⟨h1, h2⟩ := argsV_ok hr
    refine ⟨by simp [h1], fun j a ha => ?_⟩
    cases j with
    | zero => have : b = a := by simpa using ha
              subst this; exact ⟨l, rfl, .inr ⟨hl, fun id hi => List.mem_append_left _ (lk2_ok hi)⟩⟩
    | succ j =>
      obtain ⟨l', h3, h4⟩ := h2 j a (by simpa using ha)
      exact ⟨l', h3, h4.imp id fun ⟨h5, h6⟩ => ⟨h5, fun id hi => List.mem_append_right _ (h6 id hi)⟩⟩
  | [], _ :: _, ls, h => by cases h
  | true :: _, [], ls, h => by cases h
  | false :: _, [], ls, h => by cases h
theorem look_dropM {M : Ml} {id : Nat} : ∀ {vw : List Nat}, mm (dropM vw M) id = if id ∈ vw then none else mm M id
  | [] => by simp [dropM]
  | k :: vw => by
    show mm ((k, none) :: dropM vw M) id = _
    rw [mm_cons]; unfold upd
    by_cases h : id = k
    · subst h; simp
    · rw [if_neg h, look_dropM]; simp [h]
theorem found_some {id : Nat} {b : Blk} : ∀ {E : Ml}, mm E id = some b → found id E = some (some b)
  | [], h => by cases h
  | (k, v) :: E, h => by
    rw [mm_cons] at h; unfold upd at h
    unfold found
    by_cases he : id = k
    · subst he; rw [if_pos rfl] at h; rw [nbeq_t.2 rfl, h]
    · rw [if_neg he] at h; rw [nbeq.2 (fun e => he e.symm)]; exact found_some h
theorem found_mm {id : Nat} {v : Option Blk} : ∀ {E : Ml}, found id E = some v → mm E id = v
  | [], h => by cases h
  | (k, u) :: E, h => by
    unfold found at h
    rw [mm_cons]; unfold upd
    cases hb : Nat.beq k id with
    | true => rw [hb] at h; cases h; rw [if_pos (nbeq_t.1 hb).symm]
    | false => rw [hb] at h; rw [if_neg (fun e => (nbeq.1 hb) e.symm)]; exact found_mm h
def newOk (T : Tl) (M : Ml) (Mi : Ml) : Ml → Bool
  | [] => true
  | (id, _) :: r => (elemN id (keysM Mi) || (freeT id T && (freeM id M && (match mm M id with
    | some _ => false
    | none => true)))) && newOk T M Mi r
theorem newOk_ok {T : Tl} {M Mi : Ml} : ∀ {Mo : Ml}, newOk T M Mi Mo = true → ∀ id, (mm Mo id).isSome = true → id ∈ keysM Mi ∨ ((∀ t, ¬ (tm T t).on id) ∧ (∀ i b, mm M i = some b → ¬ b.on id) ∧ mm M id = none)
  | [], _, id, h => by cases h
  | (k, v) :: r, h, id, hi => by
    simp only [newOk, Bool.and_eq_true, Bool.or_eq_true] at h
    rw [mm_cons] at hi; unfold upd at hi
    split at hi
    · rename_i e; subst e
      rcases h.1 with h1 | ⟨h1, h2, h3⟩
      · exact .inl (elemN_ok.1 h1)
      · refine .inr ⟨freeT_ok h1, freeM_ok h2, ?_⟩
        split at h3
        · cases h3
        · assumption
    · exact newOk_ok h.2 id hi
theorem ren1_nil (l : LV) : l.ren1 (rn []) = l := by cases l <;> rfl
theorem renL_nil : ∀ ls : List LV, LV.renL (rn []) ls = ls
  | [] => rfl
  | l :: ls => by rw [LV.renL, ren1_nil, renL_nil]
theorem blk_ren_nil (b : Blk) : b.ren (rn []) = b := by
  cases b with
  | row e z d f xs => rfl
  | box t v =>
    show Blk.box t (v.ren2 (rn [])) = _
    congr 1
    cases v <;> first | rfl | (show LV.lagg _ = _; rw [renL_nil])
def FlatOut (r : LV) (Mo : Ml) : Prop := r.flatR = true ∧ (∀ id (e : TypeId) (z : Nat) (α : Type) (d : α) (f : α → List C) (xs : List α), mm Mo id = some (.row e z d f xs) → ∀ y ∈ xs, flats (f y) = true) ∧ ∀ id (t : TypeId) (v : LV), mm Mo id = some (.box t v) → v.flatR2 = true
section
variable {P : Program} {x : Cx} {tb : Tb} {R : Tl → Ml → Prop} {n : Nat}
theorem wc_ct {f : FuncId} {args as : List LV} {Mi : Ml} {Post : LV → Ml → Prop} {dst : Option Nat} {k : List It} {T : Tl} {M : Ml} (hn : x.n = n) (hd : dstOk n dst = true) (fl : List Bool) (hc : Ct P f args Mi Post) (ha : argsV (mm M) fl as = some args)
    (hsub : LeM (rn []) M Mi) (hro : closedM Mi = true) (hdj : ∀ id ∈ dIds fl as, id ∉ keysM Mi) (hv : dIds fl as = [] ∨ ∀ r Mo, Post r Mo → FlatOut r Mo)
    (hnew : ∀ r Mo, Post r Mo → newOk T M Mi Mo = true ∧ ∀ id, (mm Mo id).isSome = true → (mm Mi id).isSome = true ∨ ¬ x.lent id)
    (honr : ∀ r Mo, Post r Mo → ∀ id, r.on id → (mm Mo id).isSome = true) (hkl : ∀ id ∈ keysM Mi, (mm Mi id).isSome = true)
    (h : ∀ r Mo, Post r Mo → Wc P x R k (Ab.putd dst r T) (Mo ++ dropM (keysM Mi) M)) : CallW P x R f as dst k T M := by
  refine ⟨hc.1, fun m a w vs hr hl hvs => ?_⟩
  obtain ⟨h1, h2⟩ := argsV_ok ha
  have hrn : ∀ i, rn [] i = i := fun i => rfl
  have hMi : ∀ id b, mm Mi id = some b → mm M id = some b := fun id b hb => by
    obtain ⟨h3, _⟩ := leM_get hsub id b hb
    rw [hrn] at h3
    rwa [blk_ren_nil] at h3
  have hMl : ∀ id, (mm Mi id).isSome = true → (mm M id).isSome = true := fun id hi => by
    obtain ⟨b, hb⟩ := Option.isSome_iff_exists.1 hi
    rw [hMi id b hb]; rfl
  let S : Nat → Prop := fun k => x.S0 k ∨ ∃ id, (mm M id).isSome = true ∧ m.blk id = k ∧ id ∉ keysM Mi ∧ id ∉ dIds fl as
  have hSown : ∀ k, Own S (mm Mi) m k → Own x.S0 (mm M) m k := fun k hk => by
    rcases hk with (hk | ⟨id, hi, hb, _⟩) | ⟨id, hi, hb⟩
    · exact .inl hk
    · exact .inr ⟨id, hi, hb⟩
    · exact .inr ⟨id, hMl id hi, hb⟩
  have hlive0 : ∀ id, Keep (mm M) m (mm Mi) m id := fun id hi => by
    obtain ⟨b, hb⟩ := Option.isSome_iff_exists.1 hi
    have := hMi id b hb
    exact ⟨hMl id hi, rfl, rfl, rfl, by unfold rowLen; rw [hb, this], by unfold rowZ; rw [hb, this]⟩
  have hmem : MemOk S (mm Mi) m w := by
    refine ⟨fun id b hb => ?_, fun i j hi hj => hr.inj i j (hMl i hi) (hMl j hj), fun i hi hS => ?_⟩
    · exact ⟨tr_blk (hlive0 id) (by rw [hb]; rfl) (fun i _ => hlive0 i) (tr_of hSown) (hr.blk id _ (hMi id _ hb)), closedM_ok hro id b hb⟩
    · rcases hS with hS | ⟨id, hid, hb, hno, _⟩
      · exact (hr.lo i (hMl i hi)).2 hS
      · have := hr.inj _ _ hid (hMl i hi) hb
        subst this
        exact hno (live_key hi)
  have hcall := hc.2 S w m vs (fun k hk => by
      rcases hk with hk | ⟨id, hid, hb, _⟩
      · exact Nat.lt_of_lt_of_le (hr.s0 k hk) hr.same.size
      · rw [← hb]; exact hr.live_lt hid) hmem (by rw [hl, h1]) (fun j v l hvj hlj => by
      have hlt := (List.getElem?_eq_some_iff.1 hvj).1
      rw [hl] at hlt
      have haj := List.getElem?_eq_getElem hlt
      obtain ⟨l', hl', hor⟩ := h2 j _ haj
      rw [hlj] at hl'; cases hl'
      have hra := hvs j v _ hvj haj
      rcases hor with he | ⟨hp, hin⟩
      · rw [he] at hra
        exact tr2 (fun id _ => hlive0 id) (.inl (tr_of hSown)) hra
      · have hp1 := pure_ok (x := x) (S := Own S (mm Mi) m) hSown hr.blk hra hp (fun id hi hlive hS => by
          rcases hS with (hS | ⟨id', hid', hb', _, hno⟩) | ⟨id', hid', hb'⟩
          · exact (hr.lo id hlive).2 hS
          · have := hr.inj _ _ hid' hlive hb'
            subst this
            exact hno (hin _ hi)
          · have := hr.inj _ _ (hMl _ hid') hlive hb'
            subst this
            exact hdj _ (hin _ hi) (live_key hid')) m
        have hpp : l.isPure2 = true := by
          revert hp
          generalize as[j] = b
          intro hp
          cases b <;> simp only [LV.pure] at hp <;> first
            | (cases hp; rfl)
            | (obtain ⟨c, _, hp⟩ := Option.bind_eq_some_iff.1 hp; cases hp; rfl)
        exact back2 hpp (.inl fun k hk => hk) hp1)
  refine Calls.mono hcall fun e w1 he => ?_
  obtain ⟨v, r, Mo, m1, rfl, hpo, hb⟩ := he
  obtain ⟨hno, hnl⟩ := hnew r Mo hpo
  have hno' := newOk_ok hno
  -- the memory then
  let m' : Mp := ⟨fun i => if (mm Mo i).isSome = true then m1.blk i else m.blk i, fun i => if (mm Mo i).isSome = true then m1.off i else m.off i, fun i => if (mm Mo i).isSome = true then m1.cap i else m.cap i⟩
  have hM1 : ∀ id, mm (Mo ++ dropM (keysM Mi) M) id = (found id Mo).getD (if id ∈ keysM Mi then none else mm M id) := fun id => by rw [mm_app, look_dropM]
  have hcases : ∀ id b, mm (Mo ++ dropM (keysM Mi) M) id = some b → mm Mo id = some b ∨ (mm Mo id = none ∧ id ∉ keysM Mi ∧ mm M id = some b) := fun id b hb' => by
    rw [hM1] at hb'
    cases hf : found id Mo with
    | some q =>
      rw [hf] at hb'
      have : q = some b := hb'
      subst this
      exact .inl (found_mm hf)
    | none =>
      rw [hf] at hb'
      have hb'' : (if id ∈ keysM Mi then none else mm M id) = some b := hb'
      split at hb''
      · cases hb''
      · rename_i hk
        refine .inr ⟨?_, hk, hb''⟩
        cases hmo : mm Mo id with
        | none => rfl
        | some b' => rw [found_some hmo] at hf; cases hf
  have hinMo : ∀ id b, mm Mo id = some b → mm (Mo ++ dropM (keysM Mi) M) id = some b := fun id b hb' => by rw [hM1, found_some hb']; rfl
  have hin : ∀ id, (mm Mo id).isSome = true → m'.blk id = m1.blk id ∧ m'.off id = m1.off id ∧ m'.cap id = m1.cap id := fun id hi => ⟨if_pos hi, if_pos hi, if_pos hi⟩
  have hout : ∀ id, mm Mo id = none → m'.blk id = m.blk id ∧ m'.off id = m.off id ∧ m'.cap id = m.cap id := fun id hi => by
    have : ¬ (mm Mo id).isSome = true := by rw [hi]; exact Bool.false_ne_true
    exact ⟨if_neg this, if_neg this, if_neg this⟩
  have hnewb : ∀ id, (mm Mo id).isSome = true → w.heap.size ≤ m1.blk id ∨ ∃ j, (mm Mi j).isSome = true ∧ m1.blk id = m.blk j := hb.new
  have hown : ∀ k, Own x.S0 (mm (Mo ++ dropM (keysM Mi) M)) m' k → k < w.heap.size → Own x.S0 (mm M) m k := fun k hk hlt => by
    rcases hk with hk | ⟨id, hi, hbk⟩
    · exact .inl hk
    · obtain ⟨b, hb'⟩ := Option.isSome_iff_exists.1 hi
      rcases hcases id b hb' with h3 | ⟨h3, h4, h5⟩
      · have hi' : (mm Mo id).isSome = true := by rw [h3]; rfl
        rw [(hin id hi').1] at hbk
        rcases hnewb id hi' with h6 | ⟨j, hj, h6⟩
        · omega
        · exact .inr ⟨j, hMl j hj, by rw [← h6]; exact hbk⟩
      · rw [(hout id h3).1] at hbk
        exact .inr ⟨id, by rw [h5]; rfl, hbk⟩
  have hlentown : ∀ k, (∃ j, (mm Mi j).isSome = true ∧ k = m.blk j) → Own x.S0 (mm M) m k := fun k ⟨j, hj, e⟩ => .inr ⟨j, hMl j hj, e.symm⟩
  have hmv : Mv x.S0 (mm M) m w (mm (Mo ++ dropM (keysM Mi) M)) m' w1 := ⟨⟨hb.same.size, fun k hk hO => hb.same.at_ k hk (fun hl => hO (hlentown k hl))⟩, hown⟩
  have hkeep : ∀ id, ((mm M id).isSome = true ∨ ¬ ((∀ t, ¬ (tm T t).on id) ∧ (∀ i b, mm M i = some b → ¬ b.on id))) → Keep (mm M) m (mm (Mo ++ dropM (keysM Mi) M)) m' id := fun id hor hl => by
    obtain ⟨b, hb'⟩ := Option.isSome_iff_exists.1 hl
    rcases hcases id b hb' with h3 | ⟨h3, h4, h5⟩
    · have hi' : (mm Mo id).isSome = true := by rw [h3]; rfl
      have hk : id ∈ keysM Mi := by
        rcases hno' id hi' with hk | ⟨f1, f2, f3⟩
        · exact hk
        · rcases hor with hor | hor
          · rw [f3] at hor; cases hor
          · exact absurd ⟨f1, f2⟩ hor
      have hmi := hkl id hk
      obtain ⟨k1, k2, k3, k4, k5⟩ := hb.keep id hmi hi'
      obtain ⟨bi, hbi⟩ := Option.isSome_iff_exists.1 hmi
      obtain ⟨g1, g2, g3⟩ := hin id hi'
      refine ⟨hMl id hmi, g1.trans k1, g2.trans k2, g3.trans k3, ?_, ?_⟩
      · have e1 : rowLen (mm (Mo ++ dropM (keysM Mi) M)) id = rowLen (mm Mo) id := by unfold rowLen; rw [hb', h3]
        have e2 : rowLen (mm M) id = rowLen (mm Mi) id := by unfold rowLen; rw [hMi id bi hbi, hbi]
        rw [e1, e2]; exact k4
      · have e1 : rowZ (mm (Mo ++ dropM (keysM Mi) M)) id = rowZ (mm Mo) id := by unfold rowZ; rw [hb', h3]
        have e2 : rowZ (mm M) id = rowZ (mm Mi) id := by unfold rowZ; rw [hMi id bi hbi, hbi]
        rw [e1, e2]; exact k5
    · obtain ⟨g1, g2, g3⟩ := hout id h3
      exact ⟨by rw [h5]; rfl, g1, g2, g3, by unfold rowLen; rw [hb', h5], by unfold rowZ; rw [hb', h5]⟩
  have hkT : ∀ t id, (tm T t).on id → Keep (mm M) m (mm (Mo ++ dropM (keysM Mi) M)) m' id := fun t id hi => hkeep id (.inr fun ⟨h3, _⟩ => h3 t hi)
  have hkM : ∀ i b id, mm M i = some b → b.on id → Keep (mm M) m (mm (Mo ++ dropM (keysM Mi) M)) m' id := fun i b id hb' hi => hkeep id (.inr fun ⟨_, h3⟩ => h3 i b hb' hi)
  have hback : ∀ k, Own x.S0 (mm (Mo ++ dropM (keysM Mi) M)) m' k → dIds fl as = [] → Own S (mm Mo) m1 k := fun k hk h0 => by
    rcases hk with hk | ⟨id, hi, hbk⟩
    · exact .inl (.inl hk)
    · obtain ⟨b, hb'⟩ := Option.isSome_iff_exists.1 hi
      rcases hcases id b hb' with h3 | ⟨h3, h4, h5⟩
      · have hi' : (mm Mo id).isSome = true := by rw [h3]; rfl
        exact .inr ⟨id, hi', by rw [← (hin id hi').1]; exact hbk⟩
      · refine .inl (.inr ⟨id, by rw [h5]; rfl, by rw [← (hout id h3).1]; exact hbk, h4, by rw [h0]; exact List.not_mem_nil⟩)
  have hr1 : Rel x (tm T) (mm (Mo ++ dropM (keysM Mi) M)) m' a w1 := by
    refine ⟨fun t => hmv.r3 (fun id hi => hkT t id hi) (hr.tmp t), hr.sz, hr.df, fun id b hb' => ?_, fun i j hi hj hij => ?_, fun i hi => ?_, hr.s0, hb.os.trans hr.os, hb.tape.trans hr.tape, hb.output.trans hr.output, ⟨Nat.le_trans hr.same.size hb.same.size, fun k hk hO => ?_⟩, fun i hl' hi => ?_⟩
    · rcases hcases id b hb' with h3 | ⟨h3, h4, h5⟩
      · obtain ⟨hba, hcl⟩ := hb.mem.blk id b h3
        have hi' : (mm Mo id).isSome = true := by rw [h3]; rfl
        obtain ⟨g1, g2, g3⟩ := hin id hi'
        cases b with
        | box ty v =>
          obtain ⟨us, hu, hc⟩ := hba
          refine ⟨us, by rw [g1]; exact hu, trC (fun i hi hl => ?_) ?_ hc⟩
          · have hmo := hcl i hi
            obtain ⟨bi, hbi⟩ := Option.isSome_iff_exists.1 hmo
            obtain ⟨e1, e2, e3⟩ := hin i hmo
            exact ⟨hmo, e1, e2, e3, by unfold rowLen; rw [hinMo i bi hbi, hbi], by unfold rowZ; rw [hinMo i bi hbi, hbi]⟩
          · rcases hv with h0 | h0
            · exact .inl (tr_of fun k hk => hback k hk h0)
            · exact .inr ((h0 r Mo hpo).2.2 id ty v h3)
        | row e z d f xs =>
        obtain ⟨us, hu, a1, a2, a3, a4, a5, a6, a7⟩ := hba
        refine ⟨us, by rw [g1]; exact hu, by rw [g2, g3]; exact a1, by rw [g3]; exact a2, by rw [g3]; exact a3, a4, a5, a6, fun i y j c hi hj => ?_⟩
        obtain ⟨u, h6, h7⟩ := a7 i y j c hi hj
        refine ⟨u, by rw [g2]; exact h6, ?_⟩
        rcases hv with h0 | h0
        · exact Rf.sub h7 fun k hk => hback k hk h0
        · exact flat_rf (flats_ok ((h0 r Mo hpo).2.1 id e z _ d f xs h3 y (List.mem_of_getElem? hi)) c (List.mem_of_getElem? hj)) h7
      · obtain ⟨g1, g2, g3⟩ := hout id h3
        refine hmv.blk g1 g2 g3 (hb.same.at_ _ (hr.live_lt (by rw [h5]; rfl)) (fun ⟨j, hj, e⟩ => ?_)) (fun i hi => hkM id b i h5 hi) (hr.blk id b h5)
        have := hr.inj _ _ (by rw [h5]; rfl) (hMl j hj) e
        subst this
        exact h4 (live_key hj)
    · obtain ⟨bi, hbi⟩ := Option.isSome_iff_exists.1 hi
      obtain ⟨bj, hbj⟩ := Option.isSome_iff_exists.1 hj
      have cross : ∀ p q bp, mm Mo p = some bp → mm Mo q = none → q ∉ keysM Mi → (mm M q).isSome = true → m1.blk p = m.blk q → False := fun p q bp h3 h4 h5 h6 h7 => by
        rcases hnewb p (by rw [h3]; rfl) with h8 | ⟨j, hj, h8⟩
        · have := hr.live_lt h6; omega
        · have := hr.inj _ _ (hMl j hj) h6 (h8.symm.trans h7)
          subst this
          exact h5 (live_key hj)
      rcases hcases i bi hbi with h3 | ⟨h3, h4, h5⟩ <;> rcases hcases j bj hbj with g3 | ⟨g3, g4, g5⟩
      · have hi' : (mm Mo i).isSome = true := by rw [h3]; rfl
        have hj' : (mm Mo j).isSome = true := by rw [g3]; rfl
        rw [(hin i hi').1, (hin j hj').1] at hij
        exact hb.mem.inj i j hi' hj' hij
      · rw [(hin i (by rw [h3]; rfl)).1, (hout j g3).1] at hij
        exact (cross i j bi h3 g3 g4 (by rw [g5]; rfl) hij).elim
      · rw [(hout i h3).1, (hin j (by rw [g3]; rfl)).1] at hij
        exact (cross j i bj g3 h3 h4 (by rw [h5]; rfl) hij.symm).elim
      · rw [(hout i h3).1, (hout j g3).1] at hij
        exact hr.inj i j (by rw [h5]; rfl) (by rw [g5]; rfl) hij
    · obtain ⟨bi, hbi⟩ := Option.isSome_iff_exists.1 hi
      rcases hcases i bi hbi with h3 | ⟨h3, h4, h5⟩
      · have hi' : (mm Mo i).isSome = true := by rw [h3]; rfl
        rw [(hin i hi').1]
        refine ⟨?_, fun hS => hb.mem.out i hi' (.inl hS)⟩
        rcases hnewb i hi' with h6 | ⟨j, hj, h6⟩
        · exact .inl (Nat.le_trans hr.same.size h6)
        · rw [h6]; exact (hr.lo j (hMl j hj)).1
      · rw [(hout i h3).1]; exact hr.lo i (by rw [h5]; rfl)
    · rw [hb.same.at_ k (Nat.lt_of_lt_of_le hk hr.same.size) (fun ⟨j, hj, e⟩ => ?_)]
      · exact hr.same.at_ k hk hO
      · rcases (hr.lo j (hMl j hj)).1 with h3 | h3
        · omega
        · exact hO (e ▸ h3)
    · have hlive : (mm M i).isSome = true ∨ (mm Mo i).isSome = true := by
        obtain ⟨bi, hbi⟩ := Option.isSome_iff_exists.1 hi
        rcases hcases i bi hbi with h3 | ⟨_, _, h5⟩
        · exact .inr (by rw [h3]; rfl)
        · exact .inl (by rw [h5]; rfl)
      have hM' : (mm M i).isSome = true := by
        rcases hlive with h3 | h3
        · exact h3
        · rcases hnl i h3 with h4 | h4
          · exact hMl i h4
          · exact absurd hl' h4
      obtain ⟨h0, k1, k2, k3, k4, k5⟩ := hkeep i (.inl hM') hi
      obtain ⟨q1, q2, q3, q4, q5⟩ := hr.keep i hl' h0
      exact ⟨k1.trans q1, k2.trans q2, k3.trans q3, k4.trans q4, k5.trans q5⟩
  refine h r Mo hpo m' _ w1 (hr1.putd hn hd ?_)
  refine tr3 (fun id hi hl => ?_) ?_ hb.val
  · have hmo := honr r Mo hpo id hi
    obtain ⟨b, hb'⟩ := Option.isSome_iff_exists.1 hmo
    obtain ⟨g1, g2, g3⟩ := hin id hmo
    exact ⟨hmo, g1, g2, g3, by unfold rowLen; rw [hinMo id b hb', hb'], by unfold rowZ; rw [hinMo id b hb', hb']⟩
  · rcases hv with h0 | h0
    · exact .inl (tr_of fun k hk => hback k hk h0)
    · exact .inr (h0 r Mo hpo).1
end
end Go.Proofs.YtjmefaihkblliaaGreat.Ab
/- The abstract machine: rows built and appended to inside a drawn region. Conditions: none. -/
namespace Go.Proofs.YtjmefaihkblliaaGreat.Ab
open Go.RowKit
set_option linter.unusedVariables false
set_option linter.unusedSimpArgs false
section
variable {P : Program} {x : Cx} {tb : Tb} {R : Tl → Ml → Prop} {n : Nat} {all : List Oper} {o : Oper} {T : Tl} {M : Ml}
theorem opw_forget {k : List It} (d1 : Nat) (h : OpW P x R o k T ((d1, none) :: M)) : OpW P x R o k T M := fun m a w hr => h m a w (hr.dropM [d1])
theorem data_none {v : LV} (h : idsOf v = []) {M M' : Mem} : ∀ {ls : List LV} {cs : List C}, (∀ l ∈ ls, l ∈ v.cells) → dataL M ls = some cs → dataL M' ls = some cs
  | [], cs, _, hd => hd
  | l :: ls, cs, hl, hd => by
    simp only [dataL] at hd ⊢
    obtain ⟨c, hc, hd⟩ := Option.bind_eq_some_iff.1 hd
    obtain ⟨cs', hcs, hd⟩ := Option.bind_eq_some_iff.1 hd
    have h1 : l.data M' = some c := by
      cases l with
      | own id => exact (ids_none h (hl _ List.mem_cons_self) (rfl : LV.on1 id (.own id)) hc).elim
      | _ => exact hc
    rw [h1, data_none h (fun k hk => hl k (List.mem_cons_of_mem _ hk)) hcs]
    exact hd
theorem bsF_congr {T' : Tl} {M M' : Mem} {y : Ty} : ∀ {l : List (Nat × Operand)} {k : Nat} {cont : List (List C)}, (∀ q ∈ l, val T' q.2 = val T q.2) → bsF T M y k l = some cont → bsF T' M' y k l = some cont
  | [], k, cont, _, h => h
  | (i, q) :: r, k, cont, hq, h => by
    simp only [bsF] at h ⊢
    rw [hq (i, q) List.mem_cons_self]
    split at h
    · obtain ⟨v, hv, h⟩ := Option.bind_eq_some_iff.1 h
      rw [hv]
      simp only [Option.bind_some]
      split at h
      · rename_i hid
        obtain ⟨cs, hcs, h⟩ := Option.bind_eq_some_iff.1 h
        obtain ⟨rest, hrest, h⟩ := Option.bind_eq_some_iff.1 h
        rw [data_none hid (fun l hl => hl) hcs, bsF_congr (fun q hq' => hq q (List.mem_cons_of_mem _ hq')) hrest]
        exact h
      · cases h
    · cases h
theorem does_lit {t e : TypeId} {y : Ty} {d1 len : Nat} {parts : Array (Nat × Operand)} {cont : List (List C)} {α : Type} {d : α} (f : α → List C) (ys : List α) (hn : x.n = n) (htb : TbOk P tb) (h : gst all o T = .yes) (hdo : dstOk n o.dst = true) (hop : o.op = .buildSlice t len parts)
    (hs : slOf tb t = some (e, y)) (hb : bsF T (mm M) y 0 parts.toList = some cont) (hlen : Nat.beq parts.toList.length len = true) (hsm : Nat.ble (len * y.size) 16777216 = true) (hd : o.dst = some d1) (hf : fresh T M d1 = true) (hys : cont = ys.map f) :
    Does P x all o ⟨o.dst, .own d1, [(d1, some (.row e y.size d f ys))], some d1, tsOf all o, lookIds T o.op.operands.toList⟩ T M := by
  refine does_opw h (fun id hid => by cases hid; exact hf) fun T' M' ht hm hf' => opw_forget d1 ?_
  refine opw_lit (d := d) f ys hn htb hdo hop hs (bsF_congr (fun q hq => val_same ht ?_) hb) hlen hsm hd (hf' _ rfl) (by rw [mm_cons, upd_same]) hys (fun m a w hr => ⟨x, .refl x, (d1, .own d1) :: T', (d1, some (.row e y.size d f ys)) :: M', m, ?_, rfl, by rw [hd]; rfl, rfl⟩)
  · rw [hop]
    simp only [Op.operands, Array.toList_map]
    exact List.mem_map.2 ⟨q, hq, rfl⟩
  · have : mm ((d1, some (.row e y.size d f ys)) :: M') = mm ((d1, some (.row e y.size d f ys)) :: (d1, none) :: M') := by
      funext i
      simp only [mm_cons]
      by_cases hi : i = d1
      · subst hi; rw [upd_same, upd_same]
      · rw [upd_ne _ _ hi, upd_ne _ _ hi, upd_ne _ _ hi]
    rw [this]; exact hr
theorem does_litz {t e : TypeId} {y : Ty} {d1 len z : Nat} {parts : Array (Nat × Operand)} {cont : List (List C)} {α : Type} {d : α} (f : α → List C) (ys : List α) (hn : x.n = n) (htb : TbOk P tb) (h : gst all o T = .yes) (hdo : dstOk n o.dst = true) (hop : o.op = .buildSlice t len parts)
    (hs : slOf tb t = some (e, y)) (hz : y.size = z) (hb : bsF T (mm M) y 0 parts.toList = some cont) (hlen : Nat.beq parts.toList.length len = true) (hsm : Nat.ble (len * y.size) 16777216 = true) (hd : o.dst = some d1) (hf : fresh T M d1 = true) (hys : cont = ys.map f) :
    Does P x all o ⟨o.dst, .own d1, [(d1, some (.row e z d f ys))], some d1, tsOf all o, lookIds T o.op.operands.toList⟩ T M := by
  subst hz
  exact does_lit f ys hn htb h hdo hop hs hb hlen hsm hd hf hys
theorem contF_congr {M M' : Mem} {v : LV} {z : Nat} {cont : List (List C)} (h : ∀ id, v.on1 id → M' id = M id) (hc : contF M v = some (z, cont)) : contF M' v = some (z, cont) := by
  cases v with
  | own id => simp only [contF, h id rfl] at hc ⊢; exact hc
  | dat c => cases c <;> exact hc
  | nil c => cases c <;> exact hc
  | _ => exact hc
theorem does_app {t e : TypeId} {y : Ty} {v : LV} {id d1 z : Nat} {α : Type} {d : α} {f : α → List C} {xs : List α} {cont : List (List C)} (ys : List α) (hn : x.n = n) (htb : TbOk P tb) (h : gst all o T = .yes) (hi : AppI n o T t (.own id) v) (hm : mm M id = some (.row e z d f xs))
    (hs : slOf tb t = some (e, y)) (hz : Nat.beq y.size z = true) (hv : contF (mm M) v = some (z, cont)) (hys : cont = ys.map f) (hd : o.dst = some d1) (hf : fresh T M d1 = true) (hby : (xs.length + ys.length) * y.bytes ≤ 140737488355328) :
    Does P x all o ⟨o.dst, .own d1, [(d1, some (.row e z d f (xs ++ ys))), (id, none)], some d1, tsOf all o, lookIds T o.op.operands.toList⟩ T M := by
  refine does_opw h (fun id hid => by cases hid; exact hf) fun T' M' ht hM hf' => opw_forget d1 ?_
  obtain ⟨hdo, c, p, q, hop, hc, ha, hty, hp, hq⟩ := hi
  have hops : ∀ r ∈ c.args.toList, r ∈ o.op.operands.toList := fun r hr => by
    rw [hop]
    simp only [Op.operands, Call.operands, Array.toList_append, List.mem_append]
    exact .inr hr
  have hpm : p ∈ o.op.operands.toList := hops p (by rw [ha]; simp)
  have hqm : q ∈ o.op.operands.toList := hops q (by rw [ha]; simp)
  have same : ∀ r ∈ o.op.operands.toList, ∀ i, (val T r).on2 i → mm ((d1, none) :: M') i = mm M i := fun r hr i hi => by
    have hne : i ≠ d1 := fun e => by
      subst e
      refine val_fresh (fresh_ok hf) r ?_
      revert hi
      cases val T r <;> intro hi <;> first | exact hi | exact hi.elim
    rw [mm_cons, upd_ne _ _ hne]
    exact hM i (lookIds_ok hr hi)
  refine opw_app (d := d) ys hn htb ⟨hdo, c, p, q, hop, hc, ha, hty, (val_same ht hpm).trans hp, (val_same ht hqm).trans hq⟩ rfl ((same p hpm id (by rw [hp]; rfl)).trans hm) hs hz (contF_congr (fun i hi => same q hqm i (by
    rw [hq]
    revert hi
    cases v <;> intro hi <;> first | exact hi | exact hi.elim)) hv) hys hd (hf' _ rfl) (by rw [mm_cons, upd_same]) hby (fun m a w hr => ⟨x, .refl x, (d1, .own d1) :: T', (d1, some (.row e z d f (xs ++ ys))) :: (id, none) :: M', m, ?_, rfl, by rw [hd]; rfl, rfl⟩)
  have : mm ((d1, some (.row e z d f (xs ++ ys))) :: (id, none) :: M') = mm ((d1, some (.row e z d f (xs ++ ys))) :: (id, none) :: (d1, none) :: M') := by
    funext i
    simp only [mm_cons]
    by_cases hi : i = d1
    · subst hi; rw [upd_same, upd_same]
    · rw [upd_ne _ _ hi, upd_ne _ _ hi]
      by_cases hi2 : i = id
      · subst hi2; rw [upd_same, upd_same]
      · rw [upd_ne _ _ hi2, upd_ne _ _ hi2, upd_ne _ _ hi]
  rw [this]; exact hr
end
end Go.Proofs.YtjmefaihkblliaaGreat.Ab
/- Maps whose keys are flat structs: what a look, an entry and its store come to. Conditions: none. -/
namespace Go.Proofs.YtjmefaihkblliaaGreat.Ab
open Go.RowKit
set_option linter.unusedVariables false
set_option linter.unusedSimpArgs false
structure KeyOk (P : Program) (k : TypeId) {K : Type} [DecidableEq K] (enc : K → Value) : Prop where
  chk : ∀ b x w, (Instr.checkKey b 10000 k (enc x)).run P w = .ok () w
  eq : ∀ x y w, (Op.equal k (enc x) (enc y)).run P w = .ok (decide (x = y)) w
  desc : ∃ d, P.underlying k = some d ∧ ∀ x y, Instr.sameNow d (enc x) (enc y) = none
  bits : ∀ x, Instr.sameBits 10000 (enc x) (enc x) = true
section
variable {P : Program} {k : TypeId} {K : Type} [DecidableEq K] {enc : K → Value}
abbrev Ents (K : Type) := List (K × Int × Nat)
def ent (enc : K → Value) (e : K × Int × Nat) : MapEntry := ⟨enc e.1, .int .i64 e.2.1, e.2.2⟩
def objE (enc : K → Value) (l : Ents K) (c : Nat) : Obj := .map (l.map (ent enc)).toArray c
def findE (x : K) : Ents K → Nat → Option (Nat × Value)
  | [], _ => none
  | e :: l, i => if x = e.1 then some (i, .int .i64 e.2.1) else findE x l (i + 1)
def valE (x : K) : Ents K → Int
  | [] => 0
  | e :: l => if x = e.1 then e.2.1 else valE x l
def stampE (x : K) (c : Nat) : Ents K → Nat
  | [] => c
  | e :: l => if x = e.1 then e.2.2 else stampE x c l
def memE (x : K) : Ents K → Bool
  | [] => false
  | e :: l => if x = e.1 then true else memE x l
def addE (x : K) (c : Nat) : Ents K → Ents K
  | [] => [(x, 0, c)]
  | e :: l => if x = e.1 then e :: l else e :: addE x c l
def setE (x : K) (v : Int) : Ents K → Ents K
  | [] => []
  | e :: l => if x = e.1 then (e.1, v, e.2.2) :: l else e :: setE x v l
def clkE (x : K) (c : Nat) (l : Ents K) : Nat := if memE x l then c else c + 1
structure GoodE (l : Ents K) (c : Nat) : Prop where
  keys : (l.map (·.1)).Nodup
  stamps : (l.map (·.2.2)).Nodup
  born : ∀ e ∈ l, e.2.2 < c
theorem memE_iff {x : K} : ∀ {l : Ents K}, memE x l = true ↔ x ∈ l.map (·.1)
  | [] => by simp [memE]
  | e :: l => by
    simp only [memE, List.map_cons, List.mem_cons]
    split
    · rename_i h; simp [h]
    · rename_i h; rw [memE_iff]; simp [h]
theorem addE_mem {x : K} {c : Nat} : ∀ {l : Ents K}, memE x l = true → addE x c l = l
  | [], h => by cases h
  | e :: l, h => by
    simp only [memE] at h
    simp only [addE]
    split
    · rfl
    · rename_i hx; rw [if_neg hx] at h; rw [addE_mem h]
theorem addE_new {x : K} {c : Nat} : ∀ {l : Ents K}, memE x l = false → addE x c l = l ++ [(x, 0, c)]
  | [], h => rfl
  | e :: l, h => by
    simp only [memE] at h
    simp only [addE]
    split
    · rename_i hx; rw [if_pos hx] at h; cases h
    · rename_i hx; rw [if_neg hx] at h; rw [addE_new h]; rfl
theorem addE_good {x : K} {c : Nat} {l : Ents K} (h : GoodE l c) : GoodE (addE x c l) (clkE x c l) := by
  unfold clkE
  cases hm : memE x l with
  | true => rw [addE_mem hm]; simpa using h
  | false =>
    rw [addE_new hm]
    have hx : x ∉ l.map (·.1) := fun hh => by rw [memE_iff.2 hh] at hm; cases hm
    refine ⟨?_, ?_, ?_⟩
    · rw [List.map_append, List.nodup_append]
      refine ⟨h.keys, by simp, fun a ha b hb => ?_⟩
      simp only [List.map_cons, List.map_nil, List.mem_singleton] at hb
      subst hb
      exact fun e => hx (e ▸ ha)
    · rw [List.map_append, List.nodup_append]
      refine ⟨h.stamps, by simp, fun a ha b hb => ?_⟩
      simp only [List.map_cons, List.map_nil, List.mem_singleton] at hb
      subst hb
      obtain ⟨e, he, rfl⟩ := List.mem_map.1 ha
      have := h.born e he
      omega
    · intro e he
      rcases List.mem_append.1 he with he | he
      · have := h.born e he; simp; omega
      · simp only [List.mem_singleton] at he; subst he; simp
theorem setE_keys {x : K} {v : Int} : ∀ (l : Ents K), (setE x v l).map (·.1) = l.map (·.1) ∧ (setE x v l).map (·.2.2) = l.map (·.2.2)
  | [] => ⟨rfl, rfl⟩
  | e :: l => by
    simp only [setE]
    split
    · exact ⟨rfl, rfl⟩
    · obtain ⟨h1, h2⟩ := setE_keys (x := x) (v := v) l
      exact ⟨by simp [h1], by simp [h2]⟩
theorem setE_good {x : K} {v : Int} {c : Nat} {l : Ents K} (h : GoodE l c) : GoodE (setE x v l) c := by
  obtain ⟨h1, h2⟩ := setE_keys (x := x) (v := v) l
  refine ⟨h1 ▸ h.keys, h2 ▸ h.stamps, fun e he => ?_⟩
  have : e.2.2 ∈ (setE x v l).map (·.2.2) := List.mem_map.2 ⟨e, he, rfl⟩
  rw [h2] at this
  obtain ⟨e1, he1, h3⟩ := List.mem_map.1 this
  have h4 := h.born e1 he1
  exact h3 ▸ h4
theorem valE_add {x y : K} {c : Nat} : ∀ (l : Ents K), valE y (addE x c l) = valE y l
  | [] => by simp [addE, valE]
  | e :: l => by
    simp only [addE]
    split
    · rfl
    · simp only [valE]; rw [valE_add l]
theorem valE_set {x y : K} {v : Int} : ∀ {l : Ents K}, memE x l = true → valE y (setE x v l) = if y = x then v else valE y l
  | [], h => by cases h
  | e :: l, h => by
    simp only [memE] at h
    simp only [setE]
    by_cases hx : x = e.1
    · rw [if_pos hx]
      simp only [valE]
      by_cases hy : y = e.1
      · rw [if_pos hy, if_pos (hy.trans hx.symm)]
      · rw [if_neg hy, if_neg (fun q => hy (q.trans hx)), if_neg hy]
    · rw [if_neg hx] at h ⊢
      simp only [valE]
      by_cases hy : y = e.1
      · rw [if_pos hy, if_neg (fun q => hx (q.symm.trans hy)), if_pos hy]
      · rw [if_neg hy, valE_set h, if_neg hy]
theorem addE_has {x : K} {c : Nat} : ∀ (l : Ents K), memE x (addE x c l) = true
  | [] => by simp [addE, memE]
  | e :: l => by
    simp only [addE]
    by_cases hx : x = e.1
    · rw [if_pos hx]; simp [memE, hx]
    · rw [if_neg hx]; simp only [memE]; rw [if_neg hx]; exact addE_has l
theorem stampE_add {x : K} {c c1 : Nat} : ∀ (l : Ents K), stampE x c1 (addE x c l) = stampE x c l
  | [] => by simp [addE, stampE]
  | e :: l => by
    simp only [addE]
    by_cases hx : x = e.1
    · rw [if_pos hx]; simp only [stampE, if_pos hx]
    · rw [if_neg hx]; simp only [stampE, if_neg hx]; exact stampE_add l
theorem valE_all {l : Ents K} (h : (l.map (·.1)).Nodup) : (∀ e ∈ l, e.2.1 = 0) ↔ ∀ x, valE x l = 0 := by
  induction l with
  | nil => simp [valE]
  | cons e l ih =>
    rw [List.map_cons, List.nodup_cons] at h
    constructor
    · intro hz x
      simp only [valE]
      split
      · exact hz e List.mem_cons_self
      · exact (ih h.2).1 (fun e' he' => hz e' (List.mem_cons_of_mem _ he')) x
    · intro hv
      have h0 : e.2.1 = 0 := by have := hv e.1; simpa [valE] using this
      refine fun e' he' => (List.mem_cons.1 he').elim (fun q => q ▸ h0) ((ih h.2).2 (fun x => ?_) e')
      by_cases hx : x = e.1
      · subst hx
        have : ∀ l : Ents K, e.1 ∉ l.map (·.1) → valE e.1 l = 0 := fun l => by
          induction l with
          | nil => intro _; rfl
          | cons a l ih2 =>
            intro hn
            simp only [List.map_cons, List.mem_cons, not_or] at hn
            simp only [valE]; rw [if_neg hn.1]; exact ih2 hn.2
        exact this l h.1
      · have := hv x
        simp only [valE] at this
        rwa [if_neg hx] at this
theorem findE_val {x : K} : ∀ (l : Ents K) (i : Nat), (findE x l i = none ∧ memE x l = false ∧ valE x l = 0) ∨ ∃ j e, findE x l i = some (i + j, .int .i64 e.2.1) ∧ l[j]? = some e ∧ e.1 = x ∧ valE x l = e.2.1 ∧ memE x l = true ∧ ∀ c, stampE x c l = e.2.2
  | [], i => .inl ⟨rfl, rfl, rfl⟩
  | e :: l, i => by
    by_cases hx : x = e.1
    · exact .inr ⟨0, e, by simp [findE, hx], rfl, hx.symm, by simp [valE, hx], by simp [memE, hx], fun c => by simp [stampE, hx]⟩
    · rcases findE_val (x := x) l (i + 1) with ⟨h1, h2, h3⟩ | ⟨j, e', h1, h2, h3, h4, h5, h6⟩
      · exact .inl ⟨by simp [findE, hx, h1], by simp [memE, hx, h2], by simp [valE, hx, h3]⟩
      · exact .inr ⟨j + 1, e', by simp only [findE, if_neg hx, h1]; congr 2; omega, by simpa using h2, h3, by simp [valE, hx, h4], by simp [memE, hx, h5], fun c => by simp [stampE, hx, h6]⟩
theorem run_findAsking (hk : KeyOk P k enc) (x : K) (w : World) : ∀ (l : Ents K) (i : Nat), (Instr.findAsking k (enc x) (l.map (ent enc)) i).run P w = .ok (findE x l i) w
  | [], i => rfl
  | e :: l, i => by
    simp only [List.map_cons, Instr.findAsking, Sem.run_bind]
    rw [show (ent enc e).key = enc e.1 from rfl, hk.eq, Result.andThen_ok]
    by_cases hx : x = e.1
    · simp [findE, hx, ent]
    · simp only [decide_eq_false hx, findE, if_neg hx]
      exact run_findAsking hk x w l (i + 1)
theorem run_findE (hk : KeyOk P k enc) (x : K) (w : World) (l : Ents K) : (Instr.findKey k (enc x) (l.map (ent enc))).run P w = .ok (findE x l 0) w := by
  obtain ⟨d, hd, hn⟩ := hk.desc
  simp only [Instr.findKey, Sem.run_bind, run_underlying hd, Result.andThen_ok]
  cases l with
  | nil => rfl
  | cons e l =>
    have h1 : Instr.findNow d (enc x) ((e :: l).map (ent enc)) 0 = none := by
      simp only [List.map_cons, Instr.findNow]
      rw [show (ent enc e).key = enc e.1 from rfl, hn]
    rw [h1]
    exact run_findAsking hk x w (e :: l) 0
variable {t e : TypeId} {w : World} {b c : Nat} {l : Ents K}
theorem run_lookE (hk : KeyOk P k enc) (ht : P.underlying t = some (.map k e)) (hz : (zeroValue e).run P w = .ok (.int .i64 0) w) (hb : w.heap[b]? = some (objE enc l c)) (x : K) :
    (Instr.lookup t (.map (some b)) (enc x) false).run P w = .ok (.int .i64 (valE x l)) w := by
  simp only [Instr.lookup, Sem.run_bind, run_underlying ht, Result.andThen_ok, MapKept.run_getObj_map (show w.heap[b]? = some (.map _ _) from hb), Sem.run_pure, hk.chk, run_findE hk]
  rcases findE_val (x := x) l 0 with ⟨h1, _, h3⟩ | ⟨j, e', h1, _, _, h4, _⟩
  · rw [h1, h3]; simp [hz]
  · rw [h1, h4]; simp
theorem modify_same {α : Type} (l : List α) (i : Nat) (f : α → α) (h : ∀ x, l[i]? = some x → f x = x) : l.toArray.modify i f = l.toArray := by
  rw [List.modify_toArray]
  congr 1
  apply List.ext_getElem?
  intro j
  rw [List.getElem?_modify]
  cases hj : l[j]? with
  | none => rfl
  | some x =>
    by_cases hij : i = j
    · subst hij; simp [h x hj]
    · simp [hij]
theorem run_entE (hk : KeyOk P k enc) (ht : P.underlying t = some (.map k e)) (hz : (zeroValue e).run P w = .ok (.int .i64 0) w) (hb : w.heap[b]? = some (objE enc l c)) (x : K) :
    (Instr.mapEntry t (.map (some b)) (enc x)).run P w = .ok (.tuple #[.int .i64 (valE x l), .int .i64 (stampE x c l)]) (w.putObj b (objE enc (addE x c l) (clkE x c l))) := by
  simp only [Instr.mapEntry, Sem.run_bind, run_underlying ht, Result.andThen_ok, MapKept.run_getObj_map (show w.heap[b]? = some (.map _ _) from hb), hk.chk, run_findE hk]
  rcases findE_val (x := x) l 0 with ⟨h1, h2, h3⟩ | ⟨j, e', h1, h2, h3, h4, h5, h6⟩
  · rw [h1]
    have hs : stampE x c l = c := by
      clear h1 h3 hb
      induction l with
      | nil => rfl
      | cons a l ih =>
        simp only [memE] at h2
        split at h2
        · cases h2
        · rename_i hx; simp only [stampE, if_neg hx]; exact ih h2
    simp only [Sem.run_bind, hz, Result.andThen_ok, MapKept.run_setObj_map _ (show w.heap[b]? = some (.map _ _) from hb), Sem.run_pure]
    rw [h3, hs, addE_new h2, clkE, h2]
    simp [World.putObj, objE, ent, goInt]
  · rw [h1]
    have hj : ((l.map (ent enc)).toArray)[0 + j]? = some (ent enc e') := by simp [h2]
    have hkey : (ent enc e').key = enc x := by rw [ent, h3]
    simp only [Instr.keyThatStays, hj, Option.map_some, Option.getD_some, hkey, hk.bits, if_true, Sem.run_bind, Sem.run_pure, Result.andThen_ok, MapKept.run_setObj_map _ (show w.heap[b]? = some (.map _ _) from hb)]
    rw [modify_same _ _ _ (fun y hy => by
      rw [Nat.zero_add, List.getElem?_map, h2] at hy
      cases hy
      rw [ent, h3]), addE_mem h5, clkE, h5, h4, h6]
    simp [World.putObj, objE, ent, goInt]
theorem findIdx_stamp {x : K} : ∀ (l : Ents K), memE x l = true → (l.map (·.2.2)).Nodup → ∀ c, ∃ j e, l.findIdx? (fun e => ((e.2.2 : Nat) : Int) == ((stampE x c l : Nat) : Int)) = some j ∧ l[j]? = some e ∧ e.1 = x
  | [], h, _, _ => by cases h
  | a :: l, h, hn, c => by
    rw [List.map_cons, List.nodup_cons] at hn
    simp only [memE] at h
    rw [List.findIdx?_cons]
    by_cases hx : x = a.1
    · refine ⟨0, a, ?_, rfl, hx.symm⟩
      simp [stampE, hx]
    · rw [if_neg hx] at h
      obtain ⟨j, e, h1, h2, h3⟩ := findIdx_stamp l h hn.2 c
      refine ⟨j + 1, e, ?_, by simpa using h2, h3⟩
      have hne : ¬ ((a.2.2 : Nat) : Int) = ((stampE x c l : Nat) : Int) := fun q => by
        have hm : stampE x c l ∈ l.map (·.2.2) := by
          clear h1 h2 h3 hn
          induction l with
          | nil => cases h
          | cons b l ih =>
            simp only [memE] at h
            simp only [stampE]
            split
            · simp
            · rename_i hb; rw [if_neg hb] at h; exact List.mem_cons_of_mem _ (ih h (by
                simp only [stampE, if_neg hb] at q; exact q))
        exact hn.1 (by rw [show a.2.2 = stampE x c l by omega]; exact hm)
      simp only [stampE, if_neg hx]
      rw [if_neg (by simpa using hne), h1]; rfl
theorem modify_set {x : K} {v : Int} : ∀ (l : Ents K) (j : Nat) (e : K × Int × Nat), (l.map (·.1)).Nodup → l[j]? = some e → e.1 = x → l.modify j (fun e => (e.1, v, e.2.2)) = setE x v l
  | [], j, e, _, h, _ => by simp at h
  | a :: l, 0, e, hn, h, hx => by
    have : a = e := by simpa using h
    subst this
    simp [setE, hx]
  | a :: l, j + 1, e, hn, h, hx => by
    rw [List.map_cons, List.nodup_cons] at hn
    have hj : l[j]? = some e := by simpa using h
    have hne : ¬ x = a.1 := fun q => hn.1 (by rw [← q, ← hx]; exact List.mem_map.2 ⟨e, List.mem_of_getElem? hj, rfl⟩)
    simp only [List.modify_succ_cons, setE, if_neg hne]
    rw [modify_set l j e hn.2 hj hx]
theorem run_storeE (hg : GoodE l c) (hb : w.heap[b]? = some (objE enc l c)) {x : K} (hx : memE x l = true) (s : Nat) (hs : s = stampE x c l) (v : Int) :
    (Instr.entryStore t (.map (some b)) (.int .i64 s) (.int .i64 v)).run P w = .ok () (w.putObj b (objE enc (setE x v l) c)) := by
  obtain ⟨j, e', h1, h2, h3⟩ := findIdx_stamp (x := x) l hx hg.stamps c
  have h4 : (l.map (ent enc)).toArray.findIdx? (fun e => (e.born : Int) == ((s : Nat) : Int)) = some j := by
    rw [List.findIdx?_toArray, List.findIdx?_map, hs]
    exact h1
  have h5 : ((l.map (ent enc)).toArray.modify j fun e => { e with val := .int .i64 v }) = ((setE x v l).map (ent enc)).toArray := by
    rw [List.modify_toArray, ← modify_set l j e' hg.keys h2 h3]
    congr 1
    apply List.ext_getElem?
    intro i
    rw [List.getElem?_modify, List.getElem?_map, List.getElem?_map, List.getElem?_modify]
    cases l[i]? with
    | none => rfl
    | some y => by_cases hij : j = i <;> simp [hij, ent]
  simp only [Instr.entryStore, Sem.run_bind, MapKept.run_getObj_map (show w.heap[b]? = some (.map _ _) from hb), Result.andThen_ok]
  simp only [asInt, asIntOf, Sem.run_bind, Sem.run_pure, Result.andThen_ok]
  rw [h4]
  show (setObj b (Obj.map ((l.map (ent enc)).toArray.modify j fun e => { e with val := .int .i64 v }) c)).run P w = _
  rw [h5]
  simp only [MapKept.run_setObj_map _ (show w.heap[b]? = some (.map _ _) from hb)]
  rfl
end
end Go.Proofs.YtjmefaihkblliaaGreat.Ab
/- The abstract machine: memory that is known outright; loops whose context turns; maps in drawn regions. Conditions: none. -/
namespace Go.Proofs.YtjmefaihkblliaaGreat.Ab
open Go.RowKit
set_option linter.unusedVariables false
set_option linter.unusedSimpArgs false
structure Later (x x1 : Cx) (w w1 : World) : Prop where
  sib : Sib x x1
  s0 : ∀ k, x1.S0 k ↔ (x.S0 k ∨ (w.heap.size ≤ k ∧ k < w1.heap.size))
  own : ∀ k, x1.own0 k → (x.own0 k ∨ x.w0.heap.size ≤ k) ∧ ¬ x1.S0 k
  w0 : x1.w0 = w1
section
variable {P : Program} {x x1 : Cx} {tb : Tb} {R : Tl → Ml → Prop} {n : Nat} {o : Oper} {T : Tl} {M : Ml} {k : List It} {w w1 : World} {b : Nat} {q q' : Obj}
theorem Later.old (hl : Later x x1 w w1) (hp : Priv x b q) (h : w1.heap[b]? = some q') : Priv x1 b q' :=
  ⟨(hl.s0 b).2 (.inl hp.s0), fun h => (hl.own b h).2 ((hl.s0 b).2 (.inl hp.s0)), by rw [hl.sib.ow]; exact hp.new, by rw [hl.w0]; exact h⟩
theorem Later.fresh (hl : Later x x1 w w1) {T : Nat → LV} {M : Mem} {m : Mp} {a : Act} (hr : Rel x T M m a w) (h1 : w.heap.size ≤ b) (h : w1.heap[b]? = some q) : Priv x1 b q := by
  have hlt := (Array.getElem?_eq_some_iff.1 h).1
  have hs : x1.S0 b := (hl.s0 b).2 (.inr ⟨h1, hlt⟩)
  refine ⟨hs, fun h => (hl.own b h).2 hs, ?_, by rw [hl.w0]; exact h⟩
  rw [hl.sib.ow]
  have := x.p3.size
  have := hr.same.size
  omega
theorem later_of {T : Nat → LV} {M : Mem} {m : Mp} {a : Act} (hr : Rel x T M m a w) (hc : Chg x w w1) : ∃ x1, Later x x1 w w1 ∧ Rel x1 T M m a w1 := by
  obtain ⟨x1, h1, h2, h3, h4, h5⟩ := rel_at hr hc
  exact ⟨x1, ⟨h1, h2, h3, h4⟩, h5⟩
theorem opw_at (hn : x.n = n) (hdo : dstOk n o.dst = true) (h : ∀ m a w, Rel x (tm T) (mm M) m a w → ∃ nx v w1, (execOp a.eval o).run P w = .ok nx w1 ∧ (nx = .value v ∨ (nx = .skip ∧ v = undef)) ∧ Chg x w w1 ∧ ∀ x1, Later x x1 w w1 → Rel x1 (tm T) (mm M) m a w1 → ∃ l, R3 x1.S0 (mm M) m w1 v l ∧ Wc P x1 R k (putd o.dst l T) M) : OpW P x R o k T M := by
  intro m a w hr
  obtain ⟨nx, v, w1, hrun, hnx, hc, hk⟩ := h m a w hr
  obtain ⟨x1, hl, hr1⟩ := later_of hr hc
  obtain ⟨l, hv, hwc⟩ := hk x1 hl hr1
  have hgo : Ka P x R k .normal (a.put o.dst v) w1 := Ka.base hl.sib _ _ _ _ (hwc m _ w1 (hr1.putd (hl.sib.n.trans hn) hdo hv))
  unfold Oper.wp
  rw [hrun]
  rcases hnx with rfl | ⟨rfl, rfl⟩
  · exact hgo
  · exact hgo
theorem go_bad (hn : x.n = n) (htb : TbOk P tb) {all l : List Oper} {s : Prop} {T1 : Tl} {M1 : Ml} {k1 : List It} (ho : run tb n 1000 T M True k = .bad s T1 M1 (.ops all (o :: l) :: k1)) (hs : s) (hg : o.guard = none) (h : OpW P x R o (.ops all l :: k1) T1 M1) : Wc P x R k T M :=
  go hn htb ho ⟨hs, wc_opW hg h⟩
theorem go_loopX {n : Nat} (hn : x.n = n) (htb : TbOk P tb) {c : Code} {s : Prop} {T1 Ts : Tl} {M1 Ms : Ml} {k1 : List It} (ho : run tb n 1000 T M True k = .loop c s T1 Ts M1 Ms k1) (hs : s) {α : Type} (I : α → Tl → Ml → Tl × Ml) (Q : α → Cx → Prop) (μ : α → Nat) (y0 : α) (h0 : Q y0 x) (hle : Le x T1 M1 (I y0 Ts Ms).1 (I y0 Ts Ms).2)
    (h : ∀ y x1, Sib x x1 → Q y x1 → Wc P x1 R (.code c :: .stop (fun x2 T1 M1 => ∃ y1, Q y1 x2 ∧ μ y1 < μ y ∧ Le x2 T1 M1 (I y1 Ts Ms).1 (I y1 Ts Ms).2) :: k1) (I y Ts Ms).1 (I y Ts Ms).2) : Wc P x R k T M := by
  refine go hn htb ho ⟨hs, fun m a w hr => ?_⟩
  show (Code.loop c).wp P (Ka P x R k1) a w
  refine wp_loop_ghost (fun n a w => ∃ y x1, Sib x x1 ∧ Q y x1 ∧ μ y = n ∧ ∃ m, Rel x1 (tm (I y Ts Ms).1) (mm (I y Ts Ms).2) m a w) (μ y0) ⟨y0, x, .refl x, h0, rfl, hle m a w hr⟩ ?_
  rintro n a w ⟨y, x1, hx, hq, rfl, m, hr⟩
  refine wp_mono (h y x1 hx hq m a w hr) fun e a1 w1 he => ?_
  rcases Ka.bad he with rfl | ⟨i, rfl⟩ | rfl
  · obtain ⟨x2, hx2, T1, M1, m1, hr1, y1, hq1, hlt, hle1⟩ := he
    obtain ⟨m2, hr2⟩ := hle1 m1 a1 w1 hr1
    exact ⟨μ y1, hlt, y1, x2, hx.trans hx2, hq1, rfl, m2, hr2⟩
  · exact Ka.base hx _ _ _ _ he
  · show Ka P x R k1 .ret a1 w1
    rw [Ka.ret]
    exact Ends.base hx he
/-! ### maps and their iterators -/
theorem chg_new {m : Mp} {a : Act} (hr : Rel x (tm T) (mm M) m a w) (o : Obj) : Chg x w (w.alloc o) :=
  ⟨by rw [World.size_alloc]; omega, fun k hk => .inl (by show (w.heap.push o)[k]? = _; rw [Array.getElem?_push_lt hk, Array.getElem?_eq_getElem hk]), rfl, rfl, rfl⟩
theorem alloc_new (w : World) (o : Obj) : (w.alloc o).heap[w.heap.size]? = some o := by
  show (w.heap.push o)[w.heap.size]? = _
  rw [Array.getElem?_push_size]
theorem alloc_old {w : World} {o : Obj} {k : Nat} {q : Obj} (h : w.heap[k]? = some q) : (w.alloc o).heap[k]? = some q := by
  have hk := (Array.getElem?_eq_some_iff.1 h).1
  show (w.heap.push o)[k]? = _
  rw [Array.getElem?_push_lt hk, ← Array.getElem?_eq_getElem hk]; exact h
theorem opw_makeMap {t : TypeId} {d : Nat} (hn : x.n = n) (hdo : dstOk n o.dst = true) (hop : o.op = .makeMap t none) (hd : o.dst = some d)
    (h : ∀ x1 b, Sib x x1 → Priv x1 b (.map #[] 0) → (∀ b' o', Priv x b' o' → Priv x1 b' o') → Wc P x1 R k ((d, .dat (.val (.map (some b)))) :: T) M) : OpW P x R o k T M :=
  opw_at hn hdo fun m a w hr => ⟨.value (.map (some w.heap.size)), .map (some w.heap.size), w.alloc (.map #[] 0), by
    simp only [execOp, hop, Option.map_none, Instr.makeMap, Sem.run_bind, run_newObj_alloc, Result.andThen_ok, Sem.run_pure], .inl rfl, chg_new hr _, fun x1 hl hr1 => ⟨.dat (.val (.map (some w.heap.size))), Rf.val _ rfl, by
      rw [hd]
      exact h x1 _ hl.sib (hl.fresh hr (Nat.le_refl _) (alloc_new _ _)) fun b' o' hp => hl.old hp (alloc_old (hp.now hr))⟩⟩
theorem rf_val {S : Nat → Prop} {w : World} {v u : Value} (h : Rf S w v (.val u)) : v = u := by cases h; rfl
theorem opw_range {t kt et : TypeId} {d b c : Nat} {es : Array MapEntry} {p : Operand} (hn : x.n = n) (hdo : dstOk n o.dst = true) (hop : o.op = .range t p) (hd : o.dst = some d) (hp : val T p = .dat (.val (.map (some b)))) (hb : Priv x b (.map es c)) (ht : P.underlying t = some (.map kt et))
    (h : ∀ x1 r, Sib x x1 → Priv x1 r (.mapIter (some b) c #[] c) → (∀ b' o', Priv x b' o' → Priv x1 b' o') → Wc P x1 R k ((d, .dat (.val (.pointer (some ⟨r, 0, none⟩)))) :: T) M) : OpW P x R o k T M :=
  opw_at hn hdo fun m a w hr => ⟨.value (.pointer (some ⟨w.heap.size, 0, none⟩)), .pointer (some ⟨w.heap.size, 0, none⟩), w.alloc (.mapIter (some b) c #[] c), by
    have hv := val_ok hr p
    rw [hp] at hv
    have hv : a.eval p = _ := rf_val hv
    simp only [execOp, hop, hv, Sem.run_bind, run_range_map w t kt et b es c ht (hb.now hr), Result.andThen_ok, Sem.run_pure], .inl rfl, chg_new hr _, fun x1 hl hr1 => ⟨.dat (.val (.pointer (some ⟨w.heap.size, 0, none⟩))), Rf.val _ rfl, by
      rw [hd]
      exact h x1 _ hl.sib (hl.fresh hr (Nat.le_refl _) (alloc_new _ _)) fun b' o' hp => hl.old hp (alloc_old (hp.now hr))⟩⟩
theorem set_same {w : World} {b : Nat} {o : Obj} (h : b < w.heap.size) : (ChangeMaps.setBlock w b o).heap[b]? = some o := by simp [ChangeMaps.setBlock, h]
theorem set_other {w : World} {b k : Nat} {o : Obj} (h : k ≠ b) : (ChangeMaps.setBlock w b o).heap[k]? = w.heap[k]? := by
  simp only [ChangeMaps.setBlock]; rw [Array.getElem?_setIfInBounds_ne (fun e => h e.symm)]
theorem chg_set {b : Nat} {q : Obj} (hb : Priv x b q) (w1 : World) (h1 : w1 = w ∨ w1 = w.drew) (o : Obj) : Chg x w (ChangeMaps.setBlock w1 b o) := by
  have h : w1.heap = w.heap ∧ w1.os = w.os ∧ w1.tape = w.tape ∧ w1.output = w.output := by rcases h1 with rfl | rfl <;> exact ⟨rfl, rfl, rfl, rfl⟩
  refine ⟨?_, fun k hk => ?_, h.2.1, h.2.2.1, h.2.2.2⟩
  · simp [ChangeMaps.setBlock, h.1]
  · by_cases hkb : k = b
    · subst hkb; exact .inr ⟨hb.s0, hb.new⟩
    · exact .inl (by rw [set_other hkb, h.1])
theorem chg_refl : Chg x w w := ⟨Nat.le_refl _, fun _ _ => .inl rfl, rfl, rfl, rfl⟩
theorem opw_next {d r b c : Nat} {es : Array MapEntry} {seen : Array Nat} {p : Operand} (hn : x.n = n) (hdo : dstOk n o.dst = true) (hop : o.op = .next p false) (hd : o.dst = some d) (hp : val T p = .dat (.val (.pointer (some ⟨r, 0, none⟩)))) (hit : Priv x r (.mapIter (some b) c seen c)) (hb : Priv x b (.map es c)) (hold : ∀ e ∈ es.toList, e.born < c)
    (h0 : (leftOf es seen).size = 0 → ∀ x1, Sib x x1 → (∀ b' o', Priv x b' o' → Priv x1 b' o') → Wc P x1 R k ((d, .tup [.known false]) :: T) M)
    (h1 : ∀ e ∈ (leftOf es seen).toList, ∀ x1, Sib x x1 → Priv x1 r (.mapIter (some b) c (seen.push e.born) c) → (∀ b' o', b' ≠ r → Priv x b' o' → Priv x1 b' o') → Wc P x1 R k ((d, .tup [.known true, .no, .no]) :: T) M) : OpW P x R o k T M :=
  opw_at hn hdo fun m a w hr => by
    have hv := val_ok hr p
    rw [hp] at hv
    have hv : a.eval p = _ := rf_val hv
    rcases run_next_at (P := P) w o.type r b c c seen es c (hit.now hr) (hb.now hr) hold (Nat.le_refl _) with ⟨hz, hrun⟩ | ⟨e, he, w1, hw1, hrun⟩
    · refine ⟨_, .tuple #[.bool false], w, by simp only [execOp, hop, hv, Sem.run_bind, hrun, Result.andThen_ok, Sem.run_pure], .inl rfl, chg_refl, fun x1 hl hr1 => ⟨.tup [.known false], ⟨[.bool false], rfl, rfl, fun j u l hu hl => ?_⟩, ?_⟩⟩
      · cases j with
        | zero => cases hu; cases hl; exact rfl
        | succ j => cases hu
      · rw [hd]
        exact h0 hz x1 hl.sib fun b' o' hp => hl.old hp (hp.now hr)
    · refine ⟨_, .tuple #[.bool true, e.key, e.val], ChangeMaps.setBlock w1 r (.mapIter (some b) c (seen.push e.born) c), by simp only [execOp, hop, hv, Sem.run_bind, hrun, Result.andThen_ok, Sem.run_pure], .inl rfl, chg_set hit w1 hw1 _, fun x1 hl hr1 => ⟨.tup [.known true, .no, .no], ⟨[.bool true, e.key, e.val], rfl, rfl, fun j u l hu hl => ?_⟩, ?_⟩⟩
      · match j with
        | 0 => cases hu; cases hl; exact rfl
        | 1 => cases hl; exact trivial
        | 2 => cases hl; exact trivial
        | j + 3 => cases hl
      · rw [hd]
        have hlt := (Array.getElem?_eq_some_iff.1 (hit.now hr)).1
        have hh : w1.heap = w.heap := by rcases hw1 with rfl | rfl <;> rfl
        refine h1 e he x1 hl.sib (hl.old hit (set_same (by rw [hh]; exact hlt))) fun b' o' hne hp => hl.old hp ?_
        rw [set_other hne, hh]; exact hp.now hr
theorem opw_entry {d r b c : Nat} {v : Int} {es : Array MapEntry} {seen : Array Nat} {p : Operand} {e : MapEntry} (hn : x.n = n) (hdo : dstOk n o.dst = true) (hop : o.op = .entry p) (hd : o.dst = some d) (hp : val T p = .dat (.val (.pointer (some ⟨r, 0, none⟩)))) (hit : Priv x r (.mapIter (some b) c (seen.push e.born) c)) (hb : Priv x b (.map es c)) (he : e ∈ es.toList) (hnd : (es.toList.map (·.born)).Nodup) (hv : e.val = .int .i64 v)
    (h : Wc P x R k ((d, .tup [.no, .dat (.int .i64 v)]) :: T) M) : OpW P x R o k T M := fun m a w hr => by
  have hpv := val_ok hr p
  rw [hp] at hpv
  have hpv : a.eval p = _ := rf_val hpv
  have hrun := run_entry_at (P := P) w r b c seen es c e (hit.now hr) (hb.now hr) he hnd
  unfold Oper.wp
  rw [show (execOp a.eval o).run P w = .ok (.value (.tuple #[e.key, e.val])) w by simp only [execOp, hop, hpv, Sem.run_bind, hrun, Result.andThen_ok, Sem.run_pure]]
  show Ka P x R k .normal (a.put o.dst _) w
  rw [hd]
  refine h m _ w (hr.putd (d := some d) (l := .tup [.no, .dat (.int .i64 v)]) hn (hd ▸ hdo) ⟨[e.key, e.val], rfl, rfl, fun j u l hu hl => ?_⟩)
  match j with
  | 0 => cases hl; exact trivial
  | 1 =>
    cases hu; cases hl
    rw [hv]; exact Rf.int _ _
  | j + 2 => cases hl
end
end Go.Proofs.YtjmefaihkblliaaGreat.Ab

/- append onto rows of one's own, as the walk meets it. Conditions: none. -/
import Derived.Test.YtplkfpjcfalifaaDoorApp
import Derived.Deep.Upon
namespace Go.Proofs.YtplkfpjcfalifaaDoor.Wd
open Go.RowKit
set_option linter.unusedVariables false
set_option linter.unusedSimpArgs false
/-- A goal at which the walk stands still. -/
structure Paus (p : Prop) : Prop where
  out : p
theorem settleR {P : Program} {c : Code} {Q : Exit → Act → World → Prop} {a : Act} {w : World} (h : ∀ W, W = w → Code.wp P c Q a W) : Code.wp P c Q a w := h w rfl
theorem row_of {α : Type} {d : Rp α} {e : Nat} {w : World} {bs : List Nat} {B : Option Addr} {n c : Nat} {xs : List α} (h : d.Own e w bs (.slice B n c) xs) : xs.length ≤ c ∧ d.Row w B xs := by
  obtain ⟨A', c', hv, h1, h2⟩ := h.row
  cases hv; exact ⟨h1, h2⟩
theorem AppRes.below {α : Type} {d : Rp α} {e : Nat} {w0 w w' : World} {bs bl bs' : List Nat} {v v' : Value} {zs : List α} (h : AppRes d e w bs bl v zs v' w' bs') (hb : ∀ b ∈ bs, w0.heap.size ≤ b) (h0 : Below w0.heap.size w0 w) : Below w0.heap.size w0 w' :=
  ⟨h.os.trans h0.os, h.tape.trans h0.tape, h.output.trans h0.output, Nat.le_trans h0.size h.size, fun k hk => (h.block k (Nat.lt_of_lt_of_le hk h0.size) (fun hm => by have := hb k hm; omega)).trans (h0.block k hk)⟩
theorem AppRes.fresh {α : Type} {d : Rp α} {e : Nat} {w0 w w' : World} {bs bl bs' : List Nat} {v v' : Value} {zs : List α} (h : AppRes d e w bs bl v zs v' w' bs') (hb : Fresh w0 bs) (hl : ∀ b ∈ bl, w0.heap.size ≤ b) (h0 : w0.heap.size ≤ w.heap.size) : Fresh w0 bs' :=
  ⟨h.nd, fun b hm => by rcases h.sub b hm with h1 | h1 | h1; exact hb.2 b h1; exact hl b h1; omega⟩
/-- A kind without rows of its own. -/
def Flat {α : Type} (d : Rp α) : Prop := ∀ w x cs, d.K w x cs → d.O w [] x cs
theorem flat_scalar {α : Type} (enc : α → Value) (h1 : ∀ x, (enc x).oneCell' = true) : Flat (Rp.scalar enc h1) := fun _ _ _ h => ⟨rfl, h⟩
theorem flat_int : Flat Rp.int := flat_scalar _ _
theorem flat_byte : Flat Rp.byte := flat_scalar _ _
theorem flat_bool : Flat Rp.bool := flat_scalar _ _
theorem flat_str : Flat Rp.str := flat_scalar _ _
theorem flat_pair {α β : Type} {a : Rp α} {b : Rp β} (ha : Flat a) (hb : Flat b) : Flat (Rp.pair a b) := by
  rintro w x cs ⟨c0, c1, rfl, h0, h1⟩
  exact ⟨c0, c1, [], [], rfl, rfl, ha _ _ _ h0, hb _ _ _ h1⟩
theorem flat_iso {α β : Type} {d : Rp α} (f : β → α) (hd : Flat d) : Flat (Rp.iso d f) := fun w x cs h => hd w (f x) cs h
theorem flat_nil {α : Type} {bss : List (List Nat)} {xs : List α} : (List.replicate xs.length ([] : List Nat)).flatten = [] := by induction xs with | nil => rfl | cons x xs ih => simp [List.replicate_succ, ih]
/-- The cells of a row that is read. -/
theorem src_row {α : Type} {d : Rp α} (hf : Flat d) (hpos : 0 < d.sz) {w : World} {A : Option Addr} {ys : List α} (h : d.Row w A ys) (hne : 0 < ys.length) :
    ∃ ad news, A = some ad ∧ news.length = ys.length * d.sz ∧ (∀ j u, news[j]? = some u → w.cell? (ad.add j) = some u) ∧ ∀ i y (b : List Nat), ys[i]? = some y → (List.replicate ys.length ([] : List Nat))[i]? = some b → d.O w b y (Rp.seg news (i * d.sz) d.sz) := by
  obtain ⟨b, o, rfl, hc⟩ := h.2 (by intro h0; rw [h0] at hne; exact absurd hne (by simp))
  have hall : ∀ j, j < ys.length * d.sz → ∃ u, w.cell? ⟨b, o + j, none⟩ = some u := by
    intro j hj
    have hq : j / d.sz < ys.length := by rw [Nat.div_lt_iff_lt_mul hpos]; omega
    obtain ⟨cx, hk, hcc⟩ := hc (j / d.sz) _ (List.getElem?_eq_getElem hq)
    have hmod := Nat.mod_lt j hpos
    have hdm := Nat.div_add_mod j d.sz
    have hlen := d.K_len hk
    have := hcc (j % d.sz) _ (List.getElem?_eq_getElem (by omega))
    rw [Nat.mul_comm] at hdm
    exact ⟨_, by rw [show o + j = o + j / d.sz * d.sz + j % d.sz by omega]; exact this⟩
  let news := (List.range (ys.length * d.sz)).map fun j => (w.cell? ⟨b, o + j, none⟩).getD default
  have hnl : news.length = ys.length * d.sz := by simp [news]
  have hget : ∀ j, j < ys.length * d.sz → ∃ u, news[j]? = some u ∧ w.cell? ⟨b, o + j, none⟩ = some u := by
    intro j hj
    obtain ⟨u, hu⟩ := hall j hj
    exact ⟨u, by simp [news, hj, hu], hu⟩
  refine ⟨_, news, rfl, hnl, fun j u hj => ?_, fun i y b' hi hb' => ?_⟩
  · have hjl := (List.getElem?_eq_some_iff.1 hj).1
    obtain ⟨u', h1, h2⟩ := hget j (by omega)
    rw [Addr.add_lit]
    rw [h1] at hj; cases hj; exact h2
  · obtain ⟨cx, hk, hcc⟩ := hc i y hi
    have hil := (List.getElem?_eq_some_iff.1 hi).1
    have hle : i * d.sz + d.sz ≤ ys.length * d.sz := by rw [← Nat.succ_mul]; exact Nat.mul_le_mul_right _ hil
    have hlen := d.K_len hk
    have hb0 : b' = [] := by
      rw [List.getElem?_replicate] at hb'
      split at hb'
      · cases hb'; rfl
      · omega
    subst hb0
    have : Rp.seg news (i * d.sz) d.sz = cx := by
      apply List.ext_getElem?
      intro j
      by_cases hj : j < d.sz
      · unfold Rp.seg
        rw [List.getElem?_take_of_lt hj, List.getElem?_drop]
        obtain ⟨u, h1, h2⟩ := hget (i * d.sz + j) (by omega)
        rw [h1]
        have := hcc j _ (List.getElem?_eq_getElem (by omega))
        rw [List.getElem?_eq_getElem (by omega)]
        rw [← Nat.add_assoc, this] at h2
        exact h2.symm
      · rw [List.getElem?_eq_none (by rw [seg_len (by omega)]; omega), List.getElem?_eq_none (by omega)]
    rw [this]
    exact hf _ _ _ hk
section
variable {P : Program}
/-- append(xs, ys...), ys read. -/
theorem wl_app_row {α : Type} (d : Rp α) (hf : Flat d) (w : World) {ops : Array Oper} {rest : List Oper} {o : Oper} {a : Act} {Q : Exit → Act → World → Prop} (hg : o.guard = none) (s x : Operand) (t : TypeId)
    (ho : o.op = .call { callee := .builtin .append, args := #[s, x], argTypes := #[t, t] })
    (e bytes : Nat) (z : Value) (ht : P.underlying t = some (.slice e)) (hinfo : (P.info? e).map (fun i => (i.zero, i.size, i.bytes)) = some (some z, d.sz, bytes)) (hzs : z.cells.size = d.sz) (hpos : 0 < d.sz) (hb1 : 0 < bytes)
    {v : Value} {xs ys : List α} {bs : List Nat} {A : Option Addr} {c : Nat} (hs : a.eval s = v) (hown : d.Own e w bs v xs) (hnd : bs.Nodup) (hx : a.eval x = .slice A ys.length c) (hr : d.Row w A ys)
    (hbytes : (xs.length + ys.length) * bytes ≤ 140737488355328)
    (h : ∀ A' c' w' bs', AppRes d e w bs [] v (xs ++ ys) (.slice A' (xs ++ ys).length c') w' bs' → wpList P ops Q rest (a.put o.dst (.slice A' (xs ++ ys).length c')) w') : wpList P ops Q (o :: rest) a w := by
  obtain ⟨i, hi, hzz⟩ := Option.map_eq_some_iff.1 hinfo
  simp only [Prod.mk.injEq] at hzz
  obtain ⟨hz, hsize, hby⟩ := hzz
  refine wpList_plain hg fun K hK => ?_
  have key : ∃ A' c' w' bs', (Builtin.append_ #[t, t] o.type #[v, .slice A ys.length c]).run P w = .ok (.slice A' (xs ++ ys).length c') w' ∧ AppRes d e w bs [] v (xs ++ ys) (.slice A' (xs ++ ys).length c') w' bs' := by
    by_cases hm : 0 < ys.length
    · obtain ⟨ad, news, rfl, hl, hnews, hy⟩ := src_row hf hpos hr hm
      obtain ⟨v', w', bs', hrun, hres⟩ := run_app d (P := P) w t o.type e i z bytes ht hi hz hsize hby hzs hpos hown ad c news hl hnews hm (bys := List.replicate ys.length []) (by simp) hy (by rw [flat_nil (bss := [])]; simpa using hnd) hbytes hb1
      obtain ⟨A', c', rfl⟩ := hres.row
      rw [flat_nil (bss := [])] at hres
      exact ⟨A', c', w', bs', hrun, hres⟩
    · obtain rfl : ys = [] := List.eq_nil_of_length_eq_zero (by omega)
      obtain ⟨A', c', rfl, hle, hrow⟩ := hown.row
      have hsrc : Src P i.size t (.slice A 0 c) 0 [] w := by
        cases A with
        | none => exact Src.ofNil w ht c
        | some ad => exact Src.ofSlice w ht ad 0 c [] (by simp) (fun j u hu => by simp at hu) (fun u hu => by cases hu)
      have hrun := run_append_nothing (P := P) w t t o.type e i ht hi A' xs.length c' hle (.slice A 0 c) hsrc
      simp only [List.append_nil]
      exact ⟨A', c', w, bs, hrun, hown, hnd, fun b hb => .inl hb, rfl, rfl, rfl, Nat.le_refl _, fun _ _ _ => rfl, ⟨_, _, rfl⟩⟩
  obtain ⟨A', c', w', bs', hrun, hres⟩ := key
  unfold Oper.wp execOp
  simp only [ho, resolve, invoke, builtin, Sem.run_bind, Sem.run_pure, Result.andThen_ok, List.map_toArray, List.map_cons, List.map_nil, hs, hx, hrun]
  exact hK _ _ (h A' c' w' bs' hres)
/-- append(xs, y), y in a box of its own. -/
theorem wl_app_one {α : Type} (d : Rp α) (w : World) {ops : Array Oper} {rest : List Oper} {o : Oper} {a : Act} {Q : Exit → Act → World → Prop} (hg : o.guard = none) (s x : Operand) (t : TypeId)
    (ho : o.op = .call { callee := .builtin .append, args := #[s, x], argTypes := #[t, t] })
    (e bytes : Nat) (z : Value) (ht : P.underlying t = some (.slice e)) (hinfo : (P.info? e).map (fun i => (i.zero, i.size, i.bytes)) = some (some z, d.sz, bytes)) (hzs : z.cells.size = d.sz) (hpos : 0 < d.sz) (hb1 : 0 < bytes)
    {v : Value} {xs : List α} {y : α} {bs by_ : List Nat} {g c : Nat} {cs : List Value} (hs : a.eval s = v) (hown : d.Own e w bs v xs) (hnd : (bs ++ by_).Nodup) (hx : a.eval x = .slice (some ⟨g, 0, none⟩) 1 c)
    (hy : d.O w by_ y cs) (hcs : ∀ j u, cs[j]? = some u → w.cell? ⟨g, j, none⟩ = some u)
    (hbytes : (xs.length + 1) * bytes ≤ 140737488355328)
    (h : ∀ A' c' w' bs', AppRes d e w bs by_ v (xs ++ [y]) (.slice A' (xs.length + 1) c') w' bs' → wpList P ops Q rest (a.put o.dst (.slice A' (xs.length + 1) c')) w') : wpList P ops Q (o :: rest) a w := by
  obtain ⟨i, hi, hzz⟩ := Option.map_eq_some_iff.1 hinfo
  simp only [Prod.mk.injEq] at hzz
  obtain ⟨hz, hsize, hby⟩ := hzz
  refine wpList_plain hg fun K hK => ?_
  have hlen := d.K_len (d.O_K hy)
  obtain ⟨v', w', bs', hrun, hres⟩ := run_app d (P := P) (ys := [y]) w t o.type e i z bytes ht hi hz hsize hby hzs hpos hown ⟨g, 0, none⟩ c cs (by simp [hlen]) (fun j u hu => by rw [Addr.add_lit, Nat.zero_add]; exact hcs j u hu) (by simp) (bys := [by_]) (by simp)
    (fun i y' b' hi hb => by
      have : i = 0 := by have := (List.getElem?_eq_some_iff.1 hi).1; simpa using this
      subst this
      simp at hi hb
      subst hi; subst hb
      have : Rp.seg cs (0 * d.sz) d.sz = cs := by unfold Rp.seg; rw [Nat.zero_mul, List.drop_zero, List.take_of_length_le (by omega)]
      rw [this]; exact hy)
    (by simpa using hnd) hbytes hb1
  obtain ⟨A', c', rfl⟩ := hres.row
  simp only [List.flatten_cons, List.flatten_nil, List.append_nil] at hres
  simp only [List.length_append, List.length_cons, List.length_nil, Nat.zero_add] at hres hrun
  unfold Oper.wp execOp
  simp only [ho, resolve, invoke, builtin, Sem.run_bind, Sem.run_pure, Result.andThen_ok, List.map_toArray, List.map_cons, List.map_nil, hs, hx]
  simp only [hrun]
  exact hK _ _ (h A' c' w' bs' hres)
/-! the same at a step of a region that draws its order -/
theorem st_app_row {α : Type} (d : Rp α) (hf : Flat d) (w : World) {ops : Array Oper} {o : Oper} {a : Act} {K : Act → World → Prop} {Q : Exit → Act → World → Prop} {E : Prop} (hg : o.guard = none) (s x : Operand) (t : TypeId)
    (ho : o.op = .call { callee := .builtin .append, args := #[s, x], argTypes := #[t, t] })
    (e bytes : Nat) (z : Value) (ht : P.underlying t = some (.slice e)) (hinfo : (P.info? e).map (fun i => (i.zero, i.size, i.bytes)) = some (some z, d.sz, bytes)) (hzs : z.cells.size = d.sz) (hpos : 0 < d.sz) (hb1 : 0 < bytes)
    {v : Value} {xs ys : List α} {bs : List Nat} {A : Option Addr} {c : Nat} (hs : a.eval s = v) (hown : d.Own e w bs v xs) (hnd : bs.Nodup) (hx : a.eval x = .slice A ys.length c) (hr : d.Row w A ys)
    (hbytes : (xs.length + ys.length) * bytes ≤ 140737488355328)
    (h : ∀ A' c' w' bs', AppRes d e w bs [] v (xs ++ ys) (.slice A' (xs ++ ys).length c') w' bs' → K (a.put o.dst (.slice A' (xs ++ ys).length c')) w') : if Region.wanted o (yielded ops a.tmps) = true then Oper.wp P o a w K Q else E := by
  have hw : Region.wanted o (yielded ops a.tmps) = true := by simp [Region.wanted, hg]
  rw [if_pos hw]
  obtain ⟨i, hi, hzz⟩ := Option.map_eq_some_iff.1 hinfo
  simp only [Prod.mk.injEq] at hzz
  obtain ⟨hz, hsize, hby⟩ := hzz
  have key : ∃ A' c' w' bs', (Builtin.append_ #[t, t] o.type #[v, .slice A ys.length c]).run P w = .ok (.slice A' (xs ++ ys).length c') w' ∧ AppRes d e w bs [] v (xs ++ ys) (.slice A' (xs ++ ys).length c') w' bs' := by
    by_cases hm : 0 < ys.length
    · obtain ⟨ad, news, rfl, hl, hnews, hy⟩ := src_row hf hpos hr hm
      obtain ⟨v', w', bs', hrun, hres⟩ := run_app d (P := P) w t o.type e i z bytes ht hi hz hsize hby hzs hpos hown ad c news hl hnews hm (bys := List.replicate ys.length []) (by simp) hy (by rw [flat_nil (bss := [])]; simpa using hnd) hbytes hb1
      obtain ⟨A', c', rfl⟩ := hres.row
      rw [flat_nil (bss := [])] at hres
      exact ⟨A', c', w', bs', hrun, hres⟩
    · obtain rfl : ys = [] := List.eq_nil_of_length_eq_zero (by omega)
      obtain ⟨A', c', rfl, hle, hrow⟩ := hown.row
      have hsrc : Src P i.size t (.slice A 0 c) 0 [] w := by
        cases A with
        | none => exact Src.ofNil w ht c
        | some ad => exact Src.ofSlice w ht ad 0 c [] (by simp) (fun j u hu => by simp at hu) (fun u hu => by cases hu)
      have hrun := run_append_nothing (P := P) w t t o.type e i ht hi A' xs.length c' hle (.slice A 0 c) hsrc
      simp only [List.append_nil]
      exact ⟨A', c', w, bs, hrun, hown, hnd, fun b hb => .inl hb, rfl, rfl, rfl, Nat.le_refl _, fun _ _ _ => rfl, ⟨_, _, rfl⟩⟩
  obtain ⟨A', c', w', bs', hrun, hres⟩ := key
  unfold Oper.wp execOp
  simp only [ho, resolve, invoke, builtin, Sem.run_bind, Sem.run_pure, Result.andThen_ok, List.map_toArray, List.map_cons, List.map_nil, hs, hx, hrun]
  exact h A' c' w' bs' hres
theorem st_app_one {α : Type} (d : Rp α) (w : World) {ops : Array Oper} {o : Oper} {a : Act} {K : Act → World → Prop} {Q : Exit → Act → World → Prop} {E : Prop} (hg : o.guard = none) (s x : Operand) (t : TypeId)
    (ho : o.op = .call { callee := .builtin .append, args := #[s, x], argTypes := #[t, t] })
    (e bytes : Nat) (z : Value) (ht : P.underlying t = some (.slice e)) (hinfo : (P.info? e).map (fun i => (i.zero, i.size, i.bytes)) = some (some z, d.sz, bytes)) (hzs : z.cells.size = d.sz) (hpos : 0 < d.sz) (hb1 : 0 < bytes)
    {v : Value} {xs : List α} {y : α} {bs by_ : List Nat} {g c : Nat} {cs : List Value} (hs : a.eval s = v) (hown : d.Own e w bs v xs) (hnd : (bs ++ by_).Nodup) (hx : a.eval x = .slice (some ⟨g, 0, none⟩) 1 c)
    (hy : d.O w by_ y cs) (hcs : ∀ j u, cs[j]? = some u → w.cell? ⟨g, j, none⟩ = some u)
    (hbytes : (xs.length + 1) * bytes ≤ 140737488355328)
    (h : ∀ A' c' w' bs', AppRes d e w bs by_ v (xs ++ [y]) (.slice A' (xs.length + 1) c') w' bs' → K (a.put o.dst (.slice A' (xs.length + 1) c')) w') : if Region.wanted o (yielded ops a.tmps) = true then Oper.wp P o a w K Q else E := by
  have hw : Region.wanted o (yielded ops a.tmps) = true := by simp [Region.wanted, hg]
  rw [if_pos hw]
  obtain ⟨i, hi, hzz⟩ := Option.map_eq_some_iff.1 hinfo
  simp only [Prod.mk.injEq] at hzz
  obtain ⟨hz, hsize, hby⟩ := hzz
  have hlen := d.K_len (d.O_K hy)
  obtain ⟨v', w', bs', hrun, hres⟩ := run_app d (P := P) (ys := [y]) w t o.type e i z bytes ht hi hz hsize hby hzs hpos hown ⟨g, 0, none⟩ c cs (by simp [hlen]) (fun j u hu => by rw [Addr.add_lit, Nat.zero_add]; exact hcs j u hu) (by simp) (bys := [by_]) (by simp)
    (fun i y' b' hi hb => by
      have : i = 0 := by have := (List.getElem?_eq_some_iff.1 hi).1; simpa using this
      subst this
      simp at hi hb
      subst hi; subst hb
      have : Rp.seg cs (0 * d.sz) d.sz = cs := by unfold Rp.seg; rw [Nat.zero_mul, List.drop_zero, List.take_of_length_le (by omega)]
      rw [this]; exact hy)
    (by simpa using hnd) hbytes hb1
  obtain ⟨A', c', rfl⟩ := hres.row
  simp only [List.flatten_cons, List.flatten_nil, List.append_nil] at hres
  simp only [List.length_append, List.length_cons, List.length_nil, Nat.zero_add] at hres hrun
  unfold Oper.wp execOp
  simp only [ho, resolve, invoke, builtin, Sem.run_bind, Sem.run_pure, Result.andThen_ok, List.map_toArray, List.map_cons, List.map_nil, hs, hx]
  simp only [hrun]
  exact h A' c' w' bs' hres
end
def Copied {α : Type} (d : Rp α) (t : Nat) (xs : List α) (w : World) (e : Ending) (w' : World) : Prop := ∃ B c bs, e = .returned (.slice B xs.length c) ∧ d.Own t w' bs (.slice B xs.length c) xs ∧ Fresh w bs ∧ Below w.heap.size w w'
theorem copied_nil {α : Type} {d : Rp α} {t : Nat} {w w' : World} (A : Option Addr) (hb : Below w.heap.size w w') : Copied d t ([] : List α) w (.returned (.slice A 0 0)) w' := ⟨A, 0, [], rfl, .inl ⟨rfl, rfl, A, rfl⟩, fresh_nil _, hb⟩
theorem copied_mk {α : Type} {d : Rp α} {t : Nat} {w w' : World} {zs : List α} {B : Option Addr} {n c : Nat} {bs : List Nat} (hn : n = zs.length) (ho : d.Own t w' bs (.slice B n c) zs) (hf : Fresh w bs) (hb : Below w.heap.size w w') : Copied d t zs w (.returned (.slice B n c)) w' := by
  subst hn; exact ⟨_, _, _, rfl, ho, hf, hb⟩
end Go.Proofs.YtplkfpjcfalifaaDoor.Wd

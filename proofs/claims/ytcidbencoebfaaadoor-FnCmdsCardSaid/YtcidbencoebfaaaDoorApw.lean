/- append onto rows of one's own, as the walk meets it. Conditions: none. -/
import Derived.Test.YtcidbencoebfaaaDoorApp
import Derived.Deep.Upon
namespace Go.Proofs.YtcidbencoebfaaaDoor.Wd
open Go.RowKit
set_option linter.unusedVariables false
set_option linter.unusedSimpArgs false

structure Paus (p : Prop) : Prop where
  out : p
theorem settleR {P : Program} {c : Code} {Q : Exit → Act → World → Prop} {a : Act} {w : World} (h : ∀ W, W = w → Code.wp P c Q a W) : Code.wp P c Q a w := h w rfl
theorem row_of {α : Type} {d : Rp α} {e : Nat} {w : World} {bs : List Nat} {B : Option Addr} {n c : Nat} {xs : List α} (h : d.Own e w bs (.slice B n c) xs) : xs.length ≤ c ∧ d.Row w B xs := by
  obtain ⟨A', c', hv, h1, h2⟩ := h.row
  cases hv; exact ⟨h1, h2⟩
theorem AppRes.below {α : Type} {d : Rp α} {e : Nat} {w0 w w' : World} {bs bl bs' : List Nat} {v v' : Value} {zs : List α} (h : AppRes d e w bs bl v zs v' w' bs') (hb : ∀ b ∈ bs, w0.heap.size ≤ b) (h0 : Below w0.heap.size w0 w) : Below w0.heap.size w0 w' :=
  ⟨h.os.trans h0.os, h.tape.trans h0.tape, h.output.trans h0.output, Nat.le_trans h0.size h.size, fun k hk => (h.block k (Nat.lt_of_lt_of_le hk h0.size) (fun hm => by have := hb k hm; omega)).trans (h0.block k hk)⟩
theorem AppRes.fresh {α : Type} {d : Rp α} {e : Nat} {w0 w w' : World} {bs bl bs' : List Nat} {v v' : Value} {zs : List α} (h : AppRes d e w bs bl v zs v' w' bs') (hb : Fresh w0 bs) (hl : ∀ b ∈ bl, w0.heap.size ≤ b) (h0 : w0.heap.size ≤ w.heap.size) : Fresh w0 bs' :=
  ⟨h.nd, fun b hm => by rcases h.sub b hm with h1 | h1 | h1; exact hb.2 b h1; exact hl b h1; omega⟩

section
variable {P : Program}

theorem wl_app_one {α : Type} (d : Rp α) (w : World) {ops : Array Oper} {rest : List Oper} {o : Oper} {a : Act} {Q : Exit → Act → World → Prop} (hg : o.guard = none) (s x : Operand) (t : TypeId)
    (ho : o.op = .call { callee := .builtin .append, args := #[s, x], argTypes := #[t, t] })
    (e bytes : Nat) (z : Value) (ht : P.underlying t = some (.slice e)) (hinfo : (P.info? e).map (fun i => (i.zero, i.size, i.bytes)) = some (some z, d.sz, bytes)) (hzs : z.cells.size = d.sz) (hpos : 0 < d.sz) (hb1 : 0 < bytes)
    {v : Value} {xs : List α} {y : α} {bs by_ : List Nat} {g c : Nat} {cs : List Value} (hs : a.eval s = v) (hown : d.Own e w bs v xs) (hnd : (bs ++ by_).Nodup) (hx : a.eval x = .slice (some ⟨g, 0, none⟩) 1 c)
    (hy : d.O w by_ y cs) (hcs : ∀ j u, cs[j]? = some u → w.cell? ⟨g, j, none⟩ = some u)
    (hbytes : (xs.length + 1) * bytes ≤ 140737488355328)
    (h : ∀ A' c' w' bs', AppRes d e w bs by_ v (xs ++ [y]) (.slice A' (xs.length + 1) c') w' bs' → wpList P ops Q rest (a.put o.dst (.slice A' (xs.length + 1) c')) w') : wpList P ops Q (o :: rest) a w := by
  obtain ⟨i, hi, hzz⟩ := Option.map_eq_some_iff.1 hinfo
  simp only [Prod.mk.injEq] at hzz
  obtain ⟨hz, hsize, hby⟩ := hzz
  refine wpList_plain hg fun K hK => ?_
  have hlen := d.K_len (d.O_K hy)
  obtain ⟨v', w', bs', hrun, hres⟩ := run_app d (P := P) (ys := [y]) w t o.type e i z bytes ht hi hz hsize hby hzs hpos hown ⟨g, 0, none⟩ c cs (by simp [hlen]) (fun j u hu => by rw [Addr.add_lit, Nat.zero_add]; exact hcs j u hu) (by simp) (bys := [by_]) (by simp)
    (fun i y' b' hi hb => by
      have : i = 0 := by have := (List.getElem?_eq_some_iff.1 hi).1; simpa using this
      subst this
      simp at hi hb
      subst hi; subst hb
      have : Rp.seg cs (0 * d.sz) d.sz = cs := by unfold Rp.seg; rw [Nat.zero_mul, List.drop_zero, List.take_of_length_le (by omega)]
      rw [this]; exact hy)
    (by simpa using hnd) hbytes hb1
  obtain ⟨A', c', rfl⟩ := hres.row
  simp only [List.flatten_cons, List.flatten_nil, List.append_nil] at hres
  simp only [List.length_append, List.length_cons, List.length_nil, Nat.zero_add] at hres hrun
  unfold Oper.wp execOp
  simp only [ho, resolve, invoke, builtin, Sem.run_bind, Sem.run_pure, Result.andThen_ok, List.map_toArray, List.map_cons, List.map_nil, hs, hx]
  simp only [hrun]
  exact hK _ _ (h A' c' w' bs' hres)

theorem st_app_one {α : Type} (d : Rp α) (w : World) {ops : Array Oper} {o : Oper} {a : Act} {K : Act → World → Prop} {Q : Exit → Act → World → Prop} {E : Prop} (hg : o.guard = none) (s x : Operand) (t : TypeId)
    (ho : o.op = .call { callee := .builtin .append, args := #[s, x], argTypes := #[t, t] })
    (e bytes : Nat) (z : Value) (ht : P.underlying t = some (.slice e)) (hinfo : (P.info? e).map (fun i => (i.zero, i.size, i.bytes)) = some (some z, d.sz, bytes)) (hzs : z.cells.size = d.sz) (hpos : 0 < d.sz) (hb1 : 0 < bytes)
    {v : Value} {xs : List α} {y : α} {bs by_ : List Nat} {g c : Nat} {cs : List Value} (hs : a.eval s = v) (hown : d.Own e w bs v xs) (hnd : (bs ++ by_).Nodup) (hx : a.eval x = .slice (some ⟨g, 0, none⟩) 1 c)
    (hy : d.O w by_ y cs) (hcs : ∀ j u, cs[j]? = some u → w.cell? ⟨g, j, none⟩ = some u)
    (hbytes : (xs.length + 1) * bytes ≤ 140737488355328)
    (h : ∀ A' c' w' bs', AppRes d e w bs by_ v (xs ++ [y]) (.slice A' (xs.length + 1) c') w' bs' → K (a.put o.dst (.slice A' (xs.length + 1) c')) w') : if Region.wanted o (yielded ops a.tmps) = true then Oper.wp P o a w K Q else E := by
  have hw : Region.wanted o (yielded ops a.tmps) = true := by simp [Region.wanted, hg]
  rw [if_pos hw]
  obtain ⟨i, hi, hzz⟩ := Option.map_eq_some_iff.1 hinfo
  simp only [Prod.mk.injEq] at hzz
  obtain ⟨hz, hsize, hby⟩ := hzz
  have hlen := d.K_len (d.O_K hy)
  obtain ⟨v', w', bs', hrun, hres⟩ := run_app d (P := P) (ys := [y]) w t o.type e i z bytes ht hi hz hsize hby hzs hpos hown ⟨g, 0, none⟩ c cs (by simp [hlen]) (fun j u hu => by rw [Addr.add_lit, Nat.zero_add]; exact hcs j u hu) (by simp) (bys := [by_]) (by simp)
    (fun i y' b' hi hb => by
      have : i = 0 := by have := (List.getElem?_eq_some_iff.1 hi).1; simpa using this
      subst this
      simp at hi hb
      subst hi; subst hb
      have : Rp.seg cs (0 * d.sz) d.sz = cs := by unfold Rp.seg; rw [Nat.zero_mul, List.drop_zero, List.take_of_length_le (by omega)]
      rw [this]; exact hy)
    (by simpa using hnd) hbytes hb1
  obtain ⟨A', c', rfl⟩ := hres.row
  simp only [List.flatten_cons, List.flatten_nil, List.append_nil] at hres
  simp only [List.length_append, List.length_cons, List.length_nil, Nat.zero_add] at hres hrun
  unfold Oper.wp execOp
  simp only [ho, resolve, invoke, builtin, Sem.run_bind, Sem.run_pure, Result.andThen_ok, List.map_toArray, List.map_cons, List.map_nil, hs, hx]
  simp only [hrun]
  exact h A' c' w' bs' hres
end
def Copied {α : Type} (d : Rp α) (t : Nat) (xs : List α) (w : World) (e : Ending) (w' : World) : Prop := ∃ B c bs, e = .returned (.slice B xs.length c) ∧ d.Own t w' bs (.slice B xs.length c) xs ∧ Fresh w bs ∧ Below w.heap.size w w'
theorem copied_nil {α : Type} {d : Rp α} {t : Nat} {w w' : World} (A : Option Addr) (hb : Below w.heap.size w w') : Copied d t ([] : List α) w (.returned (.slice A 0 0)) w' := ⟨A, 0, [], rfl, .inl ⟨rfl, rfl, A, rfl⟩, fresh_nil _, hb⟩
end Go.Proofs.YtcidbencoebfaaaDoor.Wd


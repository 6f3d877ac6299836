/- Texts of one claim, joined: App, Apw, BrO, E0, E1, E2, E3, E4, E1s, E5, E6, E7, E8, E9, E10, E11. Conditions: as each says. -/
import Derived.ArgAppend
import Derived.Deep.Upon
import Derived.Test.YtjmefaihkblliaaGreatC00
import Derived.Test.YtjmefaihkblliaaGreatC02
/- append onto rows of one's own. Conditions: none. -/
namespace Go.Proofs.YtjmefaihkblliaaGreat.Wd
open Go.RowKit
set_option linter.unusedVariables false
set_option linter.unusedSimpArgs false
structure AppRes {α : Type} (d : Rp α) (e : Nat) (w : World) (bs bl : List Nat) (v : Value) (zs : List α) (v' : Value) (w' : World) (bs' : List Nat) : Prop where
  own : d.Own e w' bs' v' zs
  nd : bs'.Nodup
  sub : ∀ b ∈ bs', b ∈ bs ∨ b ∈ bl ∨ w.heap.size ≤ b
  os : w'.os = w.os
  tape : w'.tape = w.tape
  output : w'.output = w.output
  size : w.heap.size ≤ w'.heap.size
  block : ∀ k, k < w.heap.size → k ∉ bs → w'.heap[k]? = w.heap[k]?
  row : ∃ A c, v' = .slice A zs.length c
end Go.Proofs.YtjmefaihkblliaaGreat.Wd
/- append onto rows of one's own, as the walk meets it. Conditions: none. -/
namespace Go.Proofs.YtjmefaihkblliaaGreat.Wd
open Go.RowKit
set_option linter.unusedVariables false
set_option linter.unusedSimpArgs false
theorem settleR {P : Program} {c : Code} {Q : Exit → Act → World → Prop} {a : Act} {w : World} (h : ∀ W, W = w → Code.wp P c Q a W) : Code.wp P c Q a w := h w rfl
theorem row_of {α : Type} {d : Rp α} {e : Nat} {w : World} {bs : List Nat} {B : Option Addr} {n c : Nat} {xs : List α} (h : d.Own e w bs (.slice B n c) xs) : xs.length ≤ c ∧ d.Row w B xs := by
  obtain ⟨A', c', hv, h1, h2⟩ := h.row
  cases hv; exact ⟨h1, h2⟩
theorem AppRes.below {α : Type} {d : Rp α} {e : Nat} {w0 w w' : World} {bs bl bs' : List Nat} {v v' : Value} {zs : List α} (h : AppRes d e w bs bl v zs v' w' bs') (hb : ∀ b ∈ bs, w0.heap.size ≤ b) (h0 : Below w0.heap.size w0 w) : Below w0.heap.size w0 w' :=
  ⟨h.os.trans h0.os, h.tape.trans h0.tape, h.output.trans h0.output, Nat.le_trans h0.size h.size, fun k hk => (h.block k (Nat.lt_of_lt_of_le hk h0.size) (fun hm => by have := hb k hm; omega)).trans (h0.block k hk)⟩
theorem AppRes.fresh {α : Type} {d : Rp α} {e : Nat} {w0 w w' : World} {bs bl bs' : List Nat} {v v' : Value} {zs : List α} (h : AppRes d e w bs bl v zs v' w' bs') (hb : Fresh w0 bs) (hl : ∀ b ∈ bl, w0.heap.size ≤ b) (h0 : w0.heap.size ≤ w.heap.size) : Fresh w0 bs' :=
  ⟨h.nd, fun b hm => by rcases h.sub b hm with h1 | h1 | h1; exact hb.2 b h1; exact hl b h1; omega⟩
def Flat {α : Type} (d : Rp α) : Prop := ∀ w x cs, d.K w x cs → d.O w [] x cs
theorem flat_scalar {α : Type} (enc : α → Value) (h1 : ∀ x, (enc x).oneCell' = true) : Flat (Rp.scalar enc h1) := fun _ _ _ h => ⟨rfl, h⟩
theorem flat_int : Flat Rp.int := flat_scalar _ _
theorem flat_bool : Flat Rp.bool := flat_scalar _ _
theorem flat_pair {α β : Type} {a : Rp α} {b : Rp β} (ha : Flat a) (hb : Flat b) : Flat (Rp.pair a b) := by
  rintro w x cs ⟨c0, c1, rfl, h0, h1⟩
  exact ⟨c0, c1, [], [], rfl, rfl, ha _ _ _ h0, hb _ _ _ h1⟩
theorem flat_iso {α β : Type} {d : Rp α} (f : β → α) (hd : Flat d) : Flat (Rp.iso d f) := fun w x cs h => hd w (f x) cs h
section
variable {P : Program}
/-! the same at a step of a region that draws its order -/
end
def Copied {α : Type} (d : Rp α) (t : Nat) (xs : List α) (w : World) (e : Ending) (w' : World) : Prop := ∃ B c bs, e = .returned (.slice B xs.length c) ∧ d.Own t w' bs (.slice B xs.length c) xs ∧ Fresh w bs ∧ Below w.heap.size w w'
end Go.Proofs.YtjmefaihkblliaaGreat.Wd
/- From owned cells to data: contracts of the machine, as laws use them. Conditions: none. -/
namespace Go.Proofs.YtjmefaihkblliaaGreat.Wd
open Go.RowKit
set_option linter.unusedVariables false
set_option linter.unusedSimpArgs false
structure Bri {α : Type} (d : Rp α) (f : α → List Ab.C) : Prop where
  ok : ∀ {w bs x cs}, d.O w bs x cs → Ab.Ds (fun _ => False) w cs (f x)
  len : ∀ x, (f x).length = d.sz
theorem bri_scalar {α : Type} {enc : α → Value} {h1 : ∀ x, (enc x).oneCell' = true} {f : α → Ab.C} (h : ∀ w x, Ab.Rf (fun _ => False) w (enc x) (f x)) : Bri (Rp.scalar enc h1) (fun x => [f x]) := by
  refine ⟨fun {w bs x cs} ho => ?_, fun x => rfl⟩
  obtain ⟨_, rfl⟩ := ho
  refine ⟨rfl, fun j u c hu hc => ?_⟩
  cases j with
  | zero => cases hu; cases hc; exact h w x
  | succ j => cases hu
theorem bri_int : Bri Rp.int (fun x => [.int .i64 x]) := bri_scalar (f := fun x => .int .i64 x) fun w x => .int _ _
theorem bri_bool : Bri Rp.bool (fun x => [.bool x]) := bri_scalar (f := fun x => .bool x) fun w x => .bool _
theorem bri_pair {α β : Type} {a : Rp α} {b : Rp β} {f : α → List Ab.C} {g : β → List Ab.C} (ha : Bri a f) (hb : Bri b g) : Bri (Rp.pair a b) (fun x => f x.1 ++ g x.2) := by
  refine ⟨fun {w bs x cs} ho => ?_, fun x => by rw [List.length_append, ha.len, hb.len]; rfl⟩
  obtain ⟨c0, c1, b0, b1, rfl, rfl, h0, h1⟩ := ho
  have d0 := ha.ok h0
  have d1 := hb.ok h1
  refine ⟨by rw [List.length_append, List.length_append, d0.1, d1.1], fun j u c hu hc => ?_⟩
  rcases Nat.lt_or_ge j c0.length with hj | hj
  · rw [List.getElem?_append_left hj] at hu
    rw [List.getElem?_append_left (by rw [← d0.1]; exact hj)] at hc
    exact d0.2 j u c hu hc
  · rw [List.getElem?_append_right hj] at hu
    rw [List.getElem?_append_right (by rw [← d0.1]; exact hj), ← d0.1] at hc
    exact d1.2 _ u c hu hc
theorem bri_iso {α β : Type} {d : Rp α} {f : α → List Ab.C} (h : Bri d f) (g : β → α) : Bri (Rp.iso d g) (fun x => f (g x)) := ⟨fun ho => h.ok ho, fun x => h.len (g x)⟩
theorem cell_at {w : World} {g k : Nat} {cur : Array Value} {e : TypeId} (hg : w.heap[g]? = some (.cells cur e (0, 0))) : w.cell? ⟨g, k, none⟩ = cur[k]? := by
  simp only [World.cell?, hg]
  simp
theorem bri_row {α : Type} {d : Rp α} {f : α → List Ab.C} (h : Bri d f) (hpos : 0 < d.sz) {e : Nat} {w : World} {bs : List Nat} {v : Value} {xs : List α} (ho : d.Own e w bs v xs) (z : Nat) (hz : d.sz = z) (dflt : α) : Ab.Rf (fun _ => False) w v (.sl z dflt f xs) := by
  subst hz
  rcases ho with ⟨rfl, _, A, rfl⟩ | ⟨g, o, c, cur, bss, rfl, rfl, hl, hg, hsz, h1, h2, hx⟩
  · exact .nil A 0 d.sz dflt f
  · rcases Nat.eq_zero_or_pos xs.length with h0 | h0
    · rw [List.length_eq_zero_iff.1 h0]; exact .nil _ _ _ _ _
    · have key : ∀ i x j q, xs[i]? = some x → (f x)[j]? = some q → ∃ u, cur[o + i * d.sz + j]? = some u ∧ Ab.Rf (fun _ => False) w u q := fun i x j q hi hj => by
        have hib : i < bss.length := by rw [hl]; exact (List.getElem?_eq_some_iff.1 hi).1
        have hO := hx i x bss[i] hi (List.getElem?_eq_getElem hib)
        have hd := h.ok hO
        have hjl := (List.getElem?_eq_some_iff.1 hj).1
        have hsl : j < (Rp.seg cur.toList (o + i * d.sz) d.sz).length := by rw [hd.1]; exact hjl
        have hu := List.getElem?_eq_getElem hsl
        refine ⟨_, ?_, hd.2 j _ q hu hj⟩
        have := Rp.seg_get hu
        rwa [Array.getElem?_toList] at this
      refine .row g o c d.sz xs.length dflt f xs (fun i j => (cur[o + i * d.sz + j]?).getD undef) rfl h0 hpos h1 h2 (fun h => h) (fun x _ => h.len x) (fun i x j q hi hj => ?_) (fun i x j q hi hj => ?_)
      · obtain ⟨u, hu, _⟩ := key i x j q hi hj
        rw [cell_at hg, hu]; rfl
      · obtain ⟨u, hu, hr⟩ := key i x j q hi hj
        rw [hu]; exact hr
theorem bri_slice {α : Type} {d : Rp α} {f : α → List Ab.C} (h : Bri d f) (hpos : 0 < d.sz) (e z : Nat) (hz : d.sz = z) (dflt : α) : Bri (Rp.slice e d) (fun xs => [.sl z dflt f xs]) := by
  refine ⟨fun {w bs x cs} ho => ?_, fun x => rfl⟩
  obtain ⟨v, rfl, ho⟩ := ho
  refine ⟨rfl, fun j u c hu hc => ?_⟩
  cases j with
  | zero => cases hu; cases hc; exact bri_row h hpos ho z hz dflt
  | succ j => cases hu
theorem own_false {m : Ab.Mp} {k : Nat} : ¬ Ab.Own (fun _ => False) Ab.M0 m k := fun h => h.elim id fun ⟨id, h, _⟩ => by cases h
theorem bri_r2 {α : Type} {d : Rp α} {f : α → List Ab.C} (h : Bri d f) {w : World} {bs : List Nat} {x : α} {cs : List Value} (ho : d.O w bs x cs) (m : Ab.Mp) : Ab.R2 (fun _ => False) Ab.M0 m w (.agg cs.toArray) (.dagg (f x)) :=
  ⟨cs, rfl, (h.ok ho).1, fun j u c hu hc => Ab.Rf.sub ((h.ok ho).2 j u c hu hc) fun k hk => (own_false hk).elim⟩
structure Ibr {α : Type} (d : Rp α) (f : α → List Ab.C) : Prop where
  ok : ∀ {S w x cs}, Ab.Ds S w cs (f x) → d.O w [] x cs
  len : ∀ x, (f x).length = d.sz
theorem fresh_copied {P : Program} {f : FuncId} {args : List Ab.LV} {e z : Nat} {α : Type} {dflt : α} {g : α → List Ab.C} {d : Rp α} {xs : List α} (h : Ab.Ct P f args [] (Ab.FreshPost 1 e z dflt g xs)) (hib : Ibr d g) (hz : d.sz = z) {w : World} {vs : List Value} (hl : vs.length = args.length) (hvs : ∀ (j : Nat) v l, vs[j]? = some v → args[j]? = some l → Ab.R2 (fun _ => False) Ab.M0 ⟨fun _ => 0, fun _ => 0, fun _ => 0⟩ w v l) :
    Calls P f vs.toArray w fun en w' => Copied d e xs w en w' := by
  subst hz
  refine Calls.mono (h.2 (fun _ => False) w ⟨fun _ => 0, fun _ => 0, fun _ => 0⟩ vs (fun k hk => hk.elim) ⟨fun id b hb => (by cases hb), fun i j hi => (by cases hi), fun i hi => (by cases hi)⟩ hl (fun j v l hv hl => hvs j v l hv hl)) ?_
  rintro en w1 ⟨v, r, Mo, m1, rfl, hpo, hb⟩
  have hbel : Below w.heap.size w w1 := ⟨hb.os, hb.tape, hb.output, hb.same.size, fun k hk => hb.same.at_ k hk (fun ⟨j, hj, _⟩ => by cases hj)⟩
  rcases hpo with ⟨rfl, rfl⟩ | ⟨rfl, rfl, rfl⟩
  · have h1 : Ab.mm [(1, some (Ab.Blk.row e d.sz dflt g xs))] 1 = some (.row e d.sz dflt g xs) := rfl
    obtain ⟨us, hu, a1, a2, a3, a4, a5, a6, a7⟩ := (hb.mem.blk 1 _ h1).1
    have hval := hb.val.2 xs.length rfl
    have hnew : w.heap.size ≤ m1.blk 1 := (hb.new 1 rfl).elim id fun ⟨j, hj, _⟩ => by cases hj
    refine ⟨some ⟨m1.blk 1, m1.off 1, none⟩, m1.cap 1, [m1.blk 1], by rw [← hval], .inr ⟨m1.blk 1, m1.off 1, m1.cap 1, us, List.replicate xs.length [], rfl, by simp, by simp, hu, a1, a2, a3, fun i x b hi hbi => ?_⟩, ⟨by simp, fun b hb' => by rw [List.mem_singleton.1 hb']; exact hnew⟩, hbel⟩
    have : b = [] := by
      rw [List.getElem?_replicate] at hbi
      split at hbi
      · cases hbi; rfl
      · cases hbi
    subst this
    refine hib.ok (S := Ab.Own (fun _ => False) (Ab.mm [(1, some (Ab.Blk.row e d.sz dflt g xs))]) m1) ⟨?_, fun j u c hu' hc => ?_⟩
    · rw [hib.len, Rp.seg, List.length_take, List.length_drop, Array.length_toList (xs := us)]
      have hlt := (List.getElem?_eq_some_iff.1 ‹xs[i]? = some x›).1
      have := Nat.mul_le_mul_right d.sz (Nat.succ_le_of_lt (Nat.lt_of_lt_of_le hlt a2))
      rw [Nat.succ_mul] at this
      omega
    · obtain ⟨u', h3, h4⟩ := a7 i x j c ‹_› hc
      have := Rp.seg_get hu'
      rw [Array.getElem?_toList, h3] at this
      cases this
      exact h4
  · have hv : v = .slice none 0 0 := hb.val.1
    subst hv
    exact ⟨none, 0, [], rfl, .inl ⟨rfl, rfl, none, rfl⟩, fresh_nil w, hbel⟩
end Go.Proofs.YtjmefaihkblliaaGreat.Wd
/- The engine's small functions, walked by the abstract machine: what both programs answer. Conditions: none. -/
namespace Go.Proofs.YtjmefaihkblliaaGreat.Ab
set_option linter.unusedVariables false
set_option linter.unusedSimpArgs false
set_option maxRecDepth 100000
/-! ### what they answer -/
def isVal (n : Int) : Bool := decide (0 ≤ n ∧ n ≤ 999)
def isReg (n : Int) : Bool := decide (0 ≤ n ∧ n < 6)
def isIn (n lo hi : Int) : Bool := decide (lo ≤ n ∧ n < hi)
def fieldsOf (op : Int) : Int :=
  if op = 1 then 0
  else if op = 6 ∨ op = 10 ∨ op = 11 ∨ op = 12 ∨ op = 13 ∨ op = 15 then 1
  else if op = 2 ∨ op = 7 ∨ op = 8 ∨ op = 14 then 2
  else if op = 3 ∨ op = 4 ∨ op = 5 ∨ op = 9 then 3
  else -1
/-! ### the walks -/
theorem con_impl_within (n lo hi : Int) : Con Tryz.prog 189 [.dat (.int .i64 n), .dat (.int .i64 lo), .dat (.int .i64 hi)] (.dat (.bool (isIn n lo hi))) := by
  refine con_body (rs := [(.tmp 6, 4)]) tb_ok Tryz.func189 rfl rfl rfl (Nat.le_of_ble_eq_true rfl) fun ho x hn => ?_
  (repeat' (first
  | (refine go_cond hn tb_ok rfl ?_ (fun hc => ?_) (fun hc => ?_); ((first | exact trivial | (simp only [i64ok, true_and, and_true, Int.toNat_natCast]; omega) | (simp only [i64ok, true_and, and_true, Int.toNat_natCast] at *; omega))); all_goals (try (((try simp only [decide_eq_true_eq, decide_eq_false_iff_not, Bool.not_eq_true', Bool.not_eq_false', Bool.not_eq_eq_eq_not, Bool.not_true, Bool.not_false, Int.not_lt, Int.not_le, Int.toNat_natCast, beq_iff_eq, beq_eq_false_iff_ne, ne_eq] at hc); (try skip); try (exfalso; omega)))))
  | (refine go_ret hn tb_ok rfl ?_ ⟨_, rfl, ?_⟩; ((first | exact trivial | (simp only [i64ok, true_and, and_true, Int.toNat_natCast]; omega) | (simp only [i64ok, true_and, and_true, Int.toNat_natCast] at *; omega))))
  | ((refine go_con hn tb_ok rfl ?_ rfl [] ⟨_, ?_, rfl, ?_, ?_, ?_, ?_⟩; ((first | exact trivial | (simp only [i64ok, true_and, and_true, Int.toNat_natCast]; omega) | (simp only [i64ok, true_and, and_true, Int.toNat_natCast] at *; omega))); rotate_left; (assumption); (rfl); (first | exact .inl rfl | exact .inr (fun id hi => lk3_ok hi)))))) <;> (simp [tupOf, isIn, *] <;> omega)
theorem con_impl_isVal (n : Int) : Con Tryz.prog 193 [.dat (.int .i64 n)] (.dat (.bool (isVal n))) := by
  refine con_body (rs := [(.tmp 2, 4)]) tb_ok Tryz.func193 rfl rfl rfl (Nat.le_of_ble_eq_true rfl) fun ho x hn => ?_
  (repeat' (first
  | (refine go_cond hn tb_ok rfl ?_ (fun hc => ?_) (fun hc => ?_); ((first | exact trivial | (simp only [i64ok, true_and, and_true, Int.toNat_natCast]; omega) | (simp only [i64ok, true_and, and_true, Int.toNat_natCast] at *; omega))); all_goals (try (((try simp only [decide_eq_true_eq, decide_eq_false_iff_not, Bool.not_eq_true', Bool.not_eq_false', Bool.not_eq_eq_eq_not, Bool.not_true, Bool.not_false, Int.not_lt, Int.not_le, Int.toNat_natCast, beq_iff_eq, beq_eq_false_iff_ne, ne_eq] at hc); (try skip); try (exfalso; omega)))))
  | (refine go_ret hn tb_ok rfl ?_ ⟨_, rfl, ?_⟩; ((first | exact trivial | (simp only [i64ok, true_and, and_true, Int.toNat_natCast]; omega) | (simp only [i64ok, true_and, and_true, Int.toNat_natCast] at *; omega))))
  | ((refine go_con hn tb_ok rfl ?_ rfl [] ⟨_, ?_, rfl, ?_, ?_, ?_, ?_⟩; ((first | exact trivial | (simp only [i64ok, true_and, and_true, Int.toNat_natCast]; omega) | (simp only [i64ok, true_and, and_true, Int.toNat_natCast] at *; omega))); rotate_left; (assumption); (rfl); (first | exact .inl rfl | exact .inr (fun id hi => lk3_ok hi)))))) <;> (simp [tupOf, isVal, *] <;> omega)
theorem con_spec_l03Val (n : Int) : Con Tryz.prog 178 [.dat (.int .i64 n)] (.dat (.bool (isVal n))) := by
  refine con_body (rs := [(.tmp 2, 4)]) tb_ok Tryz.func178 rfl rfl rfl (Nat.le_of_ble_eq_true rfl) fun ho x hn => ?_
  (repeat' (first
  | (refine go_cond hn tb_ok rfl ?_ (fun hc => ?_) (fun hc => ?_); ((first | exact trivial | (simp only [i64ok, true_and, and_true, Int.toNat_natCast]; omega) | (simp only [i64ok, true_and, and_true, Int.toNat_natCast] at *; omega))); all_goals (try (((try simp only [decide_eq_true_eq, decide_eq_false_iff_not, Bool.not_eq_true', Bool.not_eq_false', Bool.not_eq_eq_eq_not, Bool.not_true, Bool.not_false, Int.not_lt, Int.not_le, Int.toNat_natCast, beq_iff_eq, beq_eq_false_iff_ne, ne_eq] at hc); (try skip); try (exfalso; omega)))))
  | (refine go_ret hn tb_ok rfl ?_ ⟨_, rfl, ?_⟩; ((first | exact trivial | (simp only [i64ok, true_and, and_true, Int.toNat_natCast]; omega) | (simp only [i64ok, true_and, and_true, Int.toNat_natCast] at *; omega))))
  | ((refine go_con hn tb_ok rfl ?_ rfl [] ⟨_, ?_, rfl, ?_, ?_, ?_, ?_⟩; ((first | exact trivial | (simp only [i64ok, true_and, and_true, Int.toNat_natCast]; omega) | (simp only [i64ok, true_and, and_true, Int.toNat_natCast] at *; omega))); rotate_left; (assumption); (rfl); (first | exact .inl rfl | exact .inr (fun id hi => lk3_ok hi)))))) <;> (simp [tupOf, isVal, *] <;> omega)
theorem con_spec_l03Reg (n : Int) : Con Tryz.prog 223 [.dat (.int .i64 n)] (.dat (.bool (isReg n))) := by
  refine con_body (rs := [(.tmp 2, 4)]) tb_ok Tryz.func223 rfl rfl rfl (Nat.le_of_ble_eq_true rfl) fun ho x hn => ?_
  (repeat' (first
  | (refine go_cond hn tb_ok rfl ?_ (fun hc => ?_) (fun hc => ?_); ((first | exact trivial | (simp only [i64ok, true_and, and_true, Int.toNat_natCast]; omega) | (simp only [i64ok, true_and, and_true, Int.toNat_natCast] at *; omega))); all_goals (try (((try simp only [decide_eq_true_eq, decide_eq_false_iff_not, Bool.not_eq_true', Bool.not_eq_false', Bool.not_eq_eq_eq_not, Bool.not_true, Bool.not_false, Int.not_lt, Int.not_le, Int.toNat_natCast, beq_iff_eq, beq_eq_false_iff_ne, ne_eq] at hc); (try skip); try (exfalso; omega)))))
  | (refine go_ret hn tb_ok rfl ?_ ⟨_, rfl, ?_⟩; ((first | exact trivial | (simp only [i64ok, true_and, and_true, Int.toNat_natCast]; omega) | (simp only [i64ok, true_and, and_true, Int.toNat_natCast] at *; omega))))
  | ((refine go_con hn tb_ok rfl ?_ rfl [] ⟨_, ?_, rfl, ?_, ?_, ?_, ?_⟩; ((first | exact trivial | (simp only [i64ok, true_and, and_true, Int.toNat_natCast]; omega) | (simp only [i64ok, true_and, and_true, Int.toNat_natCast] at *; omega))); rotate_left; (assumption); (rfl); (first | exact .inl rfl | exact .inr (fun id hi => lk3_ok hi)))))) <;> (simp [tupOf, isReg, *] <;> omega)
theorem con_impl_isReg (n : Int) : Con Tryz.prog 220 [.dat (.int .i64 n)] (.dat (.bool (isReg n))) := by
  refine con_body (rs := [(.tmp 2, 4)]) tb_ok Tryz.func220 rfl rfl rfl (Nat.le_of_ble_eq_true rfl) fun ho x hn => ?_
  (repeat' (first
  | (refine go_cond hn tb_ok rfl ?_ (fun hc => ?_) (fun hc => ?_); ((first | exact trivial | (simp only [i64ok, true_and, and_true, Int.toNat_natCast]; omega) | (simp only [i64ok, true_and, and_true, Int.toNat_natCast] at *; omega))); all_goals (try (((try simp only [decide_eq_true_eq, decide_eq_false_iff_not, Bool.not_eq_true', Bool.not_eq_false', Bool.not_eq_eq_eq_not, Bool.not_true, Bool.not_false, Int.not_lt, Int.not_le, Int.toNat_natCast, beq_iff_eq, beq_eq_false_iff_ne, ne_eq] at hc); (try skip); try (exfalso; omega)))))
  | (refine go_ret hn tb_ok rfl ?_ ⟨_, rfl, ?_⟩; ((first | exact trivial | (simp only [i64ok, true_and, and_true, Int.toNat_natCast]; omega) | (simp only [i64ok, true_and, and_true, Int.toNat_natCast] at *; omega))))
  | ((refine go_con hn tb_ok rfl ?_ rfl [] ⟨_, ?_, rfl, ?_, ?_, ?_, ?_⟩; ((first | exact trivial | (simp only [i64ok, true_and, and_true, Int.toNat_natCast]; omega) | (simp only [i64ok, true_and, and_true, Int.toNat_natCast] at *; omega))); rotate_left; ((first | exact con_impl_within _ _ _ | assumption)); (rfl); (first | exact .inl rfl | exact .inr (fun id hi => lk3_ok hi)))))) <;> simp [tupOf, isReg, isIn]
theorem con_impl_Fields (op : Int) : Con Tryz.prog 221 [.dat (.int .i64 op)] (.dat (.int .i64 (fieldsOf op))) := by
  refine con_body (rs := [(.tmp 2, 3)]) tb_ok Tryz.func221 rfl rfl rfl (Nat.le_of_ble_eq_true rfl) fun ho x hn => ?_
  (repeat' (first
  | (refine go_cond hn tb_ok rfl ?_ (fun hc => ?_) (fun hc => ?_); ((first | exact trivial | (simp only [i64ok, true_and, and_true, Int.toNat_natCast]; omega) | (simp only [i64ok, true_and, and_true, Int.toNat_natCast] at *; omega))); all_goals (try (((try simp only [decide_eq_true_eq, decide_eq_false_iff_not, Bool.not_eq_true', Bool.not_eq_false', Bool.not_eq_eq_eq_not, Bool.not_true, Bool.not_false, Int.not_lt, Int.not_le, Int.toNat_natCast, beq_iff_eq, beq_eq_false_iff_ne, ne_eq] at hc); (try skip); try (exfalso; omega)))))
  | (refine go_ret hn tb_ok rfl ?_ ⟨_, rfl, ?_⟩; ((first | exact trivial | (simp only [i64ok, true_and, and_true, Int.toNat_natCast]; omega) | (simp only [i64ok, true_and, and_true, Int.toNat_natCast] at *; omega))))
  | ((refine go_con hn tb_ok rfl ?_ rfl [] ⟨_, ?_, rfl, ?_, ?_, ?_, ?_⟩; ((first | exact trivial | (simp only [i64ok, true_and, and_true, Int.toNat_natCast]; omega) | (simp only [i64ok, true_and, and_true, Int.toNat_natCast] at *; omega))); rotate_left; (assumption); (rfl); (first | exact .inl rfl | exact .inr (fun id hi => lk3_ok hi)))))) <;> simp [tupOf, fieldsOf, *]
theorem con_spec_Fields (op : Int) : Con Tryz.prog 262 [.dat (.int .i64 op)] (.dat (.int .i64 (fieldsOf op))) := by
  refine con_body (rs := [(.tmp 2, 3)]) tb_ok Tryz.func262 rfl rfl rfl (Nat.le_of_ble_eq_true rfl) fun ho x hn => ?_
  (repeat' (first
  | (refine go_cond hn tb_ok rfl ?_ (fun hc => ?_) (fun hc => ?_); ((first | exact trivial | (simp only [i64ok, true_and, and_true, Int.toNat_natCast]; omega) | (simp only [i64ok, true_and, and_true, Int.toNat_natCast] at *; omega))); all_goals (try (((try simp only [decide_eq_true_eq, decide_eq_false_iff_not, Bool.not_eq_true', Bool.not_eq_false', Bool.not_eq_eq_eq_not, Bool.not_true, Bool.not_false, Int.not_lt, Int.not_le, Int.toNat_natCast, beq_iff_eq, beq_eq_false_iff_ne, ne_eq] at hc); (try skip); try (exfalso; omega)))))
  | (refine go_ret hn tb_ok rfl ?_ ⟨_, rfl, ?_⟩; ((first | exact trivial | (simp only [i64ok, true_and, and_true, Int.toNat_natCast]; omega) | (simp only [i64ok, true_and, and_true, Int.toNat_natCast] at *; omega))))
  | ((refine go_con hn tb_ok rfl ?_ rfl [] ⟨_, ?_, rfl, ?_, ?_, ?_, ?_⟩; ((first | exact trivial | (simp only [i64ok, true_and, and_true, Int.toNat_natCast]; omega) | (simp only [i64ok, true_and, and_true, Int.toNat_natCast] at *; omega))); rotate_left; (assumption); (rfl); (first | exact .inl rfl | exact .inr (fun id hi => lk3_ok hi)))))) <;> simp [tupOf, fieldsOf, *]
end Go.Proofs.YtjmefaihkblliaaGreat.Ab
/- InstrOk of both programs, walked by the abstract machine. Conditions: none. -/
namespace Go.Proofs.YtjmefaihkblliaaGreat.Ab
set_option linter.unusedVariables false
set_option linter.unusedSimpArgs false
set_option maxRecDepth 100000
def InstrP (nc mus ns np n : Int) (i : MInstr) : Prop :=
  (i.op = 1 ∧ i.a = 0 ∧ i.b = 0 ∧ i.c = 0) ∨
  (i.op = 2 ∧ isReg i.a = true ∧ isVal i.b = true ∧ i.c = 0) ∨
  ((i.op = 3 ∨ i.op = 4 ∨ i.op = 5) ∧ isReg i.a = true ∧ isReg i.b = true ∧ isReg i.c = true) ∨
  (i.op = 6 ∧ (0 ≤ i.a ∧ i.a < n) ∧ i.b = 0 ∧ i.c = 0) ∨
  (i.op = 7 ∧ isReg i.a = true ∧ (0 ≤ i.b ∧ i.b < n) ∧ i.c = 0) ∨
  (i.op = 8 ∧ (-1 ≤ i.a ∧ i.a < nc) ∧ isReg i.b = true ∧ i.c = 0) ∨
  (i.op = 9 ∧ (-1 ≤ i.a ∧ i.a < nc) ∧ isReg i.b = true ∧ isReg i.c = true) ∨
  (i.op = 10 ∧ (-1 ≤ i.a ∧ i.a < nc) ∧ i.b = 0 ∧ i.c = 0) ∨
  (i.op = 11 ∧ (0 ≤ i.a ∧ i.a < ns) ∧ i.b = 0 ∧ i.c = 0) ∨
  ((i.op = 12 ∨ i.op = 13) ∧ (0 ≤ i.a ∧ i.a < mus) ∧ i.b = 0 ∧ i.c = 0) ∨
  (i.op = 14 ∧ (0 ≤ i.a ∧ i.a < np) ∧ isReg i.b = true ∧ i.c = 0) ∨
  (i.op = 15 ∧ isReg i.a = true ∧ i.b = 0 ∧ i.c = 0)
instance (nc mus ns np n : Int) (i : MInstr) : Decidable (InstrP nc mus ns np n i) := by unfold InstrP; infer_instance
def instrOk (p : MProg) (n : Int) (i : MInstr) : Bool := decide (InstrP p.caps.length p.mus p.sels.length p.procs.length n i)
theorem instrOk_iff (p : MProg) (n : Int) (i : MInstr) : instrOk p n i = true ↔ InstrP p.caps.length p.mus p.sels.length p.procs.length n i := by simp [instrOk]
def isChan (p : MProg) (n : Int) : Bool := decide (-1 ≤ n ∧ n < p.caps.length)
theorem okProg {p : MProg} (h : OkL (.dagg (cProg p))) : p.caps.length ≤ (9223372036854775807 : Nat) ∧ p.sels.length ≤ (9223372036854775807 : Nat) ∧ p.procs.length ≤ (9223372036854775807 : Nat) ∧ (∀ s ∈ p.sels, s.cases.length ≤ (9223372036854775807 : Nat)) ∧ (∀ s ∈ p.procs, s.code.length ≤ (9223372036854775807 : Nat)) :=
  ⟨(h (ints p.caps) (by simp [cProg])).len, (h (rows_Select p.sels) (by simp [cProg])).len, (h (rows_Proc p.procs) (by simp [cProg])).len,
    fun s hs => (Okc.el (h (rows_Select p.sels) (by simp [cProg])) hs (c := rows_Case s.cases) (by simp [cSelect])).len,
    fun s hs => (Okc.el (h (rows_Proc p.procs) (by simp [cProg])) hs (c := rows_Instr s.code) (by simp [cProc])).len⟩
theorem con_impl_isChan (p : MProg) (n : Int) : Con Tryz.prog 219 [.dagg (cProg p), .dat (.int .i64 n)] (.dat (.bool (isChan p n))) := by
  refine con_body (rs := [(.tmp 4, 4)]) tb_ok Tryz.func219 rfl rfl rfl (Nat.le_of_ble_eq_true rfl) fun ho x hn => ?_
  (repeat' (first
  | (refine go_cond hn tb_ok rfl ?_ (fun hc => ?_) (fun hc => ?_); ((first | exact trivial | (simp only [i64ok, true_and, and_true, Int.toNat_natCast]; omega) | (simp only [i64ok, true_and, and_true, Int.toNat_natCast] at *; omega))); all_goals (try (((try simp only [decide_eq_true_eq, decide_eq_false_iff_not, Bool.not_eq_true', Bool.not_eq_false', Bool.not_eq_eq_eq_not, Bool.not_true, Bool.not_false, Int.not_lt, Int.not_le, Int.toNat_natCast, beq_iff_eq, beq_eq_false_iff_ne, ne_eq] at hc); (try (first | simp only [(fields_iff _).1, (fields_iff _).2.1, (fields_iff _).2.2, isReg_iff, isReg_iff', isVal_iff, isVal_iff', isIn_iff, isIn_iff', isChan_iff, isChan_iff'] at hc | skip)); try (exfalso; omega)))))
  | (refine go_ret hn tb_ok rfl ?_ ⟨_, rfl, ?_⟩; ((first | exact trivial | (simp only [i64ok, true_and, and_true, Int.toNat_natCast]; omega) | (simp only [i64ok, true_and, and_true, Int.toNat_natCast] at *; omega))))
  | ((refine go_con hn tb_ok rfl ?_ rfl [] ⟨_, ?_, rfl, ?_, ?_, ?_, ?_⟩; ((first | exact trivial | (simp only [i64ok, true_and, and_true, Int.toNat_natCast]; omega) | (simp only [i64ok, true_and, and_true, Int.toNat_natCast] at *; omega))); rotate_left; ((first | exact con_impl_within _ _ _ | assumption)); (rfl); (first | exact .inl rfl | exact .inr (fun id hi => lk3_ok hi)))))) <;> simp [tupOf, isIn, isChan]
theorem con_spec_l04In (n lo hi : Int) : Con Tryz.prog 261 [.dat (.int .i64 n), .dat (.int .i64 lo), .dat (.int .i64 hi)] (.dat (.bool (isIn n lo (hi + 1)))) := by
  refine con_body (rs := [(.tmp 6, 4)]) tb_ok Tryz.func261 rfl rfl rfl (Nat.le_of_ble_eq_true rfl) fun ho x hn => ?_
  (repeat' (first
  | (refine go_cond hn tb_ok rfl ?_ (fun hc => ?_) (fun hc => ?_); ((first | exact trivial | (simp only [i64ok, true_and, and_true, Int.toNat_natCast]; omega) | (simp only [i64ok, true_and, and_true, Int.toNat_natCast] at *; omega))); all_goals (try (((try simp only [decide_eq_true_eq, decide_eq_false_iff_not, Bool.not_eq_true', Bool.not_eq_false', Bool.not_eq_eq_eq_not, Bool.not_true, Bool.not_false, Int.not_lt, Int.not_le, Int.toNat_natCast, beq_iff_eq, beq_eq_false_iff_ne, ne_eq] at hc); (try (first | simp only [(fields_iff _).1, (fields_iff _).2.1, (fields_iff _).2.2, isReg_iff, isReg_iff', isVal_iff, isVal_iff', isIn_iff, isIn_iff', isChan_iff, isChan_iff'] at hc | skip)); try (exfalso; omega)))))
  | (refine go_ret hn tb_ok rfl ?_ ⟨_, rfl, ?_⟩; ((first | exact trivial | (simp only [i64ok, true_and, and_true, Int.toNat_natCast]; omega) | (simp only [i64ok, true_and, and_true, Int.toNat_natCast] at *; omega))))
  | ((refine go_con hn tb_ok rfl ?_ rfl [] ⟨_, ?_, rfl, ?_, ?_, ?_, ?_⟩; ((first | exact trivial | (simp only [i64ok, true_and, and_true, Int.toNat_natCast]; omega) | (simp only [i64ok, true_and, and_true, Int.toNat_natCast] at *; omega))); rotate_left; (assumption); (rfl); (first | exact .inl rfl | exact .inr (fun id hi => lk3_ok hi)))))) <;> (simp [tupOf, isIn, *] <;> omega)
theorem con_spec_l04Chan (p : MProg) (n : Int) : Con Tryz.prog 222 [.dagg (cProg p), .dat (.int .i64 n)] (.dat (.bool (isChan p n))) := by
  refine con_body (rs := [(.tmp 4, 4)]) tb_ok Tryz.func222 rfl rfl rfl (Nat.le_of_ble_eq_true rfl) fun ho x hn => ?_
  have hb := (okProg (ho _ List.mem_cons_self)).1
  (repeat' (first
  | (refine go_cond hn tb_ok rfl ?_ (fun hc => ?_) (fun hc => ?_); ((first | exact trivial | (simp only [i64ok, true_and, and_true, Int.toNat_natCast]; omega) | (simp only [i64ok, true_and, and_true, Int.toNat_natCast] at *; omega))); all_goals (try (((try simp only [decide_eq_true_eq, decide_eq_false_iff_not, Bool.not_eq_true', Bool.not_eq_false', Bool.not_eq_eq_eq_not, Bool.not_true, Bool.not_false, Int.not_lt, Int.not_le, Int.toNat_natCast, beq_iff_eq, beq_eq_false_iff_ne, ne_eq] at hc); (try (first | simp only [(fields_iff _).1, (fields_iff _).2.1, (fields_iff _).2.2, isReg_iff, isReg_iff', isVal_iff, isVal_iff', isIn_iff, isIn_iff', isChan_iff, isChan_iff'] at hc | skip)); try (exfalso; omega)))))
  | (refine go_ret hn tb_ok rfl ?_ ⟨_, rfl, ?_⟩; ((first | exact trivial | (simp only [i64ok, true_and, and_true, Int.toNat_natCast]; omega) | (simp only [i64ok, true_and, and_true, Int.toNat_natCast] at *; omega))))
  | ((refine go_con hn tb_ok rfl ?_ rfl [] ⟨_, ?_, rfl, ?_, ?_, ?_, ?_⟩; ((first | exact trivial | (simp only [i64ok, true_and, and_true, Int.toNat_natCast]; omega) | (simp only [i64ok, true_and, and_true, Int.toNat_natCast] at *; omega))); rotate_left; ((first | exact con_spec_l04In _ _ _ | assumption)); (rfl); (first | exact .inl rfl | exact .inr (fun id hi => lk3_ok hi)))))) <;> (simp [tupOf, isIn, isChan])
def rest (i : MInstr) (k : Int) : Bool := decide ((0 < k ∨ i.a = 0) ∧ (1 < k ∨ i.b = 0) ∧ (2 < k ∨ i.c = 0))
theorem con_spec_l04Rest (i : MInstr) (k : Int) : Con Tryz.prog 263 [.dagg (cInstr i), .dat (.int .i64 k)] (.dat (.bool (rest i k))) := by
  refine con_body (rs := [(.tmp 4, 4)]) tb_ok Tryz.func263 rfl rfl rfl (Nat.le_of_ble_eq_true rfl) fun ho x hn => ?_
  (repeat' (first
  | (refine go_cond hn tb_ok rfl ?_ (fun hc => ?_) (fun hc => ?_); ((first | exact trivial | (simp only [i64ok, true_and, and_true, Int.toNat_natCast]; omega) | (simp only [i64ok, true_and, and_true, Int.toNat_natCast] at *; omega))); all_goals (try (((try simp only [decide_eq_true_eq, decide_eq_false_iff_not, Bool.not_eq_true', Bool.not_eq_false', Bool.not_eq_eq_eq_not, Bool.not_true, Bool.not_false, Int.not_lt, Int.not_le, Int.toNat_natCast, beq_iff_eq, beq_eq_false_iff_ne, ne_eq] at hc); (try (first | simp only [(fields_iff _).1, (fields_iff _).2.1, (fields_iff _).2.2, isReg_iff, isReg_iff', isVal_iff, isVal_iff', isIn_iff, isIn_iff', isChan_iff, isChan_iff'] at hc | skip)); try (exfalso; omega)))))
  | (refine go_ret hn tb_ok rfl ?_ ⟨_, rfl, ?_⟩; ((first | exact trivial | (simp only [i64ok, true_and, and_true, Int.toNat_natCast]; omega) | (simp only [i64ok, true_and, and_true, Int.toNat_natCast] at *; omega))))
  | ((refine go_con hn tb_ok rfl ?_ rfl [] ⟨_, ?_, rfl, ?_, ?_, ?_, ?_⟩; ((first | exact trivial | (simp only [i64ok, true_and, and_true, Int.toNat_natCast]; omega) | (simp only [i64ok, true_and, and_true, Int.toNat_natCast] at *; omega))); rotate_left; (assumption); (rfl); (first | exact .inl rfl | exact .inr (fun id hi => lk3_ok hi)))))) <;> (simp [tupOf, rest, *] <;> omega)
theorem fields_iff (op : Int) : (fieldsOf op = 0 ↔ op = 1) ∧ (fieldsOf op = 1 ↔ op = 6 ∨ op = 10 ∨ op = 11 ∨ op = 12 ∨ op = 13 ∨ op = 15) ∧ (fieldsOf op = 2 ↔ op = 2 ∨ op = 7 ∨ op = 8 ∨ op = 14) := by
  unfold fieldsOf
  refine ⟨?_, ?_, ?_⟩ <;> repeat' split <;> omega
theorem isReg_iff (n : Int) : isReg n = true ↔ 0 ≤ n ∧ n < 6 := by simp [isReg]
theorem isReg_iff' (n : Int) : isReg n = false ↔ ¬ (0 ≤ n ∧ n < 6) := by simp [isReg]
theorem isVal_iff (n : Int) : isVal n = true ↔ 0 ≤ n ∧ n ≤ 999 := by simp [isVal]
theorem isVal_iff' (n : Int) : isVal n = false ↔ ¬ (0 ≤ n ∧ n ≤ 999) := by simp [isVal]
theorem isIn_iff (n lo hi : Int) : isIn n lo hi = true ↔ lo ≤ n ∧ n < hi := by simp [isIn]
theorem isIn_iff' (n lo hi : Int) : isIn n lo hi = false ↔ ¬ (lo ≤ n ∧ n < hi) := by simp [isIn]
theorem isChan_iff (p : MProg) (n : Int) : isChan p n = true ↔ -1 ≤ n ∧ n < p.caps.length := by simp [isChan]
theorem isChan_iff' (p : MProg) (n : Int) : isChan p n = false ↔ ¬ (-1 ≤ n ∧ n < p.caps.length) := by simp [isChan]
theorem rest_iff (i : MInstr) (k : Int) : rest i k = true ↔ (0 < k ∨ i.a = 0) ∧ (1 < k ∨ i.b = 0) ∧ (2 < k ∨ i.c = 0) := by simp [rest]
theorem rest_iff' (i : MInstr) (k : Int) : rest i k = false ↔ ¬ ((0 < k ∨ i.a = 0) ∧ (1 < k ∨ i.b = 0) ∧ (2 < k ∨ i.c = 0)) := by rw [← rest_iff]; simp
theorem fields_ok (op : Int) : (fieldsOf op = 0 ∧ op = 1) ∨ (fieldsOf op = 1 ∧ (op = 6 ∨ op = 10 ∨ op = 11 ∨ op = 12 ∨ op = 13 ∨ op = 15)) ∨ (fieldsOf op = 2 ∧ (op = 2 ∨ op = 7 ∨ op = 8 ∨ op = 14)) ∨ (fieldsOf op = 3 ∧ (op = 3 ∨ op = 4 ∨ op = 5 ∨ op = 9)) ∨ (fieldsOf op = -1 ∧ (op ≤ 0 ∨ 16 ≤ op)) := by
  unfold fieldsOf
  repeat' split <;> omega
set_option maxHeartbeats 2000000 in
theorem con_impl_InstrOk (p : MProg) (n : Int) (i : MInstr) : Con Tryz.prog 161 [.dagg (cProg p), .dat (.int .i64 n), .dagg (cInstr i)] (.dat (.bool (instrOk p n i))) := by
  refine con_body (rs := [(.tmp 6, 4)]) tb_ok Tryz.func161 rfl rfl rfl (Nat.le_of_ble_eq_true rfl) fun ho x hn => ?_
  (repeat' (first
  | (refine go_cond hn tb_ok rfl ?_ (fun hc => ?_) (fun hc => ?_); ((first | exact trivial | (simp only [i64ok, true_and, and_true, Int.toNat_natCast]; omega) | (simp only [i64ok, true_and, and_true, Int.toNat_natCast] at *; omega))); all_goals (try (((try simp only [decide_eq_true_eq, decide_eq_false_iff_not, Bool.not_eq_true', Bool.not_eq_false', Bool.not_eq_eq_eq_not, Bool.not_true, Bool.not_false, Int.not_lt, Int.not_le, Int.toNat_natCast, beq_iff_eq, beq_eq_false_iff_ne, ne_eq] at hc); (try (first | simp only [(fields_iff _).1, (fields_iff _).2.1, (fields_iff _).2.2, isReg_iff, isReg_iff', isVal_iff, isVal_iff', isIn_iff, isIn_iff', isChan_iff, isChan_iff'] at hc | skip)); try (exfalso; omega)))))
  | (refine go_ret hn tb_ok rfl ?_ ⟨_, rfl, ?_⟩; ((first | exact trivial | (simp only [i64ok, true_and, and_true, Int.toNat_natCast]; omega) | (simp only [i64ok, true_and, and_true, Int.toNat_natCast] at *; omega))))
  | ((refine go_con hn tb_ok rfl ?_ rfl [] ⟨_, ?_, rfl, ?_, ?_, ?_, ?_⟩; ((first | exact trivial | (simp only [i64ok, true_and, and_true, Int.toNat_natCast]; omega) | (simp only [i64ok, true_and, and_true, Int.toNat_natCast] at *; omega))); rotate_left; ((first | exact con_impl_isChan _ _ | exact con_impl_Fields _ | exact con_impl_isReg _ | exact con_impl_isVal _ | exact con_impl_within _ _ _ | assumption)); (rfl); (first | exact .inl rfl | exact .inr (fun id hi => lk3_ok hi))))))
  all_goals ((refine congrArg (fun b => LV.dat (.bool b)) ?_; rw [Bool.eq_iff_iff]; simp only [instrOk_iff, InstrP, decide_eq_true_eq, isReg_iff, isVal_iff, isIn_iff, isChan_iff, Bool.false_eq_true, true_iff, false_iff, Bool.and_eq_true, Bool.or_eq_true]; first | done | (simp [*]; done) | (simp [*]; omega)))
end Go.Proofs.YtjmefaihkblliaaGreat.Ab
/- SelectOk of both programs, walked by the abstract machine. Conditions: none. -/
namespace Go.Proofs.YtjmefaihkblliaaGreat.Ab
set_option linter.unusedVariables false
set_option linter.unusedSimpArgs false
set_option maxRecDepth 100000
def dupAt (cs : List MCase) (k : Nat) : Bool := (cs.take k).any (fun y => decide (0 ≤ (cs.getD k dCase).chan ∧ (cs.getD k dCase).chan = y.chan))
def caseOk (p : MProg) (n : Int) (cs : List MCase) (k : Nat) : Bool := isChan p (cs.getD k dCase).chan && isReg (cs.getD k dCase).reg && isReg (cs.getD k dCase).ok && !((cs.getD k dCase).send && !decide ((cs.getD k dCase).ok = 0)) && isIn (cs.getD k dCase).to 0 n && !dupAt cs k
def selectOk (p : MProg) (n : Int) (s : MSelect) : Bool := (List.range s.cases.length).all (fun k => caseOk p n s.cases k) && isIn s.els (-1) n
theorem selectOk_no {p : MProg} {n : Int} {s : MSelect} {k : Nat} (hk : k < s.cases.length) (h : caseOk p n s.cases k = false) : selectOk p n s = false := by
  unfold selectOk
  rw [Bool.and_eq_false_iff]
  exact .inl (List.all_eq_false.2 ⟨k, List.mem_range.2 hk, by simp [h]⟩)
theorem selectOk_yes {p : MProg} {n : Int} {s : MSelect} (h : ∀ k < s.cases.length, caseOk p n s.cases k = true) : selectOk p n s = isIn s.els (-1) n := by
  unfold selectOk
  rw [List.all_eq_true.2 (fun k hk => h k (List.mem_range.1 hk)), Bool.true_and]
theorem getD_take {α : Type} {cs : List α} {i q : Nat} {d : α} (hq : q < i) : ((cs.take i).drop 0).getD q d = cs.getD q d := by
  simp only [List.drop_zero, List.getD_eq_getElem?_getD, List.getElem?_take, hq, if_true]
theorem len_take {α : Type} {cs : List α} {i : Nat} (hi : i ≤ cs.length) : ((cs.take i).drop 0).length = i := by
  rw [List.drop_zero, List.length_take]; omega
theorem dup_yes {cs : List MCase} {i q : Nat} (hq : q < i) (hi : i ≤ cs.length) (h0 : 0 ≤ (cs.getD i dCase).chan) (h : (cs.getD i dCase).chan = (cs.getD q dCase).chan) : dupAt cs i = true := by
  refine List.any_eq_true.2 ⟨cs.getD q dCase, List.mem_of_getElem? (i := q) ?_, by simp only [decide_eq_true_eq]; exact ⟨h0, h⟩⟩
  rw [List.getElem?_take, if_pos hq, getD_of (d := dCase) (by omega)]
theorem dup_no {cs : List MCase} {i : Nat} (h : ∀ j < i, ¬ (0 ≤ (cs.getD i dCase).chan ∧ (cs.getD i dCase).chan = (cs.getD j dCase).chan)) : dupAt cs i = false := by
  refine List.any_eq_false.2 fun y hy => ?_
  obtain ⟨j, hj⟩ := List.mem_iff_getElem?.1 hy
  rw [List.getElem?_take] at hj
  split at hj
  · rename_i hlt
    have := h j hlt
    rw [List.getD_eq_getElem?_getD (i := j), hj] at this
    simpa using this
  · cases hj
theorem con_spec_SelectOk (p : MProg) (n : Int) (s : MSelect) : Con Tryz.prog 162 [.dagg (cProg p), .dat (.int .i64 n), .dagg (cSelect s)] (.dat (.bool (selectOk p n s))) := by
  refine con_body (rs := [(.tmp 6, 4)]) tb_ok Tryz.func162 rfl rfl rfl (Nat.le_of_ble_eq_true rfl) fun ho x hn => ?_
  have hb : s.cases.length ≤ (9223372036854775807 : Nat) := (ho (.dagg (cSelect s)) (by simp) (rows_Case s.cases) (by simp [cSelect])).len
  ((refine go_loop hn tb_ok rfl ?_ (fun (wI : Nat) wT wM => ((14, .dat (.int .i64 wI)) :: wT, wM)) (fun wI => wI ≤ s.cases.length ∧ (fun i => ∀ j < i, caseOk p n s.cases j = true) wI) (fun wI => s.cases.length - wI) 0 ⟨Nat.zero_le _, ?_⟩ ?_ ?_; ((first | exact trivial | (simp only [i64ok, true_and, and_true, Int.toNat_natCast]; omega) | (simp only [i64ok, true_and, and_true, Int.toNat_natCast] at *; omega)))))
  · intro j hj; omega
  · ((refine le_of [] ?_ ?_ rfl; ((repeat' (first | exact trivial | refine And.intro rfl ?_))); ((repeat' (first | exact trivial | refine And.intro rfl ?_)))))
  rintro i ⟨hi, hq⟩
  ((refine go_cond hn tb_ok rfl ?_ (fun hc => ?_) (fun hc => ?_); ((first | exact trivial | (simp only [i64ok, true_and, and_true, Int.toNat_natCast]; omega) | (simp only [i64ok, true_and, and_true, Int.toNat_natCast] at *; omega))); all_goals (try (((try simp only [decide_eq_true_eq, decide_eq_false_iff_not, Bool.not_eq_true', Bool.not_eq_false', Bool.not_eq_eq_eq_not, Bool.not_true, Bool.not_false, Int.not_lt, Int.not_le, Int.toNat_natCast, beq_iff_eq, beq_eq_false_iff_ne, ne_eq] at hc); (try (first | simp only [(fields_iff _).1, (fields_iff _).2.1, (fields_iff _).2.2, isReg_iff, isReg_iff', isVal_iff, isVal_iff', isIn_iff, isIn_iff', isChan_iff, isChan_iff'] at hc | skip)); try (exfalso; omega))))))
  · (repeat' (first
  | (refine go_cond hn tb_ok rfl ?_ (fun hc => ?_) (fun hc => ?_); ((first | exact trivial | (simp only [i64ok, true_and, and_true, Int.toNat_natCast]; omega) | (simp only [i64ok, true_and, and_true, Int.toNat_natCast] at *; omega))); all_goals (try (((try simp only [decide_eq_true_eq, decide_eq_false_iff_not, Bool.not_eq_true', Bool.not_eq_false', Bool.not_eq_eq_eq_not, Bool.not_true, Bool.not_false, Int.not_lt, Int.not_le, Int.toNat_natCast, beq_iff_eq, beq_eq_false_iff_ne, ne_eq] at hc); (try (first | simp only [(fields_iff _).1, (fields_iff _).2.1, (fields_iff _).2.2, isReg_iff, isReg_iff', isVal_iff, isVal_iff', isIn_iff, isIn_iff', isChan_iff, isChan_iff'] at hc | skip)); try (exfalso; omega)))))
  | (refine go_ret hn tb_ok rfl ?_ ⟨_, rfl, ?_⟩; ((first | exact trivial | (simp only [i64ok, true_and, and_true, Int.toNat_natCast]; omega) | (simp only [i64ok, true_and, and_true, Int.toNat_natCast] at *; omega))))
  | ((refine go_con hn tb_ok rfl ?_ rfl [] ⟨_, ?_, rfl, ?_, ?_, ?_, ?_⟩; ((first | exact trivial | (simp only [i64ok, true_and, and_true, Int.toNat_natCast]; omega) | (simp only [i64ok, true_and, and_true, Int.toNat_natCast] at *; omega))); rotate_left; ((first | exact con_spec_l04Chan _ _ | exact con_spec_l03Reg _ | assumption)); (rfl); (first | exact .inl rfl | exact .inr (fun id hi => lk3_ok hi))))))
    all_goals (try (refine congrArg (fun b => LV.dat (.bool b)) (Eq.symm (selectOk_no (k := i) (by omega) ?_)); first | (simp [caseOk, isReg, isChan, isIn, *, -List.getD_eq_getElem?_getD]; done) | (simp [caseOk, isReg, isChan, isIn, *, -List.getD_eq_getElem?_getD]; omega)))
    all_goals ((refine go_cut hn tb_ok 0 i rfl ?_ rfl rfl rfl rfl rfl ?_ ?_ ?_ ?_ ?_; ((first | exact trivial | (simp only [i64ok, true_and, and_true, Int.toNat_natCast]; omega) | (simp only [i64ok, true_and, and_true, Int.toNat_natCast] at *; omega))); ((first | exact .inl ⟨rfl, rfl⟩ | exact Bnd.some .i64 rfl)); ((first | exact .inl ⟨rfl, rfl⟩ | exact Bnd.some .i64 rfl)); (first | exact Nat.zero_le _ | omega); (first | exact Nat.le_refl _ | omega)))
    all_goals ((refine go_loop hn tb_ok rfl ?_ (fun (wI : Nat) wT wM => ((61, .dat (.int .i64 wI)) :: wT, wM)) (fun wI => wI ≤ i ∧ (fun q => ∀ j < q, ¬ (0 ≤ (s.cases.getD i dCase).chan ∧ (s.cases.getD i dCase).chan = (s.cases.getD j dCase).chan)) wI) (fun wI => i - wI) 0 ⟨Nat.zero_le _, ?_⟩ ?_ ?_; ((first | exact trivial | (simp only [i64ok, true_and, and_true, Int.toNat_natCast]; omega) | (simp only [i64ok, true_and, and_true, Int.toNat_natCast] at *; omega)))))
    all_goals first | (intro j hj; omega) | skip
    all_goals first | ((refine le_of [] ?_ ?_ rfl; ((repeat' (first | exact trivial | refine And.intro rfl ?_))); ((repeat' (first | exact trivial | refine And.intro rfl ?_))))) | skip
    all_goals (
      rintro q ⟨hq1, hq2⟩
      ((refine go_cond hn tb_ok rfl ?_ (fun hc => ?_) (fun hc => ?_); ((first | exact trivial | (simp only [i64ok, true_and, and_true, Int.toNat_natCast]; omega) | (simp only [i64ok, true_and, and_true, Int.toNat_natCast] at *; omega))); all_goals (try (((try simp only [decide_eq_true_eq, decide_eq_false_iff_not, Bool.not_eq_true', Bool.not_eq_false', Bool.not_eq_eq_eq_not, Bool.not_true, Bool.not_false, Int.not_lt, Int.not_le, Int.toNat_natCast, beq_iff_eq, beq_eq_false_iff_ne, ne_eq] at hc); (try (first | simp only [(fields_iff _).1, (fields_iff _).2.1, (fields_iff _).2.2, isReg_iff, isReg_iff', isVal_iff, isVal_iff', isIn_iff, isIn_iff', isChan_iff, isChan_iff'] at hc | skip)); try (exfalso; omega))))))
      · have hlt : q < i := by have := len_take (cs := s.cases) hi; omega
        have hnx : ¬ (0 ≤ (s.cases.getD i dCase).chan ∧ (s.cases.getD i dCase).chan = (s.cases.getD q dCase).chan) → ∀ j < q + 1, ¬ (0 ≤ (s.cases.getD i dCase).chan ∧ (s.cases.getD i dCase).chan = (s.cases.getD j dCase).chan) := fun hh j hj => by
          by_cases e : j = q
          · subst e; exact hh
          · exact hq2 j (by omega)
        have hcl := hc
        clear hc
        ((refine go_cond hn tb_ok rfl ?_ (fun hc => ?_) (fun hc => ?_); ((first | exact trivial | (simp only [i64ok, true_and, and_true, Int.toNat_natCast]; omega) | (simp only [i64ok, true_and, and_true, Int.toNat_natCast] at *; omega))); all_goals (try (((try simp only [decide_eq_true_eq, decide_eq_false_iff_not, Bool.not_eq_true', Bool.not_eq_false', Bool.not_eq_eq_eq_not, Bool.not_true, Bool.not_false, Int.not_lt, Int.not_le, Int.toNat_natCast, beq_iff_eq, beq_eq_false_iff_ne, ne_eq] at hc); (try (first | simp only [(fields_iff _).1, (fields_iff _).2.1, (fields_iff _).2.2, isReg_iff, isReg_iff', isVal_iff, isVal_iff', isIn_iff, isIn_iff', isChan_iff, isChan_iff'] at hc | skip)); try (exfalso; omega))))))
        · ((refine go_cond hn tb_ok rfl ?_ (fun hc => ?_) (fun hc => ?_); ((first | exact trivial | (simp only [i64ok, true_and, and_true, Int.toNat_natCast]; omega) | (simp only [i64ok, true_and, and_true, Int.toNat_natCast] at *; omega))); all_goals (try (((try simp only [decide_eq_true_eq, decide_eq_false_iff_not, Bool.not_eq_true', Bool.not_eq_false', Bool.not_eq_eq_eq_not, Bool.not_true, Bool.not_false, Int.not_lt, Int.not_le, Int.toNat_natCast, beq_iff_eq, beq_eq_false_iff_ne, ne_eq] at hc); (try (first | simp only [(fields_iff _).1, (fields_iff _).2.1, (fields_iff _).2.2, isReg_iff, isReg_iff', isVal_iff, isVal_iff', isIn_iff, isIn_iff', isChan_iff, isChan_iff'] at hc | skip)); try (exfalso; omega))))))
          · ((refine go_ret hn tb_ok rfl ?_ ⟨_, rfl, ?_⟩; ((first | exact trivial | (simp only [i64ok, true_and, and_true, Int.toNat_natCast]; omega) | (simp only [i64ok, true_and, and_true, Int.toNat_natCast] at *; omega)))))
            rw [getD_take hlt] at hc
            refine congrArg (fun b => LV.dat (.bool b)) (Eq.symm (selectOk_no (k := i) (by omega) ?_))
            rw [caseOk, dup_yes hlt hi (by assumption) hc]; simp
          · ((refine go_stop hn tb_ok rfl ?_ ⟨q + 1, ⟨?_, ?_⟩, ?_, ?_⟩; ((first | exact trivial | (simp only [i64ok, true_and, and_true, Int.toNat_natCast]; omega) | (simp only [i64ok, true_and, and_true, Int.toNat_natCast] at *; omega)))))
            · omega
            · rw [getD_take hlt] at hc
              exact hnx (fun hh => hc hh.2)
            · show i - (q + 1) < i - q; omega
            · ((refine le_of [] ?_ ?_ rfl; ((repeat' (first | exact trivial | refine And.intro rfl ?_))); ((repeat' (first | exact trivial | refine And.intro rfl ?_)))))
        · ((refine go_stop hn tb_ok rfl ?_ ⟨q + 1, ⟨?_, ?_⟩, ?_, ?_⟩; ((first | exact trivial | (simp only [i64ok, true_and, and_true, Int.toNat_natCast]; omega) | (simp only [i64ok, true_and, and_true, Int.toNat_natCast] at *; omega)))))
          · omega
          · exact hnx (by omega)
          · show i - (q + 1) < i - q; omega
          · ((refine le_of [] ?_ ?_ rfl; ((repeat' (first | exact trivial | refine And.intro rfl ?_))); ((repeat' (first | exact trivial | refine And.intro rfl ?_)))))
      · have hge : ¬ q < i := by have := len_take (cs := s.cases) hi; omega
        have hdn := dup_no (cs := s.cases) (i := i) (fun j hj => hq2 j (by omega))
        have hcl := hc
        clear hc
        ((refine go_stop hn tb_ok rfl ?_ ⟨i + 1, ⟨?_, ?_⟩, ?_, ?_⟩; ((first | exact trivial | (simp only [i64ok, true_and, and_true, Int.toNat_natCast]; omega) | (simp only [i64ok, true_and, and_true, Int.toNat_natCast] at *; omega)))))
        · omega
        · intro j hj
          by_cases e : j = i
          · subst e
            simp [caseOk, isReg, isChan, isIn, hdn, *, -List.getD_eq_getElem?_getD]
          · exact hq j (by omega)
        · show s.cases.length - (i + 1) < s.cases.length - i; omega
        · ((refine le_of [] ?_ ?_ rfl; ((repeat' (first | exact trivial | refine And.intro rfl ?_))); ((repeat' (first | exact trivial | refine And.intro rfl ?_))))))
  · (repeat' (first
  | (refine go_cond hn tb_ok rfl ?_ (fun hc => ?_) (fun hc => ?_); ((first | exact trivial | (simp only [i64ok, true_and, and_true, Int.toNat_natCast]; omega) | (simp only [i64ok, true_and, and_true, Int.toNat_natCast] at *; omega))); all_goals (try (((try simp only [decide_eq_true_eq, decide_eq_false_iff_not, Bool.not_eq_true', Bool.not_eq_false', Bool.not_eq_eq_eq_not, Bool.not_true, Bool.not_false, Int.not_lt, Int.not_le, Int.toNat_natCast, beq_iff_eq, beq_eq_false_iff_ne, ne_eq] at hc); (try (first | simp only [(fields_iff _).1, (fields_iff _).2.1, (fields_iff _).2.2, isReg_iff, isReg_iff', isVal_iff, isVal_iff', isIn_iff, isIn_iff', isChan_iff, isChan_iff'] at hc | skip)); try (exfalso; omega)))))
  | (refine go_ret hn tb_ok rfl ?_ ⟨_, rfl, ?_⟩; ((first | exact trivial | (simp only [i64ok, true_and, and_true, Int.toNat_natCast]; omega) | (simp only [i64ok, true_and, and_true, Int.toNat_natCast] at *; omega))))
  | ((refine go_con hn tb_ok rfl ?_ rfl [] ⟨_, ?_, rfl, ?_, ?_, ?_, ?_⟩; ((first | exact trivial | (simp only [i64ok, true_and, and_true, Int.toNat_natCast]; omega) | (simp only [i64ok, true_and, and_true, Int.toNat_natCast] at *; omega))); rotate_left; ((first | exact con_spec_l04Chan _ _ | exact con_spec_l03Reg _ | assumption)); (rfl); (first | exact .inl rfl | exact .inr (fun id hi => lk3_ok hi))))))
    all_goals (rw [selectOk_yes (fun j hj => hq j (by omega))]; simp [tupOf, isIn, *] <;> omega)
end Go.Proofs.YtjmefaihkblliaaGreat.Ab
/- SelectOk of the program, walked by the abstract machine. Conditions: none. -/
namespace Go.Proofs.YtjmefaihkblliaaGreat.Ab
set_option linter.unusedVariables false
set_option linter.unusedSimpArgs false
set_option maxRecDepth 100000
/-! ### is it among them -/
def idxOf (l : List Int) (v : Int) : Int := match l.findIdx? (fun x => decide (v = x)) with
  | some i => i
  | none => -1
theorem idx_yes {l : List Int} {v : Int} {i : Nat} (hi : i < l.length) (hq : ∀ j < i, ¬ v = l.getD j 0) (h : v = l.getD i 0) : idxOf l v = i := by
  have : l.findIdx? (fun x => decide (v = x)) = some i := by
    rw [List.findIdx?_eq_some_iff_getElem]
    refine ⟨hi, by rw [List.getD_eq_getElem?_getD, List.getElem?_eq_getElem hi] at h; simpa using h, fun j hj => ?_⟩
    have := hq j hj
    rw [List.getD_eq_getElem?_getD, List.getElem?_eq_getElem (by omega)] at this
    simpa using this
  rw [idxOf, this]
theorem idx_no {l : List Int} {v : Int} (hq : ∀ j < l.length, ¬ v = l.getD j 0) : idxOf l v = -1 := by
  have : l.findIdx? (fun x => decide (v = x)) = none := by
    rw [List.findIdx?_eq_none_iff]
    intro y hy
    obtain ⟨j, hj⟩ := List.mem_iff_getElem?.1 hy
    have := hq j (List.getElem?_eq_some_iff.1 hj).1
    rw [List.getD_eq_getElem?_getD, hj] at this
    simpa using this
  rw [idxOf, this]
theorem con_Index (l : List Int) (v : Int) : Con Tryz.prog 238 [.dat (ints l), .dat (.int .i64 v)] (.dat (.int .i64 (idxOf l v))) := by
  refine con_body (rs := [(.tmp 4, 3)]) tb_ok Tryz.func238 rfl rfl rfl (Nat.le_of_ble_eq_true rfl) fun ho x hn => ?_
  have hb : l.length ≤ (9223372036854775807 : Nat) := (Okc.len (ho (.dat (ints l)) (by simp)))
  ((refine go_loop hn tb_ok rfl ?_ (fun (wI : Nat) wT wM => ((8, .dat (.int .i64 wI)) :: wT, wM)) (fun wI => wI ≤ l.length ∧ (fun i => ∀ j < i, ¬ v = l.getD j 0) wI) (fun wI => l.length - wI) 0 ⟨Nat.zero_le _, ?_⟩ ?_ ?_; ((first | exact trivial | (simp only [i64ok, true_and, and_true, Int.toNat_natCast]; omega) | (simp only [i64ok, true_and, and_true, Int.toNat_natCast] at *; omega)))))
  · intro j hj; omega
  · ((refine le_of [] ?_ ?_ rfl; ((repeat' (first | exact trivial | refine And.intro rfl ?_))); ((repeat' (first | exact trivial | refine And.intro rfl ?_)))))
  rintro i ⟨hi, hq⟩
  ((refine go_cond hn tb_ok rfl ?_ (fun hc => ?_) (fun hc => ?_); ((first | exact trivial | (simp only [i64ok, true_and, and_true, Int.toNat_natCast]; omega) | (simp only [i64ok, true_and, and_true, Int.toNat_natCast] at *; omega))); all_goals (try (((try simp only [decide_eq_true_eq, decide_eq_false_iff_not, Bool.not_eq_true', Bool.not_eq_false', Bool.not_eq_eq_eq_not, Bool.not_true, Bool.not_false, Int.not_lt, Int.not_le, Int.toNat_natCast, beq_iff_eq, beq_eq_false_iff_ne, ne_eq] at hc); (try (first | simp only [(fields_iff _).1, (fields_iff _).2.1, (fields_iff _).2.2, isReg_iff, isReg_iff', isVal_iff, isVal_iff', isIn_iff, isIn_iff', isChan_iff, isChan_iff'] at hc | skip)); try (exfalso; omega))))))
  · ((refine go_cond hn tb_ok rfl ?_ (fun hc => ?_) (fun hc => ?_); ((first | exact trivial | (simp only [i64ok, true_and, and_true, Int.toNat_natCast]; omega) | (simp only [i64ok, true_and, and_true, Int.toNat_natCast] at *; omega))); all_goals (try (((try simp only [decide_eq_true_eq, decide_eq_false_iff_not, Bool.not_eq_true', Bool.not_eq_false', Bool.not_eq_eq_eq_not, Bool.not_true, Bool.not_false, Int.not_lt, Int.not_le, Int.toNat_natCast, beq_iff_eq, beq_eq_false_iff_ne, ne_eq] at hc); (try (first | simp only [(fields_iff _).1, (fields_iff _).2.1, (fields_iff _).2.2, isReg_iff, isReg_iff', isVal_iff, isVal_iff', isIn_iff, isIn_iff', isChan_iff, isChan_iff'] at hc | skip)); try (exfalso; omega))))))
    · ((refine go_ret hn tb_ok rfl ?_ ⟨_, rfl, ?_⟩; ((first | exact trivial | (simp only [i64ok, true_and, and_true, Int.toNat_natCast]; omega) | (simp only [i64ok, true_and, and_true, Int.toNat_natCast] at *; omega)))))
      rw [idx_yes (by omega) hq hc]; rfl
    · ((refine go_stop hn tb_ok rfl ?_ ⟨i + 1, ⟨?_, ?_⟩, ?_, ?_⟩; ((first | exact trivial | (simp only [i64ok, true_and, and_true, Int.toNat_natCast]; omega) | (simp only [i64ok, true_and, and_true, Int.toNat_natCast] at *; omega)))))
      · omega
      · intro j hj
        by_cases e : j = i
        · subst e; exact hc
        · exact hq j (by omega)
      · show l.length - (i + 1) < l.length - i; omega
      · ((refine le_of [] ?_ ?_ rfl; ((repeat' (first | exact trivial | refine And.intro rfl ?_))); ((repeat' (first | exact trivial | refine And.intro rfl ?_)))))
  · ((refine go_ret hn tb_ok rfl ?_ ⟨_, rfl, ?_⟩; ((first | exact trivial | (simp only [i64ok, true_and, and_true, Int.toNat_natCast]; omega) | (simp only [i64ok, true_and, and_true, Int.toNat_natCast] at *; omega)))))
    rw [idx_no (fun j hj => hq j (by omega))]; rfl
theorem idx_mem (l : List Int) (v : Int) : 0 ≤ idxOf l v ↔ v ∈ l := by
  unfold idxOf
  split
  · rename_i i h
    rw [List.findIdx?_eq_some_iff_getElem] at h
    obtain ⟨h1, h2, _⟩ := h
    have : v = l[i] := by simpa using h2
    exact ⟨fun _ => this ▸ List.getElem_mem h1, fun _ => by omega⟩
  · rename_i h
    rw [List.findIdx?_eq_none_iff] at h
    exact ⟨fun h => by omega, fun hv => by have := h v hv; simp at this⟩
theorem con_Contains (l : List Int) (v : Int) : Con Tryz.prog 198 [.dat (ints l), .dat (.int .i64 v)] (.dat (.bool (decide (v ∈ l)))) := by
  refine con_body (rs := [(.tmp 4, 4)]) tb_ok Tryz.func198 rfl rfl rfl (Nat.le_of_ble_eq_true rfl) fun ho x hn => ?_
  (repeat' (first
  | (refine go_cond hn tb_ok rfl ?_ (fun hc => ?_) (fun hc => ?_); ((first | exact trivial | (simp only [i64ok, true_and, and_true, Int.toNat_natCast]; omega) | (simp only [i64ok, true_and, and_true, Int.toNat_natCast] at *; omega))); all_goals (try (((try simp only [decide_eq_true_eq, decide_eq_false_iff_not, Bool.not_eq_true', Bool.not_eq_false', Bool.not_eq_eq_eq_not, Bool.not_true, Bool.not_false, Int.not_lt, Int.not_le, Int.toNat_natCast, beq_iff_eq, beq_eq_false_iff_ne, ne_eq] at hc); (try (first | simp only [(fields_iff _).1, (fields_iff _).2.1, (fields_iff _).2.2, isReg_iff, isReg_iff', isVal_iff, isVal_iff', isIn_iff, isIn_iff', isChan_iff, isChan_iff'] at hc | skip)); try (exfalso; omega)))))
  | (refine go_ret hn tb_ok rfl ?_ ⟨_, rfl, ?_⟩; ((first | exact trivial | (simp only [i64ok, true_and, and_true, Int.toNat_natCast]; omega) | (simp only [i64ok, true_and, and_true, Int.toNat_natCast] at *; omega))))
  | ((refine go_con hn tb_ok rfl ?_ rfl [] ⟨_, ?_, rfl, ?_, ?_, ?_, ?_⟩; ((first | exact trivial | (simp only [i64ok, true_and, and_true, Int.toNat_natCast]; omega) | (simp only [i64ok, true_and, and_true, Int.toNat_natCast] at *; omega))); rotate_left; ((first | exact con_Index _ _ | assumption)); (rfl); (first | exact .inl rfl | exact .inr (fun id hi => lk3_ok hi))))))
  show LV.dat (.bool (decide _)) = _
  rw [decide_eq_decide.2 (idx_mem l v)]
end Go.Proofs.YtjmefaihkblliaaGreat.Ab
/- SelectOk of the program, walked by the abstract machine. Conditions: none. -/
namespace Go.Proofs.YtjmefaihkblliaaGreat.Ab
set_option linter.unusedVariables false
set_option linter.unusedSimpArgs false
set_option maxRecDepth 100000
def metOf (l : List MCase) : List Int := (l.filter (fun y => !decide (y.chan = -1))).map (·.chan)
theorem met_len (l : List MCase) : (metOf l).length ≤ l.length := by rw [metOf, List.length_map]; exact List.length_filter_le _ _
theorem met_next {cs : List MCase} {i : Nat} (hi : i < cs.length) : metOf (cs.take (i + 1)) = metOf (cs.take i) ++ if (cs.getD i dCase).chan = -1 then [] else [(cs.getD i dCase).chan] := by
  rw [List.take_add_one, getD_of (d := dCase) hi]
  simp only [metOf, List.filter_append, List.map_append]
  congr 1
  by_cases h : (cs.getD i dCase).chan = -1 <;> simp [h, List.filter_cons, -List.getD_eq_getElem?_getD]
theorem met_dup {cs : List MCase} {i : Nat} (h : -1 ≤ (cs.getD i dCase).chan) : decide ((cs.getD i dCase).chan ∈ metOf (cs.take i)) = dupAt cs i := by
  rw [Bool.eq_iff_iff, decide_eq_true_eq, dupAt, List.any_eq_true, metOf]
  simp only [List.mem_map, List.mem_filter, decide_eq_true_eq, Bool.not_eq_true', decide_eq_false_iff_not]
  constructor
  · rintro ⟨y, ⟨h1, h2⟩, h3⟩
    exact ⟨y, h1, by omega, h3.symm⟩
  · rintro ⟨y, h1, h2, h3⟩
    exact ⟨y, ⟨h1, by omega⟩, h3.symm⟩
set_option maxHeartbeats 1000000 in
theorem con_impl_SelectOk (p : MProg) (n : Int) (s : MSelect) (hs : s.cases.length ≤ 1048576) : Con Tryz.prog 160 [.dagg (cProg p), .dat (.int .i64 n), .dagg (cSelect s)] (.dat (.bool (selectOk p n s))) := by
  refine con_body (rs := [(.tmp 6, 4)]) tb_ok Tryz.func160 rfl rfl rfl (Nat.le_of_ble_eq_true rfl) fun ho x hn => ?_
  ((refine go_lit hn tb_ok (0 : Int) iC ([] : List Int) rfl ?_ rfl rfl rfl rfl rfl rfl rfl rfl rfl ?_; ((first | exact trivial | (simp only [i64ok, true_and, and_true, Int.toNat_natCast]; omega) | (simp only [i64ok, true_and, and_true, Int.toNat_natCast] at *; omega)))))
  ((refine go_loop hn tb_ok rfl ?_ (fun (wI : Nat) wT wM => ((14, .dat (.int .i64 wI)) :: (7, .own 100) :: ([(10, .no)] ++ wT), (100, some ((fun i => .row 3 1 (0 : Int) iC (metOf (s.cases.take i))) wI)) :: ([(10, none)] ++ wM))) (fun wI => wI ≤ s.cases.length ∧ (fun i => ∀ j < i, caseOk p n s.cases j = true) wI) (fun wI => s.cases.length - wI) 0 ⟨Nat.zero_le _, ?_⟩ (le_of [(100, 10), (10, 999)] ?_ ?_ rfl) ?_; ((first | exact trivial | (simp only [i64ok, true_and, and_true, Int.toNat_natCast]; omega) | (simp only [i64ok, true_and, and_true, Int.toNat_natCast] at *; omega)))))
  · intro j hj; omega
  · (repeat' (first | exact trivial | refine And.intro rfl ?_))
  · (repeat' (first | exact trivial | refine And.intro rfl ?_))
  rintro i ⟨hi, hq⟩
  have hml : (metOf (s.cases.take i)).length ≤ s.cases.length := Nat.le_trans (met_len _) (by rw [List.length_take]; omega)
  ((refine go_cond hn tb_ok rfl ?_ (fun hc => ?_) (fun hc => ?_); ((first | exact trivial | (simp only [i64ok, true_and, and_true, Int.toNat_natCast]; omega) | (simp only [i64ok, true_and, and_true, Int.toNat_natCast] at *; omega))); all_goals (try (((try simp only [decide_eq_true_eq, decide_eq_false_iff_not, Bool.not_eq_true', Bool.not_eq_false', Bool.not_eq_eq_eq_not, Bool.not_true, Bool.not_false, Int.not_lt, Int.not_le, Int.toNat_natCast, beq_iff_eq, beq_eq_false_iff_ne, ne_eq] at hc); (try (first | simp only [(fields_iff _).1, (fields_iff _).2.1, (fields_iff _).2.2, isReg_iff, isReg_iff', isVal_iff, isVal_iff', isIn_iff, isIn_iff', isChan_iff, isChan_iff'] at hc | skip)); try (exfalso; omega))))))
  · have hlt : i < s.cases.length := by omega
    have hnx : caseOk p n s.cases i = true → ∀ j < i + 1, caseOk p n s.cases j = true := fun hh j hj => by
      by_cases e : j = i
      · subst e; exact hh
      · exact hq j (by omega)
    (repeat' (first
  | (refine go_cond hn tb_ok rfl ?_ (fun hc => ?_) (fun hc => ?_); ((first | exact trivial | (simp only [i64ok, true_and, and_true, Int.toNat_natCast]; omega) | (simp only [i64ok, true_and, and_true, Int.toNat_natCast] at *; omega))); all_goals (try (((try simp only [decide_eq_true_eq, decide_eq_false_iff_not, Bool.not_eq_true', Bool.not_eq_false', Bool.not_eq_eq_eq_not, Bool.not_true, Bool.not_false, Int.not_lt, Int.not_le, Int.toNat_natCast, beq_iff_eq, beq_eq_false_iff_ne, ne_eq] at hc); (try (first | simp only [(fields_iff _).1, (fields_iff _).2.1, (fields_iff _).2.2, isReg_iff, isReg_iff', isVal_iff, isVal_iff', isIn_iff, isIn_iff', isChan_iff, isChan_iff'] at hc | skip)); try (exfalso; omega)))))
  | (refine go_ret hn tb_ok rfl ?_ ⟨_, rfl, ?_⟩; ((first | exact trivial | (simp only [i64ok, true_and, and_true, Int.toNat_natCast]; omega) | (simp only [i64ok, true_and, and_true, Int.toNat_natCast] at *; omega))))
  | ((refine go_con hn tb_ok rfl ?_ rfl [] ⟨_, ?_, rfl, ?_, ?_, ?_, ?_⟩; ((first | exact trivial | (simp only [i64ok, true_and, and_true, Int.toNat_natCast]; omega) | (simp only [i64ok, true_and, and_true, Int.toNat_natCast] at *; omega))); rotate_left; ((first | exact con_Contains _ _ | exact con_impl_isChan _ _ | exact con_impl_isReg _ | exact con_impl_within _ _ _ | assumption)); (rfl); (first | exact .inl rfl | exact .inr (fun id hi => lk3_ok hi))))))
    all_goals (try (
      refine congrArg (fun b => LV.dat (.bool b)) (Eq.symm (selectOk_no (k := i) hlt ?_))
      first
        | (simp [caseOk, isReg, isChan, isIn, *, -List.getD_eq_getElem?_getD]; done)
        | (simp [caseOk, isReg, isChan, isIn, *, -List.getD_eq_getElem?_getD]; omega)
        | (rw [caseOk, ← met_dup (by omega), decide_eq_true hc]; simp)))
    all_goals (
      have hno : dupAt s.cases i = false := by rw [← met_dup (by omega)]; exact decide_eq_false (by assumption)
      have hcase : caseOk p n s.cases i = true := by simp [caseOk, isReg, isChan, isIn, *, -List.getD_eq_getElem?_getD] <;> omega)
    all_goals first
      | (((refine go_lit hn tb_ok (0 : Int) iC [(s.cases.getD i dCase).chan] rfl ?_ rfl rfl rfl rfl rfl rfl rfl rfl rfl ?_; ((first | exact trivial | (simp only [i64ok, true_and, and_true, Int.toNat_natCast]; omega) | (simp only [i64ok, true_and, and_true, Int.toNat_natCast] at *; omega)))))
         ((refine go_app hn tb_ok [(s.cases.getD i dCase).chan] rfl ?_ rfl rfl rfl rfl rfl rfl rfl rfl ?_ ?_; ((first | exact trivial | (simp only [i64ok, true_and, and_true, Int.toNat_natCast]; omega) | (simp only [i64ok, true_and, and_true, Int.toNat_natCast] at *; omega)))))
         · show (_ + 1) * 8 ≤ _; omega
         ((refine go_stop hn tb_ok rfl ?_ ⟨i + 1, ⟨?_, ?_⟩, ?_, ?_⟩; ((first | exact trivial | (simp only [i64ok, true_and, and_true, Int.toNat_natCast]; omega) | (simp only [i64ok, true_and, and_true, Int.toNat_natCast] at *; omega)))))
         · omega
         · exact hnx hcase
         · show s.cases.length - (i + 1) < s.cases.length - i; omega
         · ((refine le_of [(100, 64), (10, 999)] ?_ ?_ rfl; ((repeat' (first | exact trivial | refine And.intro rfl ?_))); ((repeat' (first | exact trivial | refine And.intro rfl ?_)))))
           refine And.intro (congrArg (fun q => some (Blk.row 3 1 (0 : Int) iC q)) ?_) ?_
           · rw [met_next hlt, if_neg hc]
           · (repeat' (first | exact trivial | refine And.intro rfl ?_)))
      | (((refine go_stop hn tb_ok rfl ?_ ⟨i + 1, ⟨?_, ?_⟩, ?_, ?_⟩; ((first | exact trivial | (simp only [i64ok, true_and, and_true, Int.toNat_natCast]; omega) | (simp only [i64ok, true_and, and_true, Int.toNat_natCast] at *; omega)))))
         · omega
         · exact hnx hcase
         · show s.cases.length - (i + 1) < s.cases.length - i; omega
         · ((refine le_of [(10, 999)] ?_ ?_ rfl; ((repeat' (first | exact trivial | refine And.intro rfl ?_))); ((repeat' (first | exact trivial | refine And.intro rfl ?_)))))
           refine And.intro (congrArg (fun q => some (Blk.row 3 1 (0 : Int) iC q)) ?_) ?_
           · rw [met_next hlt, if_pos hc, List.append_nil]
           · (repeat' (first | exact trivial | refine And.intro rfl ?_)))
  · (repeat' (first
  | (refine go_cond hn tb_ok rfl ?_ (fun hc => ?_) (fun hc => ?_); ((first | exact trivial | (simp only [i64ok, true_and, and_true, Int.toNat_natCast]; omega) | (simp only [i64ok, true_and, and_true, Int.toNat_natCast] at *; omega))); all_goals (try (((try simp only [decide_eq_true_eq, decide_eq_false_iff_not, Bool.not_eq_true', Bool.not_eq_false', Bool.not_eq_eq_eq_not, Bool.not_true, Bool.not_false, Int.not_lt, Int.not_le, Int.toNat_natCast, beq_iff_eq, beq_eq_false_iff_ne, ne_eq] at hc); (try (first | simp only [(fields_iff _).1, (fields_iff _).2.1, (fields_iff _).2.2, isReg_iff, isReg_iff', isVal_iff, isVal_iff', isIn_iff, isIn_iff', isChan_iff, isChan_iff'] at hc | skip)); try (exfalso; omega)))))
  | (refine go_ret hn tb_ok rfl ?_ ⟨_, rfl, ?_⟩; ((first | exact trivial | (simp only [i64ok, true_and, and_true, Int.toNat_natCast]; omega) | (simp only [i64ok, true_and, and_true, Int.toNat_natCast] at *; omega))))
  | ((refine go_con hn tb_ok rfl ?_ rfl [] ⟨_, ?_, rfl, ?_, ?_, ?_, ?_⟩; ((first | exact trivial | (simp only [i64ok, true_and, and_true, Int.toNat_natCast]; omega) | (simp only [i64ok, true_and, and_true, Int.toNat_natCast] at *; omega))); rotate_left; ((first | exact con_Contains _ _ | exact con_impl_isChan _ _ | exact con_impl_isReg _ | exact con_impl_within _ _ _ | assumption)); (rfl); (first | exact .inl rfl | exact .inr (fun id hi => lk3_ok hi))))))
    all_goals (rw [selectOk_yes (fun j hj => hq j (by omega))]; simp [tupOf, isIn, *])
end Go.Proofs.YtjmefaihkblliaaGreat.Ab
/- InstrOk of the reference, walked by the abstract machine. Conditions: none. -/
namespace Go.Proofs.YtjmefaihkblliaaGreat.Ab
set_option linter.unusedVariables false
set_option linter.unusedSimpArgs false
set_option maxRecDepth 100000
set_option maxHeartbeats 2000000 in
theorem con_spec_InstrOk (p : MProg) (n : Int) (i : MInstr) : Con Tryz.prog 224 [.dagg (cProg p), .dat (.int .i64 n), .dagg (cInstr i)] (.dat (.bool (instrOk p n i))) := by
  refine con_body (rs := [(.tmp 6, 4)]) tb_ok Tryz.func224 rfl rfl rfl (Nat.le_of_ble_eq_true rfl) fun ho x hn => ?_
  have hb := okProg (ho _ List.mem_cons_self)
  obtain ⟨hb1, hb2, hb3, _⟩ := hb
  rcases fields_ok i.op with ⟨hk, hop⟩ | ⟨hk, hop⟩ | ⟨hk, hop⟩ | ⟨hk, hop⟩ | ⟨hk, hop⟩ <;> (repeat' (first
  | (refine go_cond hn tb_ok rfl ?_ (fun hc => ?_) (fun hc => ?_); ((first | exact trivial | (simp only [i64ok, true_and, and_true, Int.toNat_natCast]; omega) | (simp only [i64ok, true_and, and_true, Int.toNat_natCast] at *; omega))); all_goals (try (((try simp only [decide_eq_true_eq, decide_eq_false_iff_not, Bool.not_eq_true', Bool.not_eq_false', Bool.not_eq_eq_eq_not, Bool.not_true, Bool.not_false, Int.not_lt, Int.not_le, Int.toNat_natCast, beq_iff_eq, beq_eq_false_iff_ne, ne_eq] at hc); (try (first | simp only [rest_iff, rest_iff', isReg_iff, isReg_iff', isVal_iff, isVal_iff', isIn_iff, isIn_iff', isChan_iff, isChan_iff'] at hc | simp only [(fields_iff _).1, (fields_iff _).2.1, (fields_iff _).2.2, isReg_iff, isReg_iff', isVal_iff, isVal_iff', isIn_iff, isIn_iff', isChan_iff, isChan_iff'] at hc | skip)); try (exfalso; omega)))))
  | (refine go_ret hn tb_ok rfl ?_ ⟨_, rfl, ?_⟩; ((first | exact trivial | (simp only [i64ok, true_and, and_true, Int.toNat_natCast]; omega) | (simp only [i64ok, true_and, and_true, Int.toNat_natCast] at *; omega))))
  | ((refine go_con hn tb_ok rfl ?_ rfl [] ⟨_, ?_, rfl, ?_, ?_, ?_, ?_⟩; ((first | exact trivial | (simp only [i64ok, true_and, and_true, Int.toNat_natCast]; omega) | (simp only [i64ok, true_and, and_true, Int.toNat_natCast] at *; omega))); rotate_left; ((first | exact con_spec_l04Rest _ _ | exact con_spec_l04Chan _ _ | exact con_spec_l04In _ _ _ | exact con_spec_Fields _ | exact con_spec_l03Reg _ | exact con_spec_l03Val _ | assumption)); (rfl); (first | exact .inl rfl | exact .inr (fun id hi => lk3_ok hi))))))
  all_goals (simp only [hk] at *)
  all_goals ((refine congrArg (fun b => LV.dat (.bool b)) ?_; rw [Bool.eq_iff_iff]; simp only [instrOk_iff, InstrP, decide_eq_true_eq, isReg_iff, isVal_iff, isIn_iff, isChan_iff, Bool.false_eq_true, true_iff, false_iff, Bool.and_eq_true, Bool.or_eq_true]; first | done | (simp [*]; done) | (simp [*]; omega)))
end Go.Proofs.YtjmefaihkblliaaGreat.Ab
/- The reference's ProgOk, walked by the abstract machine. Conditions: none. -/
namespace Go.Proofs.YtjmefaihkblliaaGreat.Ab
set_option linter.unusedVariables false
set_option linter.unusedSimpArgs false
set_option maxRecDepth 100000
theorem mix_ok : Tryz.prog.follows .mixedOrders = true := by kernel_rfl
theorem range_no {m : Nat} {f : Nat → Bool} {k : Nat} (hk : k < m) (h : f k = false) : (List.range m).all f = false := List.all_eq_false.2 ⟨k, List.mem_range.2 hk, by simp [h]⟩
theorem range_yes {m : Nat} {f : Nat → Bool} (h : ∀ k < m, f k = true) : (List.range m).all f = true := List.all_eq_true.2 (fun k hk => h k (List.mem_range.1 hk))
theorem upto {Q : Nat → Prop} {i : Nat} (h : ∀ j < i, Q j) (h1 : Q i) : ∀ j < i + 1, Q j := fun j hj => by
  by_cases e : j = i
  · subst e; exact h1
  · exact h j (by omega)
def stepOk (p : MProg) (n : Int) (i : MInstr) : Bool := instrOk p n i && (!decide (i.op = 11) || selectOk p n (p.sels.getD i.a.toNat dSelect))
def lastOk (c : List MInstr) : Bool := decide ((c.getD ((c.length : Int) - 1).toNat dInstr).op = 1 ∨ (c.getD ((c.length : Int) - 1).toNat dInstr).op = 6)
def procOk (p : MProg) (c : List MInstr) : Bool := decide (1 ≤ c.length ∧ c.length ≤ 40) && ((List.range c.length).all (fun k => stepOk p c.length (c.getD k dInstr)) && lastOk c)
theorem instr_sel {p : MProg} {n : Int} {i : MInstr} (h : instrOk p n i = true) (ho : i.op = 11) : 0 ≤ i.a ∧ i.a < p.sels.length := by
  rw [instrOk_iff, InstrP] at h
  omega
set_option maxHeartbeats 2000000 in
theorem con_spec_l04Proc (p : MProg) (c : List MInstr) : Con Tryz.prog 163 [.dagg (cProg p), .dat (rows_Instr c)] (.dat (.bool (procOk p c))) := by
  refine con_body (rs := [(.tmp 4, 4)]) tb_ok Tryz.func163 rfl rfl rfl (Nat.le_of_ble_eq_true rfl) fun ho x hn => ?_
  have hb : c.length ≤ (9223372036854775807 : Nat) := Okc.len (ho (.dat (rows_Instr c)) (by simp))
  (repeat' (first
  | (refine go_cond hn tb_ok rfl ?_ (fun hc => ?_) (fun hc => ?_); ((first | exact trivial | (simp only [i64ok, true_and, and_true, Int.toNat_natCast]; omega) | (simp only [i64ok, true_and, and_true, Int.toNat_natCast] at *; omega))); all_goals (try (((try simp only [decide_eq_true_eq, decide_eq_false_iff_not, Bool.not_eq_true', Bool.not_eq_false', Bool.not_eq_eq_eq_not, Bool.not_true, Bool.not_false, Int.not_lt, Int.not_le, Int.toNat_natCast, beq_iff_eq, beq_eq_false_iff_ne, ne_eq] at hc); (try (first | simp only [rest_iff, rest_iff', isReg_iff, isReg_iff', isVal_iff, isVal_iff', isIn_iff, isIn_iff', isChan_iff, isChan_iff'] at hc | simp only [(fields_iff _).1, (fields_iff _).2.1, (fields_iff _).2.2, isReg_iff, isReg_iff', isVal_iff, isVal_iff', isIn_iff, isIn_iff', isChan_iff, isChan_iff'] at hc | skip)); try (exfalso; omega)))))
  | (refine go_ret hn tb_ok rfl ?_ ⟨_, rfl, ?_⟩; ((first | exact trivial | (simp only [i64ok, true_and, and_true, Int.toNat_natCast]; omega) | (simp only [i64ok, true_and, and_true, Int.toNat_natCast] at *; omega))))
  | ((refine go_con hn tb_ok rfl ?_ rfl [] ⟨_, ?_, rfl, ?_, ?_, ?_, ?_⟩; ((first | exact trivial | (simp only [i64ok, true_and, and_true, Int.toNat_natCast]; omega) | (simp only [i64ok, true_and, and_true, Int.toNat_natCast] at *; omega))); rotate_left; ((first | exact con_spec_SelectOk _ _ _ | exact con_spec_InstrOk _ _ _ | assumption)); (rfl); (first | exact .inl rfl | exact .inr (fun id hi => lk3_ok hi))))))
  · refine congrArg (fun b => LV.dat (.bool b)) (Eq.symm ?_)
    rw [procOk, decide_eq_false (by omega)]; rfl
  · refine congrArg (fun b => LV.dat (.bool b)) (Eq.symm ?_)
    rw [procOk, decide_eq_false (by omega)]; rfl
  ((refine go_loop hn tb_ok rfl ?_ (fun (wI : Nat) wT wM => ((18, .dat (.int .i64 wI)) :: wT, wM)) (fun wI => wI ≤ c.length ∧ (fun i => ∀ j < i, stepOk p c.length (c.getD j dInstr) = true) wI) (fun wI => c.length - wI) 0 ⟨Nat.zero_le _, ?_⟩ ?_ ?_; ((first | exact trivial | (simp only [i64ok, true_and, and_true, Int.toNat_natCast]; omega) | (simp only [i64ok, true_and, and_true, Int.toNat_natCast] at *; omega)))))
  · intro j hj; omega
  · ((refine le_of [] ?_ ?_ rfl; ((repeat' (first | exact trivial | refine And.intro rfl ?_))); ((repeat' (first | exact trivial | refine And.intro rfl ?_)))))
  rintro i ⟨hi, hq⟩
  ((refine go_cond hn tb_ok rfl ?_ (fun hc => ?_) (fun hc => ?_); ((first | exact trivial | (simp only [i64ok, true_and, and_true, Int.toNat_natCast]; omega) | (simp only [i64ok, true_and, and_true, Int.toNat_natCast] at *; omega))); all_goals (try (((try simp only [decide_eq_true_eq, decide_eq_false_iff_not, Bool.not_eq_true', Bool.not_eq_false', Bool.not_eq_eq_eq_not, Bool.not_true, Bool.not_false, Int.not_lt, Int.not_le, Int.toNat_natCast, beq_iff_eq, beq_eq_false_iff_ne, ne_eq] at hc); (try (first | simp only [rest_iff, rest_iff', isReg_iff, isReg_iff', isVal_iff, isVal_iff', isIn_iff, isIn_iff', isChan_iff, isChan_iff'] at hc | simp only [(fields_iff _).1, (fields_iff _).2.1, (fields_iff _).2.2, isReg_iff, isReg_iff', isVal_iff, isVal_iff', isIn_iff, isIn_iff', isChan_iff, isChan_iff'] at hc | skip)); try (exfalso; omega))))))
  · have hlt : i < c.length := by omega
    ((refine go_con hn tb_ok rfl ?_ rfl [] ⟨_, ?_, rfl, ?_, ?_, ?_, ?_⟩; ((first | exact trivial | (simp only [i64ok, true_and, and_true, Int.toNat_natCast]; omega) | (simp only [i64ok, true_and, and_true, Int.toNat_natCast] at *; omega))); rotate_left; ((first | exact con_spec_SelectOk _ _ _ | exact con_spec_InstrOk _ _ _ | assumption)); (rfl); (first | exact .inl rfl | exact .inr (fun id hi => lk3_ok hi))))
    ((refine go_cond hn tb_ok rfl ?_ (fun hc => ?_) (fun hc => ?_); ((first | exact trivial | (simp only [i64ok, true_and, and_true, Int.toNat_natCast]; omega) | (simp only [i64ok, true_and, and_true, Int.toNat_natCast] at *; omega))); all_goals (try (((try simp only [decide_eq_true_eq, decide_eq_false_iff_not, Bool.not_eq_true', Bool.not_eq_false', Bool.not_eq_eq_eq_not, Bool.not_true, Bool.not_false, Int.not_lt, Int.not_le, Int.toNat_natCast, beq_iff_eq, beq_eq_false_iff_ne, ne_eq] at hc); (try (first | simp only [rest_iff, rest_iff', isReg_iff, isReg_iff', isVal_iff, isVal_iff', isIn_iff, isIn_iff', isChan_iff, isChan_iff'] at hc | simp only [(fields_iff _).1, (fields_iff _).2.1, (fields_iff _).2.2, isReg_iff, isReg_iff', isVal_iff, isVal_iff', isIn_iff, isIn_iff', isChan_iff, isChan_iff'] at hc | skip)); try (exfalso; omega))))))
    · ((refine go_ret hn tb_ok rfl ?_ ⟨_, rfl, ?_⟩; ((first | exact trivial | (simp only [i64ok, true_and, and_true, Int.toNat_natCast]; omega) | (simp only [i64ok, true_and, and_true, Int.toNat_natCast] at *; omega)))))
      refine congrArg (fun b => LV.dat (.bool b)) (Eq.symm ?_)
      rw [procOk, range_no hlt (by rw [stepOk, hc]; rfl)]; simp
    · have hin : instrOk p c.length (c.getD i dInstr) = true := hc
      by_cases hop : (c.getD i dInstr).op = 11
      · have hr := instr_sel hin hop
        ((refine go_draw hn tb_ok mix_ok [.b true, .r (.dat (.bool (selectOk p c.length (p.sels.getD (c.getD i dInstr).a.toNat dSelect))))] rfl ?_ rfl ?_ ?_ ?_ ?_; ((first | exact trivial | (simp only [i64ok, true_and, and_true, Int.toNat_natCast]; omega) | (simp only [i64ok, true_and, and_true, Int.toNat_natCast] at *; omega))); rotate_left; (kernel_rfl); (kernel_rfl); rotate_left))
        · (((try simp only [andO, true_and, and_true, Int.toNat_natCast, i64ok, decide_eq_true_eq, decide_eq_false_iff_not, Bool.not_eq_true', Bool.not_eq_false']); (repeat' (first | exact trivial | (first | exact con_spec_SelectOk _ _ _ | exact con_spec_InstrOk _ _ _ | assumption) | assumption | omega | exact does_litz _ _ hn tb_ok rfl rfl rfl rfl rfl rfl rfl rfl rfl rfl rfl | exact does_app _ hn tb_ok rfl ⟨rfl, _, _, _, rfl, rfl, rfl, rfl, rfl, rfl⟩ rfl rfl rfl rfl rfl rfl rfl (by simp only [List.length_cons, List.length_nil]; omega) | refine And.intro ?_ ?_))))
        · ((refine go_cond hn tb_ok rfl ?_ (fun hc => ?_) (fun hc => ?_); ((first | exact trivial | (simp only [i64ok, true_and, and_true, Int.toNat_natCast]; omega) | (simp only [i64ok, true_and, and_true, Int.toNat_natCast] at *; omega))); all_goals (try (((try simp only [decide_eq_true_eq, decide_eq_false_iff_not, Bool.not_eq_true', Bool.not_eq_false', Bool.not_eq_eq_eq_not, Bool.not_true, Bool.not_false, Int.not_lt, Int.not_le, Int.toNat_natCast, beq_iff_eq, beq_eq_false_iff_ne, ne_eq] at hc); (try (first | simp only [rest_iff, rest_iff', isReg_iff, isReg_iff', isVal_iff, isVal_iff', isIn_iff, isIn_iff', isChan_iff, isChan_iff'] at hc | simp only [(fields_iff _).1, (fields_iff _).2.1, (fields_iff _).2.2, isReg_iff, isReg_iff', isVal_iff, isVal_iff', isIn_iff, isIn_iff', isChan_iff, isChan_iff'] at hc | skip)); try (exfalso; omega))))))
          · ((refine go_ret hn tb_ok rfl ?_ ⟨_, rfl, ?_⟩; ((first | exact trivial | (simp only [i64ok, true_and, and_true, Int.toNat_natCast]; omega) | (simp only [i64ok, true_and, and_true, Int.toNat_natCast] at *; omega)))))
            refine congrArg (fun b => LV.dat (.bool b)) (Eq.symm ?_)
            rw [procOk, range_no hlt (by rw [stepOk, hin, hc, hop]; rfl)]; simp
          · ((refine go_stop hn tb_ok rfl ?_ ⟨i + 1, ⟨?_, ?_⟩, ?_, ?_⟩; ((first | exact trivial | (simp only [i64ok, true_and, and_true, Int.toNat_natCast]; omega) | (simp only [i64ok, true_and, and_true, Int.toNat_natCast] at *; omega)))))
            · omega
            · exact upto hq (by rw [stepOk, hin, hc]; simp)
            · show c.length - (i + 1) < c.length - i; omega
            · ((refine le_of [] ?_ ?_ rfl; ((repeat' (first | exact trivial | refine And.intro rfl ?_))); ((repeat' (first | exact trivial | refine And.intro rfl ?_)))))
      · ((refine go_draw hn tb_ok mix_ok [.b false] rfl ?_ rfl ?_ ?_ ?_ ?_; ((first | exact trivial | (simp only [i64ok, true_and, and_true, Int.toNat_natCast]; omega) | (simp only [i64ok, true_and, and_true, Int.toNat_natCast] at *; omega))); rotate_left; (kernel_rfl); (kernel_rfl); rotate_left))
        · (((try simp only [andO, true_and, and_true, Int.toNat_natCast, i64ok, decide_eq_true_eq, decide_eq_false_iff_not, Bool.not_eq_true', Bool.not_eq_false']); (repeat' (first | exact trivial | (first | exact con_spec_SelectOk _ _ _ | exact con_spec_InstrOk _ _ _ | assumption) | assumption | omega | exact does_litz _ _ hn tb_ok rfl rfl rfl rfl rfl rfl rfl rfl rfl rfl rfl | exact does_app _ hn tb_ok rfl ⟨rfl, _, _, _, rfl, rfl, rfl, rfl, rfl, rfl⟩ rfl rfl rfl rfl rfl rfl rfl (by simp only [List.length_cons, List.length_nil]; omega) | refine And.intro ?_ ?_))))
        · (repeat' (first
  | (refine go_cond hn tb_ok rfl ?_ (fun hc => ?_) (fun hc => ?_); ((first | exact trivial | (simp only [i64ok, true_and, and_true, Int.toNat_natCast]; omega) | (simp only [i64ok, true_and, and_true, Int.toNat_natCast] at *; omega))); all_goals (try (((try simp only [decide_eq_true_eq, decide_eq_false_iff_not, Bool.not_eq_true', Bool.not_eq_false', Bool.not_eq_eq_eq_not, Bool.not_true, Bool.not_false, Int.not_lt, Int.not_le, Int.toNat_natCast, beq_iff_eq, beq_eq_false_iff_ne, ne_eq] at hc); (try (first | simp only [rest_iff, rest_iff', isReg_iff, isReg_iff', isVal_iff, isVal_iff', isIn_iff, isIn_iff', isChan_iff, isChan_iff'] at hc | simp only [(fields_iff _).1, (fields_iff _).2.1, (fields_iff _).2.2, isReg_iff, isReg_iff', isVal_iff, isVal_iff', isIn_iff, isIn_iff', isChan_iff, isChan_iff'] at hc | skip)); try (exfalso; omega)))))
  | (refine go_ret hn tb_ok rfl ?_ ⟨_, rfl, ?_⟩; ((first | exact trivial | (simp only [i64ok, true_and, and_true, Int.toNat_natCast]; omega) | (simp only [i64ok, true_and, and_true, Int.toNat_natCast] at *; omega))))
  | ((refine go_con hn tb_ok rfl ?_ rfl [] ⟨_, ?_, rfl, ?_, ?_, ?_, ?_⟩; ((first | exact trivial | (simp only [i64ok, true_and, and_true, Int.toNat_natCast]; omega) | (simp only [i64ok, true_and, and_true, Int.toNat_natCast] at *; omega))); rotate_left; ((first | exact con_spec_SelectOk _ _ _ | exact con_spec_InstrOk _ _ _ | assumption)); (rfl); (first | exact .inl rfl | exact .inr (fun id hi => lk3_ok hi))))))
          ((refine go_stop hn tb_ok rfl ?_ ⟨i + 1, ⟨?_, ?_⟩, ?_, ?_⟩; ((first | exact trivial | (simp only [i64ok, true_and, and_true, Int.toNat_natCast]; omega) | (simp only [i64ok, true_and, and_true, Int.toNat_natCast] at *; omega)))))
          · omega
          · exact upto hq (by rw [stepOk, hin, decide_eq_false hop]; simp)
          · show c.length - (i + 1) < c.length - i; omega
          · ((refine le_of [] ?_ ?_ rfl; ((repeat' (first | exact trivial | refine And.intro rfl ?_))); ((repeat' (first | exact trivial | refine And.intro rfl ?_)))))
  · have hall := range_yes (m := c.length) (f := fun k => stepOk p c.length (c.getD k dInstr)) (fun j hj => hq j (by omega))
    (repeat' (first
  | (refine go_cond hn tb_ok rfl ?_ (fun hc => ?_) (fun hc => ?_); ((first | exact trivial | (simp only [i64ok, true_and, and_true, Int.toNat_natCast]; omega) | (simp only [i64ok, true_and, and_true, Int.toNat_natCast] at *; omega))); all_goals (try (((try simp only [decide_eq_true_eq, decide_eq_false_iff_not, Bool.not_eq_true', Bool.not_eq_false', Bool.not_eq_eq_eq_not, Bool.not_true, Bool.not_false, Int.not_lt, Int.not_le, Int.toNat_natCast, beq_iff_eq, beq_eq_false_iff_ne, ne_eq] at hc); (try (first | simp only [rest_iff, rest_iff', isReg_iff, isReg_iff', isVal_iff, isVal_iff', isIn_iff, isIn_iff', isChan_iff, isChan_iff'] at hc | simp only [(fields_iff _).1, (fields_iff _).2.1, (fields_iff _).2.2, isReg_iff, isReg_iff', isVal_iff, isVal_iff', isIn_iff, isIn_iff', isChan_iff, isChan_iff'] at hc | skip)); try (exfalso; omega)))))
  | (refine go_ret hn tb_ok rfl ?_ ⟨_, rfl, ?_⟩; ((first | exact trivial | (simp only [i64ok, true_and, and_true, Int.toNat_natCast]; omega) | (simp only [i64ok, true_and, and_true, Int.toNat_natCast] at *; omega))))
  | ((refine go_con hn tb_ok rfl ?_ rfl [] ⟨_, ?_, rfl, ?_, ?_, ?_, ?_⟩; ((first | exact trivial | (simp only [i64ok, true_and, and_true, Int.toNat_natCast]; omega) | (simp only [i64ok, true_and, and_true, Int.toNat_natCast] at *; omega))); rotate_left; ((first | exact con_spec_SelectOk _ _ _ | exact con_spec_InstrOk _ _ _ | assumption)); (rfl); (first | exact .inl rfl | exact .inr (fun id hi => lk3_ok hi))))))
    all_goals (refine congrArg (fun b => LV.dat (.bool b)) (Eq.symm ?_); rw [procOk, hall, decide_eq_true (by omega), Bool.true_and, Bool.true_and, lastOk])
    · exact decide_eq_true (.inl hc)
    · exact decide_eq_decide.2 (by omega)
end Go.Proofs.YtjmefaihkblliaaGreat.Ab
/- The reference's ProgOk, walked by the abstract machine. Conditions: none. -/
namespace Go.Proofs.YtjmefaihkblliaaGreat.Ab
set_option linter.unusedVariables false
set_option linter.unusedSimpArgs false
set_option maxRecDepth 100000
def progHead (p : MProg) : Bool := decide (p.caps.length ≤ 6 ∧ 0 ≤ p.mus ∧ p.mus ≤ 4 ∧ p.sels.length ≤ 6 ∧ 1 ≤ p.procs.length ∧ p.procs.length ≤ 6)
def capOk (c : Int) : Bool := decide (0 ≤ c ∧ c ≤ 4)
def selOk (p : MProg) (s : MSelect) : Bool := decide (s.cases.length ≤ 4) && (!decide (s.cases.length = 0 ∧ s.els = -1) && selectOk p 40 s)
def progOk (p : MProg) : Bool := progHead p && ((List.range p.caps.length).all (fun k => capOk (p.caps.getD k 0)) && ((List.range p.sels.length).all (fun k => selOk p (p.sels.getD k dSelect)) && (List.range p.procs.length).all (fun k => procOk p (p.procs.getD k dProc).code)))
theorem sel_els {p : MProg} {n : Int} {s : MSelect} (h : s.els < -1) : selectOk p n s = false := by
  rw [selectOk, isIn, decide_eq_false (by omega), Bool.and_false]
set_option maxHeartbeats 2000000 in
theorem con_spec_ProgOk (p : MProg) : Con Tryz.prog 94 [.dagg (cProg p)] (.dat (.bool (progOk p))) := by
  refine con_body (rs := [(.tmp 2, 4)]) tb_ok Tryz.func94 rfl rfl rfl (Nat.le_of_ble_eq_true rfl) fun ho x hn => ?_
  obtain ⟨hb1, hb2, hb3, hb4, hb5⟩ := okProg (ho _ List.mem_cons_self)
  (repeat' (first
  | (refine go_cond hn tb_ok rfl ?_ (fun hc => ?_) (fun hc => ?_); ((first | exact trivial | (simp only [i64ok, true_and, and_true, Int.toNat_natCast]; omega) | (simp only [i64ok, true_and, and_true, Int.toNat_natCast] at *; omega))); all_goals (try (((try simp only [decide_eq_true_eq, decide_eq_false_iff_not, Bool.not_eq_true', Bool.not_eq_false', Bool.not_eq_eq_eq_not, Bool.not_true, Bool.not_false, Int.not_lt, Int.not_le, Int.toNat_natCast, beq_iff_eq, beq_eq_false_iff_ne, ne_eq] at hc); (try (first | simp only [rest_iff, rest_iff', isReg_iff, isReg_iff', isVal_iff, isVal_iff', isIn_iff, isIn_iff', isChan_iff, isChan_iff'] at hc | simp only [(fields_iff _).1, (fields_iff _).2.1, (fields_iff _).2.2, isReg_iff, isReg_iff', isVal_iff, isVal_iff', isIn_iff, isIn_iff', isChan_iff, isChan_iff'] at hc | skip)); try (exfalso; omega)))))
  | (refine go_ret hn tb_ok rfl ?_ ⟨_, rfl, ?_⟩; ((first | exact trivial | (simp only [i64ok, true_and, and_true, Int.toNat_natCast]; omega) | (simp only [i64ok, true_and, and_true, Int.toNat_natCast] at *; omega))))
  | ((refine go_con hn tb_ok rfl ?_ rfl [] ⟨_, ?_, rfl, ?_, ?_, ?_, ?_⟩; ((first | exact trivial | (simp only [i64ok, true_and, and_true, Int.toNat_natCast]; omega) | (simp only [i64ok, true_and, and_true, Int.toNat_natCast] at *; omega))); rotate_left; ((first | exact con_spec_l04Proc _ _ | exact con_spec_SelectOk _ _ _ | assumption)); (rfl); (first | exact .inl rfl | exact .inr (fun id hi => lk3_ok hi))))))
  all_goals (try (
    refine congrArg (fun b => LV.dat (.bool b)) (Eq.symm ?_)
    rw [progOk, progHead, decide_eq_false (by omega), Bool.false_and]))
  have hhd : progHead p = true := by rw [progHead]; exact decide_eq_true (by omega)
  ((refine go_loop hn tb_ok rfl ?_ (fun (wI : Nat) wT wM => ((44, .dat (.int .i64 wI)) :: wT, wM)) (fun wI => wI ≤ p.caps.length ∧ (fun i => ∀ j < i, capOk (p.caps.getD j 0) = true) wI) (fun wI => p.caps.length - wI) 0 ⟨Nat.zero_le _, ?_⟩ ?_ ?_; ((first | exact trivial | (simp only [i64ok, true_and, and_true, Int.toNat_natCast]; omega) | (simp only [i64ok, true_and, and_true, Int.toNat_natCast] at *; omega)))))
  · intro j hj; omega
  · ((refine le_of [] ?_ ?_ rfl; ((repeat' (first | exact trivial | refine And.intro rfl ?_))); ((repeat' (first | exact trivial | refine And.intro rfl ?_)))))
  rintro i ⟨hi, hq⟩
  ((refine go_cond hn tb_ok rfl ?_ (fun hc => ?_) (fun hc => ?_); ((first | exact trivial | (simp only [i64ok, true_and, and_true, Int.toNat_natCast]; omega) | (simp only [i64ok, true_and, and_true, Int.toNat_natCast] at *; omega))); all_goals (try (((try simp only [decide_eq_true_eq, decide_eq_false_iff_not, Bool.not_eq_true', Bool.not_eq_false', Bool.not_eq_eq_eq_not, Bool.not_true, Bool.not_false, Int.not_lt, Int.not_le, Int.toNat_natCast, beq_iff_eq, beq_eq_false_iff_ne, ne_eq] at hc); (try (first | simp only [rest_iff, rest_iff', isReg_iff, isReg_iff', isVal_iff, isVal_iff', isIn_iff, isIn_iff', isChan_iff, isChan_iff'] at hc | simp only [(fields_iff _).1, (fields_iff _).2.1, (fields_iff _).2.2, isReg_iff, isReg_iff', isVal_iff, isVal_iff', isIn_iff, isIn_iff', isChan_iff, isChan_iff'] at hc | skip)); try (exfalso; omega))))))
  · have hlt : i < p.caps.length := by omega
    (repeat' (first
  | (refine go_cond hn tb_ok rfl ?_ (fun hc => ?_) (fun hc => ?_); ((first | exact trivial | (simp only [i64ok, true_and, and_true, Int.toNat_natCast]; omega) | (simp only [i64ok, true_and, and_true, Int.toNat_natCast] at *; omega))); all_goals (try (((try simp only [decide_eq_true_eq, decide_eq_false_iff_not, Bool.not_eq_true', Bool.not_eq_false', Bool.not_eq_eq_eq_not, Bool.not_true, Bool.not_false, Int.not_lt, Int.not_le, Int.toNat_natCast, beq_iff_eq, beq_eq_false_iff_ne, ne_eq] at hc); (try (first | simp only [rest_iff, rest_iff', isReg_iff, isReg_iff', isVal_iff, isVal_iff', isIn_iff, isIn_iff', isChan_iff, isChan_iff'] at hc | simp only [(fields_iff _).1, (fields_iff _).2.1, (fields_iff _).2.2, isReg_iff, isReg_iff', isVal_iff, isVal_iff', isIn_iff, isIn_iff', isChan_iff, isChan_iff'] at hc | skip)); try (exfalso; omega)))))
  | (refine go_ret hn tb_ok rfl ?_ ⟨_, rfl, ?_⟩; ((first | exact trivial | (simp only [i64ok, true_and, and_true, Int.toNat_natCast]; omega) | (simp only [i64ok, true_and, and_true, Int.toNat_natCast] at *; omega))))
  | ((refine go_con hn tb_ok rfl ?_ rfl [] ⟨_, ?_, rfl, ?_, ?_, ?_, ?_⟩; ((first | exact trivial | (simp only [i64ok, true_and, and_true, Int.toNat_natCast]; omega) | (simp only [i64ok, true_and, and_true, Int.toNat_natCast] at *; omega))); rotate_left; ((first | exact con_spec_l04Proc _ _ | exact con_spec_SelectOk _ _ _ | assumption)); (rfl); (first | exact .inl rfl | exact .inr (fun id hi => lk3_ok hi))))))
    all_goals (try (
      refine congrArg (fun b => LV.dat (.bool b)) (Eq.symm ?_)
      rw [progOk, range_no hlt (by rw [capOk]; exact decide_eq_false (by omega))]; simp; done))
    ((refine go_stop hn tb_ok rfl ?_ ⟨i + 1, ⟨?_, ?_⟩, ?_, ?_⟩; ((first | exact trivial | (simp only [i64ok, true_and, and_true, Int.toNat_natCast]; omega) | (simp only [i64ok, true_and, and_true, Int.toNat_natCast] at *; omega)))))
    · omega
    · exact upto hq (by rw [capOk]; exact decide_eq_true (by omega))
    · show p.caps.length - (i + 1) < p.caps.length - i; omega
    · ((refine le_of [] ?_ ?_ rfl; ((repeat' (first | exact trivial | refine And.intro rfl ?_))); ((repeat' (first | exact trivial | refine And.intro rfl ?_)))))
  have hcaps := range_yes (m := p.caps.length) (f := fun k => capOk (p.caps.getD k 0)) (fun j hj => hq j (by omega))
  clear hc hq hi
  ((refine go_loop hn tb_ok rfl ?_ (fun (wI : Nat) wT wM => ((58, .dat (.int .i64 wI)) :: wT, wM)) (fun wI => wI ≤ p.sels.length ∧ (fun i => ∀ j < i, selOk p (p.sels.getD j dSelect) = true) wI) (fun wI => p.sels.length - wI) 0 ⟨Nat.zero_le _, ?_⟩ ?_ ?_; ((first | exact trivial | (simp only [i64ok, true_and, and_true, Int.toNat_natCast]; omega) | (simp only [i64ok, true_and, and_true, Int.toNat_natCast] at *; omega)))))
  · intro j hj; omega
  · ((refine le_of [] ?_ ?_ rfl; ((repeat' (first | exact trivial | refine And.intro rfl ?_))); ((repeat' (first | exact trivial | refine And.intro rfl ?_)))))
  rintro i ⟨hi, hq⟩
  ((refine go_cond hn tb_ok rfl ?_ (fun hc => ?_) (fun hc => ?_); ((first | exact trivial | (simp only [i64ok, true_and, and_true, Int.toNat_natCast]; omega) | (simp only [i64ok, true_and, and_true, Int.toNat_natCast] at *; omega))); all_goals (try (((try simp only [decide_eq_true_eq, decide_eq_false_iff_not, Bool.not_eq_true', Bool.not_eq_false', Bool.not_eq_eq_eq_not, Bool.not_true, Bool.not_false, Int.not_lt, Int.not_le, Int.toNat_natCast, beq_iff_eq, beq_eq_false_iff_ne, ne_eq] at hc); (try (first | simp only [rest_iff, rest_iff', isReg_iff, isReg_iff', isVal_iff, isVal_iff', isIn_iff, isIn_iff', isChan_iff, isChan_iff'] at hc | simp only [(fields_iff _).1, (fields_iff _).2.1, (fields_iff _).2.2, isReg_iff, isReg_iff', isVal_iff, isVal_iff', isIn_iff, isIn_iff', isChan_iff, isChan_iff'] at hc | skip)); try (exfalso; omega))))))
  · have hlt : i < p.sels.length := by omega
    (repeat' (first
  | (refine go_cond hn tb_ok rfl ?_ (fun hc => ?_) (fun hc => ?_); ((first | exact trivial | (simp only [i64ok, true_and, and_true, Int.toNat_natCast]; omega) | (simp only [i64ok, true_and, and_true, Int.toNat_natCast] at *; omega))); all_goals (try (((try simp only [decide_eq_true_eq, decide_eq_false_iff_not, Bool.not_eq_true', Bool.not_eq_false', Bool.not_eq_eq_eq_not, Bool.not_true, Bool.not_false, Int.not_lt, Int.not_le, Int.toNat_natCast, beq_iff_eq, beq_eq_false_iff_ne, ne_eq] at hc); (try (first | simp only [rest_iff, rest_iff', isReg_iff, isReg_iff', isVal_iff, isVal_iff', isIn_iff, isIn_iff', isChan_iff, isChan_iff'] at hc | simp only [(fields_iff _).1, (fields_iff _).2.1, (fields_iff _).2.2, isReg_iff, isReg_iff', isVal_iff, isVal_iff', isIn_iff, isIn_iff', isChan_iff, isChan_iff'] at hc | skip)); try (exfalso; omega)))))
  | (refine go_ret hn tb_ok rfl ?_ ⟨_, rfl, ?_⟩; ((first | exact trivial | (simp only [i64ok, true_and, and_true, Int.toNat_natCast]; omega) | (simp only [i64ok, true_and, and_true, Int.toNat_natCast] at *; omega))))
  | ((refine go_con hn tb_ok rfl ?_ rfl [] ⟨_, ?_, rfl, ?_, ?_, ?_, ?_⟩; ((first | exact trivial | (simp only [i64ok, true_and, and_true, Int.toNat_natCast]; omega) | (simp only [i64ok, true_and, and_true, Int.toNat_natCast] at *; omega))); rotate_left; ((first | exact con_spec_l04Proc _ _ | exact con_spec_SelectOk _ _ _ | assumption)); (rfl); (first | exact .inl rfl | exact .inr (fun id hi => lk3_ok hi))))))
    all_goals (try (
      refine congrArg (fun b => LV.dat (.bool b)) (Eq.symm ?_)
      rw [progOk, range_no hlt (by
        rw [selOk]
        first
          | (rw [decide_eq_false (by omega)]; rfl)
          | (rw [hc]; simp; done)
          | (by_cases he : (p.sels.getD i dSelect).els = -1
             · rw [decide_eq_true (p := _ ∧ _) (by omega)]; simp
             · rw [sel_els (by omega)]; simp))]; simp; done))
    all_goals (
      ((refine go_stop hn tb_ok rfl ?_ ⟨i + 1, ⟨?_, ?_⟩, ?_, ?_⟩; ((first | exact trivial | (simp only [i64ok, true_and, and_true, Int.toNat_natCast]; omega) | (simp only [i64ok, true_and, and_true, Int.toNat_natCast] at *; omega)))))
      · omega
      · refine upto hq ?_
        rw [selOk, hc, decide_eq_true (by omega), decide_eq_false (by omega)]; rfl
      · show p.sels.length - (i + 1) < p.sels.length - i; omega
      · ((refine le_of [] ?_ ?_ rfl; ((repeat' (first | exact trivial | refine And.intro rfl ?_))); ((repeat' (first | exact trivial | refine And.intro rfl ?_))))))
  have hsels := range_yes (m := p.sels.length) (f := fun k => selOk p (p.sels.getD k dSelect)) (fun j hj => hq j (by omega))
  clear hc hq hi
  ((refine go_loop hn tb_ok rfl ?_ (fun (wI : Nat) wT wM => ((87, .dat (.int .i64 wI)) :: wT, wM)) (fun wI => wI ≤ p.procs.length ∧ (fun i => ∀ j < i, procOk p (p.procs.getD j dProc).code = true) wI) (fun wI => p.procs.length - wI) 0 ⟨Nat.zero_le _, ?_⟩ ?_ ?_; ((first | exact trivial | (simp only [i64ok, true_and, and_true, Int.toNat_natCast]; omega) | (simp only [i64ok, true_and, and_true, Int.toNat_natCast] at *; omega)))))
  · intro j hj; omega
  · ((refine le_of [] ?_ ?_ rfl; ((repeat' (first | exact trivial | refine And.intro rfl ?_))); ((repeat' (first | exact trivial | refine And.intro rfl ?_)))))
  rintro i ⟨hi, hq⟩
  ((refine go_cond hn tb_ok rfl ?_ (fun hc => ?_) (fun hc => ?_); ((first | exact trivial | (simp only [i64ok, true_and, and_true, Int.toNat_natCast]; omega) | (simp only [i64ok, true_and, and_true, Int.toNat_natCast] at *; omega))); all_goals (try (((try simp only [decide_eq_true_eq, decide_eq_false_iff_not, Bool.not_eq_true', Bool.not_eq_false', Bool.not_eq_eq_eq_not, Bool.not_true, Bool.not_false, Int.not_lt, Int.not_le, Int.toNat_natCast, beq_iff_eq, beq_eq_false_iff_ne, ne_eq] at hc); (try (first | simp only [rest_iff, rest_iff', isReg_iff, isReg_iff', isVal_iff, isVal_iff', isIn_iff, isIn_iff', isChan_iff, isChan_iff'] at hc | simp only [(fields_iff _).1, (fields_iff _).2.1, (fields_iff _).2.2, isReg_iff, isReg_iff', isVal_iff, isVal_iff', isIn_iff, isIn_iff', isChan_iff, isChan_iff'] at hc | skip)); try (exfalso; omega))))))
  · have hlt : i < p.procs.length := by omega
    (repeat' (first
  | (refine go_cond hn tb_ok rfl ?_ (fun hc => ?_) (fun hc => ?_); ((first | exact trivial | (simp only [i64ok, true_and, and_true, Int.toNat_natCast]; omega) | (simp only [i64ok, true_and, and_true, Int.toNat_natCast] at *; omega))); all_goals (try (((try simp only [decide_eq_true_eq, decide_eq_false_iff_not, Bool.not_eq_true', Bool.not_eq_false', Bool.not_eq_eq_eq_not, Bool.not_true, Bool.not_false, Int.not_lt, Int.not_le, Int.toNat_natCast, beq_iff_eq, beq_eq_false_iff_ne, ne_eq] at hc); (try (first | simp only [rest_iff, rest_iff', isReg_iff, isReg_iff', isVal_iff, isVal_iff', isIn_iff, isIn_iff', isChan_iff, isChan_iff'] at hc | simp only [(fields_iff _).1, (fields_iff _).2.1, (fields_iff _).2.2, isReg_iff, isReg_iff', isVal_iff, isVal_iff', isIn_iff, isIn_iff', isChan_iff, isChan_iff'] at hc | skip)); try (exfalso; omega)))))
  | (refine go_ret hn tb_ok rfl ?_ ⟨_, rfl, ?_⟩; ((first | exact trivial | (simp only [i64ok, true_and, and_true, Int.toNat_natCast]; omega) | (simp only [i64ok, true_and, and_true, Int.toNat_natCast] at *; omega))))
  | ((refine go_con hn tb_ok rfl ?_ rfl [] ⟨_, ?_, rfl, ?_, ?_, ?_, ?_⟩; ((first | exact trivial | (simp only [i64ok, true_and, and_true, Int.toNat_natCast]; omega) | (simp only [i64ok, true_and, and_true, Int.toNat_natCast] at *; omega))); rotate_left; ((first | exact con_spec_l04Proc _ _ | exact con_spec_SelectOk _ _ _ | assumption)); (rfl); (first | exact .inl rfl | exact .inr (fun id hi => lk3_ok hi))))))
    · refine congrArg (fun b => LV.dat (.bool b)) (Eq.symm ?_)
      rw [progOk, range_no (m := p.procs.length) hlt (by exact hc)]; simp
    ((refine go_stop hn tb_ok rfl ?_ ⟨i + 1, ⟨?_, ?_⟩, ?_, ?_⟩; ((first | exact trivial | (simp only [i64ok, true_and, and_true, Int.toNat_natCast]; omega) | (simp only [i64ok, true_and, and_true, Int.toNat_natCast] at *; omega)))))
    · omega
    · exact upto hq hc
    · show p.procs.length - (i + 1) < p.procs.length - i; omega
    · ((refine le_of [] ?_ ?_ rfl; ((repeat' (first | exact trivial | refine And.intro rfl ?_))); ((repeat' (first | exact trivial | refine And.intro rfl ?_)))))
  have hprocs := range_yes (m := p.procs.length) (f := fun k => procOk p (p.procs.getD k dProc).code) (fun j hj => hq j (by omega))
  ((refine go_ret hn tb_ok rfl ?_ ⟨_, rfl, ?_⟩; ((first | exact trivial | (simp only [i64ok, true_and, and_true, Int.toNat_natCast]; omega) | (simp only [i64ok, true_and, and_true, Int.toNat_natCast] at *; omega)))))
  rw [progOk, hhd, hcaps, hsels, hprocs]; rfl
end Go.Proofs.YtjmefaihkblliaaGreat.Ab
/- The program's ProgOk, walked by the abstract machine. Conditions: none. -/
namespace Go.Proofs.YtjmefaihkblliaaGreat.Ab
set_option linter.unusedVariables false
set_option linter.unusedSimpArgs false
set_option maxRecDepth 100000
set_option maxHeartbeats 2000000 in
theorem con_impl_ProgOk (p : MProg) : Con Tryz.prog 90 [.dagg (cProg p)] (.dat (.bool (progOk p))) := by
  refine con_body (rs := [(.tmp 2, 4)]) tb_ok Tryz.func90 rfl rfl rfl (Nat.le_of_ble_eq_true rfl) fun ho x hn => ?_
  obtain ⟨hb1, hb2, hb3, hb4, hb5⟩ := okProg (ho _ List.mem_cons_self)
  (repeat' (first
  | (refine go_cond hn tb_ok rfl ?_ (fun hc => ?_) (fun hc => ?_); ((first | exact trivial | (simp only [i64ok, true_and, and_true, Int.toNat_natCast]; omega) | (simp only [i64ok, true_and, and_true, Int.toNat_natCast] at *; omega))); all_goals (try (((try simp only [decide_eq_true_eq, decide_eq_false_iff_not, Bool.not_eq_true', Bool.not_eq_false', Bool.not_eq_eq_eq_not, Bool.not_true, Bool.not_false, Int.not_lt, Int.not_le, Int.toNat_natCast, beq_iff_eq, beq_eq_false_iff_ne, ne_eq] at hc); (try (first | simp only [rest_iff, rest_iff', isReg_iff, isReg_iff', isVal_iff, isVal_iff', isIn_iff, isIn_iff', isChan_iff, isChan_iff'] at hc | simp only [(fields_iff _).1, (fields_iff _).2.1, (fields_iff _).2.2, isReg_iff, isReg_iff', isVal_iff, isVal_iff', isIn_iff, isIn_iff', isChan_iff, isChan_iff'] at hc | skip)); try (exfalso; omega)))))
  | (refine go_ret hn tb_ok rfl ?_ ⟨_, rfl, ?_⟩; ((first | exact trivial | (simp only [i64ok, true_and, and_true, Int.toNat_natCast]; omega) | (simp only [i64ok, true_and, and_true, Int.toNat_natCast] at *; omega))))
  | ((refine go_con hn tb_ok rfl ?_ rfl [] ⟨_, ?_, rfl, ?_, ?_, ?_, ?_⟩; ((first | exact trivial | (simp only [i64ok, true_and, and_true, Int.toNat_natCast]; omega) | (simp only [i64ok, true_and, and_true, Int.toNat_natCast] at *; omega))); rotate_left; ((first | (refine con_impl_SelectOk _ _ _ ?_; (try simp only [Int.toNat_natCast]); omega) | exact con_impl_InstrOk _ _ _ | assumption)); (rfl); (first | exact .inl rfl | exact .inr (fun id hi => lk3_ok hi))))))
  all_goals (try (
    refine congrArg (fun b => LV.dat (.bool b)) (Eq.symm ?_)
    rw [progOk, progHead, decide_eq_false (by omega), Bool.false_and]))
  have hhd : progHead p = true := by rw [progHead]; exact decide_eq_true (by omega)
  ((refine go_loop hn tb_ok rfl ?_ (fun (wI : Nat) wT wM => ((48, .dat (.int .i64 wI)) :: wT, wM)) (fun wI => wI ≤ p.caps.length ∧ (fun i => ∀ j < i, capOk (p.caps.getD j 0) = true) wI) (fun wI => p.caps.length - wI) 0 ⟨Nat.zero_le _, ?_⟩ ?_ ?_; ((first | exact trivial | (simp only [i64ok, true_and, and_true, Int.toNat_natCast]; omega) | (simp only [i64ok, true_and, and_true, Int.toNat_natCast] at *; omega)))))
  · intro j hj; omega
  · ((refine le_of [] ?_ ?_ rfl; ((repeat' (first | exact trivial | refine And.intro rfl ?_))); ((repeat' (first | exact trivial | refine And.intro rfl ?_)))))
  rintro i ⟨hi, hq⟩
  ((refine go_cond hn tb_ok rfl ?_ (fun hc => ?_) (fun hc => ?_); ((first | exact trivial | (simp only [i64ok, true_and, and_true, Int.toNat_natCast]; omega) | (simp only [i64ok, true_and, and_true, Int.toNat_natCast] at *; omega))); all_goals (try (((try simp only [decide_eq_true_eq, decide_eq_false_iff_not, Bool.not_eq_true', Bool.not_eq_false', Bool.not_eq_eq_eq_not, Bool.not_true, Bool.not_false, Int.not_lt, Int.not_le, Int.toNat_natCast, beq_iff_eq, beq_eq_false_iff_ne, ne_eq] at hc); (try (first | simp only [rest_iff, rest_iff', isReg_iff, isReg_iff', isVal_iff, isVal_iff', isIn_iff, isIn_iff', isChan_iff, isChan_iff'] at hc | simp only [(fields_iff _).1, (fields_iff _).2.1, (fields_iff _).2.2, isReg_iff, isReg_iff', isVal_iff, isVal_iff', isIn_iff, isIn_iff', isChan_iff, isChan_iff'] at hc | skip)); try (exfalso; omega))))))
  · have hlt : i < p.caps.length := by omega
    (repeat' (first
  | (refine go_cond hn tb_ok rfl ?_ (fun hc => ?_) (fun hc => ?_); ((first | exact trivial | (simp only [i64ok, true_and, and_true, Int.toNat_natCast]; omega) | (simp only [i64ok, true_and, and_true, Int.toNat_natCast] at *; omega))); all_goals (try (((try simp only [decide_eq_true_eq, decide_eq_false_iff_not, Bool.not_eq_true', Bool.not_eq_false', Bool.not_eq_eq_eq_not, Bool.not_true, Bool.not_false, Int.not_lt, Int.not_le, Int.toNat_natCast, beq_iff_eq, beq_eq_false_iff_ne, ne_eq] at hc); (try (first | simp only [rest_iff, rest_iff', isReg_iff, isReg_iff', isVal_iff, isVal_iff', isIn_iff, isIn_iff', isChan_iff, isChan_iff'] at hc | simp only [(fields_iff _).1, (fields_iff _).2.1, (fields_iff _).2.2, isReg_iff, isReg_iff', isVal_iff, isVal_iff', isIn_iff, isIn_iff', isChan_iff, isChan_iff'] at hc | skip)); try (exfalso; omega)))))
  | (refine go_ret hn tb_ok rfl ?_ ⟨_, rfl, ?_⟩; ((first | exact trivial | (simp only [i64ok, true_and, and_true, Int.toNat_natCast]; omega) | (simp only [i64ok, true_and, and_true, Int.toNat_natCast] at *; omega))))
  | ((refine go_con hn tb_ok rfl ?_ rfl [] ⟨_, ?_, rfl, ?_, ?_, ?_, ?_⟩; ((first | exact trivial | (simp only [i64ok, true_and, and_true, Int.toNat_natCast]; omega) | (simp only [i64ok, true_and, and_true, Int.toNat_natCast] at *; omega))); rotate_left; ((first | (refine con_impl_SelectOk _ _ _ ?_; (try simp only [Int.toNat_natCast]); omega) | exact con_impl_InstrOk _ _ _ | assumption)); (rfl); (first | exact .inl rfl | exact .inr (fun id hi => lk3_ok hi))))))
    all_goals (try (
      refine congrArg (fun b => LV.dat (.bool b)) (Eq.symm ?_)
      rw [progOk, range_no hlt (by rw [capOk]; exact decide_eq_false (by omega))]; simp; done))
    ((refine go_stop hn tb_ok rfl ?_ ⟨i + 1, ⟨?_, ?_⟩, ?_, ?_⟩; ((first | exact trivial | (simp only [i64ok, true_and, and_true, Int.toNat_natCast]; omega) | (simp only [i64ok, true_and, and_true, Int.toNat_natCast] at *; omega)))))
    · omega
    · exact upto hq (by rw [capOk]; exact decide_eq_true (by omega))
    · show p.caps.length - (i + 1) < p.caps.length - i; omega
    · ((refine le_of [] ?_ ?_ rfl; ((repeat' (first | exact trivial | refine And.intro rfl ?_))); ((repeat' (first | exact trivial | refine And.intro rfl ?_)))))
  have hcaps := range_yes (m := p.caps.length) (f := fun k => capOk (p.caps.getD k 0)) (fun j hj => hq j (by omega))
  clear hc hq hi
  ((refine go_loop hn tb_ok rfl ?_ (fun (wI : Nat) wT wM => ((62, .dat (.int .i64 wI)) :: wT, wM)) (fun wI => wI ≤ p.sels.length ∧ (fun i => ∀ j < i, selOk p (p.sels.getD j dSelect) = true) wI) (fun wI => p.sels.length - wI) 0 ⟨Nat.zero_le _, ?_⟩ ?_ ?_; ((first | exact trivial | (simp only [i64ok, true_and, and_true, Int.toNat_natCast]; omega) | (simp only [i64ok, true_and, and_true, Int.toNat_natCast] at *; omega)))))
  · intro j hj; omega
  · ((refine le_of [] ?_ ?_ rfl; ((repeat' (first | exact trivial | refine And.intro rfl ?_))); ((repeat' (first | exact trivial | refine And.intro rfl ?_)))))
  rintro i ⟨hi, hq⟩
  ((refine go_cond hn tb_ok rfl ?_ (fun hc => ?_) (fun hc => ?_); ((first | exact trivial | (simp only [i64ok, true_and, and_true, Int.toNat_natCast]; omega) | (simp only [i64ok, true_and, and_true, Int.toNat_natCast] at *; omega))); all_goals (try (((try simp only [decide_eq_true_eq, decide_eq_false_iff_not, Bool.not_eq_true', Bool.not_eq_false', Bool.not_eq_eq_eq_not, Bool.not_true, Bool.not_false, Int.not_lt, Int.not_le, Int.toNat_natCast, beq_iff_eq, beq_eq_false_iff_ne, ne_eq] at hc); (try (first | simp only [rest_iff, rest_iff', isReg_iff, isReg_iff', isVal_iff, isVal_iff', isIn_iff, isIn_iff', isChan_iff, isChan_iff'] at hc | simp only [(fields_iff _).1, (fields_iff _).2.1, (fields_iff _).2.2, isReg_iff, isReg_iff', isVal_iff, isVal_iff', isIn_iff, isIn_iff', isChan_iff, isChan_iff'] at hc | skip)); try (exfalso; omega))))))
  · have hlt : i < p.sels.length := by omega
    (repeat' (first
  | (refine go_cond hn tb_ok rfl ?_ (fun hc => ?_) (fun hc => ?_); ((first | exact trivial | (simp only [i64ok, true_and, and_true, Int.toNat_natCast]; omega) | (simp only [i64ok, true_and, and_true, Int.toNat_natCast] at *; omega))); all_goals (try (((try simp only [decide_eq_true_eq, decide_eq_false_iff_not, Bool.not_eq_true', Bool.not_eq_false', Bool.not_eq_eq_eq_not, Bool.not_true, Bool.not_false, Int.not_lt, Int.not_le, Int.toNat_natCast, beq_iff_eq, beq_eq_false_iff_ne, ne_eq] at hc); (try (first | simp only [rest_iff, rest_iff', isReg_iff, isReg_iff', isVal_iff, isVal_iff', isIn_iff, isIn_iff', isChan_iff, isChan_iff'] at hc | simp only [(fields_iff _).1, (fields_iff _).2.1, (fields_iff _).2.2, isReg_iff, isReg_iff', isVal_iff, isVal_iff', isIn_iff, isIn_iff', isChan_iff, isChan_iff'] at hc | skip)); try (exfalso; omega)))))
  | (refine go_ret hn tb_ok rfl ?_ ⟨_, rfl, ?_⟩; ((first | exact trivial | (simp only [i64ok, true_and, and_true, Int.toNat_natCast]; omega) | (simp only [i64ok, true_and, and_true, Int.toNat_natCast] at *; omega))))
  | ((refine go_con hn tb_ok rfl ?_ rfl [] ⟨_, ?_, rfl, ?_, ?_, ?_, ?_⟩; ((first | exact trivial | (simp only [i64ok, true_and, and_true, Int.toNat_natCast]; omega) | (simp only [i64ok, true_and, and_true, Int.toNat_natCast] at *; omega))); rotate_left; ((first | (refine con_impl_SelectOk _ _ _ ?_; (try simp only [Int.toNat_natCast]); omega) | exact con_impl_InstrOk _ _ _ | assumption)); (rfl); (first | exact .inl rfl | exact .inr (fun id hi => lk3_ok hi))))))
    all_goals (try (
      refine congrArg (fun b => LV.dat (.bool b)) (Eq.symm ?_)
      rw [progOk, range_no hlt (by
        rw [selOk]
        first
          | (rw [decide_eq_false (by omega)]; rfl)
          | (rw [hc]; simp; done)
          | (rw [decide_eq_true (p := _ ∧ _) (by omega)]; simp))]; simp; done))
    all_goals (
      ((refine go_stop hn tb_ok rfl ?_ ⟨i + 1, ⟨?_, ?_⟩, ?_, ?_⟩; ((first | exact trivial | (simp only [i64ok, true_and, and_true, Int.toNat_natCast]; omega) | (simp only [i64ok, true_and, and_true, Int.toNat_natCast] at *; omega)))))
      · omega
      · refine upto hq ?_
        rw [selOk, hc, decide_eq_true (by omega), decide_eq_false (by omega)]; rfl
      · show p.sels.length - (i + 1) < p.sels.length - i; omega
      · ((refine le_of [] ?_ ?_ rfl; ((repeat' (first | exact trivial | refine And.intro rfl ?_))); ((repeat' (first | exact trivial | refine And.intro rfl ?_))))))
  have hsels := range_yes (m := p.sels.length) (f := fun k => selOk p (p.sels.getD k dSelect)) (fun j hj => hq j (by omega))
  have hqs : ∀ k, k < p.sels.length → selOk p (p.sels.getD k dSelect) = true := fun j hj => hq j (by omega)
  clear hc hq hi
  ((refine go_loop hn tb_ok rfl ?_ (fun (wI : Nat) wT wM => ((91, .dat (.int .i64 wI)) :: wT, wM)) (fun wI => wI ≤ p.procs.length ∧ (fun i => ∀ j < i, procOk p (p.procs.getD j dProc).code = true) wI) (fun wI => p.procs.length - wI) 0 ⟨Nat.zero_le _, ?_⟩ ?_ ?_; ((first | exact trivial | (simp only [i64ok, true_and, and_true, Int.toNat_natCast]; omega) | (simp only [i64ok, true_and, and_true, Int.toNat_natCast] at *; omega)))))
  · intro j hj; omega
  · ((refine le_of [] ?_ ?_ rfl; ((repeat' (first | exact trivial | refine And.intro rfl ?_))); ((repeat' (first | exact trivial | refine And.intro rfl ?_)))))
  rintro i ⟨hi, hq⟩
  ((refine go_cond hn tb_ok rfl ?_ (fun hc => ?_) (fun hc => ?_); ((first | exact trivial | (simp only [i64ok, true_and, and_true, Int.toNat_natCast]; omega) | (simp only [i64ok, true_and, and_true, Int.toNat_natCast] at *; omega))); all_goals (try (((try simp only [decide_eq_true_eq, decide_eq_false_iff_not, Bool.not_eq_true', Bool.not_eq_false', Bool.not_eq_eq_eq_not, Bool.not_true, Bool.not_false, Int.not_lt, Int.not_le, Int.toNat_natCast, beq_iff_eq, beq_eq_false_iff_ne, ne_eq] at hc); (try (first | simp only [rest_iff, rest_iff', isReg_iff, isReg_iff', isVal_iff, isVal_iff', isIn_iff, isIn_iff', isChan_iff, isChan_iff'] at hc | simp only [(fields_iff _).1, (fields_iff _).2.1, (fields_iff _).2.2, isReg_iff, isReg_iff', isVal_iff, isVal_iff', isIn_iff, isIn_iff', isChan_iff, isChan_iff'] at hc | skip)); try (exfalso; omega))))))
  · have hlt : i < p.procs.length := by omega
    have hno : procOk p (p.procs.getD i dProc).code = false → LV.dat (.bool false) = LV.dat (.bool (progOk p)) := fun hh => by
      refine congrArg (fun b => LV.dat (.bool b)) (Eq.symm ?_)
      rw [progOk, range_no (m := p.procs.length) hlt hh]; simp
    have hsl : ∀ k, k < p.sels.length → (p.sels.getD k dSelect).cases.length ≤ 4 := fun k hk => by
      have := hqs k hk
      rw [selOk, Bool.and_eq_true] at this
      exact of_decide_eq_true this.1
    have hlen : (p.procs.getD i dProc).code.length ≤ (9223372036854775807 : Nat) := hb5 _ (List.mem_of_getElem? (getD_of hlt))
    (repeat' (first
  | (refine go_cond hn tb_ok rfl ?_ (fun hc => ?_) (fun hc => ?_); ((first | exact trivial | (simp only [i64ok, true_and, and_true, Int.toNat_natCast]; omega) | (simp only [i64ok, true_and, and_true, Int.toNat_natCast] at *; omega))); all_goals (try (((try simp only [decide_eq_true_eq, decide_eq_false_iff_not, Bool.not_eq_true', Bool.not_eq_false', Bool.not_eq_eq_eq_not, Bool.not_true, Bool.not_false, Int.not_lt, Int.not_le, Int.toNat_natCast, beq_iff_eq, beq_eq_false_iff_ne, ne_eq] at hc); (try (first | simp only [rest_iff, rest_iff', isReg_iff, isReg_iff', isVal_iff, isVal_iff', isIn_iff, isIn_iff', isChan_iff, isChan_iff'] at hc | simp only [(fields_iff _).1, (fields_iff _).2.1, (fields_iff _).2.2, isReg_iff, isReg_iff', isVal_iff, isVal_iff', isIn_iff, isIn_iff', isChan_iff, isChan_iff'] at hc | skip)); try (exfalso; omega)))))
  | (refine go_ret hn tb_ok rfl ?_ ⟨_, rfl, ?_⟩; ((first | exact trivial | (simp only [i64ok, true_and, and_true, Int.toNat_natCast]; omega) | (simp only [i64ok, true_and, and_true, Int.toNat_natCast] at *; omega))))
  | ((refine go_con hn tb_ok rfl ?_ rfl [] ⟨_, ?_, rfl, ?_, ?_, ?_, ?_⟩; ((first | exact trivial | (simp only [i64ok, true_and, and_true, Int.toNat_natCast]; omega) | (simp only [i64ok, true_and, and_true, Int.toNat_natCast] at *; omega))); rotate_left; ((first | (refine con_impl_SelectOk _ _ _ ?_; (try simp only [Int.toNat_natCast]); omega) | exact con_impl_InstrOk _ _ _ | assumption)); (rfl); (first | exact .inl rfl | exact .inr (fun id hi => lk3_ok hi))))))
    all_goals (try (
      refine hno ?_
      rw [procOk, decide_eq_false (by omega)]; rfl))
    ((refine go_loop hn tb_ok rfl ?_ (fun (wI : Nat) wT wM => ((107, .dat (.int .i64 wI)) :: wT, wM)) (fun wI => wI ≤ ((p.procs.getD i dProc).code.length) ∧ (fun q => ∀ j < q, stepOk p (p.procs.getD i dProc).code.length ((p.procs.getD i dProc).code.getD j dInstr) = true) wI) (fun wI => ((p.procs.getD i dProc).code.length) - wI) 0 ⟨Nat.zero_le _, ?_⟩ ?_ ?_; ((first | exact trivial | (simp only [i64ok, true_and, and_true, Int.toNat_natCast]; omega) | (simp only [i64ok, true_and, and_true, Int.toNat_natCast] at *; omega)))))
    · intro j hj; omega
    · ((refine le_of [] ?_ ?_ rfl; ((repeat' (first | exact trivial | refine And.intro rfl ?_))); ((repeat' (first | exact trivial | refine And.intro rfl ?_)))))
    rintro q ⟨hi2, hq2⟩
    ((refine go_cond hn tb_ok rfl ?_ (fun hc => ?_) (fun hc => ?_); ((first | exact trivial | (simp only [i64ok, true_and, and_true, Int.toNat_natCast]; omega) | (simp only [i64ok, true_and, and_true, Int.toNat_natCast] at *; omega))); all_goals (try (((try simp only [decide_eq_true_eq, decide_eq_false_iff_not, Bool.not_eq_true', Bool.not_eq_false', Bool.not_eq_eq_eq_not, Bool.not_true, Bool.not_false, Int.not_lt, Int.not_le, Int.toNat_natCast, beq_iff_eq, beq_eq_false_iff_ne, ne_eq] at hc); (try (first | simp only [rest_iff, rest_iff', isReg_iff, isReg_iff', isVal_iff, isVal_iff', isIn_iff, isIn_iff', isChan_iff, isChan_iff'] at hc | simp only [(fields_iff _).1, (fields_iff _).2.1, (fields_iff _).2.2, isReg_iff, isReg_iff', isVal_iff, isVal_iff', isIn_iff, isIn_iff', isChan_iff, isChan_iff'] at hc | skip)); try (exfalso; omega))))))
    · have hlt2 : q < (p.procs.getD i dProc).code.length := by omega
      have hnos : stepOk p (p.procs.getD i dProc).code.length ((p.procs.getD i dProc).code.getD q dInstr) = false → LV.dat (.bool false) = LV.dat (.bool (progOk p)) := fun hh => by
        refine hno ?_
        rw [procOk, range_no hlt2 hh]; simp
      cases hin : instrOk p (p.procs.getD i dProc).code.length ((p.procs.getD i dProc).code.getD q dInstr)
      · ((refine go_draw hn tb_ok mix_ok [.r (.dat (.bool (instrOk p (p.procs.getD i dProc).code.length ((p.procs.getD i dProc).code.getD q dInstr)))), .b true] rfl ?_ rfl ?_ ?_ ?_ ?_; ((first | exact trivial | (simp only [i64ok, true_and, and_true, Int.toNat_natCast]; omega) | (simp only [i64ok, true_and, and_true, Int.toNat_natCast] at *; omega))); rotate_left; (kernel_rfl); (kernel_rfl); rotate_left))
        · (((try simp only [andO, true_and, and_true, Int.toNat_natCast, i64ok, decide_eq_true_eq, decide_eq_false_iff_not, Bool.not_eq_true', Bool.not_eq_false']); (repeat' (first | exact trivial | (first | (refine con_impl_SelectOk _ _ _ ?_; (try simp only [Int.toNat_natCast]); omega) | exact con_impl_InstrOk _ _ _ | assumption) | assumption | omega | exact does_litz _ _ hn tb_ok rfl rfl rfl rfl rfl rfl rfl rfl rfl rfl rfl | exact does_app _ hn tb_ok rfl ⟨rfl, _, _, _, rfl, rfl, rfl, rfl, rfl, rfl⟩ rfl rfl rfl rfl rfl rfl rfl (by simp only [List.length_cons, List.length_nil]; omega) | refine And.intro ?_ ?_))))
        · ((refine go_ret hn tb_ok rfl ?_ ⟨_, rfl, ?_⟩; ((first | exact trivial | (simp only [i64ok, true_and, and_true, Int.toNat_natCast]; omega) | (simp only [i64ok, true_and, and_true, Int.toNat_natCast] at *; omega)))))
          exact hnos (by rw [stepOk, hin]; rfl)
      · by_cases hop : ((p.procs.getD i dProc).code.getD q dInstr).op = 11
        · have hr := instr_sel hin hop
          have hl4 := hsl ((p.procs.getD i dProc).code.getD q dInstr).a.toNat (by omega)
          ((refine go_draw hn tb_ok mix_ok [.r (.dat (.bool (instrOk p (p.procs.getD i dProc).code.length ((p.procs.getD i dProc).code.getD q dInstr)))), .b false, .b true, .r (.dat (.bool (selectOk p (p.procs.getD i dProc).code.length (p.sels.getD ((p.procs.getD i dProc).code.getD q dInstr).a.toNat dSelect))))] rfl ?_ rfl ?_ ?_ ?_ ?_; ((first | exact trivial | (simp only [i64ok, true_and, and_true, Int.toNat_natCast]; omega) | (simp only [i64ok, true_and, and_true, Int.toNat_natCast] at *; omega))); rotate_left; (kernel_rfl); (kernel_rfl); rotate_left))
          · (((try simp only [andO, true_and, and_true, Int.toNat_natCast, i64ok, decide_eq_true_eq, decide_eq_false_iff_not, Bool.not_eq_true', Bool.not_eq_false']); (repeat' (first | exact trivial | (first | (refine con_impl_SelectOk _ _ _ ?_; (try simp only [Int.toNat_natCast]); omega) | exact con_impl_InstrOk _ _ _ | assumption) | assumption | omega | exact does_litz _ _ hn tb_ok rfl rfl rfl rfl rfl rfl rfl rfl rfl rfl rfl | exact does_app _ hn tb_ok rfl ⟨rfl, _, _, _, rfl, rfl, rfl, rfl, rfl, rfl⟩ rfl rfl rfl rfl rfl rfl rfl (by simp only [List.length_cons, List.length_nil]; omega) | refine And.intro ?_ ?_))))
          · ((refine go_cond hn tb_ok rfl ?_ (fun hc => ?_) (fun hc => ?_); ((first | exact trivial | (simp only [i64ok, true_and, and_true, Int.toNat_natCast]; omega) | (simp only [i64ok, true_and, and_true, Int.toNat_natCast] at *; omega))); all_goals (try (((try simp only [decide_eq_true_eq, decide_eq_false_iff_not, Bool.not_eq_true', Bool.not_eq_false', Bool.not_eq_eq_eq_not, Bool.not_true, Bool.not_false, Int.not_lt, Int.not_le, Int.toNat_natCast, beq_iff_eq, beq_eq_false_iff_ne, ne_eq] at hc); (try (first | simp only [rest_iff, rest_iff', isReg_iff, isReg_iff', isVal_iff, isVal_iff', isIn_iff, isIn_iff', isChan_iff, isChan_iff'] at hc | simp only [(fields_iff _).1, (fields_iff _).2.1, (fields_iff _).2.2, isReg_iff, isReg_iff', isVal_iff, isVal_iff', isIn_iff, isIn_iff', isChan_iff, isChan_iff'] at hc | skip)); try (exfalso; omega))))))
            · ((refine go_ret hn tb_ok rfl ?_ ⟨_, rfl, ?_⟩; ((first | exact trivial | (simp only [i64ok, true_and, and_true, Int.toNat_natCast]; omega) | (simp only [i64ok, true_and, and_true, Int.toNat_natCast] at *; omega)))))
              exact hnos (by rw [stepOk, hin, hc, hop]; rfl)
            · ((refine go_stop hn tb_ok rfl ?_ ⟨q + 1, ⟨?_, ?_⟩, ?_, ?_⟩; ((first | exact trivial | (simp only [i64ok, true_and, and_true, Int.toNat_natCast]; omega) | (simp only [i64ok, true_and, and_true, Int.toNat_natCast] at *; omega)))))
              · omega
              · exact upto hq2 (by rw [stepOk, hin, hc]; simp)
              · show (p.procs.getD i dProc).code.length - (q + 1) < (p.procs.getD i dProc).code.length - q; omega
              · ((refine le_of [] ?_ ?_ rfl; ((repeat' (first | exact trivial | refine And.intro rfl ?_))); ((repeat' (first | exact trivial | refine And.intro rfl ?_)))))
        · ((refine go_draw hn tb_ok mix_ok [.r (.dat (.bool (instrOk p (p.procs.getD i dProc).code.length ((p.procs.getD i dProc).code.getD q dInstr)))), .b false, .b false] rfl ?_ rfl ?_ ?_ ?_ ?_; ((first | exact trivial | (simp only [i64ok, true_and, and_true, Int.toNat_natCast]; omega) | (simp only [i64ok, true_and, and_true, Int.toNat_natCast] at *; omega))); rotate_left; (kernel_rfl); (kernel_rfl); rotate_left))
          · (((try simp only [andO, true_and, and_true, Int.toNat_natCast, i64ok, decide_eq_true_eq, decide_eq_false_iff_not, Bool.not_eq_true', Bool.not_eq_false']); (repeat' (first | exact trivial | (first | (refine con_impl_SelectOk _ _ _ ?_; (try simp only [Int.toNat_natCast]); omega) | exact con_impl_InstrOk _ _ _ | assumption) | assumption | omega | exact does_litz _ _ hn tb_ok rfl rfl rfl rfl rfl rfl rfl rfl rfl rfl rfl | exact does_app _ hn tb_ok rfl ⟨rfl, _, _, _, rfl, rfl, rfl, rfl, rfl, rfl⟩ rfl rfl rfl rfl rfl rfl rfl (by simp only [List.length_cons, List.length_nil]; omega) | refine And.intro ?_ ?_))))
          · (repeat' (first
  | (refine go_cond hn tb_ok rfl ?_ (fun hc => ?_) (fun hc => ?_); ((first | exact trivial | (simp only [i64ok, true_and, and_true, Int.toNat_natCast]; omega) | (simp only [i64ok, true_and, and_true, Int.toNat_natCast] at *; omega))); all_goals (try (((try simp only [decide_eq_true_eq, decide_eq_false_iff_not, Bool.not_eq_true', Bool.not_eq_false', Bool.not_eq_eq_eq_not, Bool.not_true, Bool.not_false, Int.not_lt, Int.not_le, Int.toNat_natCast, beq_iff_eq, beq_eq_false_iff_ne, ne_eq] at hc); (try (first | simp only [rest_iff, rest_iff', isReg_iff, isReg_iff', isVal_iff, isVal_iff', isIn_iff, isIn_iff', isChan_iff, isChan_iff'] at hc | simp only [(fields_iff _).1, (fields_iff _).2.1, (fields_iff _).2.2, isReg_iff, isReg_iff', isVal_iff, isVal_iff', isIn_iff, isIn_iff', isChan_iff, isChan_iff'] at hc | skip)); try (exfalso; omega)))))
  | (refine go_ret hn tb_ok rfl ?_ ⟨_, rfl, ?_⟩; ((first | exact trivial | (simp only [i64ok, true_and, and_true, Int.toNat_natCast]; omega) | (simp only [i64ok, true_and, and_true, Int.toNat_natCast] at *; omega))))
  | ((refine go_con hn tb_ok rfl ?_ rfl [] ⟨_, ?_, rfl, ?_, ?_, ?_, ?_⟩; ((first | exact trivial | (simp only [i64ok, true_and, and_true, Int.toNat_natCast]; omega) | (simp only [i64ok, true_and, and_true, Int.toNat_natCast] at *; omega))); rotate_left; ((first | (refine con_impl_SelectOk _ _ _ ?_; (try simp only [Int.toNat_natCast]); omega) | exact con_impl_InstrOk _ _ _ | assumption)); (rfl); (first | exact .inl rfl | exact .inr (fun id hi => lk3_ok hi))))))
            ((refine go_stop hn tb_ok rfl ?_ ⟨q + 1, ⟨?_, ?_⟩, ?_, ?_⟩; ((first | exact trivial | (simp only [i64ok, true_and, and_true, Int.toNat_natCast]; omega) | (simp only [i64ok, true_and, and_true, Int.toNat_natCast] at *; omega)))))
            · omega
            · exact upto hq2 (by rw [stepOk, hin, decide_eq_false hop]; simp)
            · show (p.procs.getD i dProc).code.length - (q + 1) < (p.procs.getD i dProc).code.length - q; omega
            · ((refine le_of [] ?_ ?_ rfl; ((repeat' (first | exact trivial | refine And.intro rfl ?_))); ((repeat' (first | exact trivial | refine And.intro rfl ?_)))))
    · have hall := range_yes (m := (p.procs.getD i dProc).code.length) (f := fun k => stepOk p (p.procs.getD i dProc).code.length ((p.procs.getD i dProc).code.getD k dInstr)) (fun j hj => hq2 j (by omega))
      have hpr : procOk p (p.procs.getD i dProc).code = lastOk (p.procs.getD i dProc).code := by rw [procOk, hall, decide_eq_true (by omega)]; rfl
      (repeat' (first
  | (refine go_cond hn tb_ok rfl ?_ (fun hc => ?_) (fun hc => ?_); ((first | exact trivial | (simp only [i64ok, true_and, and_true, Int.toNat_natCast]; omega) | (simp only [i64ok, true_and, and_true, Int.toNat_natCast] at *; omega))); all_goals (try (((try simp only [decide_eq_true_eq, decide_eq_false_iff_not, Bool.not_eq_true', Bool.not_eq_false', Bool.not_eq_eq_eq_not, Bool.not_true, Bool.not_false, Int.not_lt, Int.not_le, Int.toNat_natCast, beq_iff_eq, beq_eq_false_iff_ne, ne_eq] at hc); (try (first | simp only [rest_iff, rest_iff', isReg_iff, isReg_iff', isVal_iff, isVal_iff', isIn_iff, isIn_iff', isChan_iff, isChan_iff'] at hc | simp only [(fields_iff _).1, (fields_iff _).2.1, (fields_iff _).2.2, isReg_iff, isReg_iff', isVal_iff, isVal_iff', isIn_iff, isIn_iff', isChan_iff, isChan_iff'] at hc | skip)); try (exfalso; omega)))))
  | (refine go_ret hn tb_ok rfl ?_ ⟨_, rfl, ?_⟩; ((first | exact trivial | (simp only [i64ok, true_and, and_true, Int.toNat_natCast]; omega) | (simp only [i64ok, true_and, and_true, Int.toNat_natCast] at *; omega))))
  | ((refine go_con hn tb_ok rfl ?_ rfl [] ⟨_, ?_, rfl, ?_, ?_, ?_, ?_⟩; ((first | exact trivial | (simp only [i64ok, true_and, and_true, Int.toNat_natCast]; omega) | (simp only [i64ok, true_and, and_true, Int.toNat_natCast] at *; omega))); rotate_left; ((first | (refine con_impl_SelectOk _ _ _ ?_; (try simp only [Int.toNat_natCast]); omega) | exact con_impl_InstrOk _ _ _ | assumption)); (rfl); (first | exact .inl rfl | exact .inr (fun id hi => lk3_ok hi))))))
      · exact hno (by rw [hpr, lastOk]; exact decide_eq_false (by omega))
      all_goals (
        ((refine go_stop hn tb_ok rfl ?_ ⟨i + 1, ⟨?_, ?_⟩, ?_, ?_⟩; ((first | exact trivial | (simp only [i64ok, true_and, and_true, Int.toNat_natCast]; omega) | (simp only [i64ok, true_and, and_true, Int.toNat_natCast] at *; omega)))))
        · omega
        · exact upto hq (by rw [hpr, lastOk]; exact decide_eq_true (by omega))
        · show p.procs.length - (i + 1) < p.procs.length - i; omega
        · ((refine le_of [] ?_ ?_ rfl; ((repeat' (first | exact trivial | refine And.intro rfl ?_))); ((repeat' (first | exact trivial | refine And.intro rfl ?_))))))
  have hprocs := range_yes (m := p.procs.length) (f := fun k => procOk p (p.procs.getD k dProc).code) (fun j hj => hq j (by omega))
  ((refine go_ret hn tb_ok rfl ?_ ⟨_, rfl, ?_⟩; ((first | exact trivial | (simp only [i64ok, true_and, and_true, Int.toNat_natCast]; omega) | (simp only [i64ok, true_and, and_true, Int.toNat_natCast] at *; omega)))))
  rw [progOk, hhd, hcaps, hsels, hprocs]; rfl
end Go.Proofs.YtjmefaihkblliaaGreat.Ab
/- Channels: what is right of both programs' ChanOk, CanSend, CanRecv, walked by the abstract machine. Conditions: none. -/
namespace Go.Proofs.YtjmefaihkblliaaGreat.Ab
set_option linter.unusedVariables false
set_option linter.unusedSimpArgs false
set_option maxRecDepth 100000
theorem all_no {α : Type} {l : List α} {d : α} {f : α → Bool} {k : Nat} (hk : k < l.length) (h : f (l.getD k d) = false) : l.all f = false :=
  List.all_eq_false.2 ⟨l.getD k d, List.mem_of_getElem? (getD_of hk), by simp [h, -List.getD_eq_getElem?_getD]⟩
theorem all_yes {α : Type} {l : List α} (d : α) {f : α → Bool} (h : ∀ k < l.length, f (l.getD k d) = true) : l.all f = true := by
  refine List.all_eq_true.2 fun x hx => ?_
  obtain ⟨j, hj⟩ := List.mem_iff_getElem?.1 hx
  have := h j (List.getElem?_eq_some_iff.1 hj).1
  rwa [List.getD_eq_getElem?_getD, hj] at this
def idxF (l : List Int) (q : Int → Bool) : Int := match l.findIdx? q with
  | some i => i
  | none => -1
theorem idxF_yes {l : List Int} {q : Int → Bool} {i : Nat} (hi : i < l.length) (hq : ∀ j < i, q (l.getD j 0) = false) (h : q (l.getD i 0) = true) : idxF l q = i := by
  have : l.findIdx? q = some i := by
    rw [List.findIdx?_eq_some_iff_getElem]
    refine ⟨hi, by rw [List.getD_eq_getElem?_getD, List.getElem?_eq_getElem hi] at h; simpa using h, fun j hj => ?_⟩
    have := hq j hj
    rw [List.getD_eq_getElem?_getD, List.getElem?_eq_getElem (by omega)] at this
    simpa using this
  rw [idxF, this]
theorem idxF_no {l : List Int} {q : Int → Bool} (hq : ∀ j < l.length, q (l.getD j 0) = false) : idxF l q = -1 := by
  have : l.findIdx? q = none := by
    rw [List.findIdx?_eq_none_iff]
    intro y hy
    obtain ⟨j, hj⟩ := List.mem_iff_getElem?.1 hy
    have := hq j (List.getElem?_eq_some_iff.1 hj).1
    rw [List.getD_eq_getElem?_getD, hj] at this
    simpa using this
  rw [idxF, this]
theorem con_IndexFunc (l : List Int) (g : FuncId) (q : Int → Bool) (hg : ∀ v, Con Tryz.prog g [.dat (.int .i64 v)] (.dat (.bool (q v)))) : Con Tryz.prog 237 [.dat (ints l), .fn g] (.dat (.int .i64 (idxF l q))) := by
  refine con_body (rs := [(.tmp 4, 3)]) tb_ok Tryz.func237 rfl rfl rfl (Nat.le_of_ble_eq_true rfl) fun ho x hn => ?_
  have hb : l.length ≤ (9223372036854775807 : Nat) := (Okc.len (ho (.dat (ints l)) (by simp)))
  ((refine go_loop hn tb_ok rfl ?_ (fun (wI : Nat) wT wM => ((8, .dat (.int .i64 wI)) :: wT, wM)) (fun wI => wI ≤ l.length ∧ (fun i => ∀ j < i, q (l.getD j 0) = false) wI) (fun wI => l.length - wI) 0 ⟨Nat.zero_le _, ?_⟩ ?_ ?_; ((first | exact trivial | (simp only [i64ok, true_and, and_true, Int.toNat_natCast]; omega) | (simp only [i64ok, true_and, and_true, Int.toNat_natCast] at *; omega)))))
  · intro j hj; omega
  · ((refine le_of [] ?_ ?_ rfl; ((repeat' (first | exact trivial | refine And.intro rfl ?_))); ((repeat' (first | exact trivial | refine And.intro rfl ?_)))))
  rintro i ⟨hi, hq⟩
  ((refine go_cond hn tb_ok rfl ?_ (fun hc => ?_) (fun hc => ?_); ((first | exact trivial | (simp only [i64ok, true_and, and_true, Int.toNat_natCast]; omega) | (simp only [i64ok, true_and, and_true, Int.toNat_natCast] at *; omega))); all_goals (try (((try simp only [decide_eq_true_eq, decide_eq_false_iff_not, Bool.not_eq_true', Bool.not_eq_false', Bool.not_eq_eq_eq_not, Bool.not_true, Bool.not_false, Int.not_lt, Int.not_le, Int.toNat_natCast, beq_iff_eq, beq_eq_false_iff_ne, ne_eq] at hc); (try (first | simp only [rest_iff, rest_iff', isReg_iff, isReg_iff', isVal_iff, isVal_iff', isIn_iff, isIn_iff', isChan_iff, isChan_iff'] at hc | simp only [(fields_iff _).1, (fields_iff _).2.1, (fields_iff _).2.2, isReg_iff, isReg_iff', isVal_iff, isVal_iff', isIn_iff, isIn_iff', isChan_iff, isChan_iff'] at hc | skip)); try (exfalso; omega))))))
  · have hlt : i < l.length := by omega
    refine go_con hn tb_ok rfl ?_ rfl [] ⟨_, _, rfl, hg _, rfl, .inl rfl, ?_⟩
    · (first | exact trivial | (simp only [i64ok, true_and, and_true, Int.toNat_natCast]; omega) | (simp only [i64ok, true_and, and_true, Int.toNat_natCast] at *; omega))
    ((refine go_cond hn tb_ok rfl ?_ (fun hc => ?_) (fun hc => ?_); ((first | exact trivial | (simp only [i64ok, true_and, and_true, Int.toNat_natCast]; omega) | (simp only [i64ok, true_and, and_true, Int.toNat_natCast] at *; omega))); all_goals (try (((try simp only [decide_eq_true_eq, decide_eq_false_iff_not, Bool.not_eq_true', Bool.not_eq_false', Bool.not_eq_eq_eq_not, Bool.not_true, Bool.not_false, Int.not_lt, Int.not_le, Int.toNat_natCast, beq_iff_eq, beq_eq_false_iff_ne, ne_eq] at hc); (try (first | simp only [rest_iff, rest_iff', isReg_iff, isReg_iff', isVal_iff, isVal_iff', isIn_iff, isIn_iff', isChan_iff, isChan_iff'] at hc | simp only [(fields_iff _).1, (fields_iff _).2.1, (fields_iff _).2.2, isReg_iff, isReg_iff', isVal_iff, isVal_iff', isIn_iff, isIn_iff', isChan_iff, isChan_iff'] at hc | skip)); try (exfalso; omega))))))
    · ((refine go_ret hn tb_ok rfl ?_ ⟨_, rfl, ?_⟩; ((first | exact trivial | (simp only [i64ok, true_and, and_true, Int.toNat_natCast]; omega) | (simp only [i64ok, true_and, and_true, Int.toNat_natCast] at *; omega)))))
      rw [idxF_yes hlt hq hc]; rfl
    · ((refine go_stop hn tb_ok rfl ?_ ⟨i + 1, ⟨?_, ?_⟩, ?_, ?_⟩; ((first | exact trivial | (simp only [i64ok, true_and, and_true, Int.toNat_natCast]; omega) | (simp only [i64ok, true_and, and_true, Int.toNat_natCast] at *; omega)))))
      · omega
      · exact upto hq hc
      · show l.length - (i + 1) < l.length - i; omega
      · ((refine le_of [] ?_ ?_ rfl; ((repeat' (first | exact trivial | refine And.intro rfl ?_))); ((repeat' (first | exact trivial | refine And.intro rfl ?_)))))
  · ((refine go_ret hn tb_ok rfl ?_ ⟨_, rfl, ?_⟩; ((first | exact trivial | (simp only [i64ok, true_and, and_true, Int.toNat_natCast]; omega) | (simp only [i64ok, true_and, and_true, Int.toNat_natCast] at *; omega)))))
    rw [idxF_no (fun j hj => hq j (by omega))]; rfl
theorem idxF_any (l : List Int) (q : Int → Bool) : decide (0 ≤ idxF l q) = l.any q := by
  unfold idxF
  rw [Bool.eq_iff_iff, decide_eq_true_eq, List.any_eq_true]
  split
  · rename_i i h
    rw [List.findIdx?_eq_some_iff_getElem] at h
    obtain ⟨h1, h2, _⟩ := h
    exact ⟨fun _ => ⟨l[i], List.getElem_mem h1, h2⟩, fun _ => by omega⟩
  · rename_i h
    rw [List.findIdx?_eq_none_iff] at h
    exact ⟨fun h => by omega, fun ⟨v, hv, hv2⟩ => by have := h v hv; simp [hv2] at this⟩
theorem con_ContainsFunc (l : List Int) (g : FuncId) (q : Int → Bool) (hg : ∀ v, Con Tryz.prog g [.dat (.int .i64 v)] (.dat (.bool (q v)))) : Con Tryz.prog 191 [.dat (ints l), .fn g] (.dat (.bool (l.any q))) := by
  refine con_body (rs := [(.tmp 4, 4)]) tb_ok Tryz.func191 rfl rfl rfl (Nat.le_of_ble_eq_true rfl) fun ho x hn => ?_
  refine go_con hn tb_ok rfl ?_ rfl [] ⟨_, _, rfl, con_IndexFunc l g q hg, rfl, .inl rfl, ?_⟩
  · (first | exact trivial | (simp only [i64ok, true_and, and_true, Int.toNat_natCast]; omega) | (simp only [i64ok, true_and, and_true, Int.toNat_natCast] at *; omega))
  ((refine go_ret hn tb_ok rfl ?_ ⟨_, rfl, ?_⟩; ((first | exact trivial | (simp only [i64ok, true_and, and_true, Int.toNat_natCast]; omega) | (simp only [i64ok, true_and, and_true, Int.toNat_natCast] at *; omega)))))
  show LV.dat (.bool (decide (0 ≤ idxF l q))) = _
  rw [idxF_any]
theorem con_chan1 (v : Int) : Con Tryz.prog 196 [.dat (.int .i64 v)] (.dat (.bool (!isVal v))) := by
  refine con_body (rs := [(.tmp 2, 4)]) tb_ok Tryz.func196 rfl rfl rfl (Nat.le_of_ble_eq_true rfl) fun ho x hn => ?_
  (repeat' (first
  | (refine go_cond hn tb_ok rfl ?_ (fun hc => ?_) (fun hc => ?_); ((first | exact trivial | (simp only [i64ok, true_and, and_true, Int.toNat_natCast]; omega) | (simp only [i64ok, true_and, and_true, Int.toNat_natCast] at *; omega))); all_goals (try (((try simp only [decide_eq_true_eq, decide_eq_false_iff_not, Bool.not_eq_true', Bool.not_eq_false', Bool.not_eq_eq_eq_not, Bool.not_true, Bool.not_false, Int.not_lt, Int.not_le, Int.toNat_natCast, beq_iff_eq, beq_eq_false_iff_ne, ne_eq] at hc); (try (first | simp only [rest_iff, rest_iff', isReg_iff, isReg_iff', isVal_iff, isVal_iff', isIn_iff, isIn_iff', isChan_iff, isChan_iff'] at hc | simp only [(fields_iff _).1, (fields_iff _).2.1, (fields_iff _).2.2, isReg_iff, isReg_iff', isVal_iff, isVal_iff', isIn_iff, isIn_iff', isChan_iff, isChan_iff'] at hc | skip)); try (exfalso; omega)))))
  | (refine go_ret hn tb_ok rfl ?_ ⟨_, rfl, ?_⟩; ((first | exact trivial | (simp only [i64ok, true_and, and_true, Int.toNat_natCast]; omega) | (simp only [i64ok, true_and, and_true, Int.toNat_natCast] at *; omega))))
  | ((refine go_con hn tb_ok rfl ?_ rfl [] ⟨_, ?_, rfl, ?_, ?_, ?_, ?_⟩; ((first | exact trivial | (simp only [i64ok, true_and, and_true, Int.toNat_natCast]; omega) | (simp only [i64ok, true_and, and_true, Int.toNat_natCast] at *; omega))); rotate_left; ((first | exact con_impl_isVal _ | assumption)); (rfl); (first | exact .inl rfl | exact .inr (fun id hi => lk3_ok hi))))))
  rfl
theorem con_gor1 (v : Int) : Con Tryz.prog 192 [.dat (.int .i64 v)] (.dat (.bool (!isVal v))) := by
  refine con_body (rs := [(.tmp 2, 4)]) tb_ok Tryz.func192 rfl rfl rfl (Nat.le_of_ble_eq_true rfl) fun ho x hn => ?_
  (repeat' (first
  | (refine go_cond hn tb_ok rfl ?_ (fun hc => ?_) (fun hc => ?_); ((first | exact trivial | (simp only [i64ok, true_and, and_true, Int.toNat_natCast]; omega) | (simp only [i64ok, true_and, and_true, Int.toNat_natCast] at *; omega))); all_goals (try (((try simp only [decide_eq_true_eq, decide_eq_false_iff_not, Bool.not_eq_true', Bool.not_eq_false', Bool.not_eq_eq_eq_not, Bool.not_true, Bool.not_false, Int.not_lt, Int.not_le, Int.toNat_natCast, beq_iff_eq, beq_eq_false_iff_ne, ne_eq] at hc); (try (first | simp only [rest_iff, rest_iff', isReg_iff, isReg_iff', isVal_iff, isVal_iff', isIn_iff, isIn_iff', isChan_iff, isChan_iff'] at hc | simp only [(fields_iff _).1, (fields_iff _).2.1, (fields_iff _).2.2, isReg_iff, isReg_iff', isVal_iff, isVal_iff', isIn_iff, isIn_iff', isChan_iff, isChan_iff'] at hc | skip)); try (exfalso; omega)))))
  | (refine go_ret hn tb_ok rfl ?_ ⟨_, rfl, ?_⟩; ((first | exact trivial | (simp only [i64ok, true_and, and_true, Int.toNat_natCast]; omega) | (simp only [i64ok, true_and, and_true, Int.toNat_natCast] at *; omega))))
  | ((refine go_con hn tb_ok rfl ?_ rfl [] ⟨_, ?_, rfl, ?_, ?_, ?_, ?_⟩; ((first | exact trivial | (simp only [i64ok, true_and, and_true, Int.toNat_natCast]; omega) | (simp only [i64ok, true_and, and_true, Int.toNat_natCast] at *; omega))); rotate_left; ((first | exact con_impl_isVal _ | assumption)); (rfl); (first | exact .inl rfl | exact .inr (fun id hi => lk3_ok hi))))))
  rfl
/-! ### those that wait -/
def waiterOk (send : Bool) (w : MWaiter) : Bool := decide (0 ≤ w.g ∧ -1 ≤ w.cas) && (isVal w.val && (send || decide (w.val = 0)))
theorem con_impl_waiterOk (w : MWaiter) : Con Tryz.prog 197 [.dagg (cWaiter w)] (.dat (.bool (waiterOk true w))) := by
  refine con_body (rs := [(.tmp 2, 4)]) tb_ok Tryz.func197 rfl rfl rfl (Nat.le_of_ble_eq_true rfl) fun ho x hn => ?_
  (repeat' (first
  | (refine go_cond hn tb_ok rfl ?_ (fun hc => ?_) (fun hc => ?_); ((first | exact trivial | (simp only [i64ok, true_and, and_true, Int.toNat_natCast]; omega) | (simp only [i64ok, true_and, and_true, Int.toNat_natCast] at *; omega))); all_goals (try (((try simp only [decide_eq_true_eq, decide_eq_false_iff_not, Bool.not_eq_true', Bool.not_eq_false', Bool.not_eq_eq_eq_not, Bool.not_true, Bool.not_false, Int.not_lt, Int.not_le, Int.toNat_natCast, beq_iff_eq, beq_eq_false_iff_ne, ne_eq] at hc); (try (first | simp only [rest_iff, rest_iff', isReg_iff, isReg_iff', isVal_iff, isVal_iff', isIn_iff, isIn_iff', isChan_iff, isChan_iff'] at hc | simp only [(fields_iff _).1, (fields_iff _).2.1, (fields_iff _).2.2, isReg_iff, isReg_iff', isVal_iff, isVal_iff', isIn_iff, isIn_iff', isChan_iff, isChan_iff'] at hc | skip)); try (exfalso; omega)))))
  | (refine go_ret hn tb_ok rfl ?_ ⟨_, rfl, ?_⟩; ((first | exact trivial | (simp only [i64ok, true_and, and_true, Int.toNat_natCast]; omega) | (simp only [i64ok, true_and, and_true, Int.toNat_natCast] at *; omega))))
  | ((refine go_con hn tb_ok rfl ?_ rfl [] ⟨_, ?_, rfl, ?_, ?_, ?_, ?_⟩; ((first | exact trivial | (simp only [i64ok, true_and, and_true, Int.toNat_natCast]; omega) | (simp only [i64ok, true_and, and_true, Int.toNat_natCast] at *; omega))); rotate_left; ((first | exact con_impl_isVal _ | assumption)); (rfl); (first | exact .inl rfl | exact .inr (fun id hi => lk3_ok hi))))))
  all_goals (refine congrArg (fun b => LV.dat (.bool b)) (Eq.symm ?_); rw [waiterOk])
  all_goals first
    | (rw [decide_eq_false (by omega)]; rfl)
    | (rw [decide_eq_true (by omega)]; simp)
theorem con_spec_l06Waiters (l : List MWaiter) (send : Bool) : Con Tryz.prog 229 [.dat (rows_Waiter l), .dat (.bool send)] (.dat (.bool (l.all (waiterOk send)))) := by
  refine con_body (rs := [(.tmp 4, 4)]) tb_ok Tryz.func229 rfl rfl rfl (Nat.le_of_ble_eq_true rfl) fun ho x hn => ?_
  have hb : l.length ≤ (9223372036854775807 : Nat) := (Okc.len (ho (.dat (rows_Waiter l)) (by simp)))
  ((refine go_loop hn tb_ok rfl ?_ (fun (wI : Nat) wT wM => ((9, .dat (.int .i64 wI)) :: wT, wM)) (fun wI => wI ≤ l.length ∧ (fun i => ∀ j < i, waiterOk send (l.getD j dWaiter) = true) wI) (fun wI => l.length - wI) 0 ⟨Nat.zero_le _, ?_⟩ ?_ ?_; ((first | exact trivial | (simp only [i64ok, true_and, and_true, Int.toNat_natCast]; omega) | (simp only [i64ok, true_and, and_true, Int.toNat_natCast] at *; omega)))))
  · intro j hj; omega
  · ((refine le_of [] ?_ ?_ rfl; ((repeat' (first | exact trivial | refine And.intro rfl ?_))); ((repeat' (first | exact trivial | refine And.intro rfl ?_)))))
  rintro i ⟨hi, hq⟩
  ((refine go_cond hn tb_ok rfl ?_ (fun hc => ?_) (fun hc => ?_); ((first | exact trivial | (simp only [i64ok, true_and, and_true, Int.toNat_natCast]; omega) | (simp only [i64ok, true_and, and_true, Int.toNat_natCast] at *; omega))); all_goals (try (((try simp only [decide_eq_true_eq, decide_eq_false_iff_not, Bool.not_eq_true', Bool.not_eq_false', Bool.not_eq_eq_eq_not, Bool.not_true, Bool.not_false, Int.not_lt, Int.not_le, Int.toNat_natCast, beq_iff_eq, beq_eq_false_iff_ne, ne_eq] at hc); (try (first | simp only [rest_iff, rest_iff', isReg_iff, isReg_iff', isVal_iff, isVal_iff', isIn_iff, isIn_iff', isChan_iff, isChan_iff'] at hc | simp only [(fields_iff _).1, (fields_iff _).2.1, (fields_iff _).2.2, isReg_iff, isReg_iff', isVal_iff, isVal_iff', isIn_iff, isIn_iff', isChan_iff, isChan_iff'] at hc | skip)); try (exfalso; omega))))))
  · have hlt : i < l.length := by omega
    (repeat' (first
  | (refine go_cond hn tb_ok rfl ?_ (fun hc => ?_) (fun hc => ?_); ((first | exact trivial | (simp only [i64ok, true_and, and_true, Int.toNat_natCast]; omega) | (simp only [i64ok, true_and, and_true, Int.toNat_natCast] at *; omega))); all_goals (try (((try simp only [decide_eq_true_eq, decide_eq_false_iff_not, Bool.not_eq_true', Bool.not_eq_false', Bool.not_eq_eq_eq_not, Bool.not_true, Bool.not_false, Int.not_lt, Int.not_le, Int.toNat_natCast, beq_iff_eq, beq_eq_false_iff_ne, ne_eq] at hc); (try (first | simp only [rest_iff, rest_iff', isReg_iff, isReg_iff', isVal_iff, isVal_iff', isIn_iff, isIn_iff', isChan_iff, isChan_iff'] at hc | simp only [(fields_iff _).1, (fields_iff _).2.1, (fields_iff _).2.2, isReg_iff, isReg_iff', isVal_iff, isVal_iff', isIn_iff, isIn_iff', isChan_iff, isChan_iff'] at hc | skip)); try (exfalso; omega)))))
  | (refine go_ret hn tb_ok rfl ?_ ⟨_, rfl, ?_⟩; ((first | exact trivial | (simp only [i64ok, true_and, and_true, Int.toNat_natCast]; omega) | (simp only [i64ok, true_and, and_true, Int.toNat_natCast] at *; omega))))
  | ((refine go_con hn tb_ok rfl ?_ rfl [] ⟨_, ?_, rfl, ?_, ?_, ?_, ?_⟩; ((first | exact trivial | (simp only [i64ok, true_and, and_true, Int.toNat_natCast]; omega) | (simp only [i64ok, true_and, and_true, Int.toNat_natCast] at *; omega))); rotate_left; ((first | exact con_spec_l03Val _ | assumption)); (rfl); (first | exact .inl rfl | exact .inr (fun id hi => lk3_ok hi))))))
    all_goals (try (
      refine congrArg (fun b => LV.dat (.bool b)) (Eq.symm (all_no (d := dWaiter) hlt ?_))
      rw [waiterOk]
      first
        | (rw [decide_eq_false (by omega)]; rfl)
        | (simp [isVal, *, -List.getD_eq_getElem?_getD]; done)
        | (simp [isVal, *, -List.getD_eq_getElem?_getD]; omega)))
    all_goals (
      ((refine go_stop hn tb_ok rfl ?_ ⟨i + 1, ⟨?_, ?_⟩, ?_, ?_⟩; ((first | exact trivial | (simp only [i64ok, true_and, and_true, Int.toNat_natCast]; omega) | (simp only [i64ok, true_and, and_true, Int.toNat_natCast] at *; omega)))))
      · omega
      · refine upto hq ?_
        rw [waiterOk, decide_eq_true (by omega)]
        simp [isVal, *, -List.getD_eq_getElem?_getD]
      · show l.length - (i + 1) < l.length - i; omega
      · ((refine le_of [] ?_ ?_ rfl; ((repeat' (first | exact trivial | refine And.intro rfl ?_))); ((repeat' (first | exact trivial | refine And.intro rfl ?_))))))
  · ((refine go_ret hn tb_ok rfl ?_ ⟨_, rfl, ?_⟩; ((first | exact trivial | (simp only [i64ok, true_and, and_true, Int.toNat_natCast]; omega) | (simp only [i64ok, true_and, and_true, Int.toNat_natCast] at *; omega)))))
    rw [all_yes dWaiter (fun j hj => hq j (by omega))]; rfl
end Go.Proofs.YtjmefaihkblliaaGreat.Ab
/- Channels: both programs' ChanOk, CanSend, CanRecv, walked by the abstract machine. Conditions: none. -/
namespace Go.Proofs.YtjmefaihkblliaaGreat.Ab
set_option linter.unusedVariables false
set_option linter.unusedSimpArgs false
set_option maxRecDepth 100000
def chanHead (c : MChan) : Bool := decide (0 ≤ c.cap ∧ c.cap ≤ 4 ∧ c.buf.length ≤ c.cap)
def chanTail (c : MChan) : Bool := (decide (c.sends.length = 0) || (decide (c.buf.length = c.cap ∧ c.recvs.length = 0) && !c.closed)) && (decide (c.recvs.length = 0) || (decide (c.buf.length = 0) && !c.closed))
def chanOk (c : MChan) : Bool := chanHead c && (c.buf.all isVal && (c.sends.all (waiterOk true) && (c.recvs.all (waiterOk false) && chanTail c)))
theorem okChan {c : MChan} (h : OkL (.dagg (cChan c))) : c.buf.length ≤ (9223372036854775807 : Nat) ∧ c.sends.length ≤ (9223372036854775807 : Nat) ∧ c.recvs.length ≤ (9223372036854775807 : Nat) :=
  ⟨(h (ints c.buf) (by simp [cChan])).len, (h (rows_Waiter c.sends) (by simp [cChan])).len, (h (rows_Waiter c.recvs) (by simp [cChan])).len⟩
theorem any_not (l : List Int) : l.any (fun v => !isVal v) = !l.all isVal := by
  rw [List.not_all_eq_any_not]
theorem waiter_false (w : MWaiter) : waiterOk false w = (waiterOk true w && decide (w.val = 0)) := by
  simp [waiterOk, Bool.and_assoc]
set_option maxHeartbeats 1000000 in
theorem con_spec_ChanOk (c : MChan) : Con Tryz.prog 175 [.dagg (cChan c)] (.dat (.bool (chanOk c))) := by
  refine con_body (rs := [(.tmp 2, 4)]) tb_ok Tryz.func175 rfl rfl rfl (Nat.le_of_ble_eq_true rfl) fun ho x hn => ?_
  obtain ⟨hb1, hb2, hb3⟩ := okChan (ho _ List.mem_cons_self)
  (repeat' (first
  | (refine go_cond hn tb_ok rfl ?_ (fun hc => ?_) (fun hc => ?_); ((first | exact trivial | (simp only [i64ok, true_and, and_true, Int.toNat_natCast]; omega) | (simp only [i64ok, true_and, and_true, Int.toNat_natCast] at *; omega))); all_goals (try (((try simp only [decide_eq_true_eq, decide_eq_false_iff_not, Bool.not_eq_true', Bool.not_eq_false', Bool.not_eq_eq_eq_not, Bool.not_true, Bool.not_false, Int.not_lt, Int.not_le, Int.toNat_natCast, beq_iff_eq, beq_eq_false_iff_ne, ne_eq] at hc); (try (first | simp only [rest_iff, rest_iff', isReg_iff, isReg_iff', isVal_iff, isVal_iff', isIn_iff, isIn_iff', isChan_iff, isChan_iff'] at hc | simp only [(fields_iff _).1, (fields_iff _).2.1, (fields_iff _).2.2, isReg_iff, isReg_iff', isVal_iff, isVal_iff', isIn_iff, isIn_iff', isChan_iff, isChan_iff'] at hc | skip)); try (exfalso; omega)))))
  | (refine go_ret hn tb_ok rfl ?_ ⟨_, rfl, ?_⟩; ((first | exact trivial | (simp only [i64ok, true_and, and_true, Int.toNat_natCast]; omega) | (simp only [i64ok, true_and, and_true, Int.toNat_natCast] at *; omega))))
  | ((refine go_con hn tb_ok rfl ?_ rfl [] ⟨_, ?_, rfl, ?_, ?_, ?_, ?_⟩; ((first | exact trivial | (simp only [i64ok, true_and, and_true, Int.toNat_natCast]; omega) | (simp only [i64ok, true_and, and_true, Int.toNat_natCast] at *; omega))); rotate_left; ((first | exact con_spec_l06Waiters _ _ | exact con_spec_l03Val _ | assumption)); (rfl); (first | exact .inl rfl | exact .inr (fun id hi => lk3_ok hi))))))
  all_goals (try (
    refine congrArg (fun b => LV.dat (.bool b)) (Eq.symm ?_)
    rw [chanOk]
    first
      | (rw [chanHead, decide_eq_false (by omega)]; rfl)
      | (rw [hc]; simp)))
  have hhd : chanHead c = true := by rw [chanHead]; exact decide_eq_true (by omega)
  ((refine go_loop hn tb_ok rfl ?_ (fun (wI : Nat) wT wM => ((36, .dat (.int .i64 wI)) :: wT, wM)) (fun wI => wI ≤ c.buf.length ∧ (fun i => ∀ j < i, isVal (c.buf.getD j 0) = true) wI) (fun wI => c.buf.length - wI) 0 ⟨Nat.zero_le _, ?_⟩ ?_ ?_; ((first | exact trivial | (simp only [i64ok, true_and, and_true, Int.toNat_natCast]; omega) | (simp only [i64ok, true_and, and_true, Int.toNat_natCast] at *; omega)))))
  · intro j hj; omega
  · ((refine le_of [] ?_ ?_ rfl; ((repeat' (first | exact trivial | refine And.intro rfl ?_))); ((repeat' (first | exact trivial | refine And.intro rfl ?_)))))
  rintro i ⟨hi, hq⟩
  ((refine go_cond hn tb_ok rfl ?_ (fun hc => ?_) (fun hc => ?_); ((first | exact trivial | (simp only [i64ok, true_and, and_true, Int.toNat_natCast]; omega) | (simp only [i64ok, true_and, and_true, Int.toNat_natCast] at *; omega))); all_goals (try (((try simp only [decide_eq_true_eq, decide_eq_false_iff_not, Bool.not_eq_true', Bool.not_eq_false', Bool.not_eq_eq_eq_not, Bool.not_true, Bool.not_false, Int.not_lt, Int.not_le, Int.toNat_natCast, beq_iff_eq, beq_eq_false_iff_ne, ne_eq] at hc); (try (first | simp only [rest_iff, rest_iff', isReg_iff, isReg_iff', isVal_iff, isVal_iff', isIn_iff, isIn_iff', isChan_iff, isChan_iff'] at hc | simp only [(fields_iff _).1, (fields_iff _).2.1, (fields_iff _).2.2, isReg_iff, isReg_iff', isVal_iff, isVal_iff', isIn_iff, isIn_iff', isChan_iff, isChan_iff'] at hc | skip)); try (exfalso; omega))))))
  · have hlt : i < c.buf.length := by omega
    ((refine go_con hn tb_ok rfl ?_ rfl [] ⟨_, ?_, rfl, ?_, ?_, ?_, ?_⟩; ((first | exact trivial | (simp only [i64ok, true_and, and_true, Int.toNat_natCast]; omega) | (simp only [i64ok, true_and, and_true, Int.toNat_natCast] at *; omega))); rotate_left; ((first | exact con_spec_l06Waiters _ _ | exact con_spec_l03Val _ | assumption)); (rfl); (first | exact .inl rfl | exact .inr (fun id hi => lk3_ok hi))))
    ((refine go_cond hn tb_ok rfl ?_ (fun hc => ?_) (fun hc => ?_); ((first | exact trivial | (simp only [i64ok, true_and, and_true, Int.toNat_natCast]; omega) | (simp only [i64ok, true_and, and_true, Int.toNat_natCast] at *; omega))); all_goals (try (((try simp only [decide_eq_true_eq, decide_eq_false_iff_not, Bool.not_eq_true', Bool.not_eq_false', Bool.not_eq_eq_eq_not, Bool.not_true, Bool.not_false, Int.not_lt, Int.not_le, Int.toNat_natCast, beq_iff_eq, beq_eq_false_iff_ne, ne_eq] at hc); (try (first | simp only [rest_iff, rest_iff', isReg_iff, isReg_iff', isVal_iff, isVal_iff', isIn_iff, isIn_iff', isChan_iff, isChan_iff'] at hc | simp only [(fields_iff _).1, (fields_iff _).2.1, (fields_iff _).2.2, isReg_iff, isReg_iff', isVal_iff, isVal_iff', isIn_iff, isIn_iff', isChan_iff, isChan_iff'] at hc | skip)); try (exfalso; omega))))))
    · ((refine go_ret hn tb_ok rfl ?_ ⟨_, rfl, ?_⟩; ((first | exact trivial | (simp only [i64ok, true_and, and_true, Int.toNat_natCast]; omega) | (simp only [i64ok, true_and, and_true, Int.toNat_natCast] at *; omega)))))
      refine congrArg (fun b => LV.dat (.bool b)) (Eq.symm ?_)
      rw [chanOk, all_no (d := (0 : Int)) hlt (by rw [isVal]; exact decide_eq_false hc)]; simp
    · ((refine go_stop hn tb_ok rfl ?_ ⟨i + 1, ⟨?_, ?_⟩, ?_, ?_⟩; ((first | exact trivial | (simp only [i64ok, true_and, and_true, Int.toNat_natCast]; omega) | (simp only [i64ok, true_and, and_true, Int.toNat_natCast] at *; omega)))))
      · omega
      · exact upto hq (by rw [isVal]; exact decide_eq_true hc)
      · show c.buf.length - (i + 1) < c.buf.length - i; omega
      · ((refine le_of [] ?_ ?_ rfl; ((repeat' (first | exact trivial | refine And.intro rfl ?_))); ((repeat' (first | exact trivial | refine And.intro rfl ?_)))))
  have hbuf := all_yes (l := c.buf) (0 : Int) (f := isVal) (fun j hj => hq j (by omega))
  have hno : chanTail c = false → LV.dat (.bool false) = LV.dat (.bool (chanOk c)) := fun hh => by
    rw [chanOk, hh]; simp
  have hyes : chanOk c = chanTail c := by simp [chanOk, *]
  (repeat' (first
  | (refine go_cond hn tb_ok rfl ?_ (fun hc => ?_) (fun hc => ?_); ((first | exact trivial | (simp only [i64ok, true_and, and_true, Int.toNat_natCast]; omega) | (simp only [i64ok, true_and, and_true, Int.toNat_natCast] at *; omega))); all_goals (try (((try simp only [decide_eq_true_eq, decide_eq_false_iff_not, Bool.not_eq_true', Bool.not_eq_false', Bool.not_eq_eq_eq_not, Bool.not_true, Bool.not_false, Int.not_lt, Int.not_le, Int.toNat_natCast, beq_iff_eq, beq_eq_false_iff_ne, ne_eq] at hc); (try (first | simp only [rest_iff, rest_iff', isReg_iff, isReg_iff', isVal_iff, isVal_iff', isIn_iff, isIn_iff', isChan_iff, isChan_iff'] at hc | simp only [(fields_iff _).1, (fields_iff _).2.1, (fields_iff _).2.2, isReg_iff, isReg_iff', isVal_iff, isVal_iff', isIn_iff, isIn_iff', isChan_iff, isChan_iff'] at hc | skip)); try (exfalso; omega)))))
  | (refine go_ret hn tb_ok rfl ?_ ⟨_, rfl, ?_⟩; ((first | exact trivial | (simp only [i64ok, true_and, and_true, Int.toNat_natCast]; omega) | (simp only [i64ok, true_and, and_true, Int.toNat_natCast] at *; omega))))
  | ((refine go_con hn tb_ok rfl ?_ rfl [] ⟨_, ?_, rfl, ?_, ?_, ?_, ?_⟩; ((first | exact trivial | (simp only [i64ok, true_and, and_true, Int.toNat_natCast]; omega) | (simp only [i64ok, true_and, and_true, Int.toNat_natCast] at *; omega))); rotate_left; ((first | exact con_spec_l06Waiters _ _ | exact con_spec_l03Val _ | assumption)); (rfl); (first | exact .inl rfl | exact .inr (fun id hi => lk3_ok hi))))))
  all_goals (refine congrArg (fun b => LV.dat (.bool b)) (Eq.symm ?_); rw [hyes, chanTail, Bool.eq_iff_iff]; ((
  generalize MChan.closed c = b at *
  cases b <;> simp only [Bool.not_true, Bool.not_false, Bool.and_eq_true, Bool.or_eq_true, decide_eq_true_eq, Bool.false_eq_true, Bool.true_eq_false, reduceCtorEq, and_true, and_false, or_true, or_false, true_and, false_and, true_or, false_or, iff_true, true_iff, iff_false, false_iff, not_true_eq_false, not_false_eq_true] at * <;> omega)))
set_option maxHeartbeats 1000000 in
theorem con_impl_ChanOk (c : MChan) : Con Tryz.prog 135 [.dagg (cChan c)] (.dat (.bool (chanOk c))) := by
  refine con_body (rs := [(.tmp 2, 4)]) tb_ok Tryz.func135 rfl rfl rfl (Nat.le_of_ble_eq_true rfl) fun ho x hn => ?_
  obtain ⟨hb1, hb2, hb3⟩ := okChan (ho _ List.mem_cons_self)
  (repeat' (first
  | (refine go_cond hn tb_ok rfl ?_ (fun hc => ?_) (fun hc => ?_); ((first | exact trivial | (simp only [i64ok, true_and, and_true, Int.toNat_natCast]; omega) | (simp only [i64ok, true_and, and_true, Int.toNat_natCast] at *; omega))); all_goals (try (((try simp only [decide_eq_true_eq, decide_eq_false_iff_not, Bool.not_eq_true', Bool.not_eq_false', Bool.not_eq_eq_eq_not, Bool.not_true, Bool.not_false, Int.not_lt, Int.not_le, Int.toNat_natCast, beq_iff_eq, beq_eq_false_iff_ne, ne_eq] at hc); (try (first | simp only [rest_iff, rest_iff', isReg_iff, isReg_iff', isVal_iff, isVal_iff', isIn_iff, isIn_iff', isChan_iff, isChan_iff'] at hc | simp only [(fields_iff _).1, (fields_iff _).2.1, (fields_iff _).2.2, isReg_iff, isReg_iff', isVal_iff, isVal_iff', isIn_iff, isIn_iff', isChan_iff, isChan_iff'] at hc | skip)); try (exfalso; omega)))))
  | (refine go_ret hn tb_ok rfl ?_ ⟨_, rfl, ?_⟩; ((first | exact trivial | (simp only [i64ok, true_and, and_true, Int.toNat_natCast]; omega) | (simp only [i64ok, true_and, and_true, Int.toNat_natCast] at *; omega))))
  | ((refine go_con hn tb_ok rfl ?_ rfl [] ⟨_, ?_, rfl, ?_, ?_, ?_, ?_⟩; ((first | exact trivial | (simp only [i64ok, true_and, and_true, Int.toNat_natCast]; omega) | (simp only [i64ok, true_and, and_true, Int.toNat_natCast] at *; omega))); rotate_left; ((first | exact con_impl_waiterOk _ | exact con_ContainsFunc _ _ (fun v => !isVal v) con_gor1 | exact con_ContainsFunc _ _ (fun v => !isVal v) con_chan1 | assumption)); (rfl); (first | exact .inl rfl | exact .inr (fun id hi => lk3_ok hi))))))
  all_goals (try (
    refine congrArg (fun b => LV.dat (.bool b)) (Eq.symm ?_)
    rw [chanOk]
    first
      | (rw [chanHead, decide_eq_false (by omega)]; rfl)
      | (rw [any_not, Bool.not_eq_true'] at hc; rw [hc]; simp)))
  have hhd : chanHead c = true := by rw [chanHead]; exact decide_eq_true (by omega)
  have hbuf : c.buf.all isVal = true := by rw [any_not, Bool.not_eq_false'] at hc; exact hc
  clear hc
  ((refine go_loop hn tb_ok rfl ?_ (fun (wI : Nat) wT wM => ((31, .dat (.int .i64 wI)) :: wT, wM)) (fun wI => wI ≤ c.sends.length ∧ (fun i => ∀ j < i, waiterOk true (c.sends.getD j dWaiter) = true) wI) (fun wI => c.sends.length - wI) 0 ⟨Nat.zero_le _, ?_⟩ ?_ ?_; ((first | exact trivial | (simp only [i64ok, true_and, and_true, Int.toNat_natCast]; omega) | (simp only [i64ok, true_and, and_true, Int.toNat_natCast] at *; omega)))))
  · intro j hj; omega
  · ((refine le_of [] ?_ ?_ rfl; ((repeat' (first | exact trivial | refine And.intro rfl ?_))); ((repeat' (first | exact trivial | refine And.intro rfl ?_)))))
  rintro i ⟨hi, hq⟩
  ((refine go_cond hn tb_ok rfl ?_ (fun hc => ?_) (fun hc => ?_); ((first | exact trivial | (simp only [i64ok, true_and, and_true, Int.toNat_natCast]; omega) | (simp only [i64ok, true_and, and_true, Int.toNat_natCast] at *; omega))); all_goals (try (((try simp only [decide_eq_true_eq, decide_eq_false_iff_not, Bool.not_eq_true', Bool.not_eq_false', Bool.not_eq_eq_eq_not, Bool.not_true, Bool.not_false, Int.not_lt, Int.not_le, Int.toNat_natCast, beq_iff_eq, beq_eq_false_iff_ne, ne_eq] at hc); (try (first | simp only [rest_iff, rest_iff', isReg_iff, isReg_iff', isVal_iff, isVal_iff', isIn_iff, isIn_iff', isChan_iff, isChan_iff'] at hc | simp only [(fields_iff _).1, (fields_iff _).2.1, (fields_iff _).2.2, isReg_iff, isReg_iff', isVal_iff, isVal_iff', isIn_iff, isIn_iff', isChan_iff, isChan_iff'] at hc | skip)); try (exfalso; omega))))))
  · have hlt : i < c.sends.length := by omega
    ((refine go_con hn tb_ok rfl ?_ rfl [] ⟨_, ?_, rfl, ?_, ?_, ?_, ?_⟩; ((first | exact trivial | (simp only [i64ok, true_and, and_true, Int.toNat_natCast]; omega) | (simp only [i64ok, true_and, and_true, Int.toNat_natCast] at *; omega))); rotate_left; ((first | exact con_impl_waiterOk _ | exact con_ContainsFunc _ _ (fun v => !isVal v) con_gor1 | exact con_ContainsFunc _ _ (fun v => !isVal v) con_chan1 | assumption)); (rfl); (first | exact .inl rfl | exact .inr (fun id hi => lk3_ok hi))))
    ((refine go_cond hn tb_ok rfl ?_ (fun hc => ?_) (fun hc => ?_); ((first | exact trivial | (simp only [i64ok, true_and, and_true, Int.toNat_natCast]; omega) | (simp only [i64ok, true_and, and_true, Int.toNat_natCast] at *; omega))); all_goals (try (((try simp only [decide_eq_true_eq, decide_eq_false_iff_not, Bool.not_eq_true', Bool.not_eq_false', Bool.not_eq_eq_eq_not, Bool.not_true, Bool.not_false, Int.not_lt, Int.not_le, Int.toNat_natCast, beq_iff_eq, beq_eq_false_iff_ne, ne_eq] at hc); (try (first | simp only [rest_iff, rest_iff', isReg_iff, isReg_iff', isVal_iff, isVal_iff', isIn_iff, isIn_iff', isChan_iff, isChan_iff'] at hc | simp only [(fields_iff _).1, (fields_iff _).2.1, (fields_iff _).2.2, isReg_iff, isReg_iff', isVal_iff, isVal_iff', isIn_iff, isIn_iff', isChan_iff, isChan_iff'] at hc | skip)); try (exfalso; omega))))))
    · ((refine go_ret hn tb_ok rfl ?_ ⟨_, rfl, ?_⟩; ((first | exact trivial | (simp only [i64ok, true_and, and_true, Int.toNat_natCast]; omega) | (simp only [i64ok, true_and, and_true, Int.toNat_natCast] at *; omega)))))
      refine congrArg (fun b => LV.dat (.bool b)) (Eq.symm ?_)
      rw [chanOk, all_no (d := dWaiter) hlt hc]; simp
    · ((refine go_stop hn tb_ok rfl ?_ ⟨i + 1, ⟨?_, ?_⟩, ?_, ?_⟩; ((first | exact trivial | (simp only [i64ok, true_and, and_true, Int.toNat_natCast]; omega) | (simp only [i64ok, true_and, and_true, Int.toNat_natCast] at *; omega)))))
      · omega
      · exact upto hq hc
      · show c.sends.length - (i + 1) < c.sends.length - i; omega
      · ((refine le_of [] ?_ ?_ rfl; ((repeat' (first | exact trivial | refine And.intro rfl ?_))); ((repeat' (first | exact trivial | refine And.intro rfl ?_)))))
  have hsends := all_yes (l := c.sends) dWaiter (f := waiterOk true) (fun j hj => hq j (by omega))
  clear hc hq hi
  ((refine go_loop hn tb_ok rfl ?_ (fun (wI : Nat) wT wM => ((42, .dat (.int .i64 wI)) :: wT, wM)) (fun wI => wI ≤ c.recvs.length ∧ (fun i => ∀ j < i, waiterOk false (c.recvs.getD j dWaiter) = true) wI) (fun wI => c.recvs.length - wI) 0 ⟨Nat.zero_le _, ?_⟩ ?_ ?_; ((first | exact trivial | (simp only [i64ok, true_and, and_true, Int.toNat_natCast]; omega) | (simp only [i64ok, true_and, and_true, Int.toNat_natCast] at *; omega)))))
  · intro j hj; omega
  · ((refine le_of [] ?_ ?_ rfl; ((repeat' (first | exact trivial | refine And.intro rfl ?_))); ((repeat' (first | exact trivial | refine And.intro rfl ?_)))))
  rintro i ⟨hi, hq⟩
  ((refine go_cond hn tb_ok rfl ?_ (fun hc => ?_) (fun hc => ?_); ((first | exact trivial | (simp only [i64ok, true_and, and_true, Int.toNat_natCast]; omega) | (simp only [i64ok, true_and, and_true, Int.toNat_natCast] at *; omega))); all_goals (try (((try simp only [decide_eq_true_eq, decide_eq_false_iff_not, Bool.not_eq_true', Bool.not_eq_false', Bool.not_eq_eq_eq_not, Bool.not_true, Bool.not_false, Int.not_lt, Int.not_le, Int.toNat_natCast, beq_iff_eq, beq_eq_false_iff_ne, ne_eq] at hc); (try (first | simp only [rest_iff, rest_iff', isReg_iff, isReg_iff', isVal_iff, isVal_iff', isIn_iff, isIn_iff', isChan_iff, isChan_iff'] at hc | simp only [(fields_iff _).1, (fields_iff _).2.1, (fields_iff _).2.2, isReg_iff, isReg_iff', isVal_iff, isVal_iff', isIn_iff, isIn_iff', isChan_iff, isChan_iff'] at hc | skip)); try (exfalso; omega))))))
  · have hlt : i < c.recvs.length := by omega
    (repeat' (first
  | (refine go_cond hn tb_ok rfl ?_ (fun hc => ?_) (fun hc => ?_); ((first | exact trivial | (simp only [i64ok, true_and, and_true, Int.toNat_natCast]; omega) | (simp only [i64ok, true_and, and_true, Int.toNat_natCast] at *; omega))); all_goals (try (((try simp only [decide_eq_true_eq, decide_eq_false_iff_not, Bool.not_eq_true', Bool.not_eq_false', Bool.not_eq_eq_eq_not, Bool.not_true, Bool.not_false, Int.not_lt, Int.not_le, Int.toNat_natCast, beq_iff_eq, beq_eq_false_iff_ne, ne_eq] at hc); (try (first | simp only [rest_iff, rest_iff', isReg_iff, isReg_iff', isVal_iff, isVal_iff', isIn_iff, isIn_iff', isChan_iff, isChan_iff'] at hc | simp only [(fields_iff _).1, (fields_iff _).2.1, (fields_iff _).2.2, isReg_iff, isReg_iff', isVal_iff, isVal_iff', isIn_iff, isIn_iff', isChan_iff, isChan_iff'] at hc | skip)); try (exfalso; omega)))))
  | (refine go_ret hn tb_ok rfl ?_ ⟨_, rfl, ?_⟩; ((first | exact trivial | (simp only [i64ok, true_and, and_true, Int.toNat_natCast]; omega) | (simp only [i64ok, true_and, and_true, Int.toNat_natCast] at *; omega))))
  | ((refine go_con hn tb_ok rfl ?_ rfl [] ⟨_, ?_, rfl, ?_, ?_, ?_, ?_⟩; ((first | exact trivial | (simp only [i64ok, true_and, and_true, Int.toNat_natCast]; omega) | (simp only [i64ok, true_and, and_true, Int.toNat_natCast] at *; omega))); rotate_left; ((first | exact con_impl_waiterOk _ | exact con_ContainsFunc _ _ (fun v => !isVal v) con_gor1 | exact con_ContainsFunc _ _ (fun v => !isVal v) con_chan1 | assumption)); (rfl); (first | exact .inl rfl | exact .inr (fun id hi => lk3_ok hi))))))
    all_goals (try (
      refine congrArg (fun b => LV.dat (.bool b)) (Eq.symm ?_)
      rw [chanOk, all_no (d := dWaiter) (l := c.recvs) hlt (by
        rw [waiter_false]
        first
          | (rw [hc]; rfl)
          | (rw [decide_eq_false hc, Bool.and_false]))]
      simp; done))
    ((refine go_stop hn tb_ok rfl ?_ ⟨i + 1, ⟨?_, ?_⟩, ?_, ?_⟩; ((first | exact trivial | (simp only [i64ok, true_and, and_true, Int.toNat_natCast]; omega) | (simp only [i64ok, true_and, and_true, Int.toNat_natCast] at *; omega)))))
    · omega
    · exact upto hq (by rw [waiter_false, decide_eq_true hc, Bool.and_true]; assumption)
    · show c.recvs.length - (i + 1) < c.recvs.length - i; omega
    · ((refine le_of [] ?_ ?_ rfl; ((repeat' (first | exact trivial | refine And.intro rfl ?_))); ((repeat' (first | exact trivial | refine And.intro rfl ?_)))))
  have hrecvs := all_yes (l := c.recvs) dWaiter (f := waiterOk false) (fun j hj => hq j (by omega))
  have hyes : chanOk c = chanTail c := by simp [chanOk, *]
  (repeat' (first
  | (refine go_cond hn tb_ok rfl ?_ (fun hc => ?_) (fun hc => ?_); ((first | exact trivial | (simp only [i64ok, true_and, and_true, Int.toNat_natCast]; omega) | (simp only [i64ok, true_and, and_true, Int.toNat_natCast] at *; omega))); all_goals (try (((try simp only [decide_eq_true_eq, decide_eq_false_iff_not, Bool.not_eq_true', Bool.not_eq_false', Bool.not_eq_eq_eq_not, Bool.not_true, Bool.not_false, Int.not_lt, Int.not_le, Int.toNat_natCast, beq_iff_eq, beq_eq_false_iff_ne, ne_eq] at hc); (try (first | simp only [rest_iff, rest_iff', isReg_iff, isReg_iff', isVal_iff, isVal_iff', isIn_iff, isIn_iff', isChan_iff, isChan_iff'] at hc | simp only [(fields_iff _).1, (fields_iff _).2.1, (fields_iff _).2.2, isReg_iff, isReg_iff', isVal_iff, isVal_iff', isIn_iff, isIn_iff', isChan_iff, isChan_iff'] at hc | skip)); try (exfalso; omega)))))
  | (refine go_ret hn tb_ok rfl ?_ ⟨_, rfl, ?_⟩; ((first | exact trivial | (simp only [i64ok, true_and, and_true, Int.toNat_natCast]; omega) | (simp only [i64ok, true_and, and_true, Int.toNat_natCast] at *; omega))))
  | ((refine go_con hn tb_ok rfl ?_ rfl [] ⟨_, ?_, rfl, ?_, ?_, ?_, ?_⟩; ((first | exact trivial | (simp only [i64ok, true_and, and_true, Int.toNat_natCast]; omega) | (simp only [i64ok, true_and, and_true, Int.toNat_natCast] at *; omega))); rotate_left; ((first | exact con_impl_waiterOk _ | exact con_ContainsFunc _ _ (fun v => !isVal v) con_gor1 | exact con_ContainsFunc _ _ (fun v => !isVal v) con_chan1 | assumption)); (rfl); (first | exact .inl rfl | exact .inr (fun id hi => lk3_ok hi))))))
  all_goals (refine congrArg (fun b => LV.dat (.bool b)) (Eq.symm ?_); rw [hyes, chanTail, Bool.eq_iff_iff]; ((
  generalize MChan.closed c = b at *
  cases b <;> simp only [Bool.not_true, Bool.not_false, Bool.and_eq_true, Bool.or_eq_true, decide_eq_true_eq, Bool.false_eq_true, Bool.true_eq_false, reduceCtorEq, and_true, and_false, or_true, or_false, true_and, false_and, true_or, false_or, iff_true, true_iff, iff_false, false_iff, not_true_eq_false, not_false_eq_true] at * <;> omega)))
def canSend (c : MChan) : Bool := chanOk c && (c.closed || (decide (0 < c.recvs.length) || decide ((c.buf.length : Int) < c.cap)))
def canRecv (c : MChan) : Bool := chanOk c && (decide (0 < c.buf.length) || (decide (0 < c.sends.length) || c.closed))
theorem con_spec_CanSend (c : MChan) : Con Tryz.prog 269 [.dagg (cChan c)] (.dat (.bool (canSend c))) := by
  refine con_body (rs := [(.tmp 2, 4)]) tb_ok Tryz.func269 rfl rfl rfl (Nat.le_of_ble_eq_true rfl) fun ho x hn => ?_
  (repeat' (first
  | (refine go_cond hn tb_ok rfl ?_ (fun hc => ?_) (fun hc => ?_); ((first | exact trivial | (simp only [i64ok, true_and, and_true, Int.toNat_natCast]; omega) | (simp only [i64ok, true_and, and_true, Int.toNat_natCast] at *; omega))); all_goals (try (((try simp only [decide_eq_true_eq, decide_eq_false_iff_not, Bool.not_eq_true', Bool.not_eq_false', Bool.not_eq_eq_eq_not, Bool.not_true, Bool.not_false, Int.not_lt, Int.not_le, Int.toNat_natCast, beq_iff_eq, beq_eq_false_iff_ne, ne_eq] at hc); (try (first | simp only [rest_iff, rest_iff', isReg_iff, isReg_iff', isVal_iff, isVal_iff', isIn_iff, isIn_iff', isChan_iff, isChan_iff'] at hc | simp only [(fields_iff _).1, (fields_iff _).2.1, (fields_iff _).2.2, isReg_iff, isReg_iff', isVal_iff, isVal_iff', isIn_iff, isIn_iff', isChan_iff, isChan_iff'] at hc | skip)); try (exfalso; omega)))))
  | (refine go_ret hn tb_ok rfl ?_ ⟨_, rfl, ?_⟩; ((first | exact trivial | (simp only [i64ok, true_and, and_true, Int.toNat_natCast]; omega) | (simp only [i64ok, true_and, and_true, Int.toNat_natCast] at *; omega))))
  | ((refine go_con hn tb_ok rfl ?_ rfl [] ⟨_, ?_, rfl, ?_, ?_, ?_, ?_⟩; ((first | exact trivial | (simp only [i64ok, true_and, and_true, Int.toNat_natCast]; omega) | (simp only [i64ok, true_and, and_true, Int.toNat_natCast] at *; omega))); rotate_left; ((first | exact con_spec_ChanOk _ | assumption)); (rfl); (first | exact .inl rfl | exact .inr (fun id hi => lk3_ok hi))))))
  all_goals (refine congrArg (fun b => LV.dat (.bool b)) (Eq.symm ?_); rw [canSend, Bool.eq_iff_iff]; generalize chanOk c = a at *; cases a <;> ((
  generalize MChan.closed c = b at *
  cases b <;> simp only [Bool.not_true, Bool.not_false, Bool.and_eq_true, Bool.or_eq_true, decide_eq_true_eq, Bool.false_eq_true, Bool.true_eq_false, reduceCtorEq, and_true, and_false, or_true, or_false, true_and, false_and, true_or, false_or, iff_true, true_iff, iff_false, false_iff, not_true_eq_false, not_false_eq_true] at * <;> omega)))
theorem con_impl_CanSend (c : MChan) : Con Tryz.prog 239 [.dagg (cChan c)] (.dat (.bool (canSend c))) := by
  refine con_body (rs := [(.tmp 2, 4)]) tb_ok Tryz.func239 rfl rfl rfl (Nat.le_of_ble_eq_true rfl) fun ho x hn => ?_
  (repeat' (first
  | (refine go_cond hn tb_ok rfl ?_ (fun hc => ?_) (fun hc => ?_); ((first | exact trivial | (simp only [i64ok, true_and, and_true, Int.toNat_natCast]; omega) | (simp only [i64ok, true_and, and_true, Int.toNat_natCast] at *; omega))); all_goals (try (((try simp only [decide_eq_true_eq, decide_eq_false_iff_not, Bool.not_eq_true', Bool.not_eq_false', Bool.not_eq_eq_eq_not, Bool.not_true, Bool.not_false, Int.not_lt, Int.not_le, Int.toNat_natCast, beq_iff_eq, beq_eq_false_iff_ne, ne_eq] at hc); (try (first | simp only [rest_iff, rest_iff', isReg_iff, isReg_iff', isVal_iff, isVal_iff', isIn_iff, isIn_iff', isChan_iff, isChan_iff'] at hc | simp only [(fields_iff _).1, (fields_iff _).2.1, (fields_iff _).2.2, isReg_iff, isReg_iff', isVal_iff, isVal_iff', isIn_iff, isIn_iff', isChan_iff, isChan_iff'] at hc | skip)); try (exfalso; omega)))))
  | (refine go_ret hn tb_ok rfl ?_ ⟨_, rfl, ?_⟩; ((first | exact trivial | (simp only [i64ok, true_and, and_true, Int.toNat_natCast]; omega) | (simp only [i64ok, true_and, and_true, Int.toNat_natCast] at *; omega))))
  | ((refine go_con hn tb_ok rfl ?_ rfl [] ⟨_, ?_, rfl, ?_, ?_, ?_, ?_⟩; ((first | exact trivial | (simp only [i64ok, true_and, and_true, Int.toNat_natCast]; omega) | (simp only [i64ok, true_and, and_true, Int.toNat_natCast] at *; omega))); rotate_left; ((first | exact con_impl_ChanOk _ | assumption)); (rfl); (first | exact .inl rfl | exact .inr (fun id hi => lk3_ok hi))))))
  all_goals (refine congrArg (fun b => LV.dat (.bool b)) (Eq.symm ?_); rw [canSend, Bool.eq_iff_iff]; generalize chanOk c = a at *; cases a <;> ((
  generalize MChan.closed c = b at *
  cases b <;> simp only [Bool.not_true, Bool.not_false, Bool.and_eq_true, Bool.or_eq_true, decide_eq_true_eq, Bool.false_eq_true, Bool.true_eq_false, reduceCtorEq, and_true, and_false, or_true, or_false, true_and, false_and, true_or, false_or, iff_true, true_iff, iff_false, false_iff, not_true_eq_false, not_false_eq_true] at * <;> omega)))
theorem con_spec_CanRecv (c : MChan) : Con Tryz.prog 270 [.dagg (cChan c)] (.dat (.bool (canRecv c))) := by
  refine con_body (rs := [(.tmp 2, 4)]) tb_ok Tryz.func270 rfl rfl rfl (Nat.le_of_ble_eq_true rfl) fun ho x hn => ?_
  (repeat' (first
  | (refine go_cond hn tb_ok rfl ?_ (fun hc => ?_) (fun hc => ?_); ((first | exact trivial | (simp only [i64ok, true_and, and_true, Int.toNat_natCast]; omega) | (simp only [i64ok, true_and, and_true, Int.toNat_natCast] at *; omega))); all_goals (try (((try simp only [decide_eq_true_eq, decide_eq_false_iff_not, Bool.not_eq_true', Bool.not_eq_false', Bool.not_eq_eq_eq_not, Bool.not_true, Bool.not_false, Int.not_lt, Int.not_le, Int.toNat_natCast, beq_iff_eq, beq_eq_false_iff_ne, ne_eq] at hc); (try (first | simp only [rest_iff, rest_iff', isReg_iff, isReg_iff', isVal_iff, isVal_iff', isIn_iff, isIn_iff', isChan_iff, isChan_iff'] at hc | simp only [(fields_iff _).1, (fields_iff _).2.1, (fields_iff _).2.2, isReg_iff, isReg_iff', isVal_iff, isVal_iff', isIn_iff, isIn_iff', isChan_iff, isChan_iff'] at hc | skip)); try (exfalso; omega)))))
  | (refine go_ret hn tb_ok rfl ?_ ⟨_, rfl, ?_⟩; ((first | exact trivial | (simp only [i64ok, true_and, and_true, Int.toNat_natCast]; omega) | (simp only [i64ok, true_and, and_true, Int.toNat_natCast] at *; omega))))
  | ((refine go_con hn tb_ok rfl ?_ rfl [] ⟨_, ?_, rfl, ?_, ?_, ?_, ?_⟩; ((first | exact trivial | (simp only [i64ok, true_and, and_true, Int.toNat_natCast]; omega) | (simp only [i64ok, true_and, and_true, Int.toNat_natCast] at *; omega))); rotate_left; ((first | exact con_spec_ChanOk _ | assumption)); (rfl); (first | exact .inl rfl | exact .inr (fun id hi => lk3_ok hi))))))
  all_goals (refine congrArg (fun b => LV.dat (.bool b)) (Eq.symm ?_); rw [canRecv, Bool.eq_iff_iff]; generalize chanOk c = a at *; cases a <;> ((
  generalize MChan.closed c = b at *
  cases b <;> simp only [Bool.not_true, Bool.not_false, Bool.and_eq_true, Bool.or_eq_true, decide_eq_true_eq, Bool.false_eq_true, Bool.true_eq_false, reduceCtorEq, and_true, and_false, or_true, or_false, true_and, false_and, true_or, false_or, iff_true, true_iff, iff_false, false_iff, not_true_eq_false, not_false_eq_true] at * <;> omega)))
theorem con_impl_CanRecv (c : MChan) : Con Tryz.prog 240 [.dagg (cChan c)] (.dat (.bool (canRecv c))) := by
  refine con_body (rs := [(.tmp 2, 4)]) tb_ok Tryz.func240 rfl rfl rfl (Nat.le_of_ble_eq_true rfl) fun ho x hn => ?_
  (repeat' (first
  | (refine go_cond hn tb_ok rfl ?_ (fun hc => ?_) (fun hc => ?_); ((first | exact trivial | (simp only [i64ok, true_and, and_true, Int.toNat_natCast]; omega) | (simp only [i64ok, true_and, and_true, Int.toNat_natCast] at *; omega))); all_goals (try (((try simp only [decide_eq_true_eq, decide_eq_false_iff_not, Bool.not_eq_true', Bool.not_eq_false', Bool.not_eq_eq_eq_not, Bool.not_true, Bool.not_false, Int.not_lt, Int.not_le, Int.toNat_natCast, beq_iff_eq, beq_eq_false_iff_ne, ne_eq] at hc); (try (first | simp only [rest_iff, rest_iff', isReg_iff, isReg_iff', isVal_iff, isVal_iff', isIn_iff, isIn_iff', isChan_iff, isChan_iff'] at hc | simp only [(fields_iff _).1, (fields_iff _).2.1, (fields_iff _).2.2, isReg_iff, isReg_iff', isVal_iff, isVal_iff', isIn_iff, isIn_iff', isChan_iff, isChan_iff'] at hc | skip)); try (exfalso; omega)))))
  | (refine go_ret hn tb_ok rfl ?_ ⟨_, rfl, ?_⟩; ((first | exact trivial | (simp only [i64ok, true_and, and_true, Int.toNat_natCast]; omega) | (simp only [i64ok, true_and, and_true, Int.toNat_natCast] at *; omega))))
  | ((refine go_con hn tb_ok rfl ?_ rfl [] ⟨_, ?_, rfl, ?_, ?_, ?_, ?_⟩; ((first | exact trivial | (simp only [i64ok, true_and, and_true, Int.toNat_natCast]; omega) | (simp only [i64ok, true_and, and_true, Int.toNat_natCast] at *; omega))); rotate_left; ((first | exact con_impl_ChanOk _ | assumption)); (rfl); (first | exact .inl rfl | exact .inr (fun id hi => lk3_ok hi))))))
  all_goals (refine congrArg (fun b => LV.dat (.bool b)) (Eq.symm ?_); rw [canRecv, Bool.eq_iff_iff]; generalize chanOk c = a at *; cases a <;> ((
  generalize MChan.closed c = b at *
  cases b <;> simp only [Bool.not_true, Bool.not_false, Bool.and_eq_true, Bool.or_eq_true, decide_eq_true_eq, Bool.false_eq_true, Bool.true_eq_false, reduceCtorEq, and_true, and_false, or_true, or_false, true_and, false_and, true_or, false_or, iff_true, true_iff, iff_false, false_iff, not_true_eq_false, not_false_eq_true] at * <;> omega)))
end Go.Proofs.YtjmefaihkblliaaGreat.Ab
/- Mutexes and items: both programs' MutexOk, ItemOk, Instrs, walked by the abstract machine. Conditions: none. -/
namespace Go.Proofs.YtjmefaihkblliaaGreat.Ab
set_option linter.unusedVariables false
set_option linter.unusedSimpArgs false
set_option maxRecDepth 100000
theorem mem_of_getD {α : Type} {l : List α} {d : α} {k : Nat} (hk : k < l.length) : l.getD k d ∈ l := List.mem_of_getElem? (getD_of hk)
theorem not_mem_getD {l : List Int} {v : Int} (h : ∀ j < l.length, ¬ l.getD j 0 = v) : ¬ v ∈ l := fun hm => by
  obtain ⟨j, hj⟩ := List.mem_iff_getElem?.1 hm
  have := h j (List.getElem?_eq_some_iff.1 hj).1
  rw [List.getD_eq_getElem?_getD, hj] at this
  exact this rfl
theorem con_spec_l07Has (l : List Int) (v : Int) : Con Tryz.prog 230 [.dat (ints l), .dat (.int .i64 v)] (.dat (.bool (decide (v ∈ l)))) := by
  refine con_body (rs := [(.tmp 4, 4)]) tb_ok Tryz.func230 rfl rfl rfl (Nat.le_of_ble_eq_true rfl) fun ho x hn => ?_
  have hb : l.length ≤ (9223372036854775807 : Nat) := (Okc.len (ho (.dat (ints l)) (by simp)))
  ((refine go_loop hn tb_ok rfl ?_ (fun (wI : Nat) wT wM => ((9, .dat (.int .i64 wI)) :: wT, wM)) (fun wI => wI ≤ l.length ∧ (fun i => ∀ j < i, ¬ l.getD j 0 = v) wI) (fun wI => l.length - wI) 0 ⟨Nat.zero_le _, ?_⟩ ?_ ?_; ((first | exact trivial | (simp only [i64ok, true_and, and_true, Int.toNat_natCast]; omega) | (simp only [i64ok, true_and, and_true, Int.toNat_natCast] at *; omega)))))
  · intro j hj; omega
  · ((refine le_of [] ?_ ?_ rfl; ((repeat' (first | exact trivial | refine And.intro rfl ?_))); ((repeat' (first | exact trivial | refine And.intro rfl ?_)))))
  rintro i ⟨hi, hq⟩
  ((refine go_cond hn tb_ok rfl ?_ (fun hc => ?_) (fun hc => ?_); ((first | exact trivial | (simp only [i64ok, true_and, and_true, Int.toNat_natCast]; omega) | (simp only [i64ok, true_and, and_true, Int.toNat_natCast] at *; omega))); all_goals (try (((try simp only [decide_eq_true_eq, decide_eq_false_iff_not, Bool.not_eq_true', Bool.not_eq_false', Bool.not_eq_eq_eq_not, Bool.not_true, Bool.not_false, Int.not_lt, Int.not_le, Int.toNat_natCast, beq_iff_eq, beq_eq_false_iff_ne, ne_eq] at hc); (try (first | simp only [rest_iff, rest_iff', isReg_iff, isReg_iff', isVal_iff, isVal_iff', isIn_iff, isIn_iff', isChan_iff, isChan_iff'] at hc | simp only [(fields_iff _).1, (fields_iff _).2.1, (fields_iff _).2.2, isReg_iff, isReg_iff', isVal_iff, isVal_iff', isIn_iff, isIn_iff', isChan_iff, isChan_iff'] at hc | skip)); try (exfalso; omega))))))
  · have hlt : i < l.length := by omega
    ((refine go_cond hn tb_ok rfl ?_ (fun hc => ?_) (fun hc => ?_); ((first | exact trivial | (simp only [i64ok, true_and, and_true, Int.toNat_natCast]; omega) | (simp only [i64ok, true_and, and_true, Int.toNat_natCast] at *; omega))); all_goals (try (((try simp only [decide_eq_true_eq, decide_eq_false_iff_not, Bool.not_eq_true', Bool.not_eq_false', Bool.not_eq_eq_eq_not, Bool.not_true, Bool.not_false, Int.not_lt, Int.not_le, Int.toNat_natCast, beq_iff_eq, beq_eq_false_iff_ne, ne_eq] at hc); (try (first | simp only [rest_iff, rest_iff', isReg_iff, isReg_iff', isVal_iff, isVal_iff', isIn_iff, isIn_iff', isChan_iff, isChan_iff'] at hc | simp only [(fields_iff _).1, (fields_iff _).2.1, (fields_iff _).2.2, isReg_iff, isReg_iff', isVal_iff, isVal_iff', isIn_iff, isIn_iff', isChan_iff, isChan_iff'] at hc | skip)); try (exfalso; omega))))))
    · ((refine go_ret hn tb_ok rfl ?_ ⟨_, rfl, ?_⟩; ((first | exact trivial | (simp only [i64ok, true_and, and_true, Int.toNat_natCast]; omega) | (simp only [i64ok, true_and, and_true, Int.toNat_natCast] at *; omega)))))
      refine congrArg (fun b => LV.dat (.bool b)) (Eq.symm (decide_eq_true ?_))
      rw [← hc]; exact mem_of_getD hlt
    · ((refine go_stop hn tb_ok rfl ?_ ⟨i + 1, ⟨?_, ?_⟩, ?_, ?_⟩; ((first | exact trivial | (simp only [i64ok, true_and, and_true, Int.toNat_natCast]; omega) | (simp only [i64ok, true_and, and_true, Int.toNat_natCast] at *; omega)))))
      · omega
      · exact upto hq hc
      · show l.length - (i + 1) < l.length - i; omega
      · ((refine le_of [] ?_ ?_ rfl; ((repeat' (first | exact trivial | refine And.intro rfl ?_))); ((repeat' (first | exact trivial | refine And.intro rfl ?_)))))
  · ((refine go_ret hn tb_ok rfl ?_ ⟨_, rfl, ?_⟩; ((first | exact trivial | (simp only [i64ok, true_and, and_true, Int.toNat_natCast]; omega) | (simp only [i64ok, true_and, and_true, Int.toNat_natCast] at *; omega)))))
    exact congrArg (fun b => LV.dat (.bool b)) (Eq.symm (decide_eq_false (not_mem_getD fun j hj => hq j (by omega))))
def mutHead (m : MMutex) : Bool := decide (-1 ≤ m.owner ∧ (m.owner = -1 → m.wait.length = 0))
def waitOk (m : MMutex) (k : Nat) : Bool := decide (0 ≤ m.wait.getD k 0 ∧ ¬ m.wait.getD k 0 = m.owner) && !decide (m.wait.getD k 0 ∈ (m.wait.take k).drop 0)
def mutexOk (m : MMutex) : Bool := mutHead m && (List.range m.wait.length).all (waitOk m)
theorem con_spec_MutexOk (m : MMutex) : Con Tryz.prog 176 [.dagg (cMutex m)] (.dat (.bool (mutexOk m))) := by
  refine con_body (rs := [(.tmp 2, 4)]) tb_ok Tryz.func176 rfl rfl rfl (Nat.le_of_ble_eq_true rfl) fun ho x hn => ?_
  have hb : m.wait.length ≤ (9223372036854775807 : Nat) := (ho (.dagg (cMutex m)) (by simp) (ints m.wait) (by simp [cMutex])).len
  (repeat' (first
  | (refine go_cond hn tb_ok rfl ?_ (fun hc => ?_) (fun hc => ?_); ((first | exact trivial | (simp only [i64ok, true_and, and_true, Int.toNat_natCast]; omega) | (simp only [i64ok, true_and, and_true, Int.toNat_natCast] at *; omega))); all_goals (try (((try simp only [decide_eq_true_eq, decide_eq_false_iff_not, Bool.not_eq_true', Bool.not_eq_false', Bool.not_eq_eq_eq_not, Bool.not_true, Bool.not_false, Int.not_lt, Int.not_le, Int.toNat_natCast, beq_iff_eq, beq_eq_false_iff_ne, ne_eq] at hc); (try (first | simp only [rest_iff, rest_iff', isReg_iff, isReg_iff', isVal_iff, isVal_iff', isIn_iff, isIn_iff', isChan_iff, isChan_iff'] at hc | simp only [(fields_iff _).1, (fields_iff _).2.1, (fields_iff _).2.2, isReg_iff, isReg_iff', isVal_iff, isVal_iff', isIn_iff, isIn_iff', isChan_iff, isChan_iff'] at hc | skip)); try (exfalso; omega)))))
  | (refine go_ret hn tb_ok rfl ?_ ⟨_, rfl, ?_⟩; ((first | exact trivial | (simp only [i64ok, true_and, and_true, Int.toNat_natCast]; omega) | (simp only [i64ok, true_and, and_true, Int.toNat_natCast] at *; omega))))
  | ((refine go_con hn tb_ok rfl ?_ rfl [] ⟨_, ?_, rfl, ?_, ?_, ?_, ?_⟩; ((first | exact trivial | (simp only [i64ok, true_and, and_true, Int.toNat_natCast]; omega) | (simp only [i64ok, true_and, and_true, Int.toNat_natCast] at *; omega))); rotate_left; ((first | exact con_spec_l07Has _ _ | assumption)); (rfl); (first | exact .inl rfl | exact .inr (fun id hi => lk3_ok hi))))))
  all_goals (try (
    refine congrArg (fun b => LV.dat (.bool b)) (Eq.symm ?_)
    rw [mutexOk, mutHead, decide_eq_false (by omega), Bool.false_and]))
  all_goals (
    have hhd : mutHead m = true := by rw [mutHead]; exact decide_eq_true (by omega)
    ((refine go_loop hn tb_ok rfl ?_ (fun (wI : Nat) wT wM => ((22, .dat (.int .i64 wI)) :: wT, wM)) (fun wI => wI ≤ m.wait.length ∧ (fun i => ∀ j < i, waitOk m j = true) wI) (fun wI => m.wait.length - wI) 0 ⟨Nat.zero_le _, ?_⟩ ?_ ?_; ((first | exact trivial | (simp only [i64ok, true_and, and_true, Int.toNat_natCast]; omega) | (simp only [i64ok, true_and, and_true, Int.toNat_natCast] at *; omega)))))
    · intro j hj; omega
    · ((refine le_of [] ?_ ?_ rfl; ((repeat' (first | exact trivial | refine And.intro rfl ?_))); ((repeat' (first | exact trivial | refine And.intro rfl ?_)))))
    rintro i ⟨hi, hq⟩
    ((refine go_cond hn tb_ok rfl ?_ (fun hc => ?_) (fun hc => ?_); ((first | exact trivial | (simp only [i64ok, true_and, and_true, Int.toNat_natCast]; omega) | (simp only [i64ok, true_and, and_true, Int.toNat_natCast] at *; omega))); all_goals (try simp only [decide_eq_true_eq, decide_eq_false_iff_not, Bool.not_eq_true', Bool.not_eq_false', Int.not_lt, Int.not_le, Int.toNat_natCast] at hc)))
    · have hlt : i < m.wait.length := by omega
      (repeat' (first
  | (refine go_cond hn tb_ok rfl ?_ (fun hc => ?_) (fun hc => ?_); ((first | exact trivial | (simp only [i64ok, true_and, and_true, Int.toNat_natCast]; omega) | (simp only [i64ok, true_and, and_true, Int.toNat_natCast] at *; omega))); all_goals (try (((try simp only [decide_eq_true_eq, decide_eq_false_iff_not, Bool.not_eq_true', Bool.not_eq_false', Bool.not_eq_eq_eq_not, Bool.not_true, Bool.not_false, Int.not_lt, Int.not_le, Int.toNat_natCast, beq_iff_eq, beq_eq_false_iff_ne, ne_eq] at hc); (try (first | simp only [rest_iff, rest_iff', isReg_iff, isReg_iff', isVal_iff, isVal_iff', isIn_iff, isIn_iff', isChan_iff, isChan_iff'] at hc | simp only [(fields_iff _).1, (fields_iff _).2.1, (fields_iff _).2.2, isReg_iff, isReg_iff', isVal_iff, isVal_iff', isIn_iff, isIn_iff', isChan_iff, isChan_iff'] at hc | skip)); try (exfalso; omega)))))
  | (refine go_ret hn tb_ok rfl ?_ ⟨_, rfl, ?_⟩; ((first | exact trivial | (simp only [i64ok, true_and, and_true, Int.toNat_natCast]; omega) | (simp only [i64ok, true_and, and_true, Int.toNat_natCast] at *; omega))))
  | ((refine go_con hn tb_ok rfl ?_ rfl [] ⟨_, ?_, rfl, ?_, ?_, ?_, ?_⟩; ((first | exact trivial | (simp only [i64ok, true_and, and_true, Int.toNat_natCast]; omega) | (simp only [i64ok, true_and, and_true, Int.toNat_natCast] at *; omega))); rotate_left; ((first | exact con_spec_l07Has _ _ | assumption)); (rfl); (first | exact .inl rfl | exact .inr (fun id hi => lk3_ok hi))))))
      all_goals (try (
        refine congrArg (fun b => LV.dat (.bool b)) (Eq.symm ?_)
        rw [mutexOk, range_no hlt (by rw [waitOk, decide_eq_false (by omega), Bool.false_and]), Bool.and_false]))
      all_goals (
        ((refine go_cut hn tb_ok 0 i rfl ?_ rfl rfl rfl rfl rfl ?_ ?_ ?_ ?_ ?_; ((first | exact trivial | (simp only [i64ok, true_and, and_true, Int.toNat_natCast]; omega) | (simp only [i64ok, true_and, and_true, Int.toNat_natCast] at *; omega))); ((first | exact .inl ⟨rfl, rfl⟩ | exact Bnd.some .i64 rfl)); ((first | exact .inl ⟨rfl, rfl⟩ | exact Bnd.some .i64 rfl)); (first | exact Nat.zero_le _ | omega); (first | exact Nat.le_refl _ | omega)))
        (repeat' (first
  | (refine go_cond hn tb_ok rfl ?_ (fun hc => ?_) (fun hc => ?_); ((first | exact trivial | (simp only [i64ok, true_and, and_true, Int.toNat_natCast]; omega) | (simp only [i64ok, true_and, and_true, Int.toNat_natCast] at *; omega))); all_goals (try (((try simp only [decide_eq_true_eq, decide_eq_false_iff_not, Bool.not_eq_true', Bool.not_eq_false', Bool.not_eq_eq_eq_not, Bool.not_true, Bool.not_false, Int.not_lt, Int.not_le, Int.toNat_natCast, beq_iff_eq, beq_eq_false_iff_ne, ne_eq] at hc); (try (first | simp only [rest_iff, rest_iff', isReg_iff, isReg_iff', isVal_iff, isVal_iff', isIn_iff, isIn_iff', isChan_iff, isChan_iff'] at hc | simp only [(fields_iff _).1, (fields_iff _).2.1, (fields_iff _).2.2, isReg_iff, isReg_iff', isVal_iff, isVal_iff', isIn_iff, isIn_iff', isChan_iff, isChan_iff'] at hc | skip)); try (exfalso; omega)))))
  | (refine go_ret hn tb_ok rfl ?_ ⟨_, rfl, ?_⟩; ((first | exact trivial | (simp only [i64ok, true_and, and_true, Int.toNat_natCast]; omega) | (simp only [i64ok, true_and, and_true, Int.toNat_natCast] at *; omega))))
  | ((refine go_con hn tb_ok rfl ?_ rfl [] ⟨_, ?_, rfl, ?_, ?_, ?_, ?_⟩; ((first | exact trivial | (simp only [i64ok, true_and, and_true, Int.toNat_natCast]; omega) | (simp only [i64ok, true_and, and_true, Int.toNat_natCast] at *; omega))); rotate_left; ((first | exact con_spec_l07Has _ _ | assumption)); (rfl); (first | exact .inl rfl | exact .inr (fun id hi => lk3_ok hi))))))
        · refine congrArg (fun b => LV.dat (.bool b)) (Eq.symm ?_)
          rw [mutexOk, range_no hlt (by rw [waitOk, decide_eq_true hc, Bool.not_true, Bool.and_false]), Bool.and_false]
        · ((refine go_stop hn tb_ok rfl ?_ ⟨i + 1, ⟨?_, ?_⟩, ?_, ?_⟩; ((first | exact trivial | (simp only [i64ok, true_and, and_true, Int.toNat_natCast]; omega) | (simp only [i64ok, true_and, and_true, Int.toNat_natCast] at *; omega)))))
          · omega
          · exact upto hq (by rw [waitOk, decide_eq_false hc, decide_eq_true (by omega)]; rfl)
          · show m.wait.length - (i + 1) < m.wait.length - i; omega
          · ((refine le_of [] ?_ ?_ rfl; ((repeat' (first | exact trivial | refine And.intro rfl ?_))); ((repeat' (first | exact trivial | refine And.intro rfl ?_))))))
    · ((refine go_ret hn tb_ok rfl ?_ ⟨_, rfl, ?_⟩; ((first | exact trivial | (simp only [i64ok, true_and, and_true, Int.toNat_natCast]; omega) | (simp only [i64ok, true_and, and_true, Int.toNat_natCast] at *; omega)))))
      refine congrArg (fun b => LV.dat (.bool b)) (Eq.symm ?_)
      rw [mutexOk, hhd, range_yes (fun j hj => hq j (by omega))]; rfl)
theorem con_impl_MutexOk (m : MMutex) : Con Tryz.prog 136 [.dagg (cMutex m)] (.dat (.bool (mutexOk m))) := by
  refine con_body (rs := [(.tmp 2, 4)]) tb_ok Tryz.func136 rfl rfl rfl (Nat.le_of_ble_eq_true rfl) fun ho x hn => ?_
  have hb : m.wait.length ≤ (9223372036854775807 : Nat) := (ho (.dagg (cMutex m)) (by simp) (ints m.wait) (by simp [cMutex])).len
  (repeat' (first
  | (refine go_cond hn tb_ok rfl ?_ (fun hc => ?_) (fun hc => ?_); ((first | exact trivial | (simp only [i64ok, true_and, and_true, Int.toNat_natCast]; omega) | (simp only [i64ok, true_and, and_true, Int.toNat_natCast] at *; omega))); all_goals (try (((try simp only [decide_eq_true_eq, decide_eq_false_iff_not, Bool.not_eq_true', Bool.not_eq_false', Bool.not_eq_eq_eq_not, Bool.not_true, Bool.not_false, Int.not_lt, Int.not_le, Int.toNat_natCast, beq_iff_eq, beq_eq_false_iff_ne, ne_eq] at hc); (try (first | simp only [rest_iff, rest_iff', isReg_iff, isReg_iff', isVal_iff, isVal_iff', isIn_iff, isIn_iff', isChan_iff, isChan_iff'] at hc | simp only [(fields_iff _).1, (fields_iff _).2.1, (fields_iff _).2.2, isReg_iff, isReg_iff', isVal_iff, isVal_iff', isIn_iff, isIn_iff', isChan_iff, isChan_iff'] at hc | skip)); try (exfalso; omega)))))
  | (refine go_ret hn tb_ok rfl ?_ ⟨_, rfl, ?_⟩; ((first | exact trivial | (simp only [i64ok, true_and, and_true, Int.toNat_natCast]; omega) | (simp only [i64ok, true_and, and_true, Int.toNat_natCast] at *; omega))))
  | ((refine go_con hn tb_ok rfl ?_ rfl [] ⟨_, ?_, rfl, ?_, ?_, ?_, ?_⟩; ((first | exact trivial | (simp only [i64ok, true_and, and_true, Int.toNat_natCast]; omega) | (simp only [i64ok, true_and, and_true, Int.toNat_natCast] at *; omega))); rotate_left; ((first | exact con_Contains _ _ | assumption)); (rfl); (first | exact .inl rfl | exact .inr (fun id hi => lk3_ok hi))))))
  all_goals (try (
    refine congrArg (fun b => LV.dat (.bool b)) (Eq.symm ?_)
    rw [mutexOk, mutHead, decide_eq_false (by omega), Bool.false_and]))
  all_goals (
    have hhd : mutHead m = true := by rw [mutHead]; exact decide_eq_true (by omega)
    ((refine go_loop hn tb_ok rfl ?_ (fun (wI : Nat) wT wM => ((22, .dat (.int .i64 wI)) :: wT, wM)) (fun wI => wI ≤ m.wait.length ∧ (fun i => ∀ j < i, waitOk m j = true) wI) (fun wI => m.wait.length - wI) 0 ⟨Nat.zero_le _, ?_⟩ ?_ ?_; ((first | exact trivial | (simp only [i64ok, true_and, and_true, Int.toNat_natCast]; omega) | (simp only [i64ok, true_and, and_true, Int.toNat_natCast] at *; omega)))))
    · intro j hj; omega
    · ((refine le_of [] ?_ ?_ rfl; ((repeat' (first | exact trivial | refine And.intro rfl ?_))); ((repeat' (first | exact trivial | refine And.intro rfl ?_)))))
    rintro i ⟨hi, hq⟩
    ((refine go_cond hn tb_ok rfl ?_ (fun hc => ?_) (fun hc => ?_); ((first | exact trivial | (simp only [i64ok, true_and, and_true, Int.toNat_natCast]; omega) | (simp only [i64ok, true_and, and_true, Int.toNat_natCast] at *; omega))); all_goals (try simp only [decide_eq_true_eq, decide_eq_false_iff_not, Bool.not_eq_true', Bool.not_eq_false', Int.not_lt, Int.not_le, Int.toNat_natCast] at hc)))
    · have hlt : i < m.wait.length := by omega
      (repeat' (first
  | (refine go_cond hn tb_ok rfl ?_ (fun hc => ?_) (fun hc => ?_); ((first | exact trivial | (simp only [i64ok, true_and, and_true, Int.toNat_natCast]; omega) | (simp only [i64ok, true_and, and_true, Int.toNat_natCast] at *; omega))); all_goals (try (((try simp only [decide_eq_true_eq, decide_eq_false_iff_not, Bool.not_eq_true', Bool.not_eq_false', Bool.not_eq_eq_eq_not, Bool.not_true, Bool.not_false, Int.not_lt, Int.not_le, Int.toNat_natCast, beq_iff_eq, beq_eq_false_iff_ne, ne_eq] at hc); (try (first | simp only [rest_iff, rest_iff', isReg_iff, isReg_iff', isVal_iff, isVal_iff', isIn_iff, isIn_iff', isChan_iff, isChan_iff'] at hc | simp only [(fields_iff _).1, (fields_iff _).2.1, (fields_iff _).2.2, isReg_iff, isReg_iff', isVal_iff, isVal_iff', isIn_iff, isIn_iff', isChan_iff, isChan_iff'] at hc | skip)); try (exfalso; omega)))))
  | (refine go_ret hn tb_ok rfl ?_ ⟨_, rfl, ?_⟩; ((first | exact trivial | (simp only [i64ok, true_and, and_true, Int.toNat_natCast]; omega) | (simp only [i64ok, true_and, and_true, Int.toNat_natCast] at *; omega))))
  | ((refine go_con hn tb_ok rfl ?_ rfl [] ⟨_, ?_, rfl, ?_, ?_, ?_, ?_⟩; ((first | exact trivial | (simp only [i64ok, true_and, and_true, Int.toNat_natCast]; omega) | (simp only [i64ok, true_and, and_true, Int.toNat_natCast] at *; omega))); rotate_left; ((first | exact con_Contains _ _ | assumption)); (rfl); (first | exact .inl rfl | exact .inr (fun id hi => lk3_ok hi))))))
      all_goals (try (
        refine congrArg (fun b => LV.dat (.bool b)) (Eq.symm ?_)
        rw [mutexOk, range_no hlt (by rw [waitOk, decide_eq_false (by omega), Bool.false_and]), Bool.and_false]))
      all_goals (
        ((refine go_cut hn tb_ok 0 i rfl ?_ rfl rfl rfl rfl rfl ?_ ?_ ?_ ?_ ?_; ((first | exact trivial | (simp only [i64ok, true_and, and_true, Int.toNat_natCast]; omega) | (simp only [i64ok, true_and, and_true, Int.toNat_natCast] at *; omega))); ((first | exact .inl ⟨rfl, rfl⟩ | exact Bnd.some .i64 rfl)); ((first | exact .inl ⟨rfl, rfl⟩ | exact Bnd.some .i64 rfl)); (first | exact Nat.zero_le _ | omega); (first | exact Nat.le_refl _ | omega)))
        (repeat' (first
  | (refine go_cond hn tb_ok rfl ?_ (fun hc => ?_) (fun hc => ?_); ((first | exact trivial | (simp only [i64ok, true_and, and_true, Int.toNat_natCast]; omega) | (simp only [i64ok, true_and, and_true, Int.toNat_natCast] at *; omega))); all_goals (try (((try simp only [decide_eq_true_eq, decide_eq_false_iff_not, Bool.not_eq_true', Bool.not_eq_false', Bool.not_eq_eq_eq_not, Bool.not_true, Bool.not_false, Int.not_lt, Int.not_le, Int.toNat_natCast, beq_iff_eq, beq_eq_false_iff_ne, ne_eq] at hc); (try (first | simp only [rest_iff, rest_iff', isReg_iff, isReg_iff', isVal_iff, isVal_iff', isIn_iff, isIn_iff', isChan_iff, isChan_iff'] at hc | simp only [(fields_iff _).1, (fields_iff _).2.1, (fields_iff _).2.2, isReg_iff, isReg_iff', isVal_iff, isVal_iff', isIn_iff, isIn_iff', isChan_iff, isChan_iff'] at hc | skip)); try (exfalso; omega)))))
  | (refine go_ret hn tb_ok rfl ?_ ⟨_, rfl, ?_⟩; ((first | exact trivial | (simp only [i64ok, true_and, and_true, Int.toNat_natCast]; omega) | (simp only [i64ok, true_and, and_true, Int.toNat_natCast] at *; omega))))
  | ((refine go_con hn tb_ok rfl ?_ rfl [] ⟨_, ?_, rfl, ?_, ?_, ?_, ?_⟩; ((first | exact trivial | (simp only [i64ok, true_and, and_true, Int.toNat_natCast]; omega) | (simp only [i64ok, true_and, and_true, Int.toNat_natCast] at *; omega))); rotate_left; ((first | exact con_Contains _ _ | assumption)); (rfl); (first | exact .inl rfl | exact .inr (fun id hi => lk3_ok hi))))))
        · refine congrArg (fun b => LV.dat (.bool b)) (Eq.symm ?_)
          rw [mutexOk, range_no hlt (by rw [waitOk, decide_eq_true hc, Bool.not_true, Bool.and_false]), Bool.and_false]
        · ((refine go_stop hn tb_ok rfl ?_ ⟨i + 1, ⟨?_, ?_⟩, ?_, ?_⟩; ((first | exact trivial | (simp only [i64ok, true_and, and_true, Int.toNat_natCast]; omega) | (simp only [i64ok, true_and, and_true, Int.toNat_natCast] at *; omega)))))
          · omega
          · exact upto hq (by rw [waitOk, decide_eq_false hc, decide_eq_true (by omega)]; rfl)
          · show m.wait.length - (i + 1) < m.wait.length - i; omega
          · ((refine le_of [] ?_ ?_ rfl; ((repeat' (first | exact trivial | refine And.intro rfl ?_))); ((repeat' (first | exact trivial | refine And.intro rfl ?_))))))
    · ((refine go_ret hn tb_ok rfl ?_ ⟨_, rfl, ?_⟩; ((first | exact trivial | (simp only [i64ok, true_and, and_true, Int.toNat_natCast]; omega) | (simp only [i64ok, true_and, and_true, Int.toNat_natCast] at *; omega)))))
      refine congrArg (fun b => LV.dat (.bool b)) (Eq.symm ?_)
      rw [mutexOk, hhd, range_yes (fun j hj => hq j (by omega))]; rfl)
/-! ### items -/
def ItemP (i : MItem) : Prop := 0 ≤ i.obj ∧ ((i.kind = 1 ∧ i.ok = false ∧ 0 ≤ i.val ∧ i.val ≤ 999) ∨ (i.kind = 2 ∧ (0 ≤ i.val ∧ i.val ≤ 999) ∧ (i.ok = true ∨ i.val = 0)) ∨
  ((i.kind = 3 ∨ i.kind = 5 ∨ i.kind = 6) ∧ i.ok = false ∧ i.val = 0) ∨ (i.kind = 4 ∧ i.ok = false ∧ -1 ≤ i.val) ∨ (i.kind = 7 ∧ i.ok = false ∧ 0 ≤ i.val) ∨ (i.kind = 8 ∧ i.ok = false ∧ (0 ≤ i.val ∧ i.val ≤ 999) ∧ i.obj = 0) ∨
  (i.kind = 9 ∧ i.ok = false ∧ i.val = 0 ∧ i.obj = 0) ∨ (i.kind = 10 ∧ i.ok = false ∧ (1 ≤ i.val ∧ i.val ≤ 5) ∧ i.obj = 0))
instance (i : MItem) : Decidable (ItemP i) := by unfold ItemP; infer_instance
def itemOk (i : MItem) : Bool := decide (ItemP i)
set_option maxHeartbeats 2000000 in
theorem con_spec_ItemOk (i : MItem) : Con Tryz.prog 231 [.dagg (cItem i)] (.dat (.bool (itemOk i))) := by
  refine con_body (rs := [(.tmp 2, 4)]) tb_ok Tryz.func231 rfl rfl rfl (Nat.le_of_ble_eq_true rfl) fun ho x hn => ?_
  (repeat' (first
  | (refine go_cond hn tb_ok rfl ?_ (fun hc => ?_) (fun hc => ?_); ((first | exact trivial | (simp only [i64ok, true_and, and_true, Int.toNat_natCast]; omega) | (simp only [i64ok, true_and, and_true, Int.toNat_natCast] at *; omega))); all_goals (try (((try simp only [decide_eq_true_eq, decide_eq_false_iff_not, Bool.not_eq_true', Bool.not_eq_false', Bool.not_eq_eq_eq_not, Bool.not_true, Bool.not_false, Int.not_lt, Int.not_le, Int.toNat_natCast, beq_iff_eq, beq_eq_false_iff_ne, ne_eq] at hc); (try (first | simp only [rest_iff, rest_iff', isReg_iff, isReg_iff', isVal_iff, isVal_iff', isIn_iff, isIn_iff', isChan_iff, isChan_iff'] at hc | simp only [(fields_iff _).1, (fields_iff _).2.1, (fields_iff _).2.2, isReg_iff, isReg_iff', isVal_iff, isVal_iff', isIn_iff, isIn_iff', isChan_iff, isChan_iff'] at hc | skip)); try (exfalso; omega)))))
  | (refine go_ret hn tb_ok rfl ?_ ⟨_, rfl, ?_⟩; ((first | exact trivial | (simp only [i64ok, true_and, and_true, Int.toNat_natCast]; omega) | (simp only [i64ok, true_and, and_true, Int.toNat_natCast] at *; omega))))
  | ((refine go_con hn tb_ok rfl ?_ rfl [] ⟨_, ?_, rfl, ?_, ?_, ?_, ?_⟩; ((first | exact trivial | (simp only [i64ok, true_and, and_true, Int.toNat_natCast]; omega) | (simp only [i64ok, true_and, and_true, Int.toNat_natCast] at *; omega))); rotate_left; ((first | exact con_spec_l03Val _ | assumption)); (rfl); (first | exact .inl rfl | exact .inr (fun id hi => lk3_ok hi))))))
  ((
  all_goals (refine congrArg (fun b => LV.dat (.bool b)) (Eq.symm ?_))
  all_goals (rw [Bool.eq_iff_iff, itemOk, decide_eq_true_eq, ItemP]; clear ho)
  all_goals (try simp only [*])
  all_goals (
    generalize MItem.ok i = b at *
    cases b <;> simp [isVal_iff] at * <;> omega)))
set_option maxHeartbeats 2000000 in
theorem con_impl_ItemOk (i : MItem) : Con Tryz.prog 194 [.dagg (cItem i)] (.dat (.bool (itemOk i))) := by
  refine con_body (rs := [(.tmp 2, 4)]) tb_ok Tryz.func194 rfl rfl rfl (Nat.le_of_ble_eq_true rfl) fun ho x hn => ?_
  (repeat' (first
  | (refine go_cond hn tb_ok rfl ?_ (fun hc => ?_) (fun hc => ?_); ((first | exact trivial | (simp only [i64ok, true_and, and_true, Int.toNat_natCast]; omega) | (simp only [i64ok, true_and, and_true, Int.toNat_natCast] at *; omega))); all_goals (try (((try simp only [decide_eq_true_eq, decide_eq_false_iff_not, Bool.not_eq_true', Bool.not_eq_false', Bool.not_eq_eq_eq_not, Bool.not_true, Bool.not_false, Int.not_lt, Int.not_le, Int.toNat_natCast, beq_iff_eq, beq_eq_false_iff_ne, ne_eq] at hc); (try (first | simp only [rest_iff, rest_iff', isReg_iff, isReg_iff', isVal_iff, isVal_iff', isIn_iff, isIn_iff', isChan_iff, isChan_iff'] at hc | simp only [(fields_iff _).1, (fields_iff _).2.1, (fields_iff _).2.2, isReg_iff, isReg_iff', isVal_iff, isVal_iff', isIn_iff, isIn_iff', isChan_iff, isChan_iff'] at hc | skip)); try (exfalso; omega)))))
  | (refine go_ret hn tb_ok rfl ?_ ⟨_, rfl, ?_⟩; ((first | exact trivial | (simp only [i64ok, true_and, and_true, Int.toNat_natCast]; omega) | (simp only [i64ok, true_and, and_true, Int.toNat_natCast] at *; omega))))
  | ((refine go_con hn tb_ok rfl ?_ rfl [] ⟨_, ?_, rfl, ?_, ?_, ?_, ?_⟩; ((first | exact trivial | (simp only [i64ok, true_and, and_true, Int.toNat_natCast]; omega) | (simp only [i64ok, true_and, and_true, Int.toNat_natCast] at *; omega))); rotate_left; ((first | exact con_impl_isVal _ | assumption)); (rfl); (first | exact .inl rfl | exact .inr (fun id hi => lk3_ok hi))))))
  ((
  all_goals (refine congrArg (fun b => LV.dat (.bool b)) (Eq.symm ?_))
  all_goals (rw [Bool.eq_iff_iff, itemOk, decide_eq_true_eq, ItemP]; clear ho)
  all_goals (try simp only [*])
  all_goals (
    generalize MItem.ok i = b at *
    cases b <;> simp [isVal_iff] at * <;> omega)))
end Go.Proofs.YtjmefaihkblliaaGreat.Ab
/- Goroutines: both programs' Instrs, Reg, GorOk, walked by the abstract machine. Conditions: none. -/
namespace Go.Proofs.YtjmefaihkblliaaGreat.Ab
set_option linter.unusedVariables false
set_option linter.unusedSimpArgs false
set_option maxRecDepth 100000
def instrsOf (p : MProg) (k : Int) : Int := if 0 ≤ k ∧ k < p.procs.length then ((p.procs.getD k.toNat dProc).code.length : Int) else 0
theorem con_spec_Instrs (p : MProg) (k : Int) : Con Tryz.prog 177 [.dagg (cProg p), .dat (.int .i64 k)] (.dat (.int .i64 (instrsOf p k))) := by
  refine con_body (rs := [(.tmp 4, 3)]) tb_ok Tryz.func177 rfl rfl rfl (Nat.le_of_ble_eq_true rfl) fun ho x hn => ?_
  (repeat' (first
  | (refine go_cond hn tb_ok rfl ?_ (fun hc => ?_) (fun hc => ?_); ((first | exact trivial | (simp only [i64ok, true_and, and_true, Int.toNat_natCast]; omega) | (simp only [i64ok, true_and, and_true, Int.toNat_natCast] at *; omega))); all_goals (try (((try simp only [decide_eq_true_eq, decide_eq_false_iff_not, Bool.not_eq_true', Bool.not_eq_false', Bool.not_eq_eq_eq_not, Bool.not_true, Bool.not_false, Int.not_lt, Int.not_le, Int.toNat_natCast, beq_iff_eq, beq_eq_false_iff_ne, ne_eq] at hc); (try (first | simp only [rest_iff, rest_iff', isReg_iff, isReg_iff', isVal_iff, isVal_iff', isIn_iff, isIn_iff', isChan_iff, isChan_iff'] at hc | simp only [(fields_iff _).1, (fields_iff _).2.1, (fields_iff _).2.2, isReg_iff, isReg_iff', isVal_iff, isVal_iff', isIn_iff, isIn_iff', isChan_iff, isChan_iff'] at hc | skip)); try (exfalso; omega)))))
  | (refine go_ret hn tb_ok rfl ?_ ⟨_, rfl, ?_⟩; ((first | exact trivial | (simp only [i64ok, true_and, and_true, Int.toNat_natCast]; omega) | (simp only [i64ok, true_and, and_true, Int.toNat_natCast] at *; omega))))
  | ((refine go_con hn tb_ok rfl ?_ rfl [] ⟨_, ?_, rfl, ?_, ?_, ?_, ?_⟩; ((first | exact trivial | (simp only [i64ok, true_and, and_true, Int.toNat_natCast]; omega) | (simp only [i64ok, true_and, and_true, Int.toNat_natCast] at *; omega))); rotate_left; (assumption); (rfl); (first | exact .inl rfl | exact .inr (fun id hi => lk3_ok hi))))))
  all_goals (rw [instrsOf])
  all_goals first
    | (rw [if_neg (by omega)]; rfl)
    | (rw [if_pos (by omega)]; rfl)
theorem con_impl_Instrs (p : MProg) (k : Int) : Con Tryz.prog 190 [.dagg (cProg p), .dat (.int .i64 k)] (.dat (.int .i64 (instrsOf p k))) := by
  refine con_body (rs := [(.tmp 4, 3)]) tb_ok Tryz.func190 rfl rfl rfl (Nat.le_of_ble_eq_true rfl) fun ho x hn => ?_
  (repeat' (first
  | (refine go_cond hn tb_ok rfl ?_ (fun hc => ?_) (fun hc => ?_); ((first | exact trivial | (simp only [i64ok, true_and, and_true, Int.toNat_natCast]; omega) | (simp only [i64ok, true_and, and_true, Int.toNat_natCast] at *; omega))); all_goals (try (((try simp only [decide_eq_true_eq, decide_eq_false_iff_not, Bool.not_eq_true', Bool.not_eq_false', Bool.not_eq_eq_eq_not, Bool.not_true, Bool.not_false, Int.not_lt, Int.not_le, Int.toNat_natCast, beq_iff_eq, beq_eq_false_iff_ne, ne_eq] at hc); (try (first | simp only [rest_iff, rest_iff', isReg_iff, isReg_iff', isVal_iff, isVal_iff', isIn_iff, isIn_iff', isChan_iff, isChan_iff'] at hc | simp only [(fields_iff _).1, (fields_iff _).2.1, (fields_iff _).2.2, isReg_iff, isReg_iff', isVal_iff, isVal_iff', isIn_iff, isIn_iff', isChan_iff, isChan_iff'] at hc | skip)); try (exfalso; omega)))))
  | (refine go_ret hn tb_ok rfl ?_ ⟨_, rfl, ?_⟩; ((first | exact trivial | (simp only [i64ok, true_and, and_true, Int.toNat_natCast]; omega) | (simp only [i64ok, true_and, and_true, Int.toNat_natCast] at *; omega))))
  | ((refine go_con hn tb_ok rfl ?_ rfl [] ⟨_, ?_, rfl, ?_, ?_, ?_, ?_⟩; ((first | exact trivial | (simp only [i64ok, true_and, and_true, Int.toNat_natCast]; omega) | (simp only [i64ok, true_and, and_true, Int.toNat_natCast] at *; omega))); rotate_left; ((first | exact con_impl_within _ _ _ | assumption)); (rfl); (first | exact .inl rfl | exact .inr (fun id hi => lk3_ok hi))))))
  all_goals (rw [instrsOf])
  all_goals first
    | (rw [if_neg (by omega)]; rfl)
    | (rw [if_pos (by omega)]; rfl)
theorem okGor {g : MGor} (h : OkL (.dagg (cGor g))) : g.regs.length ≤ (9223372036854775807 : Nat) ∧ g.trace.length ≤ (9223372036854775807 : Nat) :=
  ⟨(h (ints g.regs) (by simp [cGor])).len, (h (rows_Item g.trace) (by simp [cGor])).len⟩
def regOf (g : MGor) (r : Int) : Int := if 0 ≤ r ∧ r < g.regs.length then g.regs.getD r.toNat 0 else 0
theorem con_spec_Reg (g : MGor) (r : Int) : Con Tryz.prog 181 [.dagg (cGor g), .dat (.int .i64 r)] (.dat (.int .i64 (regOf g r))) := by
  refine con_body (rs := [(.tmp 4, 3)]) tb_ok Tryz.func181 rfl rfl rfl (Nat.le_of_ble_eq_true rfl) fun ho x hn => ?_
  (repeat' (first
  | (refine go_cond hn tb_ok rfl ?_ (fun hc => ?_) (fun hc => ?_); ((first | exact trivial | (simp only [i64ok, true_and, and_true, Int.toNat_natCast]; omega) | (simp only [i64ok, true_and, and_true, Int.toNat_natCast] at *; omega))); all_goals (try (((try simp only [decide_eq_true_eq, decide_eq_false_iff_not, Bool.not_eq_true', Bool.not_eq_false', Bool.not_eq_eq_eq_not, Bool.not_true, Bool.not_false, Int.not_lt, Int.not_le, Int.toNat_natCast, beq_iff_eq, beq_eq_false_iff_ne, ne_eq] at hc); (try (first | simp only [rest_iff, rest_iff', isReg_iff, isReg_iff', isVal_iff, isVal_iff', isIn_iff, isIn_iff', isChan_iff, isChan_iff'] at hc | simp only [(fields_iff _).1, (fields_iff _).2.1, (fields_iff _).2.2, isReg_iff, isReg_iff', isVal_iff, isVal_iff', isIn_iff, isIn_iff', isChan_iff, isChan_iff'] at hc | skip)); try (exfalso; omega)))))
  | (refine go_ret hn tb_ok rfl ?_ ⟨_, rfl, ?_⟩; ((first | exact trivial | (simp only [i64ok, true_and, and_true, Int.toNat_natCast]; omega) | (simp only [i64ok, true_and, and_true, Int.toNat_natCast] at *; omega))))
  | ((refine go_con hn tb_ok rfl ?_ rfl [] ⟨_, ?_, rfl, ?_, ?_, ?_, ?_⟩; ((first | exact trivial | (simp only [i64ok, true_and, and_true, Int.toNat_natCast]; omega) | (simp only [i64ok, true_and, and_true, Int.toNat_natCast] at *; omega))); rotate_left; (assumption); (rfl); (first | exact .inl rfl | exact .inr (fun id hi => lk3_ok hi))))))
  all_goals (rw [regOf])
  all_goals first
    | (rw [if_neg (by omega)]; rfl)
    | (rw [if_pos (by omega)]; rfl)
def itOk (l : List MItem) (k : Nat) : Bool := itemOk (l.getD k dItem) && !decide (((l.getD k dItem).kind = 9 ∨ (l.getD k dItem).kind = 10) ∧ (k : Int) < (l.length : Int) - 1)
def lastKind (l : List MItem) : Int := if l.length = 0 then 0 else (l.getD ((l.length : Int) - 1).toNat dItem).kind
def gorTail (g : MGor) : Bool := (decide (lastKind g.trace = 9) == decide (g.state = 3)) && (decide (lastKind g.trace = 10) == decide (g.state = 4))
def traceOk (g : MGor) : Bool := (List.range g.trace.length).all (itOk g.trace) && gorTail g
set_option maxHeartbeats 2000000 in
theorem con_spec_l08Trace (g : MGor) : Con Tryz.prog 179 [.dagg (cGor g)] (.dat (.bool (traceOk g))) := by
  refine con_body (rs := [(.tmp 2, 4)]) tb_ok Tryz.func179 rfl rfl rfl (Nat.le_of_ble_eq_true rfl) fun ho x hn => ?_
  obtain ⟨hb1, hb2⟩ := okGor (ho _ List.mem_cons_self)
  ((refine go_loop hn tb_ok rfl ?_ (fun (wI : Nat) wT wM => ((10, .dat (.int .i64 wI)) :: wT, wM)) (fun wI => wI ≤ g.trace.length ∧ (fun i => ∀ j < i, itOk g.trace j = true) wI) (fun wI => g.trace.length - wI) 0 ⟨Nat.zero_le _, ?_⟩ ?_ ?_; ((first | exact trivial | (simp only [i64ok, true_and, and_true, Int.toNat_natCast]; omega) | (simp only [i64ok, true_and, and_true, Int.toNat_natCast] at *; omega)))))
  · intro j hj; omega
  · ((refine le_of [] ?_ ?_ rfl; ((repeat' (first | exact trivial | refine And.intro rfl ?_))); ((repeat' (first | exact trivial | refine And.intro rfl ?_)))))
  rintro i ⟨hi, hq⟩
  ((refine go_cond hn tb_ok rfl ?_ (fun hc => ?_) (fun hc => ?_); ((first | exact trivial | (simp only [i64ok, true_and, and_true, Int.toNat_natCast]; omega) | (simp only [i64ok, true_and, and_true, Int.toNat_natCast] at *; omega))); all_goals (try (((try simp only [decide_eq_true_eq, decide_eq_false_iff_not, Bool.not_eq_true', Bool.not_eq_false', Bool.not_eq_eq_eq_not, Bool.not_true, Bool.not_false, Int.not_lt, Int.not_le, Int.toNat_natCast, beq_iff_eq, beq_eq_false_iff_ne, ne_eq] at hc); (try (first | simp only [rest_iff, rest_iff', isReg_iff, isReg_iff', isVal_iff, isVal_iff', isIn_iff, isIn_iff', isChan_iff, isChan_iff'] at hc | simp only [(fields_iff _).1, (fields_iff _).2.1, (fields_iff _).2.2, isReg_iff, isReg_iff', isVal_iff, isVal_iff', isIn_iff, isIn_iff', isChan_iff, isChan_iff'] at hc | skip)); try (exfalso; omega))))))
  · have hlt : i < g.trace.length := by omega
    (repeat' (first
  | (refine go_cond hn tb_ok rfl ?_ (fun hc => ?_) (fun hc => ?_); ((first | exact trivial | (simp only [i64ok, true_and, and_true, Int.toNat_natCast]; omega) | (simp only [i64ok, true_and, and_true, Int.toNat_natCast] at *; omega))); all_goals (try (((try simp only [decide_eq_true_eq, decide_eq_false_iff_not, Bool.not_eq_true', Bool.not_eq_false', Bool.not_eq_eq_eq_not, Bool.not_true, Bool.not_false, Int.not_lt, Int.not_le, Int.toNat_natCast, beq_iff_eq, beq_eq_false_iff_ne, ne_eq] at hc); (try (first | simp only [rest_iff, rest_iff', isReg_iff, isReg_iff', isVal_iff, isVal_iff', isIn_iff, isIn_iff', isChan_iff, isChan_iff'] at hc | simp only [(fields_iff _).1, (fields_iff _).2.1, (fields_iff _).2.2, isReg_iff, isReg_iff', isVal_iff, isVal_iff', isIn_iff, isIn_iff', isChan_iff, isChan_iff'] at hc | skip)); try (exfalso; omega)))))
  | (refine go_ret hn tb_ok rfl ?_ ⟨_, rfl, ?_⟩; ((first | exact trivial | (simp only [i64ok, true_and, and_true, Int.toNat_natCast]; omega) | (simp only [i64ok, true_and, and_true, Int.toNat_natCast] at *; omega))))
  | ((refine go_con hn tb_ok rfl ?_ rfl [] ⟨_, ?_, rfl, ?_, ?_, ?_, ?_⟩; ((first | exact trivial | (simp only [i64ok, true_and, and_true, Int.toNat_natCast]; omega) | (simp only [i64ok, true_and, and_true, Int.toNat_natCast] at *; omega))); rotate_left; ((first | exact con_spec_ItemOk _ | assumption)); (rfl); (first | exact .inl rfl | exact .inr (fun id hi => lk3_ok hi))))))
    all_goals (try (
      refine congrArg (fun b => LV.dat (.bool b)) (Eq.symm ?_)
      rw [traceOk, range_no hlt (by
        rw [itOk]
        first
          | (rw [hc]; rfl)
          | (rw [decide_eq_true (p := _ ∧ _) (by omega), Bool.not_true, Bool.and_false])), Bool.false_and]))
    all_goals (
      ((refine go_stop hn tb_ok rfl ?_ ⟨i + 1, ⟨?_, ?_⟩, ?_, ?_⟩; ((first | exact trivial | (simp only [i64ok, true_and, and_true, Int.toNat_natCast]; omega) | (simp only [i64ok, true_and, and_true, Int.toNat_natCast] at *; omega)))))
      · omega
      · refine upto hq ?_
        rw [itOk, decide_eq_false (by omega)]
        simp [*, -List.getD_eq_getElem?_getD]
      · show g.trace.length - (i + 1) < g.trace.length - i; omega
      · ((refine le_of [] ?_ ?_ rfl; ((repeat' (first | exact trivial | refine And.intro rfl ?_))); ((repeat' (first | exact trivial | refine And.intro rfl ?_))))))
  have hall := range_yes (m := g.trace.length) (f := itOk g.trace) (fun j hj => hq j (by omega))
  have hyes : traceOk g = gorTail g := by rw [traceOk, hall, Bool.true_and]
  (repeat' (first
  | (refine go_cond hn tb_ok rfl ?_ (fun hc => ?_) (fun hc => ?_); ((first | exact trivial | (simp only [i64ok, true_and, and_true, Int.toNat_natCast]; omega) | (simp only [i64ok, true_and, and_true, Int.toNat_natCast] at *; omega))); all_goals (try (((try simp only [decide_eq_true_eq, decide_eq_false_iff_not, Bool.not_eq_true', Bool.not_eq_false', Bool.not_eq_eq_eq_not, Bool.not_true, Bool.not_false, Int.not_lt, Int.not_le, Int.toNat_natCast, beq_iff_eq, beq_eq_false_iff_ne, ne_eq] at hc); (try (first | simp only [rest_iff, rest_iff', isReg_iff, isReg_iff', isVal_iff, isVal_iff', isIn_iff, isIn_iff', isChan_iff, isChan_iff'] at hc | simp only [(fields_iff _).1, (fields_iff _).2.1, (fields_iff _).2.2, isReg_iff, isReg_iff', isVal_iff, isVal_iff', isIn_iff, isIn_iff', isChan_iff, isChan_iff'] at hc | skip)); try (exfalso; omega)))))
  | (refine go_ret hn tb_ok rfl ?_ ⟨_, rfl, ?_⟩; ((first | exact trivial | (simp only [i64ok, true_and, and_true, Int.toNat_natCast]; omega) | (simp only [i64ok, true_and, and_true, Int.toNat_natCast] at *; omega))))
  | ((refine go_con hn tb_ok rfl ?_ rfl [] ⟨_, ?_, rfl, ?_, ?_, ?_, ?_⟩; ((first | exact trivial | (simp only [i64ok, true_and, and_true, Int.toNat_natCast]; omega) | (simp only [i64ok, true_and, and_true, Int.toNat_natCast] at *; omega))); rotate_left; ((first | exact con_spec_ItemOk _ | assumption)); (rfl); (first | exact .inl rfl | exact .inr (fun id hi => lk3_ok hi))))))
  all_goals (refine congrArg (fun b => LV.dat (.bool b)) (Eq.symm ?_); rw [hyes, gorTail, lastKind])
  all_goals (first | rw [if_pos (by omega)] | rw [if_neg (by omega)])
  all_goals first
    | (rw [beq_iff_eq.2 hc, Bool.true_and]; done)
    | (rw [beq_iff_eq.2 hc, Bool.true_and]; rfl)
    | (rw [beq_eq_false_iff_ne.2 hc, Bool.false_and])
def gorHead (p : MProg) (g : MGor) : Bool := decide (0 ≤ g.pc ∧ g.pc < instrsOf p g.proc ∧ g.regs.length = 6 ∧ 1 ≤ g.state ∧ g.state ≤ 4)
def gorOk0 (p : MProg) (g : MGor) : Bool := gorHead p g && (g.regs.all isVal && traceOk g)
def gorOk (p : MProg) (g : MGor) : Bool := progOk p && gorOk0 p g
theorem con_spec_l08Ok (p : MProg) (g : MGor) : Con Tryz.prog 119 [.dagg (cProg p), .dagg (cGor g)] (.dat (.bool (gorOk0 p g))) := by
  refine con_body (rs := [(.tmp 4, 4)]) tb_ok Tryz.func119 rfl rfl rfl (Nat.le_of_ble_eq_true rfl) fun ho x hn => ?_
  obtain ⟨hb1, hb2⟩ := okGor (ho (.dagg (cGor g)) (by simp))
  (repeat' (first
  | (refine go_cond hn tb_ok rfl ?_ (fun hc => ?_) (fun hc => ?_); ((first | exact trivial | (simp only [i64ok, true_and, and_true, Int.toNat_natCast]; omega) | (simp only [i64ok, true_and, and_true, Int.toNat_natCast] at *; omega))); all_goals (try (((try simp only [decide_eq_true_eq, decide_eq_false_iff_not, Bool.not_eq_true', Bool.not_eq_false', Bool.not_eq_eq_eq_not, Bool.not_true, Bool.not_false, Int.not_lt, Int.not_le, Int.toNat_natCast, beq_iff_eq, beq_eq_false_iff_ne, ne_eq] at hc); (try (first | simp only [rest_iff, rest_iff', isReg_iff, isReg_iff', isVal_iff, isVal_iff', isIn_iff, isIn_iff', isChan_iff, isChan_iff'] at hc | simp only [(fields_iff _).1, (fields_iff _).2.1, (fields_iff _).2.2, isReg_iff, isReg_iff', isVal_iff, isVal_iff', isIn_iff, isIn_iff', isChan_iff, isChan_iff'] at hc | skip)); try (exfalso; omega)))))
  | (refine go_ret hn tb_ok rfl ?_ ⟨_, rfl, ?_⟩; ((first | exact trivial | (simp only [i64ok, true_and, and_true, Int.toNat_natCast]; omega) | (simp only [i64ok, true_and, and_true, Int.toNat_natCast] at *; omega))))
  | ((refine go_con hn tb_ok rfl ?_ rfl [] ⟨_, ?_, rfl, ?_, ?_, ?_, ?_⟩; ((first | exact trivial | (simp only [i64ok, true_and, and_true, Int.toNat_natCast]; omega) | (simp only [i64ok, true_and, and_true, Int.toNat_natCast] at *; omega))); rotate_left; ((first | exact con_spec_l08Trace _ | exact con_spec_Instrs _ _ | exact con_spec_l03Val _ | assumption)); (rfl); (first | exact .inl rfl | exact .inr (fun id hi => lk3_ok hi))))))
  all_goals (try (
    refine congrArg (fun b => LV.dat (.bool b)) (Eq.symm ?_)
    rw [gorOk0, gorHead, decide_eq_false (by omega), Bool.false_and]))
  have hhd : gorHead p g = true := by rw [gorHead]; exact decide_eq_true (by omega)
  ((refine go_loop hn tb_ok rfl ?_ (fun (wI : Nat) wT wM => ((40, .dat (.int .i64 wI)) :: wT, wM)) (fun wI => wI ≤ g.regs.length ∧ (fun i => ∀ j < i, isVal (g.regs.getD j 0) = true) wI) (fun wI => g.regs.length - wI) 0 ⟨Nat.zero_le _, ?_⟩ ?_ ?_; ((first | exact trivial | (simp only [i64ok, true_and, and_true, Int.toNat_natCast]; omega) | (simp only [i64ok, true_and, and_true, Int.toNat_natCast] at *; omega)))))
  · intro j hj; omega
  · ((refine le_of [] ?_ ?_ rfl; ((repeat' (first | exact trivial | refine And.intro rfl ?_))); ((repeat' (first | exact trivial | refine And.intro rfl ?_)))))
  rintro i ⟨hi, hq⟩
  ((refine go_cond hn tb_ok rfl ?_ (fun hc => ?_) (fun hc => ?_); ((first | exact trivial | (simp only [i64ok, true_and, and_true, Int.toNat_natCast]; omega) | (simp only [i64ok, true_and, and_true, Int.toNat_natCast] at *; omega))); all_goals (try (((try simp only [decide_eq_true_eq, decide_eq_false_iff_not, Bool.not_eq_true', Bool.not_eq_false', Bool.not_eq_eq_eq_not, Bool.not_true, Bool.not_false, Int.not_lt, Int.not_le, Int.toNat_natCast, beq_iff_eq, beq_eq_false_iff_ne, ne_eq] at hc); (try (first | simp only [rest_iff, rest_iff', isReg_iff, isReg_iff', isVal_iff, isVal_iff', isIn_iff, isIn_iff', isChan_iff, isChan_iff'] at hc | simp only [(fields_iff _).1, (fields_iff _).2.1, (fields_iff _).2.2, isReg_iff, isReg_iff', isVal_iff, isVal_iff', isIn_iff, isIn_iff', isChan_iff, isChan_iff'] at hc | skip)); try (exfalso; omega))))))
  · have hlt : i < g.regs.length := by omega
    ((refine go_con hn tb_ok rfl ?_ rfl [] ⟨_, ?_, rfl, ?_, ?_, ?_, ?_⟩; ((first | exact trivial | (simp only [i64ok, true_and, and_true, Int.toNat_natCast]; omega) | (simp only [i64ok, true_and, and_true, Int.toNat_natCast] at *; omega))); rotate_left; ((first | exact con_spec_l08Trace _ | exact con_spec_Instrs _ _ | exact con_spec_l03Val _ | assumption)); (rfl); (first | exact .inl rfl | exact .inr (fun id hi => lk3_ok hi))))
    ((refine go_cond hn tb_ok rfl ?_ (fun hc => ?_) (fun hc => ?_); ((first | exact trivial | (simp only [i64ok, true_and, and_true, Int.toNat_natCast]; omega) | (simp only [i64ok, true_and, and_true, Int.toNat_natCast] at *; omega))); all_goals (try (((try simp only [decide_eq_true_eq, decide_eq_false_iff_not, Bool.not_eq_true', Bool.not_eq_false', Bool.not_eq_eq_eq_not, Bool.not_true, Bool.not_false, Int.not_lt, Int.not_le, Int.toNat_natCast, beq_iff_eq, beq_eq_false_iff_ne, ne_eq] at hc); (try (first | simp only [rest_iff, rest_iff', isReg_iff, isReg_iff', isVal_iff, isVal_iff', isIn_iff, isIn_iff', isChan_iff, isChan_iff'] at hc | simp only [(fields_iff _).1, (fields_iff _).2.1, (fields_iff _).2.2, isReg_iff, isReg_iff', isVal_iff, isVal_iff', isIn_iff, isIn_iff', isChan_iff, isChan_iff'] at hc | skip)); try (exfalso; omega))))))
    · ((refine go_ret hn tb_ok rfl ?_ ⟨_, rfl, ?_⟩; ((first | exact trivial | (simp only [i64ok, true_and, and_true, Int.toNat_natCast]; omega) | (simp only [i64ok, true_and, and_true, Int.toNat_natCast] at *; omega)))))
      refine congrArg (fun b => LV.dat (.bool b)) (Eq.symm ?_)
      rw [gorOk0, all_no (d := (0 : Int)) hlt (by rw [isVal]; exact decide_eq_false hc), Bool.false_and, Bool.and_false]
    · ((refine go_stop hn tb_ok rfl ?_ ⟨i + 1, ⟨?_, ?_⟩, ?_, ?_⟩; ((first | exact trivial | (simp only [i64ok, true_and, and_true, Int.toNat_natCast]; omega) | (simp only [i64ok, true_and, and_true, Int.toNat_natCast] at *; omega)))))
      · omega
      · exact upto hq (by rw [isVal]; exact decide_eq_true hc)
      · show g.regs.length - (i + 1) < g.regs.length - i; omega
      · ((refine le_of [] ?_ ?_ rfl; ((repeat' (first | exact trivial | refine And.intro rfl ?_))); ((repeat' (first | exact trivial | refine And.intro rfl ?_)))))
  have hall := all_yes (l := g.regs) (0 : Int) (f := isVal) (fun j hj => hq j (by omega))
  (repeat' (first
  | (refine go_cond hn tb_ok rfl ?_ (fun hc => ?_) (fun hc => ?_); ((first | exact trivial | (simp only [i64ok, true_and, and_true, Int.toNat_natCast]; omega) | (simp only [i64ok, true_and, and_true, Int.toNat_natCast] at *; omega))); all_goals (try (((try simp only [decide_eq_true_eq, decide_eq_false_iff_not, Bool.not_eq_true', Bool.not_eq_false', Bool.not_eq_eq_eq_not, Bool.not_true, Bool.not_false, Int.not_lt, Int.not_le, Int.toNat_natCast, beq_iff_eq, beq_eq_false_iff_ne, ne_eq] at hc); (try (first | simp only [rest_iff, rest_iff', isReg_iff, isReg_iff', isVal_iff, isVal_iff', isIn_iff, isIn_iff', isChan_iff, isChan_iff'] at hc | simp only [(fields_iff _).1, (fields_iff _).2.1, (fields_iff _).2.2, isReg_iff, isReg_iff', isVal_iff, isVal_iff', isIn_iff, isIn_iff', isChan_iff, isChan_iff'] at hc | skip)); try (exfalso; omega)))))
  | (refine go_ret hn tb_ok rfl ?_ ⟨_, rfl, ?_⟩; ((first | exact trivial | (simp only [i64ok, true_and, and_true, Int.toNat_natCast]; omega) | (simp only [i64ok, true_and, and_true, Int.toNat_natCast] at *; omega))))
  | ((refine go_con hn tb_ok rfl ?_ rfl [] ⟨_, ?_, rfl, ?_, ?_, ?_, ?_⟩; ((first | exact trivial | (simp only [i64ok, true_and, and_true, Int.toNat_natCast]; omega) | (simp only [i64ok, true_and, and_true, Int.toNat_natCast] at *; omega))); rotate_left; ((first | exact con_spec_l08Trace _ | exact con_spec_Instrs _ _ | exact con_spec_l03Val _ | assumption)); (rfl); (first | exact .inl rfl | exact .inr (fun id hi => lk3_ok hi))))))
  rw [gorOk0, hhd, hall]; rfl
end Go.Proofs.YtjmefaihkblliaaGreat.Ab

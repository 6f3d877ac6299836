/- My own words: how values lie in memory, read (K) and owned (O), kind by kind. Conditions: none. -/
import Derived.WalkKit
import Derived.Below
import Derived.Deep.LoopGhost
import Derived.Deep.QuietTactic
import Derived.BigQuiet
import Derived.KernelRfl
import Derived.RowKit
import Derived.RowKit3
import Derived.Lib.Hide
import Derived.Deep.OwnRows
import Derived.Laws.MakeOwn
import Derived.StillTailTactics
namespace Go.Proofs.YtcidbencoebfaaaDoor.Wd
open Go.RowKit


structure Rp (α : Type) where
  sz : Nat
  K : World → α → List Value → Prop
  O : World → List Nat → α → List Value → Prop
  K_len : ∀ {w x cs}, K w x cs → cs.length = sz
  K_one : ∀ {w x cs}, K w x cs → ∀ u ∈ cs, u.oneCell' = true
  K_below : ∀ {w w1 : World} {x cs}, Below w.heap.size w w1 → K w x cs → K w1 x cs
  O_K : ∀ {w bs x cs}, O w bs x cs → K w x cs
  O_keep : ∀ {w w1 : World} {bs x cs}, (∀ b ∈ bs, w1.heap[b]? = w.heap[b]?) → O w bs x cs → O w1 bs x cs
  O_lt : ∀ {w : World} {bs x cs}, O w bs x cs → ∀ b ∈ bs, b < w.heap.size

namespace Rp
def scalar {α : Type} (enc : α → Value) (h1 : ∀ x, (enc x).oneCell' = true) : Rp α where
  sz := 1
  K := fun _ x cs => cs = [enc x]
  O := fun _ bs x cs => bs = [] ∧ cs = [enc x]
  K_len := fun h => by rw [h]; rfl
  K_one := fun h u hu => by rw [h] at hu; rw [List.mem_singleton.1 hu]; exact h1 _
  K_below := fun _ h => h
  O_K := fun h => h.2
  O_keep := fun _ h => h
  O_lt := fun h b hb => by rw [h.1] at hb; cases hb
def int : Rp Int := scalar (Value.int .i64) (fun _ => rfl)
def byte : Rp Int := scalar (Value.int .u8) (fun _ => rfl)
def bool : Rp Bool := scalar Value.bool (fun _ => rfl)
def str : Rp ByteArray := scalar Value.string (fun _ => rfl)


def Row {α : Type} (d : Rp α) (w : World) (A : Option Addr) (xs : List α) : Prop :=
  xs.length ≤ 9223372036854775807 ∧ (xs ≠ [] → ∃ b o, A = some ⟨b, o, none⟩ ∧ ∀ i x, xs[i]? = some x → ∃ cx, d.K w x cx ∧ ∀ j u, cx[j]? = some u → w.cell? ⟨b, o + i * d.sz + j, none⟩ = some u)

theorem Row.below {α : Type} {d : Rp α} {w w1 : World} {A : Option Addr} {xs : List α} (h : d.Row w A xs) (hb : Below w.heap.size w w1) : d.Row w1 A xs :=
  ⟨h.1, fun hne => by
    obtain ⟨b, o, rfl, hc⟩ := h.2 hne
    refine ⟨b, o, rfl, fun i x hx => ?_⟩
    obtain ⟨cx, hk, hcc⟩ := hc i x hx
    exact ⟨cx, d.K_below hb hk, fun j u hu => (hb.cell (World.block_lt_of_cell? w _ (hcc j u hu))).trans (hcc j u hu)⟩⟩


def seg (cur : List Value) (at_ n : Nat) : List Value := (cur.drop at_).take n
theorem seg_get {cur : List Value} {at_ n j : Nat} {u : Value} (h : (seg cur at_ n)[j]? = some u) : cur[at_ + j]? = some u := by
  unfold seg at h
  rw [List.getElem?_take] at h
  split at h
  · rw [List.getElem?_drop] at h; exact h
  · cases h


def Own {α : Type} (d : Rp α) (e : Nat) (w : World) (bs : List Nat) (v : Value) (xs : List α) : Prop :=
  (xs = [] ∧ bs = [] ∧ ∃ A, v = .slice A 0 0) ∨
  ∃ g o c cur bss, v = .slice (some ⟨g, o, none⟩) xs.length c ∧ bs = g :: List.flatten bss ∧ bss.length = xs.length ∧ w.heap[g]? = some (.cells cur e (0, 0)) ∧
    o + c * d.sz = cur.size ∧ xs.length ≤ c ∧ c ≤ 9223372036854775807 ∧ ∀ i x b, xs[i]? = some x → bss[i]? = some b → d.O w b x (seg cur.toList (o + i * d.sz) d.sz)

theorem Own.keep {α : Type} {d : Rp α} {e : Nat} {w w1 : World} {bs : List Nat} {v : Value} {xs : List α} (hk : ∀ b ∈ bs, w1.heap[b]? = w.heap[b]?) (h : d.Own e w bs v xs) : d.Own e w1 bs v xs := by
  rcases h with h | ⟨g, o, c, cur, bss, hv, rfl, hl, hg, hsz, h1, h2, hx⟩
  · exact .inl h
  · refine .inr ⟨g, o, c, cur, bss, hv, rfl, hl, (hk g List.mem_cons_self).trans hg, hsz, h1, h2, fun i x b hi hb => ?_⟩
    refine d.O_keep (fun b' hb' => hk b' (List.mem_cons_of_mem _ ?_)) (hx i x b hi hb)
    exact List.mem_flatten.2 ⟨b, List.mem_of_getElem? hb, hb'⟩
theorem Own.lt {α : Type} {d : Rp α} {e : Nat} {w : World} {bs : List Nat} {v : Value} {xs : List α} (h : d.Own e w bs v xs) : ∀ b ∈ bs, b < w.heap.size := by
  rcases h with ⟨_, rfl, _⟩ | ⟨g, o, c, cur, bss, hv, rfl, hl, hg, hsz, h1, h2, hx⟩
  · intro b hb; cases hb
  · intro b hb
    rcases List.mem_cons.1 hb with rfl | hb
    · exact (Array.getElem?_eq_some_iff.1 hg).1
    · obtain ⟨b', hb', hm⟩ := List.mem_flatten.1 hb
      obtain ⟨i, hi⟩ := List.mem_iff_getElem?.1 hb'
      have hlt : i < xs.length := by rw [← hl]; exact (List.getElem?_eq_some_iff.1 hi).1
      exact d.O_lt (hx i _ b' (List.getElem?_eq_getElem hlt) hi) b hm
theorem Own.row {α : Type} {d : Rp α} {e : Nat} {w : World} {bs : List Nat} {v : Value} {xs : List α} (h : d.Own e w bs v xs) :
    ∃ A c, v = .slice A xs.length c ∧ xs.length ≤ c ∧ d.Row w A xs := by
  rcases h with ⟨rfl, _, A, rfl⟩ | ⟨g, o, c, cur, bss, rfl, rfl, hl, hg, hsz, h1, h2, hx⟩
  · exact ⟨A, 0, rfl, Nat.le_refl _, by simp, fun h => absurd rfl h⟩
  · refine ⟨_, c, rfl, h1, by omega, fun _ => ⟨g, o, rfl, fun i x hi => ?_⟩⟩
    have hlt : i < bss.length := by rw [hl]; exact (List.getElem?_eq_some_iff.1 hi).1
    refine ⟨_, d.O_K (hx i x _ hi (List.getElem?_eq_getElem hlt)), fun j u hu => ?_⟩
    have := seg_get hu
    simp only [World.cell?, hg]
    simpa using this

def slice {α : Type} (e : Nat) (d : Rp α) : Rp (List α) where
  sz := 1
  K := fun w xs cs => ∃ A c, cs = [.slice A xs.length c] ∧ xs.length ≤ c ∧ d.Row w A xs
  O := fun w bs xs cs => ∃ v, cs = [v] ∧ d.Own e w bs v xs
  K_len := by rintro w x cs ⟨A, c, rfl, _⟩; rfl
  K_one := by rintro w x cs ⟨A, c, rfl, _⟩ u hu; rw [List.mem_singleton.1 hu]; rfl
  K_below := by rintro w w1 x cs hb ⟨A, c, rfl, hl, hr⟩; exact ⟨A, c, rfl, hl, hr.below hb⟩
  O_K := by rintro w bs x cs ⟨v, rfl, h⟩; obtain ⟨A, c, rfl, h1, h2⟩ := h.row; exact ⟨A, c, rfl, h1, h2⟩
  O_keep := by rintro w w1 bs x cs hk ⟨v, rfl, h⟩; exact ⟨v, rfl, h.keep hk⟩
  O_lt := by rintro w bs x cs ⟨v, rfl, h⟩; exact h.lt
def pair {α β : Type} (a : Rp α) (b : Rp β) : Rp (α × β) where
  sz := a.sz + b.sz
  K := fun w x cs => ∃ c0 c1, cs = c0 ++ c1 ∧ a.K w x.1 c0 ∧ b.K w x.2 c1
  O := fun w bs x cs => ∃ c0 c1 b0 b1, cs = c0 ++ c1 ∧ bs = b0 ++ b1 ∧ a.O w b0 x.1 c0 ∧ b.O w b1 x.2 c1
  K_len := by rintro w x cs ⟨c0, c1, rfl, h0, h1⟩; rw [List.length_append, a.K_len h0, b.K_len h1]
  K_one := by
    rintro w x cs ⟨c0, c1, rfl, h0, h1⟩ u hu
    rcases List.mem_append.1 hu with hu | hu
    · exact a.K_one h0 u hu
    · exact b.K_one h1 u hu
  K_below := by rintro w w1 x cs hb ⟨c0, c1, rfl, h0, h1⟩; exact ⟨c0, c1, rfl, a.K_below hb h0, b.K_below hb h1⟩
  O_K := by rintro w bs x cs ⟨c0, c1, b0, b1, rfl, rfl, h0, h1⟩; exact ⟨c0, c1, rfl, a.O_K h0, b.O_K h1⟩
  O_keep := by
    rintro w w1 bs x cs hk ⟨c0, c1, b0, b1, rfl, rfl, h0, h1⟩
    exact ⟨c0, c1, b0, b1, rfl, rfl, a.O_keep (fun b hb => hk b (List.mem_append_left _ hb)) h0, b.O_keep (fun b hb => hk b (List.mem_append_right _ hb)) h1⟩
  O_lt := by
    rintro w bs x cs ⟨c0, c1, b0, b1, rfl, rfl, h0, h1⟩ k hk
    rcases List.mem_append.1 hk with hk | hk
    · exact a.O_lt h0 k hk
    · exact b.O_lt h1 k hk
def iso {α β : Type} (d : Rp α) (f : β → α) : Rp β where
  sz := d.sz
  K := fun w x cs => d.K w (f x) cs
  O := fun w bs x cs => d.O w bs (f x) cs
  K_len := d.K_len
  K_one := d.K_one
  K_below := d.K_below
  O_K := d.O_K
  O_keep := d.O_keep
  O_lt := d.O_lt
end Rp


theorem bdrewN {B : Nat} {w W : World} (h : Below B w W) (n : Nat) : Below B w (W.drewN n) := ⟨h.os, h.tape, h.output, h.size, h.block⟩
theorem bvia {w W w1 : World} (h1 : Below W.heap.size W w1) (h : Below w.heap.size w W) : Below w.heap.size w w1 := h.trans (h1.mono h.size)
theorem ballo {w W : World} (o : Obj) (h : Below w.heap.size w W) : Below w.heap.size w (W.alloc o) := h.alloc h.size o
theorem bset {w W : World} {p : Addr} (hp : w.heap.size ≤ p.block) (h : Below w.heap.size w W) (u : Value) : Below w.heap.size w (W.setCell p u) := h.setCell hp u
theorem bel {w w' : World} (h : Below w.heap.size w w' := by repeat (first | with_reducible exact Below.refl _ _ | with_reducible refine ballo _ ?_ | with_reducible refine Below.drew ?_ | with_reducible refine bdrewN ?_ _ | (with_reducible refine bset ?_ ?_ _; focus (first | omega | (simp; done) | (simp; omega))) | with_reducible refine bvia (by assumption) ?_)) : Below w.heap.size w w' := h
theorem bcell {W w1 : World} (hb : Below W.heap.size W w1) : (∀ b o, b < W.heap.size → w1.cell? ⟨b, o, none⟩ = W.cell? ⟨b, o, none⟩) ∧ (∀ b o, b < W.heap.size → w1.frozen? ⟨b, o, none⟩ = W.frozen? ⟨b, o, none⟩) :=
  ⟨fun b o h => hb.cell (p := ⟨b, o, none⟩) h, fun b o h => hb.frozen (p := ⟨b, o, none⟩) h⟩
theorem keepc {W w1 : World} (hb : Below W.heap.size W w1) {a : Addr} {v : Value} (h : W.cell? a = some v) : w1.cell? a = some v := (hb.cell (World.block_lt_of_cell? W _ h)).trans h
def putCells (w : World) (g at_ : Nat) : List Value → World
  | [] => w
  | u :: us => putCells (w.setCell ⟨g, at_, none⟩ u) g (at_ + 1) us

def splice (cur : Array Value) (at_ : Nat) : List Value → Array Value
  | [] => cur
  | u :: us => splice (cur.setIfInBounds at_ u) (at_ + 1) us
theorem splice_size (cur : Array Value) (at_ : Nat) (us : List Value) : (splice cur at_ us).size = cur.size := by
  induction us generalizing cur at_ with
  | nil => rfl
  | cons u us ih => rw [splice, ih]; simp
theorem splice_get (cur : Array Value) (at_ : Nat) (us : List Value) (h : at_ + us.length ≤ cur.size) (j : Nat) :
    (splice cur at_ us)[j]? = if at_ ≤ j ∧ j < at_ + us.length then us[j - at_]? else cur[j]? := by
  induction us generalizing cur at_ with
  | nil => rw [splice, if_neg (by simp)]
  | cons u us ih =>
    simp only [List.length_cons] at h ⊢
    rw [splice, ih _ _ (by simp; omega)]
    by_cases h1 : at_ + 1 ≤ j ∧ j < at_ + 1 + us.length
    · rw [if_pos h1, if_pos (by omega), show j - at_ = (j - (at_ + 1)) + 1 by omega, List.getElem?_cons_succ]
    · rw [if_neg h1]
      by_cases h2 : j = at_
      · subst h2
        rw [if_pos (by omega), Nat.sub_self, List.getElem?_cons_zero, Array.getElem?_setIfInBounds_self_of_lt (by omega)]
      · rw [if_neg (by omega), Array.getElem?_setIfInBounds_ne (by omega)]
theorem seg_ext {l m : List Value} {a b n : Nat} (h : ∀ j, j < n → l[a + j]? = m[b + j]?) : Rp.seg l a n = Rp.seg m b n := by
  unfold Rp.seg
  apply List.ext_getElem?
  intro j
  by_cases hj : j < n
  · rw [List.getElem?_take_of_lt hj, List.getElem?_take_of_lt hj, List.getElem?_drop, List.getElem?_drop]; exact h j hj
  · rw [List.getElem?_eq_none (by simp; omega), List.getElem?_eq_none (by simp; omega)]
theorem splice_seg_same (cur : Array Value) (at_ : Nat) (us : List Value) (h : at_ + us.length ≤ cur.size) : Rp.seg (splice cur at_ us).toList at_ us.length = us := by
  have : Rp.seg (splice cur at_ us).toList at_ us.length = Rp.seg us 0 us.length := seg_ext fun j hj => by
    rw [Array.getElem?_toList, splice_get _ _ _ h, if_pos (by omega), Nat.add_sub_cancel_left, Nat.zero_add]
  rw [this]; simp [Rp.seg]
theorem splice_seg_other (cur : Array Value) (at_ : Nat) (us : List Value) (h : at_ + us.length ≤ cur.size) (a n : Nat) (hd : a + n ≤ at_ ∨ at_ + us.length ≤ a) : Rp.seg (splice cur at_ us).toList a n = Rp.seg cur.toList a n :=
  seg_ext fun j hj => by rw [Array.getElem?_toList, splice_get _ _ _ h, if_neg (by omega), Array.getElem?_toList]
theorem putCells_blk {w : World} {g e : Nat} {cur : Array Value} (h : w.heap[g]? = some (.cells cur e (0, 0))) (at_ : Nat) (us : List Value) : (putCells w g at_ us).heap[g]? = some (.cells (splice cur at_ us) e (0, 0)) := by
  induction us generalizing w cur at_ with
  | nil => exact h
  | cons u us ih =>
    refine ih (w := w.setCell ⟨g, at_, none⟩ u) (cur := cur.setIfInBounds at_ u) ?_ (at_ + 1)
    simp only [World.setCell, Array.getElem?_modify, if_pos, h, Option.map_some]
    simp
theorem putCells_other (w : World) (g at_ : Nat) (us : List Value) (b : Nat) (hb : b ≠ g) : (putCells w g at_ us).heap[b]? = w.heap[b]? := by
  induction us generalizing w at_ with
  | nil => rfl
  | cons u us ih => rw [putCells, ih]; exact Below.heap_setCell _ _ _ _ hb
theorem blk_cell {w : World} {g e : Nat} {cur : Array Value} (h : w.heap[g]? = some (.cells cur e (0, 0))) {j : Nat} (hj : j < cur.size) : w.cell? ⟨g, j, none⟩ = some (cur[j]'hj) ∧ w.frozen? ⟨g, j, none⟩ = false := by
  constructor
  · simp [World.cell?, h, hj]
  · simp [World.frozen?, h]
theorem blk_drew {w : World} {g : Nat} {o : Option Obj} (h : w.heap[g]? = o) : w.drew.heap[g]? = o := h


structure Kf (n : Nat) (w w1 : World) : Prop where
  le : w.heap.size ≤ w1.heap.size
  at_ : ∀ b, n ≤ b → b < w.heap.size → w1.heap[b]? = w.heap[b]?
theorem Kf.refl (n : Nat) (w : World) : Kf n w w := ⟨Nat.le_refl _, fun _ _ _ => rfl⟩
theorem Kf.via {n : Nat} {w W w1 : World} (hb : Below W.heap.size W w1) (h : Kf n w W) : Kf n w w1 := ⟨Nat.le_trans h.le hb.size, fun b h1 h2 => (hb.block b (Nat.lt_of_lt_of_le h2 h.le)).trans (h.at_ b h1 h2)⟩
theorem Kf.alloc {n : Nat} {w W : World} (o : Obj) (h : Kf n w W) : Kf n w (W.alloc o) := ⟨Nat.le_trans h.le (by simp), fun b h1 h2 => (Below.heap_alloc _ _ _ (Nat.lt_of_lt_of_le h2 h.le)).trans (h.at_ b h1 h2)⟩
theorem Kf.drew {n : Nat} {w W : World} (h : Kf n w W) : Kf n w W.drew := ⟨h.le, h.at_⟩
theorem Kf.drewN {n : Nat} {w W : World} (h : Kf n w W) (k : Nat) : Kf n w (W.drewN k) := ⟨h.le, h.at_⟩
theorem Kf.set {n : Nat} {w W : World} {p : Addr} (hp : p.block < n) (h : Kf n w W) (u : Value) : Kf n w (W.setCell p u) := ⟨Nat.le_trans h.le (by simp), fun b h1 h2 => (Below.heap_setCell _ _ _ _ (by omega)).trans (h.at_ b h1 h2)⟩
theorem kep {n : Nat} {w w' : World} (h : Kf n w w' := by repeat (first | with_reducible exact Kf.refl _ _ | with_reducible refine Kf.alloc _ ?_ | with_reducible refine Kf.drew ?_ | with_reducible refine Kf.drewN ?_ _ | (with_reducible refine Kf.set ?_ ?_ _; focus (first | omega | (simp; done) | (simp; omega))) | with_reducible refine Kf.via (by assumption) ?_)) : Kf n w w' := h


def Fresh (w : World) (bs : List Nat) : Prop := bs.Nodup ∧ ∀ b ∈ bs, w.heap.size ≤ b
theorem fresh_nil (w : World) : Fresh w [] := ⟨List.nodup_nil, fun b h => by cases h⟩
theorem Fresh.own {α : Type} {d : Rp α} {e : Nat} {W w w1 : World} {bs : List Nat} {v : Value} {xs : List α} (hf : Fresh W bs) (ho : d.Own e w bs v xs) (hk : Kf W.heap.size w w1 := by exact kep) : d.Own e w1 bs v xs :=
  ho.keep fun b hb => hk.at_ b (hf.2 b hb) (ho.lt b hb)
theorem Fresh.O {α : Type} {d : Rp α} {W w w1 : World} {bs : List Nat} {x : α} {cs : List Value} (hf : Fresh W bs) (ho : d.O w bs x cs) (hk : Kf W.heap.size w w1 := by exact kep) : d.O w1 bs x cs :=
  d.O_keep (fun b hb => hk.at_ b (hf.2 b hb) (d.O_lt ho b hb)) ho
theorem Fresh.sub {w W : World} {bs : List Nat} (h : Fresh W bs) (hb : Below w.heap.size w W := by exact bel) : Fresh w bs := ⟨h.1, fun b hm => Nat.le_trans hb.size (h.2 b hm)⟩

structure Fill {α : Type} (d : Rp α) (e : Nat) (w0 w : World) (g n : Nat) (xs : List α) (cur : Array Value) (bss : List (List Nat)) : Prop where
  blk : w.heap[g]? = some (.cells cur e (0, 0))
  size : cur.size = n * d.sz
  le : xs.length ≤ n
  len : bss.length = xs.length
  el : ∀ k x b, xs[k]? = some x → bss[k]? = some b → d.O w b x (Rp.seg cur.toList (k * d.sz) d.sz)
  nd : (g :: bss.flatten).Nodup
  fr : ∀ b ∈ g :: bss.flatten, w0.heap.size ≤ b
theorem Fill.lt {α : Type} {d : Rp α} {e : Nat} {w0 w : World} {g n : Nat} {xs : List α} {cur : Array Value} {bss : List (List Nat)} (h : Fill d e w0 w g n xs cur bss) : ∀ b ∈ g :: bss.flatten, b < w.heap.size := by
  intro b hb
  rcases List.mem_cons.1 hb with rfl | hb
  · exact (Array.getElem?_eq_some_iff.1 h.blk).1
  · obtain ⟨b', hb', hm⟩ := List.mem_flatten.1 hb
    obtain ⟨i, hi⟩ := List.mem_iff_getElem?.1 hb'
    have hlt : i < xs.length := by rw [← h.len]; exact (List.getElem?_eq_some_iff.1 hi).1
    exact d.O_lt (h.el i _ b' (List.getElem?_eq_getElem hlt) hi) b hm
theorem Fill.below {α : Type} {d : Rp α} {e : Nat} {w0 w w1 : World} {g n : Nat} {xs : List α} {cur : Array Value} {bss : List (List Nat)} (h : Fill d e w0 w g n xs cur bss) (hb : Below w.heap.size w w1) : Fill d e w0 w1 g n xs cur bss :=
  ⟨(hb.block g (h.lt g List.mem_cons_self)).trans h.blk, h.size, h.le, h.len, fun k x b hk hbk => d.O_keep (fun b' hb' => hb.block b' (h.lt b' (List.mem_cons_of_mem _ (List.mem_flatten.2 ⟨b, List.mem_of_getElem? hbk, hb'⟩)))) (h.el k x b hk hbk), h.nd, h.fr⟩

theorem Fill.push {α : Type} {d : Rp α} {e : Nat} {w0 w1 w : World} {g n : Nat} {xs : List α} {cur : Array Value} {bss : List (List Nat)} (h : Fill d e w0 w1 g n xs cur bss) (hb : Below w1.heap.size w1 w) (hn : xs.length < n)
    {x : α} {b : List Nat} {cs : List Value} (hx : d.O w b x cs) (hfr : Fresh w1 b) : Fill d e w0 (putCells w g (xs.length * d.sz) cs) g n (xs ++ [x]) (splice cur (xs.length * d.sz) cs) (bss ++ [b]) := by
  have hw := h.below hb
  have hcl : cs.length = d.sz := d.K_len (d.O_K hx)
  have hsz : xs.length * d.sz + cs.length ≤ cur.size := by
    rw [hcl, h.size, ← Nat.succ_mul]; exact Nat.mul_le_mul_right _ hn
  have hgb : ∀ k ∈ b, k ≠ g := fun k hk hkg => by
    subst hkg
    have := h.lt k List.mem_cons_self
    have := hfr.2 k hk
    omega
  refine ⟨putCells_blk hw.blk _ _, by rw [splice_size]; exact h.size, by simp; omega, by simp [h.len], fun k y bk hk hbk => ?_, ?_, ?_⟩
  · rcases Nat.lt_or_ge k xs.length with hlt | hge
    · rw [List.getElem?_append_left hlt] at hk
      rw [List.getElem?_append_left (by rw [h.len]; exact hlt)] at hbk
      rw [splice_seg_other _ _ _ hsz _ _ (.inl (by rw [← Nat.succ_mul]; exact Nat.mul_le_mul_right _ hlt))]
      refine d.O_keep (fun b' hb' => putCells_other _ _ _ _ _ ?_) (hw.el k y bk hk hbk)
      rintro rfl
      exact (List.nodup_cons.1 h.nd).1 (List.mem_flatten.2 ⟨bk, List.mem_of_getElem? hbk, hb'⟩)
    · rw [List.getElem?_append_right hge] at hk
      rw [List.getElem?_append_right (by rw [h.len]; exact hge)] at hbk
      obtain ⟨hk0, rfl⟩ : k - xs.length = 0 ∧ x = y := by
        rcases hkk : k - xs.length with _ | m
        · rw [hkk] at hk; simp at hk; exact ⟨rfl, hk⟩
        · rw [hkk] at hk; simp at hk
      rw [h.len, hk0] at hbk
      simp at hbk
      subst hbk
      have hkx : k = xs.length := by omega
      subst hkx
      have hss := splice_seg_same cur (xs.length * d.sz) cs hsz
      rw [hcl] at hss
      rw [hss]
      exact d.O_keep (fun b' hb' => putCells_other _ _ _ _ _ (hgb b' hb')) hx
  · rw [List.flatten_append, ← List.cons_append]
    simp only [List.flatten_cons, List.flatten_nil, List.append_nil]
    refine List.nodup_append.2 ⟨h.nd, hfr.1, fun p hp q hq => ?_⟩
    have := h.lt p hp
    have := hfr.2 q hq
    omega
  · intro q hq
    rw [List.flatten_append] at hq
    simp only [List.flatten_cons, List.flatten_nil, List.append_nil, List.mem_cons, List.mem_append] at hq
    rcases hq with rfl | hq | hq
    · exact h.fr _ List.mem_cons_self
    · exact h.fr q (List.mem_cons_of_mem _ hq)
    · have := hfr.2 q hq
      have := h.lt g List.mem_cons_self
      have := h.fr g List.mem_cons_self
      omega
theorem Fill.own {α : Type} {d : Rp α} {e : Nat} {w0 w : World} {g n : Nat} {xs : List α} {cur : Array Value} {bss : List (List Nat)} (h : Fill d e w0 w g n xs cur bss) (hn : xs.length = n) (hm : n ≤ 9223372036854775807) :
    d.Own e w (g :: bss.flatten) (.slice (some ⟨g, 0, none⟩) n n) xs ∧ Fresh w0 (g :: bss.flatten) := by
  subst hn
  refine ⟨.inr ⟨g, 0, _, cur, bss, rfl, rfl, h.len, h.blk, by rw [h.size]; omega, Nat.le_refl _, hm, fun i x b hi hb => ?_⟩, h.nd, h.fr⟩
  rw [Nat.zero_add]
  exact h.el i x b hi hb
theorem Fill.cell {α : Type} {d : Rp α} {e : Nat} {w0 w1 w : World} {g n : Nat} {xs : List α} {cur : Array Value} {bss : List (List Nat)} (h : Hid (Fill d e w0 w1 g n xs cur bss)) (hb : Below w1.heap.size w1 w) {i : Nat} (hi : i < n) (j : Nat) (hj : j < d.sz) {at_ : Nat} (hat : i * d.sz + j = at_) :
    ∃ u, w.cell? ⟨g, at_, none⟩ = some u ∧ w.frozen? ⟨g, at_, none⟩ = false := by
  have h2 := h.out.below hb
  have : at_ < cur.size := by
    rw [h2.size, ← hat]
    have := Nat.mul_le_mul_right d.sz (Nat.succ_le_of_lt hi)
    rw [Nat.succ_mul] at this
    omega
  exact ⟨_, blk_cell h2.blk this⟩
end Go.Proofs.YtcidbencoebfaaaDoor.Wd


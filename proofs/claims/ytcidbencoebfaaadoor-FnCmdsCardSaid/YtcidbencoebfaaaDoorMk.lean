/- Rows of one's own, written in place: what else stays. Marks: what a row holds behind a mark. Conditions: none. -/
import Derived.Test.YtcidbencoebfaaaDoorApw
namespace Go.Proofs.YtcidbencoebfaaaDoor.Wd
open Go.RowKit
set_option linter.unusedVariables false
set_option linter.unusedSimpArgs false

structure Chg (bs : List Nat) (w w' : World) : Prop where
  os : w'.os = w.os
  tape : w'.tape = w.tape
  output : w'.output = w.output
  size : w.heap.size ≤ w'.heap.size
  block : ∀ k, k < w.heap.size → k ∉ bs → w'.heap[k]? = w.heap[k]?
theorem Chg.refl (bs : List Nat) (w : World) : Chg bs w w := ⟨rfl, rfl, rfl, Nat.le_refl _, fun _ _ _ => rfl⟩
theorem Chg.of_below {bs : List Nat} {w w' : World} (h : Below w.heap.size w w') : Chg bs w w' := ⟨h.os, h.tape, h.output, h.size, fun k hk _ => h.block k hk⟩
theorem Chg.trans {bs : List Nat} {a b c : World} (h : Chg bs a b) (k : Chg bs b c) : Chg bs a c :=
  ⟨k.os.trans h.os, k.tape.trans h.tape, k.output.trans h.output, Nat.le_trans h.size k.size, fun j hj hn => (k.block j (Nat.lt_of_lt_of_le hj h.size) hn).trans (h.block j hj hn)⟩
theorem Chg.mono {bs bs' : List Nat} {a b : World} (h : Chg bs a b) (hs : ∀ k ∈ bs, k < a.heap.size → k ∈ bs') : Chg bs' a b := ⟨h.os, h.tape, h.output, h.size, fun k hk hn => h.block k hk (fun hm => hn (hs k hm hk))⟩
theorem Chg.below {bs : List Nat} {w0 w w' : World} (h : Chg bs w w') (hb : ∀ b ∈ bs, w0.heap.size ≤ b) (h0 : Below w0.heap.size w0 w) : Below w0.heap.size w0 w' :=
  ⟨h.os.trans h0.os, h.tape.trans h0.tape, h.output.trans h0.output, Nat.le_trans h0.size h.size, fun k hk => (h.block k (Nat.lt_of_lt_of_le hk h0.size) (fun hm => by have := hb k hm; omega)).trans (h0.block k hk)⟩
theorem Chg.cell {bs : List Nat} {w w' : World} (h : Chg bs w w') {b o : Nat} {v : Value} (ha : b ∉ bs) (hc : w.cell? ⟨b, o, none⟩ = some v) : w'.cell? ⟨b, o, none⟩ = some v := by
  have hb := World.block_lt_of_cell? w _ hc
  have := h.block b hb ha
  simp only [World.cell?, this] at hc ⊢
  exact hc
theorem Chg.O {α : Type} {d : Rp α} {bs b' : List Nat} {w w' : World} {x : α} {cs : List Value} (h : Chg bs w w') (hd : ∀ b ∈ b', b ∉ bs) (ho : d.O w b' x cs) : d.O w' b' x cs := d.O_keep (fun b hb => h.block b (d.O_lt ho b hb) (hd b hb)) ho
theorem Chg.own {α : Type} {d : Rp α} {e : Nat} {bs b' : List Nat} {w w' : World} {xs : List α} {v : Value} (h : Chg bs w w') (hd : ∀ b ∈ b', b ∉ bs) (ho : d.Own e w b' v xs) : d.Own e w' b' v xs := ho.keep (fun b hb => h.block b (ho.lt b hb) (hd b hb))

structure OwnX {α : Type} (d : Rp α) (e : Nat) (w : World) (g o c : Nat) (cur : Array Value) (bss : List (List Nat)) (xs : List α) : Prop where
  len : bss.length = xs.length
  blk : w.heap[g]? = some (.cells cur e (0, 0))
  size : o + c * d.sz = cur.size
  le : xs.length ≤ c
  max : c ≤ 9223372036854775807
  el : ∀ i x b, xs[i]? = some x → bss[i]? = some b → d.O w b x (Rp.seg cur.toList (o + i * d.sz) d.sz)
theorem OwnX.own {α : Type} {d : Rp α} {e : Nat} {w : World} {g o c : Nat} {cur : Array Value} {bss : List (List Nat)} {xs : List α} (h : OwnX d e w g o c cur bss xs) : d.Own e w (g :: bss.flatten) (.slice (some ⟨g, o, none⟩) xs.length c) xs :=
  .inr ⟨g, o, c, cur, bss, rfl, rfl, h.len, h.blk, h.size, h.le, h.max, h.el⟩
structure Hol (g lo hi e n : Nat) (bi : List Nat) (w w' : World) : Prop where
  os : w'.os = w.os
  tape : w'.tape = w.tape
  output : w'.output = w.output
  size : w.heap.size ≤ w'.heap.size
  shape : ∃ cur', w'.heap[g]? = some (.cells cur' e (0, 0)) ∧ cur'.size = n
  out : ∀ j, (j < lo ∨ hi ≤ j) → w'.cell? ⟨g, j, none⟩ = w.cell? ⟨g, j, none⟩
  block : ∀ k, k < w.heap.size → k ≠ g → k ∉ bi → w'.heap[k]? = w.heap[k]?
theorem Hol.refl {g lo hi e : Nat} {bi : List Nat} {w : World} {cur : Array Value} (h : w.heap[g]? = some (.cells cur e (0, 0))) : Hol g lo hi e cur.size bi w w := ⟨rfl, rfl, rfl, Nat.le_refl _, ⟨cur, h, rfl⟩, fun _ _ => rfl, fun _ _ _ _ => rfl⟩
theorem Hol.set {g lo hi e n : Nat} {bi : List Nat} {w w' : World} {j : Nat} (h1 : lo ≤ j) (h2 : j < hi) (u : Value) (h : Hol g lo hi e n bi w w') : Hol g lo hi e n bi w (w'.setCell ⟨g, j, none⟩ u) := by
  obtain ⟨cur, hc, hs⟩ := h.shape
  have hblk : (w'.setCell ⟨g, j, none⟩ u).heap[g]? = some (.cells (cur.setIfInBounds j u) e (0, 0)) := putCells_blk hc j [u]
  refine ⟨h.os, h.tape, h.output, Nat.le_trans h.size (by simp), ⟨_, hblk, by simpa using hs⟩, fun k hk => ?_, fun k hk hg hb => (Below.heap_setCell _ _ _ _ hg).trans (h.block k hk hg hb)⟩
  rw [← h.out k hk]
  simp only [World.cell?, hblk, hc]
  rw [Array.getElem?_setIfInBounds_ne (by omega)]
theorem Hol.chg {g lo hi e n : Nat} {bi bs : List Nat} {w w1 w2 : World} (hc : Chg bs w1 w2) (hg : g ∉ bs) (hb : ∀ b ∈ bs, b ∈ bi ∨ w.heap.size ≤ b) (h : Hol g lo hi e n bi w w1) : Hol g lo hi e n bi w w2 := by
  obtain ⟨cur, hcu, hs⟩ := h.shape
  have hlt : g < w1.heap.size := (Array.getElem?_eq_some_iff.1 hcu).1
  have hblk := hc.block g hlt hg
  refine ⟨hc.os.trans h.os, hc.tape.trans h.tape, hc.output.trans h.output, Nat.le_trans h.size hc.size, ⟨cur, hblk.trans hcu, hs⟩, fun k hk => ?_, fun k hk hkg hkb => (hc.block k (Nat.lt_of_lt_of_le hk h.size) (fun hm => ?_)).trans (h.block k hk hkg hkb)⟩
  · rw [← h.out k hk]; simp only [World.cell?, hblk]
  · rcases hb k hm with h1 | h1
    · exact hkb h1
    · omega
theorem Hol.alloc {g lo hi e n : Nat} {bi : List Nat} {w w1 : World} (o : Obj) (h : Hol g lo hi e n bi w w1) : Hol g lo hi e n bi w (w1.alloc o) := by
  have hc : Chg [] w1 (w1.alloc o) := ⟨rfl, rfl, rfl, by simp, fun k hk _ => Below.heap_alloc _ _ _ hk⟩
  exact h.chg hc (by simp) (fun b hb => by cases hb)
theorem Hol.drew {g lo hi e n : Nat} {bi : List Nat} {w w1 : World} (h : Hol g lo hi e n bi w w1) : Hol g lo hi e n bi w w1.drew := ⟨h.os, h.tape, h.output, h.size, h.shape, h.out, h.block⟩
theorem Chg.via {S bs : List Nat} {w W W2 : World} (hc : Chg bs W W2) (hs : ∀ b ∈ bs, b ∈ S) (h : Chg S w W) : Chg S w W2 := h.trans (hc.mono fun k hk _ => hs k hk)
theorem Chg.alloc {S : List Nat} {w W : World} (o : Obj) (h : Chg S w W) : Chg S w (W.alloc o) := h.trans ⟨rfl, rfl, rfl, by simp, fun k hk _ => Below.heap_alloc _ _ _ hk⟩
theorem Rp.Own.below {α : Type} {d : Rp α} {e : Nat} {w w1 : World} {bs : List Nat} {v : Value} {xs : List α} (h : d.Own e w bs v xs) (hb : Below w.heap.size w w1) : d.Own e w1 bs v xs := h.keep fun b hm => hb.block b (h.lt b hm)
theorem AppRes.chg {α : Type} {d : Rp α} {e : Nat} {w w' : World} {bs bl bs' : List Nat} {v v' : Value} {zs : List α} (h : AppRes d e w bs bl v zs v' w' bs') : Chg bs w w' := ⟨h.os, h.tape, h.output, h.size, h.block⟩
theorem own_lit {α : Type} {d : Rp α} {e : Nat} {w : World} {g : Nat} {xs : List α} {cur : Array Value} (hb : w.heap[g]? = some (.cells cur e (0, 0))) (hsz : cur.size = xs.length * d.sz) (hmax : xs.length ≤ 9223372036854775807)
    (hel : ∀ i x, xs[i]? = some x → d.O w [] x (Rp.seg cur.toList (i * d.sz) d.sz)) : d.Own e w [g] (.slice (some ⟨g, 0, none⟩) xs.length xs.length) xs := by
  have hfl : (List.replicate xs.length ([] : List Nat)).flatten = [] := by induction xs.length with | zero => rfl | succ n ih => simp [List.replicate_succ, ih]
  refine .inr ⟨g, 0, xs.length, cur, List.replicate xs.length [], rfl, by rw [hfl], by simp, hb, by omega, Nat.le_refl _, hmax, fun i x b hx hbb => ?_⟩
  rw [List.getElem?_replicate] at hbb
  split at hbb
  · cases hbb
    rw [Nat.zero_add]
    exact hel i x hx
  · cases hbb
theorem own_lit1 {α : Type} {d : Rp α} {e : Nat} {w : World} {g : Nat} {x : α} {u : Value} (h1 : d.sz = 1) (hb : w.heap[g]? = some (.cells #[u] e (0, 0))) (hx : d.O w [] x [u]) : d.Own e w [g] (.slice (some ⟨g, 0, none⟩) 1 1) [x] :=
  own_lit (xs := [x]) hb (by simp [h1]) (by simp) fun i y hy => by
    have hi := (List.getElem?_eq_some_iff.1 hy).1
    have h0 : i = 0 := by simpa using hi
    subst h0
    simp at hy; subst hy
    simpa [Rp.seg, h1] using hx
theorem own_lit2 {α : Type} {d : Rp α} {e : Nat} {w : World} {g : Nat} {x y : α} {u v : Value} (h1 : d.sz = 1) (hb : w.heap[g]? = some (.cells #[u, v] e (0, 0))) (hx : d.O w [] x [u]) (hy : d.O w [] y [v]) : d.Own e w [g] (.slice (some ⟨g, 0, none⟩) 2 2) [x, y] :=
  own_lit (xs := [x, y]) hb (by simp [h1]) (by simp) fun i z hz => by
    have hi := (List.getElem?_eq_some_iff.1 hz).1
    have h0 : i = 0 ∨ i = 1 := by simp at hi; omega
    rcases h0 with rfl | rfl
    · simp at hz; subst hz; simpa [Rp.seg, h1] using hx
    · simp at hz; subst hz; simpa [Rp.seg, h1] using hy
theorem blk_alloc (w : World) (o : Obj) : (w.alloc o).heap[w.heap.size]? = some o := by show (w.heap.push o)[w.heap.size]? = some o; simp
theorem blk_alloc' {w : World} {o : Obj} {n : Nat} (h : n = w.heap.size) : (w.alloc o).heap[n]? = some o := by subst h; exact blk_alloc w o
theorem cells_nil {P : Nat → Value → Prop} : ∀ j u, ([] : List Value)[j]? = some u → P j u := fun j u h => by simp at h
theorem cells_cons {P : Nat → Value → Prop} {u : Value} {us : List Value} (h : P 0 u) (hs : ∀ j v, us[j]? = some v → P (j + 1) v) : ∀ j v, (u :: us)[j]? = some v → P j v
  | 0, v, hj => by simp at hj; subst hj; exact h
  | j + 1, v, hj => hs j v (by simpa using hj)

theorem take_set {α : Type} {ys : List α} {i : Nat} {y : α} (hi : i < ys.length) : (ys.set i y).take (i + 1) = ys.take i ++ [y] := by
  rw [List.take_succ_eq_append_getElem (by simpa using hi), List.take_set_of_le (Nat.le_refl i), List.getElem_set_self]
end Go.Proofs.YtcidbencoebfaaaDoor.Wd


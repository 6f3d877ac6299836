/- Rows of one's own, written in place: what else stays. Marks: what a row holds behind a mark. Conditions: none. -/
import Derived.Test.YtcidbencoebfaaaDoorApw
namespace Go.Proofs.YtcidbencoebfaaaDoor.Wd
open Go.RowKit
set_option linter.unusedVariables false
set_option linter.unusedSimpArgs false

structure Chg (bs : List Nat) (w w' : World) : Prop where
  os : w'.os = w.os
  tape : w'.tape = w.tape
  output : w'.output = w.output
  size : w.heap.size ≤ w'.heap.size
  block : ∀ k, k < w.heap.size → k ∉ bs → w'.heap[k]? = w.heap[k]?
theorem Chg.refl (bs : List Nat) (w : World) : Chg bs w w := ⟨rfl, rfl, rfl, Nat.le_refl _, fun _ _ _ => rfl⟩
theorem Chg.of_below {bs : List Nat} {w w' : World} (h : Below w.heap.size w w') : Chg bs w w' := ⟨h.os, h.tape, h.output, h.size, fun k hk _ => h.block k hk⟩
theorem Chg.trans {bs : List Nat} {a b c : World} (h : Chg bs a b) (k : Chg bs b c) : Chg bs a c :=
  ⟨k.os.trans h.os, k.tape.trans h.tape, k.output.trans h.output, Nat.le_trans h.size k.size, fun j hj hn => (k.block j (Nat.lt_of_lt_of_le hj h.size) hn).trans (h.block j hj hn)⟩
theorem Chg.mono {bs bs' : List Nat} {a b : World} (h : Chg bs a b) (hs : ∀ k ∈ bs, k < a.heap.size → k ∈ bs') : Chg bs' a b := ⟨h.os, h.tape, h.output, h.size, fun k hk hn => h.block k hk (fun hm => hn (hs k hm hk))⟩
theorem Chg.below {bs : List Nat} {w0 w w' : World} (h : Chg bs w w') (hb : ∀ b ∈ bs, w0.heap.size ≤ b) (h0 : Below w0.heap.size w0 w) : Below w0.heap.size w0 w' :=
  ⟨h.os.trans h0.os, h.tape.trans h0.tape, h.output.trans h0.output, Nat.le_trans h0.size h.size, fun k hk => (h.block k (Nat.lt_of_lt_of_le hk h0.size) (fun hm => by have := hb k hm; omega)).trans (h0.block k hk)⟩
theorem Chg.cell {bs : List Nat} {w w' : World} (h : Chg bs w w') {b o : Nat} {v : Value} (ha : b ∉ bs) (hc : w.cell? ⟨b, o, none⟩ = some v) : w'.cell? ⟨b, o, none⟩ = some v := by
  have hb := World.block_lt_of_cell? w _ hc
  have := h.block b hb ha
  simp only [World.cell?, this] at hc ⊢
  exact hc
theorem Chg.O {α : Type} {d : Rp α} {bs b' : List Nat} {w w' : World} {x : α} {cs : List Value} (h : Chg bs w w') (hd : ∀ b ∈ b', b ∉ bs) (ho : d.O w b' x cs) : d.O w' b' x cs := d.O_keep (fun b hb => h.block b (d.O_lt ho b hb) (hd b hb)) ho
theorem Chg.own {α : Type} {d : Rp α} {e : Nat} {bs b' : List Nat} {w w' : World} {xs : List α} {v : Value} (h : Chg bs w w') (hd : ∀ b ∈ b', b ∉ bs) (ho : d.Own e w b' v xs) : d.Own e w' b' v xs := ho.keep (fun b hb => h.block b (ho.lt b hb) (hd b hb))

structure OwnX {α : Type} (d : Rp α) (e : Nat) (w : World) (g o c : Nat) (cur : Array Value) (bss : List (List Nat)) (xs : List α) : Prop where
  len : bss.length = xs.length
  blk : w.heap[g]? = some (.cells cur e (0, 0))
  size : o + c * d.sz = cur.size
  le : xs.length ≤ c
  max : c ≤ 9223372036854775807
  el : ∀ i x b, xs[i]? = some x → bss[i]? = some b → d.O w b x (Rp.seg cur.toList (o + i * d.sz) d.sz)
theorem OwnX.own {α : Type} {d : Rp α} {e : Nat} {w : World} {g o c : Nat} {cur : Array Value} {bss : List (List Nat)} {xs : List α} (h : OwnX d e w g o c cur bss xs) : d.Own e w (g :: bss.flatten) (.slice (some ⟨g, o, none⟩) xs.length c) xs :=
  .inr ⟨g, o, c, cur, bss, rfl, rfl, h.len, h.blk, h.size, h.le, h.max, h.el⟩
theorem own_x {α : Type} {d : Rp α} {e : Nat} {w : World} {bs : List Nat} {v : Value} {xs : List α} (h : d.Own e w bs v xs) (hn : 0 < xs.length) : ∃ g o c cur bss, v = .slice (some ⟨g, o, none⟩) xs.length c ∧ bs = g :: List.flatten bss ∧ OwnX d e w g o c cur bss xs := by
  rcases h with ⟨rfl, _⟩ | ⟨g, o, c, cur, bss, h1, h2, h3, h4, h5, h6, h7, h8⟩
  · exact absurd hn (by simp)
  · exact ⟨g, o, c, cur, bss, h1, h2, h3, h4, h5, h6, h7, h8⟩

structure Hol (g lo hi e n : Nat) (bi : List Nat) (w w' : World) : Prop where
  os : w'.os = w.os
  tape : w'.tape = w.tape
  output : w'.output = w.output
  size : w.heap.size ≤ w'.heap.size
  shape : ∃ cur', w'.heap[g]? = some (.cells cur' e (0, 0)) ∧ cur'.size = n
  out : ∀ j, (j < lo ∨ hi ≤ j) → w'.cell? ⟨g, j, none⟩ = w.cell? ⟨g, j, none⟩
  block : ∀ k, k < w.heap.size → k ≠ g → k ∉ bi → w'.heap[k]? = w.heap[k]?
theorem Hol.refl {g lo hi e : Nat} {bi : List Nat} {w : World} {cur : Array Value} (h : w.heap[g]? = some (.cells cur e (0, 0))) : Hol g lo hi e cur.size bi w w := ⟨rfl, rfl, rfl, Nat.le_refl _, ⟨cur, h, rfl⟩, fun _ _ => rfl, fun _ _ _ _ => rfl⟩
theorem Hol.set {g lo hi e n : Nat} {bi : List Nat} {w w' : World} {j : Nat} (h1 : lo ≤ j) (h2 : j < hi) (u : Value) (h : Hol g lo hi e n bi w w') : Hol g lo hi e n bi w (w'.setCell ⟨g, j, none⟩ u) := by
  obtain ⟨cur, hc, hs⟩ := h.shape
  have hblk : (w'.setCell ⟨g, j, none⟩ u).heap[g]? = some (.cells (cur.setIfInBounds j u) e (0, 0)) := putCells_blk hc j [u]
  refine ⟨h.os, h.tape, h.output, Nat.le_trans h.size (by simp), ⟨_, hblk, by simpa using hs⟩, fun k hk => ?_, fun k hk hg hb => (Below.heap_setCell _ _ _ _ hg).trans (h.block k hk hg hb)⟩
  rw [← h.out k hk]
  simp only [World.cell?, hblk, hc]
  rw [Array.getElem?_setIfInBounds_ne (by omega)]
theorem Hol.chg {g lo hi e n : Nat} {bi bs : List Nat} {w w1 w2 : World} (hc : Chg bs w1 w2) (hg : g ∉ bs) (hb : ∀ b ∈ bs, b ∈ bi ∨ w.heap.size ≤ b) (h : Hol g lo hi e n bi w w1) : Hol g lo hi e n bi w w2 := by
  obtain ⟨cur, hcu, hs⟩ := h.shape
  have hlt : g < w1.heap.size := (Array.getElem?_eq_some_iff.1 hcu).1
  have hblk := hc.block g hlt hg
  refine ⟨hc.os.trans h.os, hc.tape.trans h.tape, hc.output.trans h.output, Nat.le_trans h.size hc.size, ⟨cur, hblk.trans hcu, hs⟩, fun k hk => ?_, fun k hk hkg hkb => (hc.block k (Nat.lt_of_lt_of_le hk h.size) (fun hm => ?_)).trans (h.block k hk hkg hkb)⟩
  · rw [← h.out k hk]; simp only [World.cell?, hblk]
  · rcases hb k hm with h1 | h1
    · exact hkb h1
    · omega
theorem Hol.alloc {g lo hi e n : Nat} {bi : List Nat} {w w1 : World} (o : Obj) (h : Hol g lo hi e n bi w w1) : Hol g lo hi e n bi w (w1.alloc o) := by
  have hc : Chg [] w1 (w1.alloc o) := ⟨rfl, rfl, rfl, by simp, fun k hk _ => Below.heap_alloc _ _ _ hk⟩
  exact h.chg hc (by simp) (fun b hb => by cases hb)
theorem Hol.drew {g lo hi e n : Nat} {bi : List Nat} {w w1 : World} (h : Hol g lo hi e n bi w w1) : Hol g lo hi e n bi w w1.drew := ⟨h.os, h.tape, h.output, h.size, h.shape, h.out, h.block⟩
theorem flat_disj : ∀ {bss : List (List Nat)}, bss.flatten.Nodup → ∀ {i j : Nat} (hi : i < bss.length) (hj : j < bss.length), i ≠ j → ∀ {q : Nat}, q ∈ bss[i] → q ∈ bss[j] → False
  | [], _, i, j, hi, _, _, _, _, _ => by simp at hi
  | b :: bss, h, i, j, hi, hj, hij, q, h1, h2 => by
    rw [List.flatten_cons, List.nodup_append] at h
    obtain ⟨_, hn, hd⟩ := h
    rcases i with _ | i <;> rcases j with _ | j
    · exact hij rfl
    · exact hd q h1 q (List.mem_flatten.2 ⟨_, List.getElem_mem _, by simpa using h2⟩) rfl
    · exact hd q h2 q (List.mem_flatten.2 ⟨_, List.getElem_mem _, by simpa using h1⟩) rfl
    · exact flat_disj hn (i := i) (j := j) (by simpa using hi) (by simpa using hj) (by omega) (by simpa using h1) (by simpa using h2)

theorem own_set {α : Type} {d : Rp α} {e : Nat} {w w' : World} {g o c : Nat} {cur : Array Value} {bss : List (List Nat)} {xs : List α} (h : OwnX d e w g o c cur bss xs) (hnd : (g :: bss.flatten).Nodup) {i : Nat} (hi : i < xs.length) (hi' : i < bss.length)
    (hol : Hol g (o + i * d.sz) (o + i * d.sz + d.sz) e cur.size bss[i] w w') {y : α} {cs : List Value} (hy : d.O w' bss[i] y cs) (hcs : ∀ j u, cs[j]? = some u → w'.cell? ⟨g, o + i * d.sz + j, none⟩ = some u) :
    ∃ cur', OwnX d e w' g o c cur' bss (xs.set i y) ∧ cur'.size = cur.size := by
  obtain ⟨cur', hblk, hsz⟩ := hol.shape
  have hge : ∀ j, w'.cell? ⟨g, j, none⟩ = cur'[j]? := fun j => by simp [World.cell?, hblk]
  have hge0 : ∀ j, w.cell? ⟨g, j, none⟩ = cur[j]? := fun j => by simp [World.cell?, h.blk]
  refine ⟨cur', ⟨by rw [List.length_set]; exact h.len, hblk, by rw [hsz]; exact h.size, by rw [List.length_set]; exact h.le, h.max, fun k x b hk hb => ?_⟩, hsz⟩
  by_cases hki : k = i
  · subst hki
    rw [List.getElem?_set_self hi] at hk
    rw [List.getElem?_eq_getElem hi'] at hb
    cases hk; cases hb
    have hl := d.K_len (d.O_K hy)
    have : Rp.seg cur'.toList (o + k * d.sz) d.sz = cs := by
      apply List.ext_getElem?
      intro j
      by_cases hj : j < d.sz
      · unfold Rp.seg
        rw [List.getElem?_take_of_lt hj, List.getElem?_drop, Array.getElem?_toList, ← hge]
        rw [hcs j _ (List.getElem?_eq_getElem (by omega)), List.getElem?_eq_getElem (by omega)]
      · rw [List.getElem?_eq_none (by omega : cs.length ≤ j)]
        unfold Rp.seg
        rw [List.getElem?_eq_none (by rw [List.length_take]; omega)]
    rw [this]; exact hy
  · rw [List.getElem?_set_ne (by omega)] at hk
    have hold := h.el k x b hk hb
    have hkl := (List.getElem?_eq_some_iff.1 hk).1
    have hkb := (List.getElem?_eq_some_iff.1 hb).1
    have hseg : Rp.seg cur'.toList (o + k * d.sz) d.sz = Rp.seg cur.toList (o + k * d.sz) d.sz := seg_ext fun j hj => by
      rw [Array.getElem?_toList, Array.getElem?_toList, ← hge, ← hge0]
      apply hol.out
      rcases Nat.lt_or_gt_of_ne hki with hlt | hgt
      · left; have := Nat.mul_le_mul_right d.sz (Nat.succ_le_of_lt hlt); rw [Nat.succ_mul] at this; omega
      · right; have := Nat.mul_le_mul_right d.sz (Nat.succ_le_of_lt hgt); rw [Nat.succ_mul] at this; omega
    rw [hseg]
    refine d.O_keep (fun q hq => hol.block q (d.O_lt hold q hq) ?_ ?_) hold
    · rintro rfl
      exact (List.nodup_cons.1 hnd).1 (List.mem_flatten.2 ⟨b, List.mem_of_getElem? hb, hq⟩)
    · intro hqi
      have hfl := (List.nodup_cons.1 hnd).2
      obtain ⟨hbl, hbe⟩ := List.getElem?_eq_some_iff.1 hb
      rw [← hbe] at hq
      exact flat_disj hfl hkb hi' hki hq hqi
theorem own_set_chg {w w' : World} {g lo hi e n : Nat} {bss : List (List Nat)} {i : Nat} (hi' : i < bss.length) (hol : Hol g lo hi e n bss[i] w w') : Chg (g :: bss.flatten) w w' :=
  ⟨hol.os, hol.tape, hol.output, hol.size, fun k hk hn => hol.block k hk (fun h => hn (by rw [h]; exact List.mem_cons_self)) (fun h => hn (List.mem_cons_of_mem _ (List.mem_flatten.2 ⟨_, List.getElem_mem hi', h⟩)))⟩
theorem own_set2 {α : Type} {d : Rp α} {e : Nat} {w w' : World} {g o c : Nat} {cur : Array Value} {bss : List (List Nat)} {xs : List α} (h : OwnX d e w g o c cur bss xs) (hnd : (g :: bss.flatten).Nodup) {i : Nat} (hi : i < xs.length) (hi' : i < bss.length) {lo hi2 : Nat}
    (hol : Hol g lo hi2 e cur.size bss[i] w w') (hlo : o + i * d.sz = lo) (hhi : lo + d.sz = hi2) {y : α} {cs : List Value} (hy : d.O w' bss[i] y cs) (hcs : ∀ j u, cs[j]? = some u → w'.cell? ⟨g, lo + j, none⟩ = some u) :
    ∃ cur', OwnX d e w' g o c cur' bss (xs.set i y) ∧ cur'.size = cur.size := by
  subst hlo; subst hhi
  exact own_set h hnd hi hi' hol hy hcs
theorem Chg.setc {S : List Nat} {w W : World} {g j : Nat} (hg : g ∈ S) (u : Value) (h : Chg S w W) : Chg S w (W.setCell ⟨g, j, none⟩ u) :=
  ⟨h.os, h.tape, h.output, Nat.le_trans h.size (by simp), fun k hk hn => (Below.heap_setCell _ _ _ _ (fun he => hn (by rw [he]; exact hg))).trans (h.block k hk hn)⟩
theorem Chg.via {S bs : List Nat} {w W W2 : World} (hc : Chg bs W W2) (hs : ∀ b ∈ bs, b ∈ S) (h : Chg S w W) : Chg S w W2 := h.trans (hc.mono fun k hk _ => hs k hk)
theorem Chg.alloc {S : List Nat} {w W : World} (o : Obj) (h : Chg S w W) : Chg S w (W.alloc o) := h.trans ⟨rfl, rfl, rfl, by simp, fun k hk _ => Below.heap_alloc _ _ _ hk⟩
theorem seg_cell {w : World} {g e a n : Nat} {cur : Array Value} {cs : List Value} (h : w.heap[g]? = some (.cells cur e (0, 0))) (hs : Rp.seg cur.toList a n = cs) {j : Nat} {u : Value} (hj : cs[j]? = some u) : w.cell? ⟨g, a + j, none⟩ = some u := by
  rw [← hs] at hj
  have := Rp.seg_get hj
  simp only [World.cell?, h]
  simpa using this
theorem drop_at {α : Type} {xs ys : List α} {i : Nat} (h : ys.drop i = xs.drop i) (hi : i < xs.length) (hi2 : i < ys.length) : ys[i] = xs[i] := by
  rw [List.drop_eq_getElem_cons hi, List.drop_eq_getElem_cons hi2] at h
  exact (List.cons.inj h).1
theorem drop_next {α : Type} {xs ys : List α} {i : Nat} (h : ys.drop i = xs.drop i) : ys.drop (i + 1) = xs.drop (i + 1) := by
  have := congrArg (List.drop 1) h
  simpa [List.drop_drop, Nat.add_comm] using this
theorem sub_flat : ∀ {bss : List (List Nat)} {i : Nat} (h : i < bss.length), (bss[i]).Sublist bss.flatten
  | b :: bss, 0, _ => by simp
  | b :: bss, i + 1, h => by
    rw [List.flatten_cons]
    exact (sub_flat (bss := bss) (i := i) (by simpa using h)).trans (List.sublist_append_right _ _)
theorem Rp.Own.below {α : Type} {d : Rp α} {e : Nat} {w w1 : World} {bs : List Nat} {v : Value} {xs : List α} (h : d.Own e w bs v xs) (hb : Below w.heap.size w w1) : d.Own e w1 bs v xs := h.keep fun b hm => hb.block b (h.lt b hm)
theorem AppRes.chg {α : Type} {d : Rp α} {e : Nat} {w w' : World} {bs bl bs' : List Nat} {v v' : Value} {zs : List α} (h : AppRes d e w bs bl v zs v' w' bs') : Chg bs w w' := ⟨h.os, h.tape, h.output, h.size, h.block⟩
theorem own_lit {α : Type} {d : Rp α} {e : Nat} {w : World} {g : Nat} {xs : List α} {cur : Array Value} (hb : w.heap[g]? = some (.cells cur e (0, 0))) (hsz : cur.size = xs.length * d.sz) (hmax : xs.length ≤ 9223372036854775807)
    (hel : ∀ i x, xs[i]? = some x → d.O w [] x (Rp.seg cur.toList (i * d.sz) d.sz)) : d.Own e w [g] (.slice (some ⟨g, 0, none⟩) xs.length xs.length) xs := by
  have hfl : (List.replicate xs.length ([] : List Nat)).flatten = [] := by induction xs.length with | zero => rfl | succ n ih => simp [List.replicate_succ, ih]
  refine .inr ⟨g, 0, xs.length, cur, List.replicate xs.length [], rfl, by rw [hfl], by simp, hb, by omega, Nat.le_refl _, hmax, fun i x b hx hbb => ?_⟩
  rw [List.getElem?_replicate] at hbb
  split at hbb
  · cases hbb
    rw [Nat.zero_add]
    exact hel i x hx
  · cases hbb
theorem own_lit1 {α : Type} {d : Rp α} {e : Nat} {w : World} {g : Nat} {x : α} {u : Value} (h1 : d.sz = 1) (hb : w.heap[g]? = some (.cells #[u] e (0, 0))) (hx : d.O w [] x [u]) : d.Own e w [g] (.slice (some ⟨g, 0, none⟩) 1 1) [x] :=
  own_lit (xs := [x]) hb (by simp [h1]) (by simp) fun i y hy => by
    have hi := (List.getElem?_eq_some_iff.1 hy).1
    have h0 : i = 0 := by simpa using hi
    subst h0
    simp at hy; subst hy
    simpa [Rp.seg, h1] using hx
theorem own_lit2 {α : Type} {d : Rp α} {e : Nat} {w : World} {g : Nat} {x y : α} {u v : Value} (h1 : d.sz = 1) (hb : w.heap[g]? = some (.cells #[u, v] e (0, 0))) (hx : d.O w [] x [u]) (hy : d.O w [] y [v]) : d.Own e w [g] (.slice (some ⟨g, 0, none⟩) 2 2) [x, y] :=
  own_lit (xs := [x, y]) hb (by simp [h1]) (by simp) fun i z hz => by
    have hi := (List.getElem?_eq_some_iff.1 hz).1
    have h0 : i = 0 ∨ i = 1 := by simp at hi; omega
    rcases h0 with rfl | rfl
    · simp at hz; subst hz; simpa [Rp.seg, h1] using hx
    · simp at hz; subst hz; simpa [Rp.seg, h1] using hy
theorem blk_alloc (w : World) (o : Obj) : (w.alloc o).heap[w.heap.size]? = some o := by show (w.heap.push o)[w.heap.size]? = some o; simp
theorem blk_alloc' {w : World} {o : Obj} {n : Nat} (h : n = w.heap.size) : (w.alloc o).heap[n]? = some o := by subst h; exact blk_alloc w o
theorem settleC {P : Program} {f : Nat} {a : Array Value} {w : World} {Q : Ending → World → Prop} (h : ∀ W, W = w → Calls P f a W Q) : Calls P f a w Q := h w rfl
def FlatB {α : Type} (d : Rp α) : Prop := ∀ w bs x cs, d.O w bs x cs → bs = []
theorem flatb_scalar {α : Type} (enc : α → Value) (h1 : ∀ x, (enc x).oneCell' = true) : FlatB (Rp.scalar enc h1) := fun _ _ _ _ h => h.1
theorem flatb_int : FlatB Rp.int := flatb_scalar _ _
theorem flatb_pair {α β : Type} {a : Rp α} {b : Rp β} (ha : FlatB a) (hb : FlatB b) : FlatB (Rp.pair a b) := by
  rintro w bs x cs ⟨c0, c1, b0, b1, rfl, rfl, h0, h1⟩
  rw [ha _ _ _ _ h0, hb _ _ _ _ h1]; rfl
theorem flatb_iso {α β : Type} {d : Rp α} (f : β → α) (hd : FlatB d) : FlatB (Rp.iso d f) := fun w bs x cs h => hd w bs (f x) cs h
theorem cells_nil {P : Nat → Value → Prop} : ∀ j u, ([] : List Value)[j]? = some u → P j u := fun j u h => by simp at h
theorem cells_cons {P : Nat → Value → Prop} {u : Value} {us : List Value} (h : P 0 u) (hs : ∀ j v, us[j]? = some v → P (j + 1) v) : ∀ j v, (u :: us)[j]? = some v → P j v
  | 0, v, hj => by simp at hj; subst hj; exact h
  | j + 1, v, hj => hs j v (by simpa using hj)

def MkS {α : Type} (M : α → Int → Int → Prop) : List α → Int → Int → Prop
  | [], k, k' => k' = k
  | x :: xs, k, k' => ∃ k1, M x k k1 ∧ MkS M xs k1 k'
theorem MkS_snoc {α : Type} {M : α → Int → Int → Prop} : ∀ {xs : List α} {x : α} {k k1 k2 : Int}, MkS M xs k k1 → M x k1 k2 → MkS M (xs ++ [x]) k k2
  | [], x, k, k1, k2, h, h2 => by cases h; exact ⟨k2, h2, rfl⟩
  | y :: xs, x, k, k1, k2, ⟨k0, h0, h⟩, h2 => ⟨k0, h0, MkS_snoc h h2⟩
theorem MkS_drop {α : Type} {M : α → Int → Int → Prop} {xs : List α} {i : Nat} (hi : i < xs.length) {k k' : Int} (h : MkS M (xs.drop i) k k') : ∃ k1, M xs[i] k k1 ∧ MkS M (xs.drop (i + 1)) k1 k' := by
  rw [List.drop_eq_getElem_cons hi] at h
  exact h
theorem take_set {α : Type} {ys : List α} {i : Nat} {y : α} (hi : i < ys.length) : (ys.set i y).take (i + 1) = ys.take i ++ [y] := by
  rw [List.take_succ_eq_append_getElem (by simpa using hi), List.take_set_of_le (Nat.le_refl i), List.getElem_set_self]
theorem drop_set {α : Type} {ys : List α} {i : Nat} {y : α} : (ys.set i y).drop (i + 1) = ys.drop (i + 1) := by
  rw [List.drop_set_of_lt (by omega)]
end Go.Proofs.YtcidbencoebfaaaDoor.Wd


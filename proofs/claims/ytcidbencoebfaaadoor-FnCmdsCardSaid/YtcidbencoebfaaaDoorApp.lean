/- append onto rows of one's own. Conditions: none. -/
import Derived.Test.YtcidbencoebfaaaDoorWd
import Derived.ArgAppend
namespace Go.Proofs.YtcidbencoebfaaaDoor.Wd
open Go.RowKit
set_option linter.unusedVariables false
set_option linter.unusedSimpArgs false
theorem setCells_put (w : World) (g : Nat) : ∀ (vs : List Value) (o : Nat), w.setCells g o vs = putCells w g o vs
  | [], _ => rfl
  | v :: r, o => by rw [World.setCells, putCells]; exact setCells_put _ g r (o + 1)
theorem putCells_same (g : Nat) : ∀ (vs : List Value) (o : Nat) (w : World), (putCells w g o vs).os = w.os ∧ (putCells w g o vs).tape = w.tape ∧ (putCells w g o vs).output = w.output ∧ (putCells w g o vs).heap.size = w.heap.size
  | [], _, _ => ⟨rfl, rfl, rfl, rfl⟩
  | v :: r, o, w => by
    obtain ⟨h1, h2, h3, h4⟩ := putCells_same g r (o + 1) (w.setCell ⟨g, o, none⟩ v)
    exact ⟨h1, h2, h3, h4.trans (by simp)⟩

theorem seg_app_left {l m : List Value} {a n : Nat} (h : a + n ≤ l.length) : Rp.seg (l ++ m) a n = Rp.seg l a n :=
  seg_ext fun j hj => List.getElem?_append_left (by omega)
theorem seg_app_right {l m : List Value} {a n : Nat} : Rp.seg (l ++ m) (l.length + a) n = Rp.seg m a n :=
  seg_ext fun j hj => by rw [List.getElem?_append_right (by omega)]; congr 1; omega
theorem seg_len {l : List Value} {a n : Nat} (h : a + n ≤ l.length) : (Rp.seg l a n).length = n := by unfold Rp.seg; rw [List.length_take, List.length_drop]; omega
theorem seg_seg {l : List Value} {a n b m : Nat} (h : b + m ≤ n) : Rp.seg (Rp.seg l a n) b m = Rp.seg l (a + b) m :=
  seg_ext fun j hj => by unfold Rp.seg; rw [List.getElem?_take_of_lt (by omega), List.getElem?_drop]; congr 1; omega
theorem own_app {α : Type} {d : Rp α} {e : Nat} {w : World} {g o c : Nat} {cur : Array Value} {bss bys : List (List Nat)} {xs ys : List α} (hb : w.heap[g]? = some (.cells cur e (0, 0))) (hsz : o + c * d.sz = cur.size) (hc : (xs ++ ys).length ≤ c) (hm : c ≤ 9223372036854775807) (hl : bss.length = xs.length) (hl2 : bys.length = ys.length)
    (hx : ∀ i x b, xs[i]? = some x → bss[i]? = some b → d.O w b x (Rp.seg cur.toList (o + i * d.sz) d.sz))
    (hy : ∀ i y b, ys[i]? = some y → bys[i]? = some b → d.O w b y (Rp.seg cur.toList (o + (xs.length + i) * d.sz) d.sz)) :
    d.Own e w (g :: (bss ++ bys).flatten) (.slice (some ⟨g, o, none⟩) (xs ++ ys).length c) (xs ++ ys) := by
  refine .inr ⟨g, o, c, cur, bss ++ bys, rfl, rfl, by simp [hl, hl2], hb, hsz, hc, hm, fun i x b hi hbi => ?_⟩
  rcases Nat.lt_or_ge i xs.length with h | h
  · rw [List.getElem?_append_left h] at hi
    rw [List.getElem?_append_left (by omega)] at hbi
    exact hx i x b hi hbi
  · rw [List.getElem?_append_right h] at hi
    rw [List.getElem?_append_right (by omega), hl] at hbi
    have := hy (i - xs.length) x b hi hbi
    rwa [show xs.length + (i - xs.length) = i by omega] at this
structure AppRes {α : Type} (d : Rp α) (e : Nat) (w : World) (bs bl : List Nat) (v : Value) (zs : List α) (v' : Value) (w' : World) (bs' : List Nat) : Prop where
  own : d.Own e w' bs' v' zs
  nd : bs'.Nodup
  sub : ∀ b ∈ bs', b ∈ bs ∨ b ∈ bl ∨ w.heap.size ≤ b
  os : w'.os = w.os
  tape : w'.tape = w.tape
  output : w'.output = w.output
  size : w.heap.size ≤ w'.heap.size
  block : ∀ k, k < w.heap.size → k ∉ bs → w'.heap[k]? = w.heap[k]?
  row : ∃ A c, v' = .slice A zs.length c
theorem run_app {α : Type} (d : Rp α) {P : Program} (w : World) (t ty e : TypeId) (i : TypeInfo) (z : Value) (bytes : Nat) (ht : P.underlying t = some (.slice e)) (hi : P.info? e = some i) (hz : i.zero = some z)
    (hsize : i.size = d.sz) (hby : i.bytes = bytes) (hzs : z.cells.size = d.sz) (hpos : 0 < d.sz)
    {v : Value} {xs ys : List α} {bs : List Nat} {bys : List (List Nat)} (ho : d.Own e w bs v xs)
    (a : Addr) (c : Nat) (news : List Value) (hl : news.length = ys.length * d.sz) (hnews : ∀ j u, news[j]? = some u → w.cell? (a.add j) = some u) (hm : 0 < ys.length)
    (hyl : bys.length = ys.length) (hy : ∀ i y b, ys[i]? = some y → bys[i]? = some b → d.O w b y (Rp.seg news (i * d.sz) d.sz))
    (hnd : (bs ++ bys.flatten).Nodup) (hbytes : (xs.length + ys.length) * bytes ≤ 140737488355328) (hb1 : 0 < bytes) :
    ∃ v' w' bs', (Builtin.append_ #[t, t] ty #[v, .slice (some a) ys.length c]).run P w = .ok v' w' ∧ AppRes d e w bs bys.flatten v (xs ++ ys) v' w' bs' := by
  have hlen : xs.length + ys.length ≤ 140737488355328 := Nat.le_trans (Nat.le_mul_of_pos_right _ hb1) hbytes
  have h1 : ∀ u ∈ news, u.oneCell' = true := by
    intro u hu
    obtain ⟨j, hj⟩ := List.mem_iff_getElem?.1 hu
    have hjl := (List.getElem?_eq_some_iff.1 hj).1
    have hq : j / d.sz < ys.length := by rw [Nat.div_lt_iff_lt_mul hpos]; omega
    have hO := hy (j / d.sz) _ _ (List.getElem?_eq_getElem hq) (List.getElem?_eq_getElem (by omega))
    refine d.K_one (d.O_K hO) u ?_
    have hmod := Nat.mod_lt j hpos
    have hdm := Nat.div_add_mod j d.sz
    refine List.mem_iff_getElem?.2 ⟨j % d.sz, ?_⟩
    unfold Rp.seg
    rw [List.getElem?_take_of_lt hmod, List.getElem?_drop]
    rw [Nat.mul_comm] at hdm
    rw [hdm]
    exact hj
  
  have grows : ∀ (b : Addr) (cap : Nat) (olds : List Value) (bss : List (List Nat)), v = .slice (some b) xs.length cap → cap < xs.length + ys.length → olds.length = xs.length * d.sz → (∀ j u, olds[j]? = some u → w.cell? (b.add j) = some u) → bss.length = xs.length →
      (∀ i x b, xs[i]? = some x → bss[i]? = some b → d.O w b x (Rp.seg olds (i * d.sz) d.sz)) → (∀ k ∈ bss.flatten, k ∈ bs) → (bss.flatten ++ bys.flatten).Nodup →
      ∃ v' w' bs', (Builtin.append_ #[t, t] ty #[v, .slice (some a) ys.length c]).run P w = .ok v' w' ∧ AppRes d e w bs bys.flatten v (xs ++ ys) v' w' bs' := by
    intro b cap olds bss hv hcap hol hoc hbl hx hsub hnd2
    obtain ⟨v', w', hr, hown, hg⟩ := run_append_arg_grows (P := P) (w := w) t ty e i z d.sz bytes ht hi hz hsize hby hzs hpos b xs.length cap olds hol hoc a ys.length c news hl hnews hcap (by simp only [maxLen]; omega) hbytes
    rcases hown.2 with ⟨_, h0⟩ | ⟨g, cap', cur, hv', hbg, hgb, hnc, hcm, hcs, htk⟩
    · omega
    · have hcurl : xs.length * d.sz + ys.length * d.sz ≤ cur.size := by rw [hcs, ← Nat.add_mul]; exact Nat.mul_le_mul_right _ hnc
      have hpre : ∀ a n, a + n ≤ (xs.length + ys.length) * d.sz → Rp.seg cur.toList a n = Rp.seg (olds ++ news) a n := by
        intro a n han
        refine seg_ext fun j hj => ?_
        rw [← htk, List.getElem?_take_of_lt (by omega)]
      have hkeep : ∀ {b : List Nat} {x : α} {cs : List Value}, d.O w b x cs → d.O w' b x cs := fun hO => d.O_keep (fun k hk => hg.block k (d.O_lt hO k hk) (by simp)) hO
      have hO := own_app (d := d) (w := w') (g := g) (o := 0) (c := cap') (cur := cur) (bss := bss) (bys := bys) (xs := xs) (ys := ys) hgb (by rw [hcs]; omega) (by rw [List.length_append]; exact hnc) (by simp only [maxLen] at hcm; omega) hbl hyl
        (fun i x b hi hb => by
          have hlt := (List.getElem?_eq_some_iff.1 hi).1
          have hle : i * d.sz + d.sz ≤ xs.length * d.sz := by rw [← Nat.succ_mul]; exact Nat.mul_le_mul_right _ hlt
          rw [Nat.zero_add, hpre _ _ (by rw [Nat.add_mul]; omega), seg_app_left (by omega)]
          exact hkeep (hx i x b hi hb))
        (fun i y b hi hb => by
          have hlt := (List.getElem?_eq_some_iff.1 hi).1
          have hle : i * d.sz + d.sz ≤ ys.length * d.sz := by rw [← Nat.succ_mul]; exact Nat.mul_le_mul_right _ hlt
          rw [Nat.zero_add, Nat.add_mul, hpre _ _ (by rw [Nat.add_mul]; omega), ← hol, seg_app_right]
          exact hkeep (hy i y b hi hb))
      refine ⟨v', w', g :: (bss ++ bys).flatten, by rw [hv]; exact hr, ?_, ?_, ?_, hg.os, hg.tape, hg.output, hg.size, fun k hk _ => hg.block k hk (by simp), ⟨_, _, by rw [hv', List.length_append]⟩⟩
      · rw [hv', ← List.length_append]; exact hO
      · rw [List.flatten_append]
        refine List.nodup_cons.2 ⟨fun hm => ?_, hnd2⟩
        rcases List.mem_append.1 hm with hm | hm
        · have := ho.lt g (hsub g hm); omega
        · obtain ⟨b', hb', hmm⟩ := List.mem_flatten.1 hm
          obtain ⟨q, hq⟩ := List.mem_iff_getElem?.1 hb'
          have hql : q < ys.length := by rw [← hyl]; exact (List.getElem?_eq_some_iff.1 hq).1
          have := d.O_lt (hy q _ b' (List.getElem?_eq_getElem hql) hq) g hmm
          omega
      · intro k hk
        rw [List.flatten_append] at hk
        rcases List.mem_cons.1 hk with rfl | hk
        · exact .inr (.inr hbg)
        · rcases List.mem_append.1 hk with hk | hk
          · exact .inl (hsub k hk)
          · exact .inr (.inl hk)
  rcases ho with ⟨rfl, rfl, A, rfl⟩ | ⟨g, o, cp, cur, bss, rfl, rfl, hbl, hg, hsz, h2, h3, hx⟩
  · cases A with
    | none =>
      obtain ⟨v', w', hr, hown, hgr, _⟩ := run_append_own (P := P) w w.heap.size t ty e i z d.sz bytes ht hi hz hsize hby hzs hpos (.slice none 0 0) 0 [] ⟨by simp, .inl ⟨rfl, rfl⟩⟩ a ys.length c news hl hnews h1 (by simp only [maxLen]; simp at hlen; omega) (by simpa using hbytes) (Nat.le_refl _)
      rcases hown.2 with ⟨_, h0⟩ | ⟨g, cap', cur, hv', hbg, hgb, hnc, hcm, hcs, htk⟩
      · omega
      · simp only [Nat.zero_add, List.nil_append] at hnc htk
        have hpre : ∀ a n, a + n ≤ ys.length * d.sz → Rp.seg cur.toList a n = Rp.seg news a n := by
          intro a n han
          refine seg_ext fun j hj => ?_
          rw [← htk, List.getElem?_take_of_lt (by omega)]
        have hkeep : ∀ {b : List Nat} {x : α} {cs : List Value}, d.O w b x cs → d.O w' b x cs := fun hO => d.O_keep (fun k hk => hgr.block k (d.O_lt hO k hk) (by simp [Value.ownBlock])) hO
        have hO := own_app (d := d) (w := w') (g := g) (o := 0) (c := cap') (cur := cur) (bss := []) (bys := bys) (xs := []) (ys := ys) hgb (by rw [hcs]; omega) (by simpa using hnc) (by simp only [maxLen] at hcm; omega) rfl hyl
          (fun i x b hi hb => by simp at hi)
          (fun i y b hi hb => by
            have hlt := (List.getElem?_eq_some_iff.1 hi).1
            have hle : i * d.sz + d.sz ≤ ys.length * d.sz := by rw [← Nat.succ_mul]; exact Nat.mul_le_mul_right _ hlt
            simp only [List.length_nil, Nat.zero_add]
            rw [hpre _ _ hle]
            exact hkeep (hy i y b hi hb))
        simp only [List.nil_append] at hO hnd ⊢
        refine ⟨v', w', g :: bys.flatten, hr, ?_, ?_, ?_, hgr.os, hgr.tape, hgr.output, hgr.size, fun k hk _ => hgr.block k hk (by simp [Value.ownBlock]), ⟨_, _, by rw [hv', Nat.zero_add]⟩⟩
        · rw [hv', Nat.zero_add]; exact hO
        · refine List.nodup_cons.2 ⟨fun hm => ?_, hnd⟩
          obtain ⟨b', hb', hmm⟩ := List.mem_flatten.1 hm
          obtain ⟨q, hq⟩ := List.mem_iff_getElem?.1 hb'
          have hql : q < ys.length := by rw [← hyl]; exact (List.getElem?_eq_some_iff.1 hq).1
          have := d.O_lt (hy q _ b' (List.getElem?_eq_getElem hql) hq) g hmm
          omega
        · intro k hk
          rcases List.mem_cons.1 hk with rfl | hk
          · exact .inr (.inr hbg)
          · exact .inr (.inl hk)
    | some b => exact grows b 0 [] [] rfl (by simp; omega) (by simp) (fun j u hu => by simp at hu) rfl (fun i x b hi => by simp at hi) (fun k hk => by simp at hk) (by simpa using hnd)
  · have hcurl : o + xs.length * d.sz ≤ cur.size := by rw [← hsz]; have := Nat.mul_le_mul_right d.sz h2; omega
    by_cases hroom : xs.length + ys.length ≤ cp
    · have hfit : o + xs.length * d.sz + news.length ≤ cur.size := by
        rw [hl, ← hsz]; have := Nat.mul_le_mul_right d.sz hroom; rw [Nat.add_mul] at this; omega
      rw [← hsize] at hl
      have hr := run_append_room_cells (P := P) (w := w) t ty e i ht hi g o xs.length cp a ys.length c news hl hnews h1 hroom
        (fun j hj => by rw [hsize]; rw [(blk_cell hg (by omega)).1]; rfl) (fun j hj => by rw [hsize]; exact (blk_cell hg (by omega)).2)
      rw [hsize] at hr hl
      rw [setCells_put] at hr
      obtain ⟨s1, s2, s3, s4⟩ := putCells_same g news (o + xs.length * d.sz) w
      have hnd0 := hnd
      rw [List.cons_append] at hnd
      obtain ⟨hgn, hnd1⟩ := List.nodup_cons.1 hnd
      have hO := own_app (d := d) (w := putCells w g (o + xs.length * d.sz) news) (g := g) (o := o) (c := cp) (cur := splice cur (o + xs.length * d.sz) news) (bss := bss) (bys := bys) (xs := xs) (ys := ys) (putCells_blk hg _ _) (by rw [splice_size]; exact hsz) (by rw [List.length_append]; exact hroom) h3 hbl hyl
        (fun i x b hi hb => by
          have hlt := (List.getElem?_eq_some_iff.1 hi).1
          have hle : i * d.sz + d.sz ≤ xs.length * d.sz := by rw [← Nat.succ_mul]; exact Nat.mul_le_mul_right _ hlt
          rw [splice_seg_other _ _ _ hfit _ _ (.inl (by omega))]
          exact d.O_keep (fun k hk => putCells_other _ _ _ _ _ (fun h => hgn (by subst h; exact List.mem_append_left _ (List.mem_flatten.2 ⟨b, List.mem_of_getElem? hb, hk⟩)))) (hx i x b hi hb))
        (fun i y b hi hb => by
          have hlt := (List.getElem?_eq_some_iff.1 hi).1
          have hle : i * d.sz + d.sz ≤ ys.length * d.sz := by rw [← Nat.succ_mul]; exact Nat.mul_le_mul_right _ hlt
          have hsg : Rp.seg (splice cur (o + xs.length * d.sz) news).toList (o + (xs.length + i) * d.sz) d.sz = Rp.seg news (i * d.sz) d.sz := by
            have h4 := splice_seg_same cur (o + xs.length * d.sz) news hfit
            have h5 := seg_seg (l := (splice cur (o + xs.length * d.sz) news).toList) (a := o + xs.length * d.sz) (n := news.length) (b := i * d.sz) (m := d.sz) (by omega)
            rw [h4] at h5
            rw [h5, Nat.add_mul]
            congr 1
            omega
          rw [hsg]
          exact d.O_keep (fun k hk => putCells_other _ _ _ _ _ (fun h => hgn (by subst h; exact List.mem_append_right _ (List.mem_flatten.2 ⟨b, List.mem_of_getElem? hb, hk⟩)))) (hy i y b hi hb))
      refine ⟨_, _, g :: (bss ++ bys).flatten, hr, ?_, ?_, ?_, s1, s2, s3, by rw [s4]; exact Nat.le_refl _, fun k _ hk => putCells_other _ _ _ _ _ (fun h => hk (by rw [h]; exact List.mem_cons_self)), ⟨_, _, by rw [List.length_append]⟩⟩
      · rw [← List.length_append]; exact hO
      · rw [List.flatten_append]; exact hnd
      · intro k hk
        rw [List.flatten_append] at hk
        rcases List.mem_cons.1 hk with rfl | hk
        · exact .inl List.mem_cons_self
        · rcases List.mem_append.1 hk with hk | hk
          · exact .inl (List.mem_cons_of_mem _ hk)
          · exact .inr (.inl hk)
    · refine grows ⟨g, o, none⟩ cp (Rp.seg cur.toList o (xs.length * d.sz)) bss rfl (by omega) (seg_len (by rw [Array.length_toList]; omega)) (fun j u hu => ?_) hbl (fun i x b hi hb => ?_) (fun k hk => List.mem_cons_of_mem _ hk) (by rw [List.cons_append] at hnd; exact (List.nodup_cons.1 hnd).2)
      · have hj : j < xs.length * d.sz := by have := (List.getElem?_eq_some_iff.1 hu).1; rw [seg_len (by rw [Array.length_toList]; omega)] at this; exact this
        have := Rp.seg_get hu
        rw [show (⟨g, o, none⟩ : Addr).add j = ⟨g, o + j, none⟩ by unfold Addr.add; split <;> simp_all]
        simp only [World.cell?, hg]
        simpa using this
      · have hlt := (List.getElem?_eq_some_iff.1 hi).1
        have hle : i * d.sz + d.sz ≤ xs.length * d.sz := by rw [← Nat.succ_mul]; exact Nat.mul_le_mul_right _ hlt
        rw [seg_seg hle]
        exact hx i x b hi hb
end Go.Proofs.YtcidbencoebfaaaDoor.Wd


/- Rows of one's own whose elements lie apart: from the printed words to mine. Conditions: none. -/
import Derived.Test.YtcidbencoebfaaaDoorBr
namespace Go.Proofs.YtcidbencoebfaaaDoor.Wd
open Go.RowKit Go.Proofs.YtcidbencoebfaaaDoorW.PrintWords
set_option linter.unusedVariables false
set_option linter.unusedSimpArgs false
theorem choose_apart {fo : Nat → Nat} {P : Nat → List Nat → Prop} : ∀ n : Nat, (∀ j, j < n → ∃ b, P j b ∧ b.Nodup ∧ ∀ k ∈ b, fo k = j) →
    ∃ bss : List (List Nat), bss.length = n ∧ bss.flatten.Nodup ∧ (∀ k ∈ bss.flatten, fo k < n) ∧ ∀ j b, bss[j]? = some b → P j b
  | 0, _ => ⟨[], rfl, by simp, by simp, fun j b h => by cases h⟩
  | n + 1, h => by
    obtain ⟨bss, h1, h2, h3, h4⟩ := choose_apart n (fun j hj => h j (by omega))
    obtain ⟨b, hb, hn, hf⟩ := h n (by omega)
    refine ⟨bss ++ [b], by simp [h1], ?_, fun k hk => ?_, fun j b' hj => ?_⟩
    · rw [List.flatten_append, List.nodup_append]
      refine ⟨h2, by simpa using hn, fun x hx y hy he => ?_⟩
      have := h3 x hx
      have := hf y (by simpa using hy)
      subst he; omega
    · rw [List.flatten_append, List.mem_append] at hk
      rcases hk with hk | hk
      · have := h3 k hk; omega
      · have := hf k (by simpa using hk); omega
    · rcases Nat.lt_or_ge j bss.length with hl | hl
      · rw [List.getElem?_append_left hl] at hj; exact h4 j b' hj
      · rw [List.getElem?_append_right hl] at hj
        have : j - bss.length = 0 := by
          rcases Nat.eq_zero_or_pos (j - bss.length) with h0 | h0
          · exact h0
          · rw [List.getElem?_eq_none (by simp; omega)] at hj; cases hj
        rw [this] at hj
        have e : b = b' := by simpa using hj
        subst e
        rw [show j = n by omega]; exact hb
theorem seg_take (l : List Value) {n j z : Nat} (h : j < n) : ((l.take (n * z)).drop (j * z)).take z = Rp.seg l (0 + j * z) z := by
  unfold Rp.seg
  have : (j + 1) * z ≤ n * z := Nat.mul_le_mul_right z h
  rw [Nat.succ_mul] at this
  rw [List.drop_take, List.take_take, Nat.min_eq_left (by omega), Nat.zero_add]
theorem own_of_S {α β : Type} {d : Kd α} {d' : Rp β} {f : α → β} {e : Nat} {w : World} {base : Nat} {ok : Nat → Prop} {v : Value} {xs : List α} (hsz : d.sz = d'.sz)
    (hO : ∀ x cs (okk : Nat → Prop), d.M w base okk x cs → ∃ b, d'.O w b (f x) cs ∧ b.Nodup ∧ ∀ k ∈ b, okk k ∧ base ≤ k) (h : Kd.S d e w base ok v xs) :
    ∃ bs, d'.Own e w bs v (xs.map f) ∧ bs.Nodup ∧ ∀ k ∈ bs, ok k ∧ base ≤ k := by
  obtain ⟨fo, h0, inner, ho, hr⟩ := h
  rw [List.length_zipIdx] at ho
  rcases ho.2 with ⟨rfl, hn⟩ | ⟨g, cap, cur, rfl, hg, hb, hn, hc, hs, ht⟩
  · have : xs = [] := List.length_eq_zero_iff.1 hn
    subst this
    exact ⟨[], .inl ⟨rfl, rfl, none, rfl⟩, by simp, by simp⟩
  · have hsz' : (Kd.tag fo d).sz = d'.sz := hsz
    rw [hsz'] at hs ht
    have hr2 := hr.2
    rw [hsz'] at hr2
    obtain ⟨bss, h1, h2, h3, h4⟩ := choose_apart (fo := fo) (P := fun j b => (∀ x, xs[j]? = some x → d'.O w b (f x) (Rp.seg cur.toList (0 + j * d'.sz) d'.sz)) ∧ ∀ k ∈ b, (ok k ∧ k ≠ g) ∧ base ≤ k) xs.length (fun j hj => by
      have hx := List.getElem?_eq_getElem hj
      have hm := hr2 j _ (Kd.zip_at hx)
      rw [← ht, seg_take _ hj] at hm
      obtain ⟨b, hb1, hb2, hb3⟩ := hO _ _ _ hm
      refine ⟨b, ⟨fun x hx' => ?_, fun k hk => ?_⟩, hb2, fun k hk => (hb3 k hk).1.2⟩
      · rw [hx] at hx'; cases hx'; exact hb1
      · have := hb3 k hk
        exact ⟨⟨this.1.1.1, fun e => this.1.1.2 (by rw [e]; rfl)⟩, this.2⟩)
    refine ⟨g :: bss.flatten, .inr ⟨g, 0, cap, cur, bss, by rw [List.length_map], rfl, by rw [List.length_map]; exact h1, hb, by omega, by rw [List.length_map]; exact hn, by simp only [maxLen] at hc; omega, fun i y b hi hbi => ?_⟩, ?_, fun k hk => ?_⟩
    · rw [List.getElem?_map] at hi
      obtain ⟨x, hx, rfl⟩ := Option.map_eq_some_iff.1 hi
      exact (h4 i b hbi).1 x hx
    · rw [List.nodup_cons]
      refine ⟨fun hm => ?_, h2⟩
      obtain ⟨b, hb1, hb2⟩ := List.mem_flatten.1 hm
      obtain ⟨j, hj⟩ := List.mem_iff_getElem?.1 hb1
      exact ((h4 j b hj).2 g hb2).1.2 rfl
    · rcases List.mem_cons.1 hk with rfl | hk
      · exact ⟨h0 _ rfl, hg⟩
      · obtain ⟨b, hb1, hb2⟩ := List.mem_flatten.1 hk
        obtain ⟨j, hj⟩ := List.mem_iff_getElem?.1 hb1
        have := (h4 j b hj).2 k hb2
        exact ⟨this.1.1, this.2⟩
theorem own_of_R0 {α β : Type} {d : Kd α} {d' : Rp β} {f : α → β} {e : Nat} {w : World} {base : Nat} {ok : Nat → Prop} {v : Value} {xs : List α} (hsz : d.sz = d'.sz)
    (hO : ∀ x cs (okk : Nat → Prop), d.M w base okk x cs → d'.O w [] (f x) cs) (h : Kd.R d e w base ok v xs) :
    ∃ bs, d'.Own e w bs v (xs.map f) ∧ bs.Nodup ∧ ∀ k ∈ bs, ok k ∧ base ≤ k := by
  obtain ⟨h0, inner, ho, hr⟩ := h
  rcases ho.2 with ⟨rfl, hn⟩ | ⟨g, cap, cur, rfl, hg, hb, hn, hc, hs, ht⟩
  · have : xs = [] := List.length_eq_zero_iff.1 hn
    subst this
    exact ⟨[], .inl ⟨rfl, rfl, none, rfl⟩, by simp, by simp⟩
  · have hr2 := hr.2
    rw [hsz] at hs ht hr2
    refine ⟨g :: (List.replicate xs.length ([] : List Nat)).flatten, .inr ⟨g, 0, cap, cur, List.replicate xs.length [], by rw [List.length_map], rfl, by simp, hb, by omega, by rw [List.length_map]; exact hn, by simp only [maxLen] at hc; omega, fun i y b hi hbi => ?_⟩, by simp, fun k hk => ?_⟩
    · rw [List.getElem?_map] at hi
      obtain ⟨x, hx, rfl⟩ := Option.map_eq_some_iff.1 hi
      have hl := (List.getElem?_eq_some_iff.1 hx).1
      have hbe : b = [] := by rw [List.getElem?_replicate] at hbi; rw [if_pos hl] at hbi; cases hbi; rfl
      subst hbe
      have hm := hr2 i _ hx
      rw [← ht, seg_take _ hl] at hm
      exact hO _ _ _ hm
    · simp at hk; subst hk; exact ⟨h0 _ rfl, hg⟩
end Go.Proofs.YtcidbencoebfaaaDoor.Wd


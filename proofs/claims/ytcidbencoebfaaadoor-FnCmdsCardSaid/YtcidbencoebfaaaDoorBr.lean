/- From the printed words on rows to mine, and back. Conditions: none. -/
import Derived.Test.YtcidbencoebfaaaDoorWd
import Derived.Test.YtcidbencoebfaaaDoorWWords
import Derived.Test.YtcidbencoebfaaaDoorWApart
namespace Go.Proofs.YtcidbencoebfaaaDoor.Wd
open Go.RowKit Go.Proofs.YtcidbencoebfaaaDoorW.PrintWords
set_option linter.unusedVariables false
set_option linter.unusedSimpArgs false
theorem spotN {w : World} {a : Addr} {v : Value} (h : w.cell? a = some v) : a = ⟨a.block, a.off, none⟩ := by
  obtain ⟨b, o, s⟩ := a
  cases s with
  | none => rfl
  | some s => unfold World.cell? at h; simp at h; split at h <;> simp at h
theorem addN (b o n : Nat) : (⟨b, o, none⟩ : Addr).add n = ⟨b, o + n, none⟩ := by unfold Addr.add; split <;> simp_all

theorem row_of_C {α β : Type} {d : Kd α} {d' : Rp β} {f : α → β} {w : World} {A : Option Addr} {n : Nat} {xs : List α} (hsz : d.sz = d'.sz) (hpos : 0 < d.sz) (hK : ∀ x cs, d.K w x cs → d'.K w (f x) cs) (h : Kd.C d w A n xs) : d'.Row w A (xs.map f) := by
  obtain ⟨hl, hm, hc⟩ := h
  refine ⟨by simp; omega, fun hne => ?_⟩
  have hn : 0 < n := by
    cases xs with
    | nil => simp at hne
    | cons x xs => simp at hl; omega
  obtain ⟨ad, rfl, hcell⟩ := hc hn
  obtain ⟨x0, hx0⟩ : ∃ x, xs[0]? = some x := ⟨xs[0]'(by omega), List.getElem?_eq_getElem _⟩
  obtain ⟨c0, hc0, _, hr0⟩ := hcell 0 x0 hx0
  obtain ⟨u, hu⟩ : ∃ u, c0[0]? = some u := ⟨c0[0]'(by omega), List.getElem?_eq_getElem _⟩
  have h0 := hr0 0 u hu
  simp only [Nat.zero_mul, Nat.add_zero] at h0
  have hsp := spotN (by simpa [Addr.add] using h0)
  refine ⟨ad.block, ad.off, by rw [← hsp], fun i y hy => ?_⟩
  rw [List.getElem?_map] at hy
  obtain ⟨x, hx, rfl⟩ := Option.map_eq_some_iff.1 hy
  obtain ⟨c, hcs, hk, hcc⟩ := hcell i x hx
  refine ⟨c, hK x c hk, fun j u hu => ?_⟩
  have := hcc j u hu
  rw [hsp, addN] at this
  rw [← hsz, Nat.add_assoc]
  exact this
theorem C_of_row {α β : Type} {d : Kd α} {d' : Rp β} {f : β → α} {w : World} {A : Option Addr} {xs : List β} (hsz : d.sz = d'.sz) (hlen : ∀ x cs, d.K w x cs → cs.length = d.sz) (hK : ∀ x cs, d'.K w x cs → d.K w (f x) cs) (h : d'.Row w A xs) : Kd.C d w A xs.length (xs.map f) := by
  obtain ⟨hm, hc⟩ := h
  refine ⟨by simp, hm, fun hn => ?_⟩
  obtain ⟨b, o, rfl, hcell⟩ := hc (fun h => by rw [h] at hn; exact absurd hn (by simp))
  refine ⟨_, rfl, fun j y hy => ?_⟩
  rw [List.getElem?_map] at hy
  obtain ⟨x, hx, rfl⟩ := Option.map_eq_some_iff.1 hy
  obtain ⟨c, hk, hcc⟩ := hcell j x hx
  refine ⟨c, hlen _ _ (hK _ _ hk), hK _ _ hk, fun i u hu => ?_⟩
  rw [addN, ← Nat.add_assoc, hsz]
  exact hcc i u hu
theorem row_str {w : World} {A : Option Addr} {n : Nat} {xs : List ByteArray} (h : Kd.C Kd.string w A n xs) : Rp.str.Row w A xs := by
  have := row_of_C (d := Kd.string) (d' := Rp.str) (f := id) rfl (by decide) (fun x cs h => h) h
  rwa [List.map_id] at this
theorem R_lit1 {α : Type} (enc : α → Value) (h1 : ∀ x, (enc x).oneCell' = true) (e : Nat) (w : World) (xs : List α) (hm : xs.length ≤ 1048577) :
    Kd.R (Kd.scalar enc h1) e (w.alloc (.cells (xs.map enc).toArray e)) w.heap.size (fun _ => True) (.slice (some ⟨w.heap.size, 0, none⟩) xs.length xs.length) xs := by
  refine ⟨fun _ _ => trivial, xs.map enc, ⟨by simp [Kd.scalar], .inr ⟨w.heap.size, xs.length, (xs.map enc).toArray, rfl, Nat.le_refl _, ?_, Nat.le_refl _, by simp only [maxLen]; omega, by simp [Kd.scalar], by simp only [Kd.scalar, Nat.mul_one]; exact List.take_of_length_le (by simp)⟩⟩, by simp [Kd.scalar], fun j p hj => ?_⟩
  · show (w.heap.push _)[w.heap.size]? = _; simp
  · have hi := (List.getElem?_eq_some_iff.1 hj).1
    show ((xs.map enc).drop (j * 1)).take 1 = [enc p]
    apply List.ext_getElem?
    intro i
    rcases i with _ | i
    · simp [List.getElem?_take, List.getElem?_drop, hj]
    · simp [List.getElem?_take]
end Go.Proofs.YtcidbencoebfaaaDoor.Wd


/- append onto rows of one's own, as the walk meets it. Conditions: none. -/
import Derived.Test.YtcidbencoebfaaaDoorApp
import Derived.Deep.Upon
namespace Go.Proofs.YtcidbencoebfaaaDoor.Wd
open Go.RowKit
set_option linter.unusedVariables false
set_option linter.unusedSimpArgs false

theorem settleR {P : Program} {c : Code} {Q : Exit → Act → World → Prop} {a : Act} {w : World} (h : ∀ W, W = w → Code.wp P c Q a W) : Code.wp P c Q a w := h w rfl
theorem row_of {α : Type} {d : Rp α} {e : Nat} {w : World} {bs : List Nat} {B : Option Addr} {n c : Nat} {xs : List α} (h : d.Own e w bs (.slice B n c) xs) : xs.length ≤ c ∧ d.Row w B xs := by
  obtain ⟨A', c', hv, h1, h2⟩ := h.row
  cases hv; exact ⟨h1, h2⟩
theorem AppRes.below {α : Type} {d : Rp α} {e : Nat} {w0 w w' : World} {bs bl bs' : List Nat} {v v' : Value} {zs : List α} (h : AppRes d e w bs bl v zs v' w' bs') (hb : ∀ b ∈ bs, w0.heap.size ≤ b) (h0 : Below w0.heap.size w0 w) : Below w0.heap.size w0 w' :=
  ⟨h.os.trans h0.os, h.tape.trans h0.tape, h.output.trans h0.output, Nat.le_trans h0.size h.size, fun k hk => (h.block k (Nat.lt_of_lt_of_le hk h0.size) (fun hm => by have := hb k hm; omega)).trans (h0.block k hk)⟩
def Flat {α : Type} (d : Rp α) : Prop := ∀ w x cs, d.K w x cs → d.O w [] x cs
theorem flat_scalar {α : Type} (enc : α → Value) (h1 : ∀ x, (enc x).oneCell' = true) : Flat (Rp.scalar enc h1) := fun _ _ _ h => ⟨rfl, h⟩
theorem flat_int : Flat Rp.int := flat_scalar _ _
theorem flat_pair {α β : Type} {a : Rp α} {b : Rp β} (ha : Flat a) (hb : Flat b) : Flat (Rp.pair a b) := by
  rintro w x cs ⟨c0, c1, rfl, h0, h1⟩
  exact ⟨c0, c1, [], [], rfl, rfl, ha _ _ _ h0, hb _ _ _ h1⟩
theorem flat_iso {α β : Type} {d : Rp α} (f : β → α) (hd : Flat d) : Flat (Rp.iso d f) := fun w x cs h => hd w (f x) cs h
section
variable {P : Program}

end
def Copied {α : Type} (d : Rp α) (t : Nat) (xs : List α) (w : World) (e : Ending) (w' : World) : Prop := ∃ B c bs, e = .returned (.slice B xs.length c) ∧ d.Own t w' bs (.slice B xs.length c) xs ∧ Fresh w bs ∧ Below w.heap.size w w'
theorem copied_nil {α : Type} {d : Rp α} {t : Nat} {w w' : World} (A : Option Addr) (hb : Below w.heap.size w w') : Copied d t ([] : List α) w (.returned (.slice A 0 0)) w' := ⟨A, 0, [], rfl, .inl ⟨rfl, rfl, A, rfl⟩, fresh_nil _, hb⟩
end Go.Proofs.YtcidbencoebfaaaDoor.Wd


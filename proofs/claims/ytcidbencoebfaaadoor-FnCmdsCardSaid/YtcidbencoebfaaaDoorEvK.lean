/- Small words on functions with rounds: what they answer in the end. Conditions: none. -/
import Derived.Test.YtcidbencoebfaaaDoorWWords
import Derived.Test.YtcidbencoebfaaaDoorWMore
namespace Go.Proofs.YtcidbencoebfaaaDoor.Wd
open Go.RowKit Go.Proofs.YtcidbencoebfaaaDoorW.PrintWords
set_option linter.unusedVariables false
set_option linter.unusedSimpArgs false
theorem evY {α : Type} {c : Prop} [Decidable c] {g f : Nat → Option α} {r : α} (hc : c) (h : Ev g r) : Ev (fun k => if c then g k else f k) r := Ev.congr (fun k => if_pos hc) h
theorem evN {α : Type} {c : Prop} [Decidable c] {g f : Nat → Option α} {r : α} (hc : ¬ c) (h : Ev f r) : Ev (fun k => if c then g k else f k) r := Ev.congr (fun k => if_neg hc) h
theorem evB {α β : Type} {a : Option α} {x : α} {f : Nat → α → Option β} {r : β} (ha : a = some x) (h : Ev (fun k => f k x) r) : Ev (fun k => a.bind (f k)) r := by subst ha; exact h
theorem evS {α : Type} {r q : α} (h : r = q) : Ev (fun _ => some r) q := by subst h; exact Ev.now r
theorem evI {α : Type} {c : Prop} [Decidable c] {g f : Nat → Option α} {r : α} (h1 : c → Ev g r) (h2 : ¬ c → Ev f r) : Ev (fun k => if c then g k else f k) r := by
  by_cases hc : c
  · exact evY hc (h1 hc)
  · exact evN hc (h2 hc)
theorem wr {x : Int} (h0 : -9223372036854775808 ≤ x) (h1 : x ≤ 9223372036854775807) : wrap64 x = x := by unfold wrap64; omega
theorem rdOf_at {α : Type} (d : α) (xs : List α) {i : Nat} (h : i < xs.length) : rdOf d xs (i : Int) = xs[i] := by unfold rdOf; simp [List.getD_eq_getElem?_getD, h]
theorem bt_get {s : ByteArray} {i : Nat} (h : i < s.size) : bt s (i : Int) = (s[i].toNat : Int) := by unfold bt; rw [dif_pos (by simpa using h)]; rfl
end Go.Proofs.YtcidbencoebfaaaDoor.Wd


/- append onto rows of one's own. Conditions: none. -/
import Derived.Test.YtcidbencoebfaaaDoorWd
import Derived.ArgAppend
namespace Go.Proofs.YtcidbencoebfaaaDoor.Wd
open Go.RowKit
set_option linter.unusedVariables false
set_option linter.unusedSimpArgs false
structure AppRes {α : Type} (d : Rp α) (e : Nat) (w : World) (bs bl : List Nat) (v : Value) (zs : List α) (v' : Value) (w' : World) (bs' : List Nat) : Prop where
  own : d.Own e w' bs' v' zs
  nd : bs'.Nodup
  sub : ∀ b ∈ bs', b ∈ bs ∨ b ∈ bl ∨ w.heap.size ≤ b
  os : w'.os = w.os
  tape : w'.tape = w.tape
  output : w'.output = w.output
  size : w.heap.size ≤ w'.heap.size
  block : ∀ k, k < w.heap.size → k ∉ bs → w'.heap[k]? = w.heap[k]?
  row : ∃ A c, v' = .slice A zs.length c
end Go.Proofs.YtcidbencoebfaaaDoor.Wd


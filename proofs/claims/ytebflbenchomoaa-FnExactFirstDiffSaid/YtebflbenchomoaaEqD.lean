/- eqDiff. Conditions: none. -/
import Derived.Test.YtebflbenchomoaaTyD
import Derived.Test.YtebflbenchomoaaEqE
namespace Go.Proofs.Ytebflbenchomoaa.Wd
open Go.RowKit
set_option linter.unusedVariables false
set_option linter.unusedSimpArgs false
set_option maxHeartbeats 2000000
set_option maxRecDepth 100000
theorem eqDiff_calls (x y : MDiff) (cs ds : List Value) (w : World) (hx : kDiff.K w x cs) (hy : kDiff.K w y ds) :
    Calls Try.prog 25 #[.agg cs.toArray, .agg ds.toArray] w fun e w' => e = .returned (.bool (decide (x = y))) ∧ Below w.heap.size w w' := by
  obtain rfl := kDiff_K hx
  obtain rfl := kDiff_K hy
  clear hx hy
  obtain ⟨x0, x1, x2, x3⟩ := x
  obtain ⟨y0, y1, y2, y3⟩ := y
  simp only at *
  go_enter Try.func25, Try.ntmps25
  go_wp2_with (first
    | (go_at_call 61; (with_reducible refine (eqItem_calls x2 y2 [_, _, _, _] [_, _, _, _] _ (kItem_mk _ _) (kItem_mk _ _)).mono ?_); rintro e w3 ⟨rfl, hb3⟩; obtain ⟨C3, D3⟩ := bcell hb3; obtain ⟨za3, zb3⟩ : w.heap.size < w3.heap.size ∧ w.heap.size + 1 < w3.heap.size := (by have := hb3.size; (try simp at this); omega))
    | (go_at_call 61; (with_reducible refine (eqItem_calls x3 y3 [_, _, _, _] [_, _, _, _] _ (kItem_mk _ _) (kItem_mk _ _)).mono ?_); rintro e w4 ⟨rfl, hb4⟩; obtain ⟨C4, D4⟩ := bcell hb4; obtain ⟨za4, zb4⟩ : w.heap.size < w4.heap.size ∧ w.heap.size + 1 < w4.heap.size := (by have := hb4.size; (try simp at this); omega)))
  all_goals (go_ret; refine ⟨?_, bel⟩; simp_all)
end Go.Proofs.Ytebflbenchomoaa.Wd

/- toItem, toDiff. Conditions: none. -/
import Derived.Test.YtplkfpjcfalifaaDoorTyI
namespace Go.Proofs.YtplkfpjcfalifaaDoor.Wd
open Go.RowKit
set_option linter.unusedVariables false
set_option linter.unusedSimpArgs false
set_option maxHeartbeats 2000000
set_option maxRecDepth 100000
theorem toItem_calls (x : MItem) (cs : List Value) (w : World) (hx : kItem.K w x cs) :
    Calls Tryd.prog 9 #[.agg cs.toArray] w fun e w' => ∃ cs' bs, e = .returned (.agg cs'.toArray) ∧ kItem.O w' bs x cs' ∧ Fresh w bs ∧ Below w.heap.size w w' := by
  obtain rfl := kItem_K hx
  clear hx
  obtain ⟨x0, x1, x2, x3⟩ := x
  go_enter Tryd.func9, Tryd.ntmps9
  go_wp2
  refine bodyPost_ret (v := .agg #[.int .i64 x0, .int .i64 x1, .int .i64 x2, .bool x3]) ?_ ?_ ?_
  · simp only [results, Tryd.results9]
    go_simp
  · rfl
  · exact ⟨_, _, rfl, kItem_mkO _ ⟨x0, x1, x2, x3⟩, fresh_nil _, bel⟩
theorem toDiff_calls (x : MDiff) (cs : List Value) (w : World) (hx : kDiff.K w x cs) :
    Calls Tryd.prog 5 #[.agg cs.toArray] w fun e w' => ∃ cs' bs, e = .returned (.agg cs'.toArray) ∧ kDiff.O w' bs x cs' ∧ Fresh w bs ∧ Below w.heap.size w w' := by
  obtain rfl := kDiff_K hx
  clear hx
  obtain ⟨x0, x1, x2, x3⟩ := x
  simp only at *
  go_enter Tryd.func5, Tryd.ntmps5
  go_wp2_with (first
    | (go_at_call 9; (with_reducible refine (toItem_calls x2 [_, _, _, _] _ (kItem_mk _ _)).mono ?_); rintro e w0 ⟨cs0, bs0, rfl, ho0, f0, hb0⟩; obtain ⟨C0, D0⟩ := bcell hb0; obtain ⟨za0, zb0, zc0⟩ : w.heap.size < w0.heap.size ∧ w.heap.size + 1 < w0.heap.size ∧ w.heap.size + 1 + 1 < w0.heap.size := (by have := hb0.size; (try simp at this); omega); have Hho0 := Lib.hid ho0; obtain ⟨rfl, rfl⟩ := kItem_O ho0; clear ho0; have Hf0 := Lib.hid f0; clear f0)
    | (go_at_call 9; (with_reducible refine (toItem_calls x3 [_, _, _, _] _ (kItem_mk _ _)).mono ?_); rintro e w1 ⟨cs1, bs1, rfl, ho1, f1, hb1⟩; obtain ⟨C1, D1⟩ := bcell hb1; obtain ⟨za1, zb1, zc1⟩ : w.heap.size < w1.heap.size ∧ w.heap.size + 1 < w1.heap.size ∧ w.heap.size + 1 + 1 < w1.heap.size := (by have := hb1.size; (try simp at this); omega); have Hho1 := Lib.hid ho1; obtain ⟨rfl, rfl⟩ := kItem_O ho1; clear ho1; have Hf1 := Lib.hid f1; clear f1))
  refine bodyPost_ret (v := .agg #[.int .i64 x0, .int .i64 x1, .int .i64 x2.kind, .int .i64 x2.obj, .int .i64 x2.val, .bool x2.ok, .int .i64 x3.kind, .int .i64 x3.obj, .int .i64 x3.val, .bool x3.ok]) ?_ ?_ ?_
  · simp only [results, Tryd.results5]
    go_simp
  · rfl
  · exact ⟨_, _, rfl, kDiff_mkO _ ⟨x0, x1, x2, x3⟩, fresh_nil _, bel⟩
end Go.Proofs.YtplkfpjcfalifaaDoor.Wd

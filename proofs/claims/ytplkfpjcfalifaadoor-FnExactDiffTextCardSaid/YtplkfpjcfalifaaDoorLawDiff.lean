/- The law FnExactDiffText returns true at every argument, where strings.asciiSpace is laid. Conditions: none. -/
import Derived.Test.YtplkfpjcfalifaaDoorDiffT2
import Derived.Test.YtplkfpjcfalifaaDoorToI
namespace Go.Proofs.YtplkfpjcfalifaaDoor.Wd
open Go.RowKit
set_option linter.unusedVariables false
set_option linter.unusedSimpArgs false
set_option maxHeartbeats 2000000
set_option maxRecDepth 100000
theorem law_DiffText (a0 : MDiff) (cs0 : List Value) (w : World) (h0 : kDiff.K w a0 cs0) (htab : Lib.TabIs Tryd.prog w "strings.asciiSpace" .u8 Lib.asciiSpaceTab) :
    Calls Tryd.prog 3 #[.agg cs0.toArray] w fun e w' => e = .returned (.bool true) ∧ Below w.heap.size w w' := by
  obtain rfl := kDiff_K h0
  clear h0
  have HTAB := Lib.hid htab; clear htab
  obtain ⟨T, hT⟩ : ∃ T, diffText a0 = T := ⟨_, rfl⟩
  have HT := Lib.hid hT; clear hT
  go_enter Tryd.func3, Tryd.ntmps3
  go_wp2_with fail
  refine (toDiff_calls a0 [_, _, _, _, _, _, _, _, _, _] _ (kDiff_mk _ _)).mono ?_
  rintro e w1 ⟨cs1, b1, rfl, o1, f1, hb1⟩
  obtain ⟨rfl, rfl⟩ := kDiff_O o1
  clear o1 f1
  have q0 : w1.cell? ⟨w.heap.size, 0, none⟩ = some (.int .i64 a0.g) := keepc hb1 (by go_simp)
  have q1 : w1.cell? ⟨w.heap.size, 1, none⟩ = some (.int .i64 a0.at_) := keepc hb1 (by go_simp)
  have q2 : w1.cell? ⟨w.heap.size, 2, none⟩ = some (.int .i64 a0.here.kind) := keepc hb1 (by go_simp)
  have q3 : w1.cell? ⟨w.heap.size, 3, none⟩ = some (.int .i64 a0.here.obj) := keepc hb1 (by go_simp)
  have q4 : w1.cell? ⟨w.heap.size, 4, none⟩ = some (.int .i64 a0.here.val) := keepc hb1 (by go_simp)
  have q5 : w1.cell? ⟨w.heap.size, 5, none⟩ = some (.bool a0.here.ok) := keepc hb1 (by go_simp)
  have q6 : w1.cell? ⟨w.heap.size, 6, none⟩ = some (.int .i64 a0.there.kind) := keepc hb1 (by go_simp)
  have q7 : w1.cell? ⟨w.heap.size, 7, none⟩ = some (.int .i64 a0.there.obj) := keepc hb1 (by go_simp)
  have q8 : w1.cell? ⟨w.heap.size, 8, none⟩ = some (.int .i64 a0.there.val) := keepc hb1 (by go_simp)
  have q9 : w1.cell? ⟨w.heap.size, 9, none⟩ = some (.bool a0.there.ok) := keepc hb1 (by go_simp)
  have z1 : w.heap.size < w1.heap.size := World.block_lt_of_cell? _ _ q0
  go_wp2_with fail
  refine (spec_DiffText_calls a0 [_, _, _, _, _, _, _, _, _, _] _ (kDiff_mk _ _)).mono ?_
  rintro e w2 ⟨rfl, hb2⟩
  rw [HT.out]
  have r0 : w2.cell? ⟨w.heap.size, 0, none⟩ = some (.int .i64 a0.g) := keepc (bel : Below w1.heap.size w1 w2) q0
  have r1 : w2.cell? ⟨w.heap.size, 1, none⟩ = some (.int .i64 a0.at_) := keepc (bel : Below w1.heap.size w1 w2) q1
  have r2 : w2.cell? ⟨w.heap.size, 2, none⟩ = some (.int .i64 a0.here.kind) := keepc (bel : Below w1.heap.size w1 w2) q2
  have r3 : w2.cell? ⟨w.heap.size, 3, none⟩ = some (.int .i64 a0.here.obj) := keepc (bel : Below w1.heap.size w1 w2) q3
  have r4 : w2.cell? ⟨w.heap.size, 4, none⟩ = some (.int .i64 a0.here.val) := keepc (bel : Below w1.heap.size w1 w2) q4
  have r5 : w2.cell? ⟨w.heap.size, 5, none⟩ = some (.bool a0.here.ok) := keepc (bel : Below w1.heap.size w1 w2) q5
  have r6 : w2.cell? ⟨w.heap.size, 6, none⟩ = some (.int .i64 a0.there.kind) := keepc (bel : Below w1.heap.size w1 w2) q6
  have r7 : w2.cell? ⟨w.heap.size, 7, none⟩ = some (.int .i64 a0.there.obj) := keepc (bel : Below w1.heap.size w1 w2) q7
  have r8 : w2.cell? ⟨w.heap.size, 8, none⟩ = some (.int .i64 a0.there.val) := keepc (bel : Below w1.heap.size w1 w2) q8
  have r9 : w2.cell? ⟨w.heap.size, 9, none⟩ = some (.bool a0.there.ok) := keepc (bel : Below w1.heap.size w1 w2) q9
  have z2 : w.heap.size < w2.heap.size := World.block_lt_of_cell? _ _ r0
  clear q0 q1 q2 q3 q4 q5 q6 q7 q8 q9
  go_wp2_with fail
  refine (toDiff_calls a0 [_, _, _, _, _, _, _, _, _, _] _ (kDiff_mk _ _)).mono ?_
  rintro e w3 ⟨cs3, b3, rfl, o3, f3, hb3⟩
  obtain ⟨rfl, rfl⟩ := kDiff_O o3
  clear o3 f3
  go_wp2_with fail
  refine (impl_DiffText_calls a0 [_, _, _, _, _, _, _, _, _, _] _ (kDiff_mk _ _) (tab_below HTAB.out bel)).mono ?_
  rintro e w4 ⟨rfl, hb4⟩
  rw [HT.out]
  go_wp2
  go_ret
  exact ⟨rfl, bel⟩
end Go.Proofs.YtplkfpjcfalifaaDoor.Wd

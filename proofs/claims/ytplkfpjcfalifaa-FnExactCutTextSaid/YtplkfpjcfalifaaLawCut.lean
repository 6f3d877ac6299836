/- The law FnExactCutText returns true at every argument. Conditions: none. -/
import Derived.Test.YtplkfpjcfalifaaCutS
import Derived.Test.YtplkfpjcfalifaaCutI
namespace Go.Proofs.Ytplkfpjcfalifaa.Wd
open Go.RowKit
set_option linter.unusedVariables false
set_option linter.unusedSimpArgs false
set_option maxHeartbeats 2000000
set_option maxRecDepth 100000
theorem law_CutText (s : ByteArray) (w : World) (hs0 : s.size ≤ 9223372036854775807) :
    Calls Try.prog 5 #[.string s] w fun e w' => e = .returned (.bool true) ∧ Below w.heap.size w w' := by
  by_cases hs : s.size ≤ 1048576
  · have e0 : decide (1048576 < s.size) = false := by simp; omega
    generalize hA : cutA s = a
    go_enter Try.func5, Try.ntmps5
    go_wp2_with fail
    refine (spec_CutText_calls s _ hs).mono ?_
    rintro e w1 ⟨rfl, hb1⟩
    go_wp2_with fail
    refine (impl_CutText_calls s _ hs).mono ?_
    rintro e w2 ⟨rfl, hb2⟩
    go_wp2
    go_ret
    exact ⟨rfl, bel⟩
  · have e0 : decide (1048576 < s.size) = true := by simp; omega
    go_enter Try.func5, Try.ntmps5
    go_wp2
    go_ret
    exact ⟨rfl, bel⟩
end Go.Proofs.Ytplkfpjcfalifaa.Wd

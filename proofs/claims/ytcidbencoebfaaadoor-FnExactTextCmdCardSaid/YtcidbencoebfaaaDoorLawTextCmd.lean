/- The law FnExactTextCmd returns true at every text. Conditions: none. -/
import Derived.Test.YtcidbencoebfaaaDoorTxL
namespace Go.Proofs.YtcidbencoebfaaaDoor.Wd
open Go.RowKit
theorem law_TextCmd (a0 : ByteArray) (w : World)   : Calls Tryd.prog 4 #[.string a0] w fun e w' => e = .returned (.bool true) ∧ Below w.heap.size w w' :=
  by
  obtain ⟨k, hk⟩ := pure_TextCmd a0
  exact PT.laws_FnExactTextCmd.calls k a0 true w hk
end Go.Proofs.YtcidbencoebfaaaDoor.Wd


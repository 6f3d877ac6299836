/- What can be read as data reads by the kinds: from a law's argument to the kinds' K. Conditions: none. -/
import Derived.Test.YtcidbencoebfaaaDoorWd
import Derived.DataReads
import Derived.ChangeArms
import Derived.ChangeReads
import Derived.ReadAgain
import Derived.WalkKit
import Derived.ProofKit
import Derived.OpenShut
import Derived.ShutString
import Derived.ChangeOld
import Derived.SizedLaws
namespace Go.Proofs.YtcidbencoebfaaaDoor.Wd
open Go.RowKit
set_option linter.unusedVariables false
set_option linter.unusedSimpArgs false
def Any {α : Type} (_ : α) : Prop := True
theorem add_zero' (a : Addr) : a.add 0 = a := by unfold Addr.add; simp
end Go.Proofs.YtcidbencoebfaaaDoor.Wd


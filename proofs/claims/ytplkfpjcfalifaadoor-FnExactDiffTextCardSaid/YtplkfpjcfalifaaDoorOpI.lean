/- The law's arguments, opened. Conditions: none. -/
import Derived.Test.YtplkfpjcfalifaaDoorTyI
import Derived.Test.YtplkfpjcfalifaaDoorOpn
namespace Go.Proofs.YtplkfpjcfalifaaDoor.Wd
open Go.RowKit
set_option linter.unusedVariables false
set_option linter.unusedSimpArgs false
set_option maxHeartbeats 2000000
set_option maxRecDepth 100000
def RItem (x : MItem) : Prop := Wf (x.kind) ∧ (Wf (x.obj) ∧ (Wf (x.val) ∧ (Any (x.ok))))
theorem opn_Item : Opens Tryd.prog 23 kItem RItem := opens_struct Tryd.underlying23 (by kernel_rfl) (opensF_cons (opens_int Tryd.underlying3) rfl (by kernel_rfl) (opensF_cons (opens_int Tryd.underlying3) rfl (by kernel_rfl) (opensF_cons (opens_int Tryd.underlying3) rfl (by kernel_rfl) (opensF_last (opens_bool Tryd.underlying4) rfl (by kernel_rfl))))) (fun a => ⟨a.1, a.2.1, a.2.2.1, a.2.2.2⟩) (fun _ => rfl)
def RDiff (x : MDiff) : Prop := Wf (x.g) ∧ (Wf (x.at_) ∧ (RItem (x.here) ∧ (RItem (x.there))))
theorem opn_Diff : Opens Tryd.prog 25 kDiff RDiff := opens_struct Tryd.underlying25 (by kernel_rfl) (opensF_cons (opens_int Tryd.underlying3) rfl (by kernel_rfl) (opensF_cons (opens_int Tryd.underlying3) rfl (by kernel_rfl) (opensF_cons opn_Item rfl (by kernel_rfl) (opensF_last opn_Item rfl (by kernel_rfl))))) (fun a => ⟨a.1, a.2.1, a.2.2.1, a.2.2.2⟩) (fun _ => rfl)
end Go.Proofs.YtplkfpjcfalifaaDoor.Wd

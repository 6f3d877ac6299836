/- The laws' arguments, opened. Conditions: none. -/
import Derived.Test.YtplkfpjcfalifaaTyC
import Derived.Test.YtplkfpjcfalifaaOpn
namespace Go.Proofs.Ytplkfpjcfalifaa.Wd
open Go.RowKit
set_option linter.unusedVariables false
set_option linter.unusedSimpArgs false
set_option maxHeartbeats 2000000
set_option maxRecDepth 100000
def RPick (x : MPick) : Prop := Wf (x.g) ∧ (Wf (x.c))
theorem opn_Pick : Opens Try.prog 118 kPick RPick := opens_struct Try.underlying118 (by kernel_rfl) (opensF_cons (opens_int Try.underlying3) rfl (by kernel_rfl) (opensF_last (opens_int Try.underlying3) rfl (by kernel_rfl))) (fun a => ⟨a.1, a.2⟩) (fun _ => rfl)
def RCmd (x : MCmd) : Prop := Wf (x.kind) ∧ (Wf (x.a) ∧ (Wf (x.b) ∧ (∀ e ∈ (x.picks), RPick e)))
theorem opn_Cmd : Opens Try.prog 29 kCmd RCmd := opens_struct Try.underlying29 (by kernel_rfl) (opensF_cons (opens_int Try.underlying3) rfl (by kernel_rfl) (opensF_cons (opens_int Try.underlying3) rfl (by kernel_rfl) (opensF_cons (opens_int Try.underlying3) rfl (by kernel_rfl) (opensF_last (opens_slice Try.underlying27 (by kernel_rfl) (by decide) opn_Pick) rfl (by kernel_rfl))))) (fun a => ⟨a.1, a.2.1, a.2.2.1, a.2.2.2⟩) (fun _ => rfl)
end Go.Proofs.Ytplkfpjcfalifaa.Wd

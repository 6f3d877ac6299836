/- The laws' arguments, opened. Conditions: none. -/
import Derived.Test.YtebflbenchomoaaTyR
import Derived.Test.YtebflbenchomoaaOpE
namespace Go.Proofs.Ytebflbenchomoaa.Wd
open Go.RowKit
set_option linter.unusedVariables false
set_option linter.unusedSimpArgs false
set_option maxHeartbeats 2000000
set_option maxRecDepth 100000
def RDeed (x : MDeed) : Prop := Wf (x.g) ∧ (Wf (x.op) ∧ (Wf (x.obj) ∧ (Wf (x.cas))))
theorem opn_Deed : Opens Try.prog 124 kDeed RDeed := opens_struct Try.underlying124 (by kernel_rfl) (opensF_cons (opens_int Try.underlying3) rfl (by kernel_rfl) (opensF_cons (opens_int Try.underlying3) rfl (by kernel_rfl) (opensF_cons (opens_int Try.underlying3) rfl (by kernel_rfl) (opensF_last (opens_int Try.underlying3) rfl (by kernel_rfl))))) (fun a => ⟨a.1, a.2.1, a.2.2.1, a.2.2.2⟩) (fun _ => rfl)
def RRep (x : MRep) : Prop := REng (x.eng) ∧ ((∀ e ∈ (x.events), RDeed e) ∧ (∀ e ∈ (x.done), Any (e)))
theorem opn_Rep : Opens Try.prog 54 kRep RRep := opens_struct Try.underlying54 (by kernel_rfl) (opensF_cons opn_Eng rfl (by kernel_rfl) (opensF_cons (opens_slice Try.underlying51 (by kernel_rfl) (by decide) opn_Deed) rfl (by kernel_rfl) (opensF_last (opens_slice Try.underlying52 (by kernel_rfl) (by decide) (opens_bool Try.underlying4)) rfl (by kernel_rfl)))) (fun a => ⟨a.1, a.2.1, a.2.2⟩) (fun _ => rfl)
end Go.Proofs.Ytebflbenchomoaa.Wd

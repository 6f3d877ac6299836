/- The laws' arguments, opened. Conditions: none. -/
import Derived.Test.YtebflbenchomoaaTy
import Derived.Test.YtebflbenchomoaaOpn
namespace Go.Proofs.Ytebflbenchomoaa.Wd
open Go.RowKit
set_option linter.unusedVariables false
set_option linter.unusedSimpArgs false
set_option maxHeartbeats 2000000
set_option maxRecDepth 100000
def RWaiter (x : MWaiter) : Prop := Wf (x.g) ∧ (Wf (x.cas) ∧ (Wf (x.val)))
theorem opn_Waiter : Opens Try.prog 133 kWaiter RWaiter := opens_struct Try.underlying133 (by kernel_rfl) (opensF_cons (opens_int Try.underlying3) rfl (by kernel_rfl) (opensF_cons (opens_int Try.underlying3) rfl (by kernel_rfl) (opensF_last (opens_int Try.underlying3) rfl (by kernel_rfl)))) (fun a => ⟨a.1, a.2.1, a.2.2⟩) (fun _ => rfl)
def RChan (x : MChan) : Prop := Wf (x.cap) ∧ ((∀ e ∈ (x.buf), Wf (e)) ∧ ((∀ e ∈ (x.sends), RWaiter e) ∧ ((∀ e ∈ (x.recvs), RWaiter e) ∧ (Any (x.closed)))))
theorem opn_Chan : Opens Try.prog 108 kChan RChan := opens_struct Try.underlying108 (by kernel_rfl) (opensF_cons (opens_int Try.underlying3) rfl (by kernel_rfl) (opensF_cons (opens_slice Try.underlying36 (by kernel_rfl) (by decide) (opens_int Try.underlying3)) rfl (by kernel_rfl) (opensF_cons (opens_slice Try.underlying106 (by kernel_rfl) (by decide) opn_Waiter) rfl (by kernel_rfl) (opensF_cons (opens_slice Try.underlying106 (by kernel_rfl) (by decide) opn_Waiter) rfl (by kernel_rfl) (opensF_last (opens_bool Try.underlying4) rfl (by kernel_rfl)))))) (fun a => ⟨a.1, a.2.1, a.2.2.1, a.2.2.2.1, a.2.2.2.2⟩) (fun _ => rfl)
def RMutex (x : MMutex) : Prop := Wf (x.owner) ∧ (∀ e ∈ (x.wait), Wf (e))
theorem opn_Mutex : Opens Try.prog 110 kMutex RMutex := opens_struct Try.underlying110 (by kernel_rfl) (opensF_cons (opens_int Try.underlying3) rfl (by kernel_rfl) (opensF_last (opens_slice Try.underlying36 (by kernel_rfl) (by decide) (opens_int Try.underlying3)) rfl (by kernel_rfl))) (fun a => ⟨a.1, a.2⟩) (fun _ => rfl)
def RItem (x : MItem) : Prop := Wf (x.kind) ∧ (Wf (x.obj) ∧ (Wf (x.val) ∧ (Any (x.ok))))
theorem opn_Item : Opens Try.prog 131 kItem RItem := opens_struct Try.underlying131 (by kernel_rfl) (opensF_cons (opens_int Try.underlying3) rfl (by kernel_rfl) (opensF_cons (opens_int Try.underlying3) rfl (by kernel_rfl) (opensF_cons (opens_int Try.underlying3) rfl (by kernel_rfl) (opensF_last (opens_bool Try.underlying4) rfl (by kernel_rfl))))) (fun a => ⟨a.1, a.2.1, a.2.2.1, a.2.2.2⟩) (fun _ => rfl)
def RGor (x : MGor) : Prop := Wf (x.proc) ∧ (Wf (x.pc) ∧ ((∀ e ∈ (x.regs), Wf (e)) ∧ (Wf (x.state) ∧ (∀ e ∈ (x.trace), RItem e))))
theorem opn_Gor : Opens Try.prog 104 kGor RGor := opens_struct Try.underlying104 (by kernel_rfl) (opensF_cons (opens_int Try.underlying3) rfl (by kernel_rfl) (opensF_cons (opens_int Try.underlying3) rfl (by kernel_rfl) (opensF_cons (opens_slice Try.underlying36 (by kernel_rfl) (by decide) (opens_int Try.underlying3)) rfl (by kernel_rfl) (opensF_cons (opens_int Try.underlying3) rfl (by kernel_rfl) (opensF_last (opens_slice Try.underlying102 (by kernel_rfl) (by decide) opn_Item) rfl (by kernel_rfl)))))) (fun a => ⟨a.1, a.2.1, a.2.2.1, a.2.2.2.1, a.2.2.2.2⟩) (fun _ => rfl)
def REng (x : MEng) : Prop := (∀ e ∈ (x.gs), RGor e) ∧ ((∀ e ∈ (x.chans), RChan e) ∧ (∀ e ∈ (x.mus), RMutex e))
theorem opn_Eng : Opens Try.prog 26 kEng REng := opens_struct Try.underlying26 (by kernel_rfl) (opensF_cons (opens_slice Try.underlying22 (by kernel_rfl) (by decide) opn_Gor) rfl (by kernel_rfl) (opensF_cons (opens_slice Try.underlying23 (by kernel_rfl) (by decide) opn_Chan) rfl (by kernel_rfl) (opensF_last (opens_slice Try.underlying24 (by kernel_rfl) (by decide) opn_Mutex) rfl (by kernel_rfl)))) (fun a => ⟨a.1, a.2.1, a.2.2⟩) (fun _ => rfl)
end Go.Proofs.Ytebflbenchomoaa.Wd

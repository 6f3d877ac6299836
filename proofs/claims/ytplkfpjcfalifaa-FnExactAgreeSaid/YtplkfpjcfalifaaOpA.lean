/- The laws' arguments, opened. Conditions: none. -/
import Derived.Test.YtplkfpjcfalifaaTyA
import Derived.Test.YtplkfpjcfalifaaOpn
namespace Go.Proofs.Ytplkfpjcfalifaa.Wd
open Go.RowKit
set_option linter.unusedVariables false
set_option linter.unusedSimpArgs false
set_option maxHeartbeats 2000000
set_option maxRecDepth 100000
def RCase (x : MCase) : Prop := Any (x.send) ∧ (Wf (x.chan) ∧ (Wf (x.reg) ∧ (Wf (x.ok) ∧ (Wf (x.to)))))
theorem opn_Case : Opens Try.prog 191 kCase RCase := opens_struct Try.underlying191 (by kernel_rfl) (opensF_cons (opens_bool Try.underlying4) rfl (by kernel_rfl) (opensF_cons (opens_int Try.underlying3) rfl (by kernel_rfl) (opensF_cons (opens_int Try.underlying3) rfl (by kernel_rfl) (opensF_cons (opens_int Try.underlying3) rfl (by kernel_rfl) (opensF_last (opens_int Try.underlying3) rfl (by kernel_rfl)))))) (fun a => ⟨a.1, a.2.1, a.2.2.1, a.2.2.2.1, a.2.2.2.2⟩) (fun _ => rfl)
def RSelect (x : MSelect) : Prop := (∀ e ∈ (x.cases), RCase e) ∧ (Wf (x.els))
theorem opn_Select : Opens Try.prog 123 kSelect RSelect := opens_struct Try.underlying123 (by kernel_rfl) (opensF_cons (opens_slice Try.underlying121 (by kernel_rfl) (by decide) opn_Case) rfl (by kernel_rfl) (opensF_last (opens_int Try.underlying3) rfl (by kernel_rfl))) (fun a => ⟨a.1, a.2⟩) (fun _ => rfl)
def RInstr (x : MInstr) : Prop := Wf (x.op) ∧ (Wf (x.a) ∧ (Wf (x.b) ∧ (Wf (x.c))))
theorem opn_Instr : Opens Try.prog 195 kInstr RInstr := opens_struct Try.underlying195 (by kernel_rfl) (opensF_cons (opens_int Try.underlying3) rfl (by kernel_rfl) (opensF_cons (opens_int Try.underlying3) rfl (by kernel_rfl) (opensF_cons (opens_int Try.underlying3) rfl (by kernel_rfl) (opensF_last (opens_int Try.underlying3) rfl (by kernel_rfl))))) (fun a => ⟨a.1, a.2.1, a.2.2.1, a.2.2.2⟩) (fun _ => rfl)
def RProc (x : MProc) : Prop := ∀ e ∈ (x.code), RInstr e
theorem opn_Proc : Opens Try.prog 127 kProc RProc := opens_struct Try.underlying127 (by kernel_rfl) (opensF_last (opens_slice Try.underlying125 (by kernel_rfl) (by decide) opn_Instr) rfl (by kernel_rfl)) (fun a => ⟨a⟩) (fun _ => rfl)
def RProg (x : MProg) : Prop := (∀ e ∈ (x.caps), Wf (e)) ∧ (Wf (x.mus) ∧ ((∀ e ∈ (x.sels), RSelect e) ∧ (∀ e ∈ (x.procs), RProc e)))
theorem opn_Prog : Opens Try.prog 42 kProg RProg := opens_struct Try.underlying42 (by kernel_rfl) (opensF_cons (opens_slice Try.underlying38 (by kernel_rfl) (by decide) (opens_int Try.underlying3)) rfl (by kernel_rfl) (opensF_cons (opens_int Try.underlying3) rfl (by kernel_rfl) (opensF_cons (opens_slice Try.underlying39 (by kernel_rfl) (by decide) opn_Select) rfl (by kernel_rfl) (opensF_last (opens_slice Try.underlying40 (by kernel_rfl) (by decide) opn_Proc) rfl (by kernel_rfl))))) (fun a => ⟨a.1, a.2.1, a.2.2.1, a.2.2.2⟩) (fun _ => rfl)
def RDeed (x : MDeed) : Prop := Wf (x.g) ∧ (Wf (x.op) ∧ (Wf (x.obj) ∧ (Wf (x.cas))))
theorem opn_Deed : Opens Try.prog 137 kDeed RDeed := opens_struct Try.underlying137 (by kernel_rfl) (opensF_cons (opens_int Try.underlying3) rfl (by kernel_rfl) (opensF_cons (opens_int Try.underlying3) rfl (by kernel_rfl) (opensF_cons (opens_int Try.underlying3) rfl (by kernel_rfl) (opensF_last (opens_int Try.underlying3) rfl (by kernel_rfl))))) (fun a => ⟨a.1, a.2.1, a.2.2.1, a.2.2.2⟩) (fun _ => rfl)
def RLog (x : MLog) : Prop := Wf (x.prn) ∧ (∀ e ∈ (x.events), RDeed e)
theorem opn_Log : Opens Try.prog 45 kLog RLog := opens_struct Try.underlying45 (by kernel_rfl) (opensF_cons (opens_int Try.underlying3) rfl (by kernel_rfl) (opensF_last (opens_slice Try.underlying43 (by kernel_rfl) (by decide) opn_Deed) rfl (by kernel_rfl))) (fun a => ⟨a.1, a.2⟩) (fun _ => rfl)
end Go.Proofs.Ytplkfpjcfalifaa.Wd

/- The closed facts of the row FnExactEndOf, one by one. Conditions: none. -/
import Derived.Test.YtjmefaihkblliaaGreatRows
import Derived.WalkKit
import Derived.ProofKit
import Derived.OpenShut
import Derived.ShutString
import Derived.ChangeOld
import Derived.Below
import Derived.Carry
import Derived.Test.YtjmefaihkblliaaGreatC00
namespace Go.Proofs.YtjmefaihkblliaaGreat.fnExactEndOf
open Go.ChangeShapes Go.WideShapes Go.ChangeAt Go.RowKit
set_option linter.unusedVariables false
set_option maxRecDepth 100000
theorem zcw {a b:Bool} (h:a=true) (k:b=true):(a && b)=true:=by rw [h,k];rfl
theorem j0:Rows.fnExactEndOfRow.wf (OpenSpec.ofChange Rows.fnExactEndOfSpec)=true:=by kernel_rfl
theorem j1:laidOutB Tryz.prog=true:=by kernel_rfl
theorem j2:mapsRowed Tryz.prog=true:=by kernel_rfl
theorem j3:Tryz.f4.params.all (Tryz.prog.readableRec ·)=true:=by kernel_rfl
theorem j4:namedTie Tryz.prog Rows.fnExactEndOfRow.named Rows.fnExactEndOfSpec.vars=true:=by kernel_rfl
theorem j5:(Rows.fnExactEndOfRow.stops == [])=true:=by kernel_rfl
theorem j6:(Tryz.prog.stops == [])=true:=by kernel_rfl
theorem j7:(Rows.fnExactEndOfRow.knobs == [])=true:=by kernel_rfl
theorem j8:(Tryz.prog.stopKnobs == [])=true:=by kernel_rfl
theorem j9:(Rows.fnExactEndOfRow.inPlace == Tryz.prog.inPlace 4)=true:=by kernel_rfl
theorem j10:(Rows.fnExactEndOfRow.unfollowed == Tryz.prog.unfollowed 4)=true:=by kernel_rfl
theorem j11:(Rows.fnExactEndOfRow.recurses == Tryz.prog.recurses 4)=true:=by kernel_rfl
theorem j12:(Rows.fnExactEndOfRow.named == Tryz.prog.varsNamed 4)=true:=by kernel_rfl
theorem j13:(Rows.fnExactEndOfRow.maps == (Tryz.f4.params.toList++Rows.fnExactEndOfSpec.plain.varTypes Tryz.prog).any (Tryz.prog.mapsRec ·))=true:=by kernel_rfl
theorem j14:(Rows.fnExactEndOfRow.ifaces == (Tryz.f4.params.toList++Rows.fnExactEndOfSpec.plain.varTypes Tryz.prog).any (Tryz.prog.ifacesRec ·))=true:=by kernel_rfl
theorem j15:(Rows.fnExactEndOfRow.mapsOut == Tryz.prog.mapsAmong Tryz.f4.resultTypes.toList)=true:=by kernel_rfl
theorem j16:(Rows.fnExactEndOfRow.loops == (Tryz.f4.params.toList++Rows.fnExactEndOfSpec.plain.varTypes Tryz.prog).any (Tryz.prog.loopsFrom ·))=true:=by kernel_rfl
theorem j17:(Rows.fnExactEndOfRow.wideKeys == (Tryz.f4.params.toList++Rows.fnExactEndOfSpec.plain.varTypes Tryz.prog++Tryz.f4.resultTypes.toList).any (Tryz.prog.wideKeysFrom ·))=true:=by kernel_rfl
theorem j18:Rows.fnExactEndOfSpec.vars.all (Tryz.prog.varReadable ·)=true:=by kernel_rfl
theorem j19:Tryz.f4.resultTypes.all (fun t=>Tryz.prog.readableRec t && decide (t<Tryz.prog.types.size))=true:=by kernel_rfl
theorem j20:(Rows.fnExactEndOfRow.ifacesOut == Tryz.f4.resultTypes.toList.any (Tryz.prog.ifacesRec ·))=true:=by kernel_rfl
theorem j21:(Rows.fnExactEndOfRow.loopsOut == Tryz.f4.resultTypes.toList.any (Tryz.prog.loopsFrom ·))=true:=by kernel_rfl
theorem j22:(Rows.fnExactEndOfRow.plainKeys == Tryz.prog.plainKeys)=true:=by kernel_rfl
theorem j23:Rows.fnExactEndOfRow.shortTexts.isNone=true:=by kernel_rfl
theorem j24:Tryz.prog.stopsHeard=true:=by kernel_rfl
theorem j25:Tryz.prog.mayEnter=true:=by kernel_rfl
theorem j26:(Rows.fnExactEndOfRow.lifted == Tryz.prog.liftsFinal)=true:=by kernel_rfl
theorem j27:(Tryz.prog.make == some Rows.fnExactEndOfRow.make)=true:=by kernel_rfl
theorem j28:(Rows.fnExactEndOfRow.kinds == (if Rows.fnExactEndOfRow.domain.isEmpty then [] else Tryz.f4.params.toList.map fun t=>match Tryz.prog.underlying t with | some (.int k)=>some k | _=>none))=true:=by kernel_rfl
theorem j29:(Rows.fnExactEndOfRow.pinned == Rows.fnExactEndOfRow.pinnedBy)=true:=by kernel_rfl
theorem j30:(Rows.fnExactEndOfRow.veiled == (Tryz.f4.params.toList++Rows.fnExactEndOfSpec.plain.varTypes Tryz.prog++Tryz.f4.resultTypes.toList).any (Tryz.prog.veiledRec ·))=true:=by kernel_rfl
theorem j31:Rows.fnExactEndOfRow.veiledFits Tryz.prog Tryz.f4.params.toList (Tryz.f4.params.toList++Rows.fnExactEndOfSpec.plain.varTypes Tryz.prog++Tryz.f4.resultTypes.toList)=true:=by kernel_rfl
theorem closed:joinedFacts Tryz.prog 4 Tryz.f4 Rows.fnExactEndOfSpec Rows.fnExactEndOfRow=true:=by
 unfold joinedFacts
 exact (zcw (zcw (zcw (zcw (zcw (zcw (zcw (zcw (zcw (zcw (zcw (zcw (zcw (zcw (zcw (zcw (zcw (zcw (zcw (zcw (zcw (zcw (zcw (zcw (zcw (zcw (zcw (zcw (zcw (zcw (zcw j0 j1) j2) j3) j4) j5) j6) j7) j8) j9) j10) j11) j12) j13) j14) j15) j16) j17) j18) j19) j20) j21) j22) j23) j24) j25) j26) j27) j28) j29) j30) j31)
theorem fnamed:Tryz.prog.funcNamed Rows.fnExactEndOfRow.func=some 4:=by kernel_rfl
end Go.Proofs.YtjmefaihkblliaaGreat.fnExactEndOf

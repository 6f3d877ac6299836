/- For all arguments the law FnExactEndOf returns true. Conditions: none. -/
import Derived.Test.YtjmefaihkblliaaGreatRows
import Derived.WalkKit
import Derived.ProofKit
import Derived.OpenShut
import Derived.ShutString
import Derived.ChangeOld
import Derived.Below
import Derived.Carry
import Derived.SizedLaws
import Derived.Test.YtjmefaihkblliaaGreatC00
import Derived.Test.YtjmefaihkblliaaGreatC02
import Derived.Test.YtjmefaihkblliaaGreatC03
import Derived.Test.YtjmefaihkblliaaGreatC09
namespace Go.Proofs.YtjmefaihkblliaaGreat.fnExactEndOf
open Go.ChangeShapes Go.WideShapes Go.ChangeAt Go.RowKit Wd
open Go.ChangeMaps (open_string shut_string)
set_option linter.unusedVariables false
theorem own:ownKnob Tryz.prog.godebug=none:=by kernel_rfl
theorem zrz:laidOutB Tryz.prog=true:=by kernel_rfl
set_option maxRecDepth 100000 in
theorem lifted (os:Os) (started:os.Started) (H:Type) (enc:TypeId×Value→H) :
 ReturnsInHanded {} Tryz.checked os 4 .any (Rows.fnExactEndOfSpec.pre6 enc Tryz.prog Tryz.f4 Rows.fnExactEndOfRow.domain false) (Rows.fnExactEndOfSpec.post enc Tryz.prog Tryz.f4 false true false false):=by
 refine returnsInHanded_of_change_sized (C:=Tryz.checked) own started (by kernel_rfl) Tryz.func4
  (ChangeSpec.witness6 (enc:=enc) (C:=Tryz.checked) false ⟨#[],#[.agg #[.slice none 0 0,.int .i64 0,.slice none 0 0,.slice none 0 0],.slice none 0 0],[]⟩ 12 (by kernel_rfl) (by kernel_rfl) (by kernel_rfl) (by kernel_rfl)) ?_
 intro W base args ds gs before hval0 hW hcnd hsz0 _
 have hsz:(DataW.weightsEach Tryz.prog (Tryz.f4.params.toList++Rows.fnExactEndOfSpec.plain.varTypes Tryz.prog) (ds++gs)).all (·≤reachBytes)=true:=hsz0
 have hval:∀ (j:Nat) t v,Tryz.f4.params[j]? = some t→args[j]? = some v→Value.okWide Tryz.prog W .any base t v:=hval0
 have hW':=hW
 obtain ⟨p,q,hA0,hV,rfl,hfz,hnd⟩:=hW
 have hA:DataW.TrodAll enc Tryz.prog W 0 (fun _=>true) true Tryz.f4.params.toList args.toList ds p:=hA0
 rw [Tryz.params4] at hA hval hsz
 obtain ⟨v0,vs0,d0,ds0,p0,q0,hargs,rfl,rfl,h0,r0⟩:=trodAll_cons hA
 obtain ⟨v1,vs1,d1,ds1,p1,q1,rfl,rfl,rfl,h1,r1⟩:=trodAll_cons r0
 obtain ⟨rfl,rfl,rfl⟩:=trodAll_nil r1
 obtain rfl:args=#[v0,v1]:=by cases args;simp_all
 obtain ⟨rfl,rfl⟩:=trodVars_none hV
 have hlt:∀ x∈p0++p1++[],x.block<W.heap.size:=fun x hx=>by simpa using hW'.lt x (by simpa using hx)
 have e0:=h0
 obtain ⟨cs0,a0,rfl,k0,g0⟩:=ztW Tryz.underlying26 zsT (hval 0 26 v0 rfl rfl) h0
 have e1:=h1
 obtain ⟨a1,k1,g1⟩:=zrU (d:=Rp.slice 124 zdP) (t:=54) Tryz.underlying54 (zen Tryz.underlying54 (by kernel_rfl) (by decide) ztl) (hval 1 54 v1 rfl rfl) h1
 clear hA0 hval0 hsz0 hsz
 obtain ⟨A1,c1,hv1,l1,r1⟩:=k1
 cases hv1
 refine (zsD a0 a1 cs0 A1 c1 W k0 r1 l1).mono fun e W' ⟨he,bel⟩=>?_
 subst he
 exact ⟨_,rfl,_,_,_,[],_,[],hW',trodAll_mk1 (shut_bool Tryz.underlying4 _),(trodAll_cons_mk (Below.trod zrz (by kernel_rfl) (of_decide_eq_true (by kernel_rfl)) e0 bel (fun x hx=>hlt x (by simp [hx]))) (trodAll_cons_mk (Below.trod zrz (by kernel_rfl) (of_decide_eq_true (by kernel_rfl)) e1 bel (fun x hx=>hlt x (by simp [hx]))) trodAll_mk0)),rfl,bel.frame _,fun h=>by cases h⟩
theorem over:Rows.fnExactEndOfRow.holds Tryz.pinned (OpenSpec.ofChange Rows.fnExactEndOfSpec):=
 OpenClaim.holds_of_wide 4 Tryz.f4 rfl rfl rfl rfl rfl rfl rfl ⟨rfl,rfl,rfl,rfl,rfl⟩ rfl rfl rfl rfl rfl fnamed Tryz.func4 closed
  (of_decide_eq_true (by kernel_rfl)) (by unfold Func.isWrapper;first | (rw [if_pos (by decide +kernel)];kernel_rfl) | (rw [if_neg (by decide +kernel)];exact ⟨rfl,rfl⟩))
  (fun os started H enc _=>lifted os started H enc)
theorem proved:Rows.FnExactEndOfSaid:=over
#print axioms proved
end Go.Proofs.YtjmefaihkblliaaGreat.fnExactEndOf
namespace Go.Proofs.YtjmefaihkblliaaGreat
theorem fnExactEndOf_holds:Rows.FnExactEndOfSaid:=fnExactEndOf.proved
end Go.Proofs.YtjmefaihkblliaaGreat

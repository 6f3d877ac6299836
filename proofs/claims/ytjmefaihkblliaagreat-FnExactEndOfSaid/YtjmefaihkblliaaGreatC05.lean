/- Texts of one claim, joined: AbY, AbZ, AbZa, AbZb, AbZc, AbZd, AbZe, AbZf, E30, E31, E32, E33, E34, E35, E36, E37, E38. Conditions: zas each says. -/
import Derived.Test.YtjmefaihkblliaaGreatC02
import Derived.Test.YtjmefaihkblliaaGreatC04
namespace Go.Proofs.YtjmefaihkblliaaGreat.Ab
open Go.RowKit
set_option linter.unusedVariables false
set_option linter.unusedSimpArgs false
section
variable {P:Program} {x:Cx} {tb:Tb} {R:Cx→Tl→Ml→Prop} {n:Nat} {o:Oper} {T:Tl} {M:Ml} {k:List It}
theorem zwU {all l:List Oper} {o:Oper} {k:List It} {a:Act} {w:World} (hg:o.guard=none) (h1:o.wp P a w (Ka P x R (.ops all l::k) .normal) (fun _ _ _=>False)):Ka P x R (.ops all (o::l)::k) .normal a w:=by
 show wpList P all.toArray (Ka P x R k) (o::l) a w
 unfold wpList
 rw [if_pos (by unfold Region.wanted;rw [hg])]
 refine .inl ?_
 unfold Oper.wp at h1 ⊢
 revert h1
 cases (execOp a.eval o).run P w with
 | ok nx w1=>cases nx with
   | enter f args=>
     intro h1
     refine Calls.mono h1 fun e w2 he=>?_
     cases e with
     | returned v=>exact he
     | panicked c=>exact he.elim
     | outgrown=>obtain ⟨_,_,he⟩:=he;exact he.elim
   | _=>exact fun h1=>h1
 | halt hh w1=>cases hh with
   | panic v=>exact fun h1=>h1.elim
   | _=>exact fun h1=>h1
theorem znS {zc:Array Value} {m i j:Nat} (hi:i<m) (hj:j<zc.size):(Builtin.zeroCells zc m).toList[i*zc.size+j]? = zc[j]?:=by
 have hk:i*zc.size+j<m*zc.size:=by
  have:=Nat.mul_le_mul_right zc.size (Nat.succ_le_of_lt hi)
  rw [Nat.succ_mul] at this
  omega
 rw [Array.getElem?_toList]
 unfold Builtin.zeroCells
 rw [Array.getElem?_map,Array.getElem?_range,if_pos hk]
 simp only [Option.map_some]
 rw [Nat.mul_comm,Nat.mul_add_mod,Nat.mod_eq_of_lt hj,getElem!_def,Array.getElem?_eq_getElem hj]
theorem zqS {zc:Array Value} {m:Nat}:(Builtin.zeroCells zc m).toList.length=m*zc.size:=by simp [Builtin.zeroCells]
theorem zvt {c:C} (h:zOk c):(zv c).oneCell'=true:=by cases c<;>first | rfl | exact h.elim
theorem zoX {t e0 e:TypeId} {y:Ty} {p lo:Operand} {id d1 z:Nat} {kd:IntKind} {α:Type} {d:α} {f:α→List C} {xs:List α} {o2:Oper} {c2:Call} {all l2:List Oper} (z0:α) (l:Nat) (hn:x.n=n) (htb:zaJ P tb) (hdo:zaA n o.dst=true) (hop:o.op=.slice t p (some lo) none none) (hp:val T p=.own id) (hm:mm M id=some (.row e z d f xs))
 (hs:zfn tb t=some (e0,y)) (hz:Nat.beq y.size z=true) (hd:o.dst=some d1) (hlo:val T lo=.dat (.int kd (l:Int))) (hl:l<xs.length) (hz0:f z0=y.zero)
 (hg2:o2.guard=none) (hd2:o2.dst=none) (hop2:o2.op=.call c2) (hc2:c2.callee=.builtin .clear) (ha2:c2.args=#[.tmp d1]) (ht2:c2.argTypes=#[t])
 (hw:Wc P x R (.ops all l2::k) ((d1,.no)::T) ((id,some (.row e z d f (xs.take l++List.replicate (xs.length-l) z0)))::M)):OpW P x R o (.ops all (o2::l2)::k) T M:=by
 intro m a w hr
 obtain ⟨ht,hty2⟩:=zfi htb hs
 have hty:=htb e0 y hty2
 obtain ⟨i,hi,his,hib,zv0,hiz,hzc,_⟩:=hty.info
 obtain ⟨z1,z2,z3⟩:=hty.zl
 have hze:i.size=z:=by rw [his];exact zbh.1 hz
 have hyz:y.size=z:=zbh.1 hz
 have hzsz:zv0.cells.size=z:=by rw [← hyz,← z2,← Array.length_toList,hzc,List.length_map]
 have hpv:=zah hr p
 rw [hp] at hpv
 have hpe:=hpv.2 _ (show zJ (mm M) id=some _ by unfold zJ;rw [hm])
 obtain ⟨us,hu,a1,a2,a3,a4,a5,a6,a7⟩:=hr.blk id _ hm
 have hrun:=zoF (P:=P) (w:=w) i ht hi (some ⟨m.blk id,m.off id,none⟩) xs.length (m.cap id) ((some lo).map a.eval) none l xs.length (zjT hr (q:=some lo) (dflt:=0) (Bnd.some kd hlo)) (.inl ⟨rfl,rfl⟩) (by omega) (by omega)
 rw [if_neg (by omega)] at hrun
 simp only [Option.map_some,zcA,hze] at hrun
 have hex:(execOp a.eval o).run P w=.ok (.value (.slice (some ⟨m.blk id,m.off id+l*z,none⟩) (xs.length-l) (m.cap id-l))) w:=by
  simp only [execOp,hop,hpe,Sem.run_bind,Option.map_none,Option.map_some,hrun,Result.andThen_ok,Sem.run_pure]
 have hrV:=hr.putd (d:=o.dst) (l:=.dat (.val (.slice (some ⟨m.blk id,m.off id+l*z,none⟩) (xs.length-l) (m.cap id-l)))) hn hdo (Rf.val _ rfl)
 have hrN:=hr.putd (d:=o.dst) (v:=.slice (some ⟨m.blk id,m.off id+l*z,none⟩) (xs.length-l) (m.cap id-l)) (l:=.no) hn hdo trivial
 rw [hd] at hrV hrN
 unfold Oper.wp
 rw [hex]
 show Ka P x R (.ops all (o2::l2)::k) .normal (a.put o.dst _) w
 rw [hd]
 refine zwU hg2 ?_
 have hqe:(a.put (some d1) (.slice (some ⟨m.blk id,m.off id+l*z,none⟩) (xs.length-l) (m.cap id-l))).eval (.tmp d1)=.slice (some ⟨m.blk id,m.off id+l*z,none⟩) (xs.length-l) (m.cap id-l):=by
  have h:=zah hrV (.tmp d1)
  have h0:Rf (Own x.S0 (mm M) m) w ((a.put (some d1) (.slice (some ⟨m.blk id,m.off id+l*z,none⟩) (xs.length-l) (m.cap id-l))).eval (.tmp d1)) (.val (.slice (some ⟨m.blk id,m.off id+l*z,none⟩) (xs.length-l) (m.cap id-l))):=by
   have he:val ((d1,LV.dat (.val (.slice (some ⟨m.blk id,m.off id+l*z,none⟩) (xs.length-l) (m.cap id-l))))::T) (.tmp d1)=.dat (.val (.slice (some ⟨m.blk id,m.off id+l*z,none⟩) (xs.length-l) (m.cap id-l))):=by
    show tm ((d1,_)::T) d1=_
    rw [zij];unfold Ab.upd;rw [if_pos rfl]
   rw [show Ab.putd (some d1) (LV.dat (.val (.slice (some ⟨m.blk id,m.off id+l*z,none⟩) (xs.length-l) (m.cap id-l)))) T=(d1,LV.dat (.val (.slice (some ⟨m.blk id,m.off id+l*z,none⟩) (xs.length-l) (m.cap id-l))))::T from rfl] at h
   rw [he] at h;exact h
  generalize (a.put (some d1) (.slice (some ⟨m.blk id,m.off id+l*z,none⟩) (xs.length-l) (m.cap id-l))).eval (.tmp d1)=v at h0 ⊢
  cases h0;rfl
 generalize hV:a.put (some d1) (.slice (some ⟨m.blk id,m.off id+l*z,none⟩) (xs.length-l) (m.cap id-l))=av at hqe hrN ⊢
 have hzl:(Builtin.zeroCells zv0.cells (xs.length-l)).toList.length=(xs.length-l)*z:=by rw [zqS,hzsz]
 have hend:l*z+(xs.length-l)*z=xs.length*z:=by rw [← Nat.add_mul];congr 1;omega
 have hin:xs.length*z≤m.cap id*z:=Nat.mul_le_mul_right z a2
 have hst:=run_storeCells_at (P:=P) (m.blk id) (m.off id+l*z) e (Builtin.zeroCells zv0.cells (xs.length-l)).toList 0 us w hu (by rw [hzl];omega) (fun v hv=>by
  obtain ⟨q,hq⟩:=List.mem_iff_getElem?.1 hv
  have hql:=(List.getElem?_eq_some_iff.1 hq).1
  rw [hzl] at hql
  have hzp:0<z:=a4
  have hqd:q=q / z*zv0.cells.size+q % z:=by rw [hzsz,Nat.mul_comm,Nat.div_add_mod]
  rw [hqd,znS (Nat.div_lt_of_lt_mul (by rw [Nat.mul_comm];exact hql)) (by rw [hzsz];exact Nat.mod_lt _ hzp),← Array.getElem?_toList,hzc,List.getElem?_map] at hq
  obtain ⟨c,hc,rfl⟩:=Option.map_eq_some_iff.1 hq
  exact zvt (z3 c (List.mem_of_getElem? hc)))
 rw [Nat.add_zero,hzl] at hst
 have hex2:(execOp av.eval o2).run P w=.ok (.value (.tuple #[])) (w.setRow (m.blk id) (us.toList.take (m.off id+l*z)++(Builtin.zeroCells zv0.cells (xs.length-l)).toList++us.toList.drop (m.off id+l*z+(xs.length-l)*z)).toArray):=by
  have hzr:(zeroValue e0).run P w=.ok zv0 w:=by simp only [zeroValue,Sem.run_bind,run_typeInfo w hi,Result.andThen_ok,hiz,Sem.run_pure]
  obtain ⟨q,hq⟩:∃ q,xs.length-l=q+1:=⟨xs.length-l-1,by omega⟩
  simp only [execOp,hop2,resolve,hc2,ha2,ht2,invoke,builtin,Sem.run_bind,Sem.run_pure,Result.andThen_ok,List.map_toArray,List.map_cons,List.map_nil,hqe]
  have hcl:(Builtin.clear_ #[t] o2.type #[.slice (some ⟨m.blk id,m.off id+l*z,none⟩) (xs.length-l) (m.cap id-l)]).run P w=.ok (.tuple #[]) (w.setRow (m.blk id) (us.toList.take (m.off id+l*z)++(Builtin.zeroCells zv0.cells (xs.length-l)).toList++us.toList.drop (m.off id+l*z+(xs.length-l)*z)).toArray):=by
   rw [hq] at hst ⊢
   simp [Builtin.clear_,run_underlying ht,hzr,hst]
  rw [hcl];rfl
 unfold Oper.wp
 rw [hex2]
 show Ka P x R (.ops all l2::k) .normal (av.put o2.dst _) _
 rw [hd2]
 show Ka P x R (.ops all l2::k) .normal av _
 have hlen:(xs.take l++List.replicate (xs.length-l) z0).length=xs.length:=by rw [List.length_append,List.length_take,List.length_replicate];omega
 have hkeep:zdK (mm M) m (Ab.upd (mm M) id (some (.row e z d f (xs.take l++List.replicate (xs.length-l) z0)))) m id:=fun _=>⟨by rw [hm];rfl,rfl,rfl,rfl,by unfold zJ;rw [zac,hm];exact congrArg some hlen,by unfold zbt;rw [zac,hm]⟩
 have hfz:(f z0).length=z:=by rw [hz0,z2,hyz]
 have hr1:=hrN.upd id (some (.row e z d f (xs.take l++List.replicate (xs.length-l) z0))) (B:=m.blk id) (O:=m.off id) (c:=m.cap id) (w1:=w.setRow (m.blk id) (us.toList.take (m.off id+l*z)++(Builtin.zeroCells zv0.cells (xs.length-l)).toList++us.toList.drop (m.off id+l*z+(xs.length-l)*z)).toArray)
  ⟨(zc5 w _ _).size,fun k hk hne=>(zc5 w _ _).at_ k hk (fun e=>hne ⟨by rw [hm];rfl,e⟩)⟩ ⟨rfl,rfl,rfl⟩ (fun _=>.inl ⟨by rw [hm];rfl,rfl⟩) (.inl (by rw [zhS];exact hkeep))
  (fun b hb hmv hke=>by
    cases hb
    rw [zhS] at hmv hke ⊢
    have hulen:us.toList.length=us.size:=Array.length_toList
    refine ⟨_,setRow_heap w _ us _ e _ hu,?_,by rw [hlen];exact a2,a3,a4,fun yy hy=>?_,trivial,fun i' yy j c hi' hj=>?_⟩
    ·simp only [List.size_toArray,List.length_append,List.length_take,List.length_drop,hzl,hulen]
     omega
    ·rcases List.mem_append.1 hy with hy | hy
     ·exact a5 yy (List.mem_of_mem_take hy)
     ·rw [List.eq_of_mem_replicate hy];exact hfz
    ·rw [List.getElem?_toArray]
     rcases Nat.lt_or_ge i' l with hlt | hge
     ·rw [List.getElem?_append_left (by rw [List.length_take];omega),List.getElem?_take_of_lt hlt] at hi'
      obtain ⟨u,h1,h2⟩:=a7 i' yy j c hi' hj
      have hjz:j<z:=by have:=(List.getElem?_eq_some_iff.1 hj).1;rw [a5 yy (List.mem_of_getElem? hi')] at this;exact this
      have hul:=(Array.getElem?_eq_some_iff.1 h1).1
      have:=Nat.mul_le_mul_right z (Nat.succ_le_of_lt hlt)
      rw [Nat.succ_mul] at this
      refine ⟨u,?_,hmv.dat h2⟩
      rw [List.append_assoc,List.getElem?_append_left (by rw [List.length_take,hulen];omega),List.getElem?_take_of_lt (by omega),Array.getElem?_toList]
      exact h1
     ·rw [List.getElem?_append_right (by rw [List.length_take];omega)] at hi'
      have hil:=(List.getElem?_eq_some_iff.1 hi').1
      rw [List.length_replicate,List.length_take] at hil
      have hy0:=List.eq_of_mem_replicate (List.mem_of_getElem? hi')
      subst hy0
      have hjz:j<z:=by have:=(List.getElem?_eq_some_iff.1 hj).1;rw [hfz] at this;exact this
      rw [hz0] at hj
      refine ⟨zv c,?_,?_⟩
      ·have hpos:m.off id+i'*z+j=(m.off id+l*z)+((i'-l)*z+j):=by
        have:l*z+(i'-l)*z=i'*z:=by rw [← Nat.add_mul];congr 1;omega
        omega
       have hb2:(i'-l)*z+j<(xs.length-l)*z:=by
        have:=Nat.mul_le_mul_right z (show (i'-l)+1≤xs.length-l by omega)
        rw [Nat.add_mul,Nat.one_mul] at this
        omega
       have hzg:=znS (zc:=zv0.cells) (m:=xs.length-l) (i:=i'-l) (j:=j) (by omega) (by rw [hzsz];exact hjz)
       rw [hzsz,← Array.getElem?_toList (xs:=zv0.cells),hzc,List.getElem?_map,hj] at hzg
       rw [hpos,List.append_assoc,List.getElem?_append_right (by rw [List.length_take,hulen];omega),List.length_take,hulen,Nat.min_eq_left (by omega),Nat.add_sub_cancel_left,List.getElem?_append_left (by rw [hzl];exact hb2)]
       exact hzg
      ·have hq0:=z3 c (List.mem_of_getElem? hj)
       cases c with
       | int k n=>exact Rf.int _ _
       | bool b=>exact Rf.bool _
       | str s=>exact Rf.str _
       | val v=>exact hq0.elim
       | sl z d f xs=>cases hq0;exact Rf.nil _ _ _ _ _)
 rw [zhS,← zI] at hr1
 exact hw m _ _ hr1
theorem zpD {t e0 e:TypeId} {y:Ty} {p lo:Operand} {id d1 z:Nat} {kd:IntKind} {α:Type} {d:α} {f:α→List C} {xs:List α} {o2:Oper} {c2:Call} {all l2:List Oper} {s:Prop} {T1:Tl} {M1:Ml} {k1:List It} (z0:α) (l:Nat) (hn:x.n=n) (htb:zaJ P tb) (ho:run tb n 1000 T M True k=.oth o s T1 M1 (.ops all (o2::l2)::k1)) (hs:s) (hop:o.op=.slice t p (some lo) none none) (hp:val T1 p=.own id) (hm:mm M1 id=some (.row e z d f xs))
 (hsl:zfn tb t=some (e0,y)) (hz:Nat.beq y.size z=true) (hd:o.dst=some d1) (hlo:val T1 lo=.dat (.int kd (l:Int))) (hz0:f z0=y.zero)
 (hg2:o2.guard=none) (hd2:o2.dst=none) (hop2:o2.op=.call c2) (hc2:c2.callee=.builtin .clear) (ha2:c2.args=#[.tmp d1]) (ht2:c2.argTypes=#[t]) (hl:l<xs.length)
 (hw:Wc P x R (.ops all l2::k1) ((d1,.no)::T1) ((id,some (.row e z d f (xs.take l++List.replicate (xs.length-l) z0)))::M1)):Wc P x R k T M:=
 go hn htb ho ⟨hs,fun hdo=>zoX z0 l hn htb hdo hop hp hm hsl hz hd hlo hl hz0 hg2 hd2 hop2 hc2 ha2 ht2 hw⟩
theorem zqQ (ρ:List (Nat×Nat)) {T T1:Tl} {M M1:Ml} (ht:LeT (rn ρ) T T1) (hm:LeM (rn ρ) M M1) (hi:zhF (rn ρ) (zS M1)=true) (hbig:∀ i,x.lent i→rn ρ i=i):Le x T M T1 M1:=by
 intro m a w h
 have hren:Ren (rn ρ) (mm M) m (mm M1) ⟨fun i=>m.blk (rn ρ i),fun i=>m.off (rn ρ i),fun i=>m.cap (rn ρ i)⟩:=by
  refine ⟨fun id hid=>?_,fun _=>rfl,fun _=>rfl,fun _=>rfl⟩
  obtain ⟨b,hb⟩:=Option.isSome_iff_exists.1 hid
  obtain ⟨h1,_⟩:=zbv hm id b hb
  refine ⟨by rw [h1];rfl,?_,?_⟩
  ·unfold zJ;rw [hb,h1];cases b<;>rfl
  ·unfold zbt;rw [hb,h1];cases b<;>rfl
 refine ⟨⟨fun i=>m.blk (rn ρ i),fun i=>m.off (rn ρ i),fun i=>m.cap (rn ρ i)⟩,⟨fun t=>?_,h.sz,h.df,fun id b hb=>?_,fun i j hi' hj' hij=>?_,fun i hi'=>?_,h.s0,h.os,h.tape,h.output,h.same,fun i hl hi'=>?_⟩⟩
 ·rcases zrc ht t with e | ⟨e,hnt⟩
  ·rw [e];trivial
  ·have h1:=h.tmp t
   rw [e] at h1
   have h2:R2 x.S0 (mm M) m w (a.tmps.getD t undef) ((tm T1 t).ren2 (rn ρ)):=by
    revert hnt h1;cases tm T1 t<;>intro hnt h1<;>first | exact h1 | exact absurd rfl (hnt _)
   exact zeE (hren.r2 h2)
 ·obtain ⟨h1,_⟩:=zbv hm id b hb
  have hbk:=h.blk _ _ h1
  cases b with
  | box t v=>obtain ⟨us,hu,hc⟩:=hbk;exact ⟨us,hu,hren.rc hc⟩
  | row e z d f xs=>
    obtain ⟨us,hu,a1,a2,a3,a4,a5,a6,a7⟩:=hbk
    refine ⟨us,hu,a1,a2,a3,a4,a5,a6,fun i y j c hi hj=>?_⟩
    obtain ⟨u,h3,h4⟩:=a7 i y j c hi hj
    exact ⟨u,h3,h4.sub fun k hk=>hren.own hk⟩
 ·obtain ⟨bi,hbi⟩:=Option.isSome_iff_exists.1 hi'
  obtain ⟨bj,hbj⟩:=Option.isSome_iff_exists.1 hj'
  obtain ⟨h1,k1⟩:=zbv hm i bi hbi
  obtain ⟨h2,k2⟩:=zbv hm j bj hbj
  exact zgx hi i k1 j k2 (h.inj _ _ (by rw [h1];rfl) (by rw [h2];rfl) hij)
 ·obtain ⟨bi,hbi⟩:=Option.isSome_iff_exists.1 hi'
  obtain ⟨h1,_⟩:=zbv hm i bi hbi
  exact h.lo _ (by rw [h1];rfl)
 ·obtain ⟨h0,h1,h2⟩:=hren.live i hi'
  have hri:rn ρ i=i:=hbig i hl
  rw [hri] at h0 h1 h2
  obtain ⟨k1,k2,k3,k4,k5⟩:=h.keep i hl h0
  exact ⟨by show m.blk (rn ρ i)=_;rw [hri];exact k1,by show m.off (rn ρ i)=_;rw [hri];exact k2,by show m.cap (rn ρ i)=_;rw [hri];exact k3,h1.trans k4,h2.trans k5⟩
end
open Go.RowKit
set_option linter.unusedVariables false
set_option linter.unusedSimpArgs false
section
variable {P:Program} {x:Cx} {tb:Tb} {n:Nat} {o:Oper} {T:Tl} {M:Ml} {all:List Oper}
theorem zw9 {l:LV} {c:C} (h:l.data (fun _=>none)=some c) (M:Mem):l.data M=some c:=by
 cases l<;>first | exact h | cases h
theorem zt3 (M:Mem):∀ {ls:List LV} {cs:List C},zeG (fun _=>none) ls=some cs→zeG M ls=some cs
 | [],_,h=>h
 | l::ls,cs,h=>by
   simp only [zeG] at h ⊢
   obtain ⟨c,hc,h⟩:=Option.bind_eq_some_iff.1 h
   obtain ⟨r,hr,h⟩:=Option.bind_eq_some_iff.1 h
   rw [zw9 hc M,zt3 M hr];exact h
theorem zab {t e:TypeId} {y:Ty} {v v1:LV} {id i off z:Nat} {α:Type} {d:α} {f:α→List C} {xs:List α} {cs:List C} (a1:α) (hn:x.n=n) (htb:zaJ P tb) (h:gst all o T=.yes) (hi:zuE o T t id i off v) (hm:mm M id=some (.row e z d f xs))
 (hy:tb t=some y) (hv:v.typed y=some v1) (hcs:zeG (fun _=>none) v1.cells=some cs) (hf:f a1=(f (xs.getD i d)).take off++cs++(f (xs.getD i d)).drop (off+cs.length)) (hle:off+cs.length≤z) (hids:ze3 v1=[]) (hd:o.dst=none) :
 zeV P x all o ⟨o.dst,.no,[(id,some (.row e z d f (xs.set i a1)))],none,zbb all o,zbd T o.op.operands.toList⟩ T M:=by
 refine zdX h (.inl rfl) (fun id hid=>by cases hid) fun T' M' ht hM hf'=>?_
 obtain ⟨p,q,hop,hp,hq⟩:=hi
 have hpm:p∈o.op.operands.toList:=by rw [hop];simp [Op.operands]
 have hqm:q∈o.op.operands.toList:=by rw [hop];simp [Op.operands]
 refine zre a1 hn htb ⟨p,q,hop,(zbZ ht hpm).trans hp,(zbZ ht hqm).trans hq⟩ ((hM id (zdu hpm (by rw [hp];rfl))).trans hm) hy hv (zt3 _ hcs) hf hle (by rw [hids];simp) hd (fun m a w hr=>⟨x,.refl x,T',(id,some (.row e z d f (xs.set i a1)))::M',m,?_,rfl,by rw [hd];rfl,rfl⟩)
 rw [hids] at hr;exact hr
end
open Go.RowKit
set_option linter.unusedVariables false
set_option linter.unusedSimpArgs false
section
variable {P:Program} {x:Cx} {tb:Tb} {R:Cx→Tl→Ml→Prop} {n:Nat} {all:List Oper} {o:Oper} {T:Tl} {M:Ml}
theorem zfT {M M':Mem}:∀ {fl:List Bool} {zas:List LV},(∀ l∈zas,∀ id,l.on2 id→M' id=M id)→zc4 M' fl zas=zc4 M fl zas
 | [],[],_=>rfl
 | [],_::_,_=>rfl
 | true::fl,[],_=>rfl
 | false::fl,[],_=>rfl
 | true::fl,a::zas,h=>by rw [zc4,zc4,zfT fun l hl=>h l (List.mem_cons_of_mem _ hl)]
 | false::fl,a::zas,h=>by rw [zc4,zc4,zfT fun l hl=>h l (List.mem_cons_of_mem _ hl),zmT (h a List.mem_cons_self)]
theorem zgU {ρ:Nat→Nat} {M M':Ml}:∀ {Mi:Ml} {seen:List Nat},(∀ id∈zS Mi,mm M' (ρ id)=mm M (ρ id))→zol ρ M seen Mi→zol ρ M' seen Mi
 | [],seen,_,_=>trivial
 | (k,v)::r,seen,hk,h=>by
   unfold zol at h ⊢
   split at h
   ·exact zgU (fun id hi=>hk id (List.mem_cons_of_mem _ hi)) h
   ·exact zgU (fun id hi=>hk id (List.mem_cons_of_mem _ hi)) h
   ·have:=hk k List.mem_cons_self
    unfold mm at this
    exact ⟨this.trans h.1,zgU (fun id hi=>hk id (List.mem_cons_of_mem _ hi)) h.2⟩
theorem zqb {T:Tl} {M Mi:Ml}:∀ {Mo:Ml},(∀ id∈zS Mo,id∈zS Mi∨(zfD id T=true∧zcC id M=true∧mm M id=none))→zf2 T M Mi Mo=true
 | [],_=>rfl
 | (k,v)::r,h=>by
   rw [zf2,zqb fun id hi=>h id (List.mem_cons_of_mem _ hi),Bool.and_true]
   rcases h k List.mem_cons_self with h1 | ⟨h1,h2,h3⟩
   ·rw [zhO.2 h1];rfl
   ·rw [h1,h2,h3];simp
theorem zqP {id:Nat} {vw:List Nat}:∀ {M:Ml},zcC id M=true→zcC id (dropM vw M)=true:=by
 intro M h
 induction vw with
 | nil=>exact h
 | cons k r ih=>exact ih
theorem zrp {c:Call} {f:FuncId} {ags args:List LV} {Mi Mo E:Ml} {r:LV} {new:Option Nat} {ms:List Nat} (hn:x.n=n) (htb:zaJ P tb) (hdo:zaA n o.dst=true) (h:gst all o T=.yes) (hop:o.op=.call c) (hcal:c.callee=.value (.func f)) (ha:zdQ tb T c.args.toList c.argTypes.toList=some ags)
 (fl:List Bool) (hc:Ct P f args Mi (fun r' Mo'=>r'=r∧Mo'=Mo)) (hav:zc4 (mm M) fl ags=some args) (hms:∀ l∈ags,∀ id,l.on2 id→id∈ms) (hkm:∀ id∈zS Mi,id∈ms) (hsub:LeM (rn []) M Mi) (hro:zdD Mi=true) (hdi:zg7 fl ags=[])
 (hdis:∀ id∈ms,id∉En.news ⟨o.dst,r,E,new,zbb all o,ms⟩) (hnw:∀ id∈zS Mo,id∈zS Mi∨id∈En.news ⟨o.dst,r,E,new,zbb all o,ms⟩) (hbig:∀ id∈zS Mo,(mm Mi id).isSome=true∨id<1000) (honr:∀ id,r.on id→(mm Mo id).isSome=true) (hkl:∀ id∈zS Mi,(mm Mi id).isSome=true)
 (hfr:∀ id∈En.news ⟨o.dst,r,E,new,zbb all o,ms⟩,fresh T M id=true) (hE:∀ M' id,mm (Mo++dropM (zS Mi) (dropM (En.news ⟨o.dst,r,E,new,zbb all o,ms⟩) M')) id=mm (E++M') id) :
 zeV P x all o ⟨o.dst,r,E,new,zbb all o,ms⟩ T M:=by
 refine ⟨rfl,fun T' M' ht hm hf m a w hr=>?_,hfr⟩
 generalize hN:En.news ⟨o.dst,r,E,new,zbb all o,ms⟩=N at *
 have hr':Rel x (tm T') (mm (dropM N M')) m a w:=hr.dropM N
 have hmm:∀ id∈ms,mm (dropM N M') id=mm M id:=fun id hi=>by
  rw [zfF,if_neg (hdis id hi)];exact hm id hi
 have hops:∀ q∈c.args.toList,q∈o.op.operands.toList:=fun q hq=>by
  rw [hop]
  simp only [Op.operands,Call.operands,Array.toList_append,List.mem_append]
  exact .inr hq
 have ha':zdQ tb T' c.args.toList c.argTypes.toList=some ags:=(zf5 fun q hq=>zbZ ht (hops q hq)).trans ha
 have hav':zc4 (mm (dropM N M')) fl ags=some args:=(zfT fun l hl id hi=>hmm id (hms l hl id hi)).trans hav
 have hsub':LeM (rn []) (dropM N M') Mi:=zgU (fun id hi=>hmm id (hkm id hi)) hsub
 have hnew:zf2 T' (dropM N M') Mi Mo=true:=zqb fun id hi=>by
  rcases hnw id hi with h1 | h1
  ·exact .inl h1
  ·have:=hf id h1
   simp only [fresh,Bool.and_eq_true] at this
   exact .inr ⟨this.1,zqP this.2.1,by rw [zfF,if_pos h1]⟩
 have hlv:∀ {M0:Ml} {id:Nat},(mm M0 id).isSome=true→id∈zS M0:=fun hi=>zbW hi
 have hop2:=zmn (k:=[.stop (fun x1 T1 M1=>x1=x∧T1=putd o.dst r T'∧M1=Mo++dropM (zS Mi) (dropM N M'))]) (R:=fun _ _ _=>False) htb hop hcal ha'
  (zvc hn hdo fl hc hav' hsub' hro (fun id hi=>by rw [hdi] at hi;cases hi) (.inl hdi)
    (fun r' Mo' hp=>by
      obtain ⟨rfl,rfl⟩:=hp
      refine ⟨hnew,fun id hi=>?_⟩
      rcases hbig id (hlv hi) with h1 | h1
      ·exact .inl h1
      ·exact .inr fun hl=>by have:=x.big id hl;omega)
    (fun r' Mo' hp=>by obtain ⟨rfl,rfl⟩:=hp;exact honr) hkl
    (fun r' Mo' hp=>by
      obtain ⟨rfl,rfl⟩:=hp
      exact fun m a w hr=>⟨x,.refl x,_,_,m,hr,rfl,rfl,rfl⟩)) m a w hr'
 unfold OpG
 rw [if_pos (zoJ h ht hr)]
 refine zek hop2 fun a w hk=>?_
 obtain ⟨x1,hx,T1,M1,m1,hr1,rfl,rfl,rfl⟩:=hk
 refine ⟨m1,?_⟩
 have:mm (Mo++dropM (zS Mi) (dropM N M'))=mm (E++M'):=funext (hE M')
 rw [this] at hr1
 exact hr1
theorem zfu {t e:TypeId} {y:Ty} {u v:LV} {d1 z:Nat} {α:Type} {d:α} {f:α→List C} {cont:List (List C)} (ys:List α) (hn:x.n=n) (htb:zaJ P tb) (h:gst all o T=.yes) (hi:ziV n o T t u v) (hu:u=.nil0∨u=.nil (.sl z d f []))
 (hs:zfn tb t=some (e,y)) (hz:Nat.beq y.size z=true) (hv:zfG (mm M) v=some (z,cont)) (hys:cont=ys.map f) (hpos:0<ys.length) (hd:o.dst=some d1) (hf:fresh T M d1=true) (hby:ys.length*y.bytes≤140737488355328) :
 zeV P x all o ⟨o.dst,.own d1,[(d1,some (.row e z d f ys))],some d1,zbb all o,zbd T o.op.operands.toList⟩ T M:=by
 refine zdX h (.inr bk1) (fun id hid=>by cases hid;exact hf) fun T' M' ht hM hf'=>zgQ d1 ?_
 obtain ⟨hdo,c,p,q,hop,hc,ha,hty,hp,hq⟩:=hi
 have hops:∀ r∈c.args.toList,r∈o.op.operands.toList:=fun r hr=>by
  rw [hop]
  simp only [Op.operands,Call.operands,Array.toList_append,List.mem_append]
  exact .inr hr
 have hpm:p∈o.op.operands.toList:=hops p (by rw [ha];simp)
 have hqm:q∈o.op.operands.toList:=hops q (by rw [ha];simp)
 have same:∀ r∈o.op.operands.toList,∀ i,(val T r).on2 i→mm ((d1,none)::M') i=mm M i:=fun r hr i hi=>by
  have hne:i≠d1:=fun e=>by
   subst e
   refine zic (zde hf) r ?_
   revert hi
   cases val T r<;>intro hi<;>first | exact hi | exact hi.elim
  rw [zI,zaZ _ _ hne]
  exact hM i (zdu hr hi)
 refine zpW (d:=d) ys hn htb ⟨hdo,c,p,q,hop,hc,ha,hty,(zbZ ht hpm).trans hp,(zbZ ht hqm).trans hq⟩ hu hs hz (zf3 (fun i hi=>same q hqm i (by
  rw [hq]
  revert hi
  cases v<;>intro hi<;>first | exact hi | exact hi.elim)) hv) hys hpos hd (hf' _ rfl) (by rw [zI,zac]) hby (fun m a w hr=>⟨x,.refl x,(d1,.own d1)::T',(d1,some (.row e z d f ys))::M',m,?_,rfl,by rw [hd];rfl,rfl⟩)
 have:mm ((d1,some (.row e z d f ys))::M')=mm ((d1,some (.row e z d f ys))::(d1,none)::M'):=by
  funext i
  simp only [zI]
  by_cases hi:i=d1
  ·subst hi;rw [zac,zac]
  ·rw [zaZ _ _ hi,zaZ _ _ hi,zaZ _ _ hi]
 rw [this];exact hr
def zla:List Nat→List Nat→Bool
 | [],_=>true
 | k::r,l=>elem k l && zla r l
theorem zex:∀ {r l:List Nat},zla r l=true→∀ k∈r,k∈l
 | [],l,_,k,h=>by cases h
 | j::r,l,h,k,hk=>by
   simp only [zla,Bool.and_eq_true] at h
   rcases List.mem_cons.1 hk with rfl | hk
   ·exact zfl.1 h.1
   ·exact zex h.2 k hk
def ztL:List Nat→List Nat→Bool
 | [],_=>true
 | k::r,l=>!(elem k l) && ztL r l
theorem zof:∀ {r l:List Nat},ztL r l=true→∀ k∈r,k∉l
 | [],l,_,k,h=>by cases h
 | j::r,l,h,k,hk=>by
   simp only [ztL,Bool.and_eq_true,Bool.not_eq_true'] at h
   rcases List.mem_cons.1 hk with rfl | hk
   ·exact fun hm=>by rw [zfl.2 hm] at h;cases h.1
   ·exact zof h.2 k hk
def zmC (T:Tl) (M:Ml):List Nat→Bool
 | []=>true
 | k::r=>fresh T M k && zmC T M r
theorem zkm {T:Tl} {M:Ml}:∀ {r:List Nat},zmC T M r=true→∀ k∈r,fresh T M k=true
 | [],_,k,h=>by cases h
 | j::r,h,k,hk=>by
   simp only [zmC,Bool.and_eq_true] at h
   rcases List.mem_cons.1 hk with rfl | hk
   ·exact h.1
   ·exact zkm h.2 k hk
def zo4:List Nat→Bool
 | []=>true
 | k::r=>Nat.blt k 1000 && zo4 r
theorem znq:∀ {r:List Nat},zo4 r=true→∀ k∈r,k<1000
 | [],_,k,h=>by cases h
 | j::r,h,k,hk=>by
   simp only [zo4,Bool.and_eq_true] at h
   rcases List.mem_cons.1 hk with rfl | hk
   ·exact Nat.blt_eq.mp h.1
   ·exact znq h.2 k hk
theorem zgq {M':Ml}:∀ {vw:List Nat} {M:Ml},dropM vw (M++M')=dropM vw M++M'
 | [],M=>rfl
 | k::r,M=>by show (k,none)::dropM r (M++M')=_;rw [zgq];rfl
theorem zjs {c:Call} {f:FuncId} {ags args:List LV} {Mi Mo E:Ml} {r:LV} {new:Option Nat} {ms:List Nat} (fl:List Bool) (hc:Ct P f args Mi (fun r' Mo'=>r'=r∧Mo'=Mo)) (honr:∀ id,r.on id→(mm Mo id).isSome=true) (hkl:∀ id∈zS Mi,(mm Mi id).isSome=true)
 (hn:x.n=n) (htb:zaJ P tb) (hdo:zaA n o.dst=true) (h:gst all o T=.yes) (hop:o.op=.call c) (hcal:c.callee=.value (.func f)) (ha:zdQ tb T c.args.toList c.argTypes.toList=some ags)
 (hav:zc4 (mm M) fl ags=some args) (hms:zla (lk3 ags) ms=true) (hkm:zla (zS Mi) ms=true) (hsub:LeM (rn []) M Mi) (hro:zdD Mi=true) (hdi:zg7 fl ags=[])
 (hdis:ztL ms (En.news ⟨o.dst,r,E,new,zbb all o,ms⟩)=true) (hnw:zla (zS Mo) (zS Mi++En.news ⟨o.dst,r,E,new,zbb all o,ms⟩)=true) (hbig:zo4 (zS Mo)=true)
 (hfr:zmC T M (En.news ⟨o.dst,r,E,new,zbb all o,ms⟩)=true) (hE:E=Mo++dropM (zS Mi) (dropM (En.news ⟨o.dst,r,E,new,zbb all o,ms⟩) [])) :
 zeV P x all o ⟨o.dst,r,E,new,zbb all o,ms⟩ T M:=
 zrp hn htb hdo h hop hcal ha fl hc hav (fun l hl id hi=>zex hms id (zdl ⟨l,hl,hi⟩)) (zex hkm) hsub hro hdi (zof hdis) (fun id hi=>List.mem_append.1 (zex hnw id hi)) (fun id hi=>.inr (znq hbig id hi)) honr hkl (zkm hfr) fun M' id=>by
  generalize En.news ⟨o.dst,r,E,new,zbb all o,ms⟩=N at *
  rw [hE,List.append_assoc,← zgq,← zgq,List.nil_append]
theorem zs1 {f:FuncId} {args args':List LV} {Mi Mo Mi' Mo':Ml} {r r':LV} (ρ σ:List (Nat×Nat)) (h:Ct P f args Mi (fun r1 Mo1=>r1=r∧Mo1=Mo)) (hargs:args'=args.map (LV.ren2 (rn ρ))) (hr:r=r'.ren3 (rn σ))
 (h1:LeM (rn ρ) Mi' Mi) (h2:LeM (rn σ) Mi Mi') (h3:LeM (rn σ) Mo Mo') (hinj:zhF (rn σ) (zS Mo')=true) (hinj2:zhF (rn ρ) (zS Mi)=true) (hcl:zdD Mi=true) (hcl':zdD Mo'=true) (hback:∀ i∈zS Mi',rn ρ (rn σ i)=i) :
 Ct P f args' Mi' (fun r1 Mo1=>r1=r'∧Mo1=Mo'):=by
 refine ⟨h.1,fun S w m' vs hS hM hl hvs=>?_⟩
 have mk:∀ {ρ:Nat→Nat} {A B:Ml} {m:Mp},LeM ρ A B→Ren ρ (mm A) m (mm B) ⟨fun i=>m.blk (ρ i),fun i=>m.off (ρ i),fun i=>m.cap (ρ i)⟩:=fun {ρ A B m} hle=>by
  refine ⟨fun id hid=>?_,fun _=>rfl,fun _=>rfl,fun _=>rfl⟩
  obtain ⟨b,hb⟩:=Option.isSome_iff_exists.1 hid
  obtain ⟨h1,_⟩:=zbv hle id b hb
  refine ⟨by rw [h1];rfl,?_,?_⟩
  ·unfold zJ;rw [hb,h1];cases b<;>rfl
  ·unfold zbt;rw [hb,h1];cases b<;>rfl
 have mem:∀ {ρ:Nat→Nat} {A B:Ml} {m:Mp} {w:World},LeM ρ A B→zhF ρ (zS B)=true→zdD B=true→zfZ S (mm A) m w→zfZ S (mm B) ⟨fun i=>m.blk (ρ i),fun i=>m.off (ρ i),fun i=>m.cap (ρ i)⟩ w:=fun {ρ A B m w} hle hij hc hA=>by
  have hren:=mk (m:=m) hle
  refine ⟨fun id b hb=>⟨?_,zfv hc id b hb⟩,fun i j hi hj hij'=>?_,fun i hi=>hA.out _ (hren.live i hi).1⟩
  ·obtain ⟨q1,_⟩:=zbv hle id b hb
   have hbk:=(hA.blk _ _ q1).1
   cases b with
   | row e z d f xs=>
     obtain ⟨us,hu,a1,a2,a3,a4,a5,a6,a7⟩:=hbk
     refine ⟨us,hu,a1,a2,a3,a4,a5,a6,fun i y j c hi hj=>?_⟩
     obtain ⟨u,h3,h4⟩:=a7 i y j c hi hj
     exact ⟨u,h3,h4.sub fun k hk=>hren.own hk⟩
   | box t v=>
     obtain ⟨us,hu,hc⟩:=hbk
     exact ⟨us,hu,hren.rc hc⟩
  ·exact zgx hij i (zbW hi) j (zbW hj) (hA.inj _ _ (hren.live i hi).1 (hren.live j hj).1 hij')
 have hren:=mk (m:=m') h1
 refine Calls.mono (h.2 S w _ vs hS (mem h1 hinj2 hcl hM) (by rw [hl,hargs,List.length_map]) (fun j v l hv hlj=>hren.r2 (hvs j v (l.ren2 (rn ρ)) hv (by rw [hargs,List.getElem?_map,hlj];rfl)))) ?_
 rintro e w1 ⟨v,r1,Mo1,m1,rfl,⟨rfl,rfl⟩,hb⟩
 have hren2:=mk (m:=m1) h3
 have hlive2:∀ i,(mm Mi' i).isSome=true→(mm Mi (rn σ i)).isSome=true:=fun i hi=>((mk (m:=m1) h2).live i hi).1
 refine ⟨v,r',Mo',_,rfl,⟨rfl,rfl⟩,⟨hren2.r3 (hr ▸ hb.val),mem h3 hinj hcl' hb.mem,fun i hi=>?_,fun i hi hi2=>?_,?_,hb.os,hb.tape,hb.output⟩⟩
 ·rcases hb.new (rn σ i) (hren2.live i hi).1 with h4 | ⟨j,hj,h4⟩
  ·exact .inl h4
  ·exact .inr ⟨rn ρ j,(hren.live j hj).1,h4⟩
 ·have hs:=hlive2 i hi
  have hbk:=hback i (zbW hi)
  obtain ⟨k1,k2,k3,k4,k5⟩:=hb.keep (rn σ i) hs (hren2.live i hi2).1
  have l1:=(mk (m:=m1) h2).live i hi
  have l2:=hren2.live i hi2
  refine ⟨k1.trans (by show m'.blk (rn ρ (rn σ i))=_;rw [hbk]),k2.trans (by show m'.off (rn ρ (rn σ i))=_;rw [hbk]),k3.trans (by show m'.cap (rn ρ (rn σ i))=_;rw [hbk]),l2.2.1.trans (k4.trans l1.2.1.symm),l2.2.2.trans (k5.trans l1.2.2.symm)⟩
 ·refine ⟨hb.same.size,fun k hk hn=>hb.same.at_ k hk fun ⟨j,hj,hjk⟩=>hn ⟨rn ρ j,(hren.live j hj).1,hjk⟩⟩
end
open Go.RowKit
set_option linter.unusedVariables false
set_option linter.unusedSimpArgs false
section
variable {P:Program} {x:Cx} {R:Cx→Tl→Ml→Prop}
theorem zg1 {ops:Array Oper} {lg:List En} {T:Tl} {M:Ml} {listed:Array Bool} {i:Nat} {o:Oper} {e:En} (hlen:lg.length=ops.size) (hord:zlk (ze4 [] ops.toList) [] lg 0=true) (hsz:listed.size=ops.size) (hdown:zox ops.toList (fun j=>listed.getD j false)) (ho:ops[i]? = some o) (he:lg[i]? = some e) (hbi:listed.getD i false=false) (hdeps:∀ q∈zhw o,listed.getD q false=true) :
 (∀ t∈e.ts,tm (zaQ lg (fun j=>listed.getD j false) 0 T) t=tm (zaQ lg (pre i) 0 T) t)∧(∀ id∈e.ms,mm (zbu lg (fun j=>listed.getD j false) 0 M) id=mm (zbu lg (pre i) 0 M) id)∧((∀ id∈e.news,fresh (zaQ lg (pre i) 0 T) (zbu lg (pre i) 0 M) id=true)→∀ id∈e.news,fresh (zaQ lg (fun j=>listed.getD j false) 0 T) (zbu lg (fun j=>listed.getD j false) 0 M) id=true)∧zox ops.toList (fun j=>(listed.setIfInBounds i true).getD j false)∧
 tm (putd e.dst e.val (zaQ lg (fun j=>listed.getD j false) 0 T))=tm (zaQ lg (fun j=>(listed.setIfInBounds i true).getD j false) 0 T)∧mm (e.mem++zbu lg (fun j=>listed.getD j false) 0 M)=mm (zbu lg (fun j=>(listed.setIfInBounds i true).getD j false) 0 M):=by
 have hio:=(Array.getElem?_eq_some_iff.1 ho).1
 have hget:∀ (i:Nat) o,ops[i]? = some o→ops.toList[i]? = some o:=fun i o ho=>by rw [Array.getElem?_toList];exact ho
 have han:=zi1 (all:=ops.toList) (l:=ops.toList) (acc:=[]) (fun i o ho=>by simpa using ho) (fun i q hq=>by cases hq)
 have hord':=zly (an:=ze4 [] ops.toList) (prev:=[]) (k:=0) (l:=lg) rfl hord
 simp only [Nat.zero_add,List.nil_append] at hord'
 have agree:∀ (j:Nat) e',lg[j]? = some e'→zbz e' e=true→listed.getD j false=pre i j:=fun j e' hj hc=>by
  rcases Nat.lt_trichotomy j i with hji | hji | hji
  ·obtain ⟨al,hal,hmem⟩:=hord' i e he
   have:=han i al hal j (hmem j e' hji hj hc) (fun j=>listed.getD j false) hdown (fun o' ho' q hq=>by
    rw [hget i o ho] at ho';cases ho';exact hdeps q hq)
   rw [zhr.2 hji];exact this
  ·subst hji
   rw [hbi,zfg.2 (by omega)]
  ·rw [zfg.2 (by omega)]
   cases hbj:listed.getD j false with
   | false=>rfl
   | true=>
     obtain ⟨al,hal,hmem⟩:=hord' j e' hj
     have:=han j al hal i (hmem i e hji he (by rw [zgd];exact hc)) (fun j=>listed.getD j false) hdown (fun o' ho' q hq=>hdown j o' ho' hbj q hq)
     rw [hbi] at this;cases this
 have hts:∀ t∈e.ts,tm (zaQ lg (fun j=>listed.getD j false) 0 T) t=tm (zaQ lg (pre i) 0 T) t:=fun t ht=>by
  rw [zdE,zdE]
  refine zco fun j e' hj hw=>?_
  rw [Nat.zero_add];exact agree j e' hj (zme hw ht)
 have hms:∀ id∈e.ms,mm (zbu lg (fun j=>listed.getD j false) 0 M) id=mm (zbu lg (pre i) 0 M) id:=fun id ht=>by
  rw [zfo,zfo]
  refine zco fun j e' hj hw=>?_
  rw [Nat.zero_add];exact agree j e' hj (zpO hw ht)
 have hfr:(∀ id∈e.news,fresh (zaQ lg (pre i) 0 T) (zbu lg (pre i) 0 M) id=true)→∀ id∈e.news,fresh (zaQ lg (fun j=>listed.getD j false) 0 T) (zbu lg (fun j=>listed.getD j false) 0 M) id=true:=fun hfrs id hid=>by
  have h1:=hfrs id hid
  unfold fresh at h1 ⊢
  simp only [Bool.and_eq_true] at h1 ⊢
  obtain ⟨t1,t2⟩:=zmM h1.1
  obtain ⟨m1,m2⟩:=zmu h1.2.1
  have hfree:∀ (j:Nat) e',lg[j]? = some e'→listed.getD (0+j) false=true→e'.free id=true:=fun j e' hj hb=>by
   rw [Nat.zero_add] at hb
   cases hc:zbz e' e with
   | false=>exact znT hid hc
   | true=>
     have hp:=agree j e' hj hc
     rw [hb] at hp
     have t3:=t2 j e' hj (by rw [Nat.zero_add];exact hp.symm)
     have m3:=m2 j e' hj (by rw [Nat.zero_add];exact hp.symm)
     unfold En.free
     cases hd:e'.dst with
     | none=>rw [m3];rfl
     | some d=>rw [t3 d hd,m3];rfl
  exact ⟨zkb t1 hfree,zkp m1 hfree,h1.2.2⟩
 have hb':∀ j,(listed.setIfInBounds i true).getD j false=true↔(listed.getD j false=true∨j=i):=fun j=>by
  rw [zfH]
  constructor
  ·rintro (h | ⟨h,_⟩)
   ·exact .inl h
   ·exact .inr h
  ·rintro (h | h)
   ·exact .inl h
   ·exact .inr ⟨h,by omega⟩
 have hbe:∀ j,j≠i→(listed.setIfInBounds i true).getD j false=listed.getD j false:=fun j hj=>by
  rw [Bool.eq_iff_iff,hb']
  exact ⟨fun h=>h.resolve_right hj,.inl⟩
 have hbt:(listed.setIfInBounds i true).getD i false=true:=(hb' i).2 (.inr rfl)
 refine ⟨hts,hms,hfr,fun j o' ho' hbj q hq=>?_,?_,?_⟩
 ·rcases (hb' j).1 hbj with h | h
  ·exact (hb' q).2 (.inl (hdown j o' ho' h q hq))
  ·subst h
   rw [hget j o ho] at ho';cases ho'
   exact (hb' q).2 (.inl (hdeps q hq))
 ·funext t
  rw [zlx _ _ _ e rfl rfl,zdE,zdE]
  cases hw:wT t e with
  | none=>
    show last _ _ _ _ _=_
    refine zco fun j e' hj hw'=>?_
    rw [Nat.zero_add]
    refine (hbe j fun hji=>?_).symm
    subst hji
    rw [he] at hj;cases hj;exact hw' hw
  | some v=>
    show v=_
    refine (zih (j0:=i) he hw (by rw [Nat.zero_add];exact hbt) (fun j e' hij hj hw'=>?_)).symm
    rw [Nat.zero_add,hbe j (by omega),agree j e' hj (zkj hw' (by rw [hw];exact fun h=>by cases h)),zfg.2 (by omega)]
 ·funext id
  rw [zlZ,zfo,zfo]
  cases hw:zdY id e.mem with
  | none=>
    show last _ _ _ _ _=_
    refine zco fun j e' hj hw'=>?_
    rw [Nat.zero_add]
    refine (hbe j fun hji=>?_).symm
    subst hji
    rw [he] at hj;cases hj;exact hw' hw
  | some v=>
    show v=_
    refine (zih (W:=fun e=>zdY id e.mem) (j0:=i) he hw (by rw [Nat.zero_add];exact hbt) (fun j e' hij hj hw'=>?_)).symm
    rw [Nat.zero_add,hbe j (by omega),agree j e' hj (zn2 (id:=id) hw' (by rw [hw];exact fun h=>by cases h)),zfg.2 (by omega)]
theorem zoz:∀ {l l':List En} {b:Nat→Bool} {i:Nat} {T:Tl},l.length=l'.length→(∀ j,b (i+j)=true→l[j]? = l'[j]?)→zaQ l b i T=zaQ l' b i T
 | [],[],b,i,T,_,_=>rfl
 | [],_::_,b,i,T,h,_=>by cases h
 | _::_,[],b,i,T,h,_=>by cases h
 | e::l,e'::l',b,i,T,hl,h=>by
   have hr:∀ j,b (i+1+j)=true→l[j]? = l'[j]?:=fun j hj=>by
    have:=h (j+1) (by rwa [show i+(j+1)=i+1+j by omega])
    simpa using this
   rw [zaQ,zaQ]
   cases hb:b i with
   | false=>exact zoz (by simpa using hl) hr
   | true=>
     have he:e=e':=by simpa using h 0 (by simpa using hb)
     subst he
     exact zoz (by simpa using hl) hr
theorem zo1:∀ {l l':List En} {b:Nat→Bool} {i:Nat} {M:Ml},l.length=l'.length→(∀ j,b (i+j)=true→l[j]? = l'[j]?)→zbu l b i M=zbu l' b i M
 | [],[],b,i,T,_,_=>rfl
 | [],_::_,b,i,T,h,_=>by cases h
 | _::_,[],b,i,T,h,_=>by cases h
 | e::l,e'::l',b,i,T,hl,h=>by
   have hr:∀ j,b (i+1+j)=true→l[j]? = l'[j]?:=fun j hj=>by
    have:=h (j+1) (by rwa [show i+(j+1)=i+1+j by omega])
    simpa using this
   rw [zbu,zbu]
   cases hb:b i with
   | false=>exact zo1 (by simpa using hl) hr
   | true=>
     have he:e=e':=by simpa using h 0 (by simpa using hb)
     subst he
     exact zo1 (by simpa using hl) hr
theorem zrQ {Y:Type 1} {id:Nat} {ops:Array Oper} {k:List It} {T:Tl} {M:Ml} (iA:Nat) (lg:Y→List En) (F:Y→Cx→Prop) (y0:Y) (hmix:P.follows .mixedOrders=true) (hac:acB ops.toList 0=true) (hlen:∀ y,(lg y).length=ops.size) (hord:∀ y,zlk (ze4 [] ops.toList) [] (lg y) 0=true)
 (hind:∀ i,i≠iA→(∀ al,(ze4 [] ops.toList)[i]? = some al→iA∉al)→∀ y,(lg y)[i]? = (lg y0)[i]?)
 (hsh:∀ y e e0,(lg y)[iA]? = some e→(lg y0)[iA]? = some e0→e.ts=e0.ts∧e.ms=e0.ms∧e.news=e0.news)
 (hF:∀ y x1,F y x1→Sib x x1)
 (hd:∀ y x1,Sib x x1→∀ i o e,i≠iA→ops.toList[i]? = some o→(lg y)[i]? = some e→zeV P x1 ops.toList o e (zaQ (lg y) (pre i) 0 T) (zbu (lg y) (pre i) 0 M))
 (hdA:∀ o e0,ops.toList[iA]? = some o→(lg y0)[iA]? = some e0→(∀ id∈e0.news,fresh (zaQ (lg y0) (pre iA) 0 T) (zbu (lg y0) (pre iA) 0 M) id=true)∧∀ T' M',(∀ t∈e0.ts,tm T' t=tm (zaQ (lg y0) (pre iA) 0 T) t)→(∀ id∈e0.ms,mm M' id=mm (zbu (lg y0) (pre iA) 0 M) id)→(∀ id∈e0.news,fresh T' M' id=true)→∀ m a w,Rel x (tm T') (mm M') m a w→OpG P ops.toList o (fun a w=>∃ y x1 m e,(lg y)[iA]? = some e∧F y x1∧Rel x1 (tm (putd e.dst e.val T')) (mm (e.mem++M')) m a w) a w)
 (h:∀ y x1,F y x1→Wc P x1 R k (zaQ (lg y) (fun _=>true) 0 T) (zbu (lg y) (fun _=>true) 0 M)) (hAs:iA<ops.size):Wc P x R (.code (.region id ops true)::k) T M:=by
 intro m0 a0 w0 hr0
 show (Code.region id ops true).wp P (Ka P x R k) a0 w0
 have hac':=zos hac
 simp only [Nat.zero_add] at hac'
 have hget:∀ (i:Nat) o,ops[i]? = some o→ops.toList[i]? = some o:=fun i o ho=>by rw [Array.getElem?_toList];exact ho
 have han:=zi1 (all:=ops.toList) (l:=ops.toList) (acc:=[]) (fun i o ho=>by simpa using ho) (fun i q hq=>by cases hq)
 have same:∀ {listed:Array Bool},zox ops.toList (fun j=>listed.getD j false)→listed.getD iA false=false→∀ y j,listed.getD j false=true→(lg y)[j]? = (lg y0)[j]?:=fun {listed} hdown hA y j hj=>by
  refine hind j (fun hh=>by rw [hh,hA] at hj;cases hj) (fun al hal hm=>?_) y
  have:=han j al hal iA hm (fun j=>listed.getD j false) hdown (fun o' ho' q hq=>hdown j o' ho' hj q hq)
  rw [hA] at this;cases this
 refine wp_region_any hmix (zkd (fun listed a w=>zox ops.toList (fun j=>listed.getD j false)∧((listed.getD iA false=true∧∃ y x1 m,F y x1∧Rel x1 (tm (zaQ (lg y) (fun j=>listed.getD j false) 0 T)) (mm (zbu (lg y) (fun j=>listed.getD j false) 0 M)) m a w)∨(listed.getD iA false=false∧∃ m,Rel x (tm (zaQ (lg y0) (fun j=>listed.getD j false) 0 T)) (mm (zbu (lg y0) (fun j=>listed.getD j false) 0 M)) m a w))) ?_ ?_ ?_ ops.size _ a0 _ (by simp) ?_ ?_)
 ·intro listed i a w hsz hi hinv
  obtain ⟨hdown,hinv⟩:=hinv
  obtain ⟨hlt,o,ho,hall⟩:=mem_ready.1 hi
  have hio:=(Array.getElem?_eq_some_iff.1 ho).1
  have hbi:listed.getD i false=false:=by
   rw [Array.getD_eq_getD_getElem?,Array.getElem?_eq_getElem (by omega)] at hlt ⊢;exact hlt
  have hdeps:∀ q∈zhw o,listed.getD q false=true:=fun q hq=>by
   obtain ⟨e,he,hb,rfl⟩:=zgn.1 hq
   exact hall e he hb
  have hat:∀ j,j≠i→(listed.setIfInBounds i true).getD j false=listed.getD j false:=fun j hj=>by
   rw [Bool.eq_iff_iff,zfH]
   exact ⟨fun h=>h.elim (fun h=>h) (fun h=>absurd h.1 hj),.inl⟩
  have hii:(listed.setIfInBounds i true).getD i false=true:=by rw [zfH];exact .inr ⟨rfl,by omega⟩
  have hgo:∀ {J:Act→World→Prop} {J':Act→World→Prop},OpG P ops.toList o J a w→(∀ a w,J a w→J' a w)→wpOp P ops (Ka P x R k) i J' a w:=fun {J J'} hg hK=>by
   unfold OpG at hg
   rw [Array.toArray_toList] at hg
   unfold wpOp
   simp only [ho]
   split
   ·rename_i hw
    rw [if_pos hw] at hg
    exact .inl (zek hg hK)
   ·rename_i hw
    rw [if_neg hw] at hg
    exact hK _ _ hg
  rcases hinv with ⟨hA,y,x1,m,hFy,hr⟩ | ⟨hA,m,hr⟩
  ·-- the context has turned
   have hne:i≠iA:=fun hh=>by rw [hh,hA] at hbi;cases hbi
   obtain ⟨e,he⟩:∃ e,(lg y)[i]? = some e:=⟨(lg y)[i]'(by rw [hlen];omega),List.getElem?_eq_getElem _⟩
   have hD:=hd y x1 (hF y x1 hFy) i o e hne (hget i o ho) he
   obtain ⟨c1,c2,c3,c4,c5,c6⟩:=zg1 (T:=T) (M:=M) (hlen y) (hord y) hsz hdown ho he hbi hdeps
   refine hgo (hD.ok _ _ c1 c2 (c3 hD.frs) m a w hr) fun a' w' ⟨m',hr'⟩=>⟨c4,.inl ⟨(hat iA (fun hh=>hne hh.symm)).trans hA,y,x1,m',hFy,?_⟩⟩
   rw [← c5,← c6];exact hr'
  ·by_cases hne:i=iA
   ·subst hne
    obtain ⟨e0,he0⟩:∃ e,(lg y0)[i]? = some e:=⟨(lg y0)[i]'(by rw [hlen];omega),List.getElem?_eq_getElem _⟩
    obtain ⟨c1,c2,c3,c4,c5,c6⟩:=zg1 (T:=T) (M:=M) (hlen y0) (hord y0) hsz hdown ho he0 hbi hdeps
    obtain ⟨hfr,hok⟩:=hdA o e0 (hget i o ho) he0
    refine hgo (hok _ _ c1 c2 (c3 hfr) m a w hr) fun a' w' ⟨y,x1,m',e,he,hFy,hr'⟩=>?_
    obtain ⟨d1,d2,d3,d4,d5,d6⟩:=zg1 (T:=T) (M:=M) (hlen y) (hord y) hsz hdown ho he hbi hdeps
    refine ⟨c4,.inl ⟨hii,y,x1,m',hFy,?_⟩⟩
    rw [← d5,← d6,zoz (l:=lg y) (l':=lg y0) ((hlen y).trans (hlen y0).symm) (fun j hj=>same hdown hA y j (by rwa [Nat.zero_add] at hj)),zo1 (l:=lg y) (l':=lg y0) ((hlen y).trans (hlen y0).symm) (fun j hj=>same hdown hA y j (by rwa [Nat.zero_add] at hj))]
    exact hr'
   ·obtain ⟨e,he⟩:∃ e,(lg y0)[i]? = some e:=⟨(lg y0)[i]'(by rw [hlen];omega),List.getElem?_eq_getElem _⟩
    have hD:=hd y0 x (.refl x) i o e hne (hget i o ho) he
    obtain ⟨c1,c2,c3,c4,c5,c6⟩:=zg1 (T:=T) (M:=M) (hlen y0) (hord y0) hsz hdown ho he hbi hdeps
    refine hgo (hD.ok _ _ c1 c2 (c3 hD.frs) m a w hr) fun a' w' ⟨m',hr'⟩=>⟨c4,.inr ⟨(hat iA (fun hh=>hne hh.symm)).trans hA,m',?_⟩⟩
    rw [← c5,← c6];exact hr'
 ·rintro listed a w hsz hall ⟨_,hinv⟩
  rcases hinv with ⟨hA,y,x1,m,hFy,hr⟩ | ⟨hA,m,hr⟩
  ·rw [zea (b':=fun _=>true) (fun j hj=>by rw [Nat.zero_add];exact hall j (by rw [hlen] at hj;omega)),zfz (b':=fun _=>true) (fun j hj=>by rw [Nat.zero_add];exact hall j (by rw [hlen] at hj;omega))] at hr
   exact Ka.base (hF y x1 hFy) _ _ _ _ (h y x1 hFy m a w hr)
  ·rw [hall iA hAs] at hA;cases hA
 ·intro i o ho e he hb
  exact hac' i o (hget i o ho) e.on (zgn.2 ⟨e,he,hb,rfl⟩)
 ·unfold left
  refine Nat.le_trans (List.length_filter_le _ _) (by simp)
 ·have hz:∀ j,(Array.replicate ops.size false).getD j false=false:=fun j=>by
   rw [Array.getD_eq_getD_getElem?,Array.getElem?_replicate];split<;>rfl
  refine ⟨fun i o ho hb=>(by
   have hb':(Array.replicate ops.size false).getD i false=true:=hb
   rw [hz] at hb';cases hb'),.inr ⟨hz iA,m0,?_⟩⟩
  rw [zeM (fun j _=>hz j),zgE (fun j _=>hz j)]
  exact hr0.drew
end
open Go.RowKit
set_option linter.unusedVariables false
set_option linter.unusedSimpArgs false
def zd2 (S:Nat→Prop) (Pv:Nat→Obj→Prop) (k:Nat):Prop:=S k∨∃ o,Pv k o
structure zuY (S:Nat→Prop) (Pi:Nat→Obj→Prop) (Mi:Mem) (m:Mp) (w:World) (r:LV) (Mo:Mem) (m1:Mp) (Po:Nat→Obj→Prop) (w1:World) (v:Value):Prop where
 val:R3 (zd2 S Po) Mo m1 w1 v r
 mem:zfZ (zd2 S Po) Mo m1 w1
 pv:∀ b o,Po b o→w1.heap[b]? = some o∧(w.heap.size≤b∨(∃ j,(Mi j).isSome=true∧b=m.blk j)∨∃ o',Pi b o')∧¬ S b
 new:∀ i,(Mo i).isSome=true→w.heap.size≤m1.blk i∨(∃ j,(Mi j).isSome=true∧m1.blk i=m.blk j)∨∃ o,Pi (m1.blk i) o
 keep:∀ i,(Mi i).isSome=true→(Mo i).isSome=true→m1.blk i=m.blk i∧m1.off i=m.off i∧m1.cap i=m.cap i∧zJ Mo i=zJ Mi i∧zbt Mo i=zbt Mi i
 same:zfw (fun k=>(∃ j,(Mi j).isSome=true∧k=m.blk j)∨∃ o,Pi k o) w w1
 os:w1.os=w.os
 tape:w1.tape=w.tape
 output:w1.output=w.output
def CtG (P:Program) (f:FuncId) (args:List LV) (Mi:Ml) (Pre:(Nat→Obj→Prop)→Prop) (Post:LV→Ml→(Nat→Obj→Prop)→Prop):Prop:=zgw P f∧
 ∀ (S:Nat→Prop) (Pi:Nat→Obj→Prop) (w:World) (m:Mp) (vs:List Value),(∀ k,S k→k<w.heap.size)→(∀ b o,Pi b o→w.heap[b]? = some o∧¬ S b)→zfZ (zd2 S Pi) (mm Mi) m w→vs.length=args.length→(∀ (j:Nat) v l,vs[j]? = some v→args[j]? = some l→R2 (zd2 S Pi) (mm Mi) m w v l)→Pre Pi→
   Calls P f vs.toArray w (fun e w1=>∃ v r Mo m1 Po,e=.returned v∧Post r Mo Po∧zuY S Pi (mm Mi) m w r (mm Mo) m1 Po w1 v)
def zip (Pi:Nat→Obj→Prop):Prop:=∀ b o,¬ Pi b o
def zwT (tb:Tb) (rs:List (ResultVar×TypeId)) (Mi:Ml) (Post:LV→Ml→(Nat→Obj→Prop)→Prop) (x:Cx) (T:Tl) (M:Ml):Prop:=
 ∃ ls r Mo ρ Po,ztU tb (mm M) T rs=some ls∧zdW ls=LV.ren3 (rn ρ) r∧LeM (rn ρ) M Mo∧zhF (rn ρ) (zS Mo)=true∧zdD Mo=true∧zsx.fixed (rn ρ) (zS Mi)=true∧(∀ b o,Po b o→z7 x b o)∧Post r Mo Po
section
variable {P:Program} {x:Cx} {tb:Tb} {T:Tl} {M:Ml} {m:Mp} {a:Act} {w:World}
theorem zgs {f:FuncId} {fn:Func} {c:Code} {args:List LV} {rs:List (ResultVar×TypeId)} {Mi:Ml} {Pre:(Nat→Obj→Prop)→Prop} {Post:LV→Ml→(Nat→Obj→Prop)→Prop} (htb:zaJ P tb) (hf:P.funcs[f]? = some fn) (hb:fn.body=some c) (hname:(fn.name == "runtime.NumGoroutine")=false)
 (hres:fn.results=(rs.map (·.1)).toArray) (hn:args.length≤fn.ntmps) (hbig:zrM Mi=true)
 (h:(∀ l∈args,OkL l)→(∀ id b,mm Mi id=some b→OkB b)→∀ (x:Cx) (Pi:Nat→Obj→Prop),x.n=fn.ntmps→(∀ i,x.lent i↔(mm Mi i).isSome=true)→(∀ b o,Pi b o→z7 x b o)→Pre Pi→Wc P x (zwT tb rs Mi Post) [.code c] (zhh 0 args) Mi):CtG P f args Mi Pre Post:=by
 refine ⟨⟨fn,c,hf,hb,hname⟩,fun S Pi w m vs hS hPi hM hl hvs hpre=>?_⟩
 let x:Cx:=⟨zd2 S Pi,fun k=>∃ j,(mm Mi j).isSome=true∧k=m.blk j,w,fn.ntmps,fun i=>(mm Mi i).isSome=true,m,zJ (mm Mi),zbt (mm Mi),fun i hi=>zlp hbig i (zbW hi),S,fun k=>(∃ j,(mm Mi j).isSome=true∧k=m.blk j)∨∃ o,Pi k o,w,fun _ h=>.inl h,fun _ h=>.inl (.inl h),.refl _ _,rfl,rfl,rfl⟩
 let x':Cx:=⟨S,fun k=>(∃ j,(mm Mi j).isSome=true∧k=m.blk j)∨∃ o,Pi k o,w,fn.ntmps,fun i=>(mm Mi i).isSome=true,m,zJ (mm Mi),zbt (mm Mi),fun i hi=>zlp hbig i (zbW hi),S,fun k=>(∃ j,(mm Mi j).isSome=true∧k=m.blk j)∨∃ o,Pi k o,w,fun _ h=>h,fun _ h=>.inl h,.refl _ _,rfl,rfl,rfl⟩
 have hSW:∀ k,zd2 S Pi k→k<w.heap.size:=fun k hk=>hk.elim (hS k) fun ⟨o,ho⟩=>(Array.getElem?_eq_some_iff.1 (hPi k o ho).1).1
 have hent:Rel x (tm (zhh 0 args)) (mm Mi) m {tmps:=vs.toArray++Array.replicate (fn.ntmps-vs.toArray.size) undef,defers:=[]} w:=by
  refine ⟨fun t=>?_,by show (vs.toArray++Array.replicate (fn.ntmps-vs.toArray.size) undef).size=fn.ntmps;simp;omega,rfl,fun id b hb=>?_,hM.inj,fun i hi=>⟨.inr ⟨i,hi,rfl⟩,hM.out i hi⟩,hSW,rfl,rfl,rfl,zfw.refl _ _,fun i _ _=>⟨rfl,rfl,rfl,rfl,rfl⟩⟩
  ·unfold tm
   rw [zgI,if_pos (Nat.zero_le _),Nat.sub_zero]
   by_cases ht:t<args.length
   ·have htv:t<vs.length:=by omega
    have hg:(vs.toArray++Array.replicate (fn.ntmps-vs.toArray.size) undef).getD t undef=vs[t]:=by
     rw [Array.getD_eq_getD_getElem?,Array.getElem?_append_left (by simpa using htv)]
     simp [htv]
    rw [List.getElem?_eq_getElem ht]
    show R3 (zd2 S Pi) (mm Mi) m w ((vs.toArray++Array.replicate (fn.ntmps-vs.toArray.size) undef).getD t undef) args[t]
    rw [hg]
    exact zeE (hvs t _ _ (List.getElem?_eq_getElem htv) (List.getElem?_eq_getElem ht))
   ·rw [List.getElem?_eq_none (by omega)];trivial
  ·exact (hM.blk id b hb).1
 have hok1:∀ l∈args,OkL l:=fun l hl'=>by
  obtain ⟨j,hj⟩:=List.mem_iff_getElem?.1 hl'
  have hlt:=(List.getElem?_eq_some_iff.1 hj).1
  exact (hvs j _ l (List.getElem?_eq_getElem (by omega)) hj).ok
 have hok2:∀ id b,mm Mi id=some b→OkB b:=fun id b hb=>(hM.blk id b hb).1.ok
 refine calls_of_wp hf hb (wp_mono (h hok1 hok2 x Pi rfl (fun i=>Iff.rfl) (fun b o hp=>⟨.inr ⟨o,hp⟩,fun ⟨j,hj,e⟩=>hM.out j hj (e ▸ .inr ⟨o,hp⟩),.inr (.inr ⟨o,hp⟩),(hPi b o hp).2,(hPi b o hp).1⟩) hpre m _ w hent) ?_)
 have key:∀ a w1,zhJ x (zwT tb rs Mi Post) a w1→a.defers=[]∧∃ v,(results fn a.tmps).run P w1=.ok v w1∧∃ v' r Mo m1 Po,Ending.returned v=.returned v'∧Post r Mo Po∧zuY S Pi (mm Mi) m w r (mm Mo) m1 Po w1 v':=by
  rintro a w1 ⟨x1,hx,T,M,m0,hr1,ls,r,Mo,ρ,Po,hls,heq,hle,hinj,hro,hfix,hPo,hpost⟩
  have hx':Sib x' x1:=⟨hx.n,hx.oS,hx.oo,hx.ow,hx.lent,hx.lm,hx.ll,hx.lz⟩
  have hr:Rel x' (tm T) (mm M) m0 a w1:=hx'.rel (x:=x') ⟨rfl,rfl,rfl⟩ hS hr1
  have h1S:∀ k,zd2 S Po k→x1.S0 k:=fun k hk=>hk.elim (fun hk=>x1.p1 k (by rw [hx.oS];exact hk)) fun ⟨o,ho⟩=>(hPo k o ho).s0
  obtain ⟨vs1,h0,h1,h2⟩:=zoM htb hr1 rs ls hls
  have hval:R3 x1.S0 (mm M) m0 w1 (zri vs1) (zdW ls):=zlL h1 h2
  rw [heq] at hval
  have hren:Ren (rn ρ) (mm M) m0 (mm Mo) ⟨fun i=>m0.blk (rn ρ i),fun i=>m0.off (rn ρ i),fun i=>m0.cap (rn ρ i)⟩:=by
   refine ⟨fun id hid=>?_,fun _=>rfl,fun _=>rfl,fun _=>rfl⟩
   obtain ⟨b,hb⟩:=Option.isSome_iff_exists.1 hid
   obtain ⟨h1,_⟩:=zbv hle id b hb
   refine ⟨by rw [h1];rfl,?_,?_⟩
   ·unfold zJ;rw [hb,h1];cases b<;>rfl
   ·unfold zbt;rw [hb,h1];cases b<;>rfl
  refine ⟨hr.df,_,zqv hres h0,_,r,Mo,⟨fun i=>m0.blk (rn ρ i),fun i=>m0.off (rn ρ i),fun i=>m0.cap (rn ρ i)⟩,Po,rfl,hpost,(Mws.of h1S).r3 (hren.r3 hval),⟨fun id b hb=>?_,fun i j hi hj hij=>?_,fun i hi=>?_⟩,fun b o hp=>?_,fun i hi=>?_,fun i hi hi2=>?_,hr.same,hr.os,hr.tape,hr.output⟩
  ·refine ⟨?_,zfv hro id b hb⟩
   obtain ⟨h1,_⟩:=zbv hle id _ hb
   have hbk:=hr1.blk _ _ h1
   refine (Mws.of h1S).blk rfl ?_
   cases b with
   | row e z d f xs=>
     obtain ⟨us,hu,a1,a2,a3,a4,a5,a6,a7⟩:=hbk
     refine ⟨us,hu,a1,a2,a3,a4,a5,a6,fun i y j c hi hj=>?_⟩
     obtain ⟨u,h3,h4⟩:=a7 i y j c hi hj
     exact ⟨u,h3,h4.sub fun k hk=>hren.own hk⟩
   | box t v=>
     obtain ⟨us,hu,hc⟩:=hbk
     exact ⟨us,hu,hren.rc hc⟩
  ·obtain ⟨bi,hbi⟩:=Option.isSome_iff_exists.1 hi
   obtain ⟨bj,hbj⟩:=Option.isSome_iff_exists.1 hj
   obtain ⟨h1,k1⟩:=zbv hle i bi hbi
   obtain ⟨h2,k2⟩:=zbv hle j bj hbj
   exact zgx hinj i k1 j k2 (hr.inj _ _ (by rw [h1];rfl) (by rw [h2];rfl) hij)
  ·obtain ⟨bi,hbi⟩:=Option.isSome_iff_exists.1 hi
   obtain ⟨h1,_⟩:=zbv hle i bi hbi
   exact fun hw=>(hr1.lo _ (by rw [h1];rfl)).2 (h1S _ hw)
  ·have hp1:=hPo b o hp
   refine ⟨hp1.now hr1,?_,fun hs=>hp1.no (by rw [hx.oS];exact hs)⟩
   have:=hp1.new
   rw [hx.ow,hx.oo] at this
   rcases this with h | h | h
   ·exact .inl h
   ·exact .inr (.inl h)
   ·exact .inr (.inr h)
  ·obtain ⟨bi,hbi⟩:=Option.isSome_iff_exists.1 hi
   obtain ⟨h1,_⟩:=zbv hle i bi hbi
   have hs:(mm M (rn ρ i)).isSome=true:=by rw [h1];rfl
   exact (hr.lo _ hs).1
  ·obtain ⟨h3,h4,h5⟩:=hren.live i hi2
   have hri:rn ρ i=i:=zl9 hfix i (zbW hi)
   rw [hri] at h3 h4 h5
   obtain ⟨k1,k2,k3,k4,k5⟩:=hr.keep i hi h3
   exact ⟨by show m0.blk (rn ρ i)=_;rw [hri];exact k1,by show m0.off (rn ρ i)=_;rw [hri];exact k2,by show m0.cap (rn ρ i)=_;rw [hri];exact k3,h4.trans k4,h5.trans k5⟩
 intro e a w1 he
 rcases Ka.bad he with rfl | ⟨i,rfl⟩ | rfl
 ·exact key a w1 he
 ·exact he.elim
 ·exact key a w1 he
variable {R:Cx→Tl→Ml→Prop} {n:Nat}
theorem ztE {f:FuncId} {args zas:List LV} {Mi:Ml} {Pre:(Nat→Obj→Prop)→Prop} {Post:LV→Ml→(Nat→Obj→Prop)→Prop} {dst:Option Nat} {k:List It} (hn:x.n=n) (hd:zaA n dst=true) (fl:List Bool) (Pi:Nat→Obj→Prop) (hPi:∀ b o,Pi b o→z7 x b o) (hpre:Pre Pi) (hc:CtG P f args Mi Pre Post) (ha:zc4 (mm M) fl zas=some args)
 (hsub:LeM (rn []) M Mi) (hro:zdD Mi=true) (hv:zg7 fl zas=[])
 (hnew:∀ r Mo Po,Post r Mo Po→zf2 T M Mi Mo=true∧∀ id,(mm Mo id).isSome=true→(mm Mi id).isSome=true∨¬ x.lent id)
 (honr:∀ r Mo Po,Post r Mo Po→∀ id,r.on id→(mm Mo id).isSome=true) (hkl:∀ id∈zS Mi,(mm Mi id).isSome=true)
 (h:∀ r Mo Po x1,Post r Mo Po→Sib x x1→(∀ b o,z7 x b o→(¬ ∃ o',Pi b o')→z7 x1 b o)→(∀ b o,Po b o→z7 x1 b o)→(∀ b o o',Po b o→z7 x b o'→∃ o',Pi b o')→Wc P x1 R k (Ab.putd dst r T) (Mo++dropM (zS Mi) M)):zmV P x R f zas dst k T M:=by
 refine ⟨hc.1,fun m a w vs hr hl hvs=>?_⟩
 obtain ⟨h1,h2⟩:=zjQ ha
 have hrn:∀ i,rn [] i=i:=fun i=>rfl
 have hMi:∀ id b,mm Mi id=some b→mm M id=some b:=fun id b hb=>by
  obtain ⟨h3,_⟩:=zbv hsub id b hb
  rw [hrn] at h3
  rwa [zkE] at h3
 have hMl:∀ id,(mm Mi id).isSome=true→(mm M id).isSome=true:=fun id hi=>by
  obtain ⟨b,hb⟩:=Option.isSome_iff_exists.1 hi
  rw [hMi id b hb];rfl
 let S:Nat→Prop:=fun k=>(x.S0 k∧¬ ∃ o,Pi k o)∨∃ id,(mm M id).isSome=true∧m.blk id=k∧id∉zS Mi
 have hW:∀ k,zd2 S Pi k→Own x.S0 (mm M) m k:=fun k hk=>by
  rcases hk with (hk | ⟨id,hi,hb,_⟩) | ⟨o,ho⟩
  ·exact .inl hk.1
  ·exact .inr ⟨id,hi,hb⟩
  ·exact .inl (hPi k o ho).s0
 have hSown:∀ k,Own (zd2 S Pi) (mm Mi) m k→Own x.S0 (mm M) m k:=fun k hk=>by
  rcases hk with hk | ⟨id,hi,hb⟩
  ·exact hW k hk
  ·exact .inr ⟨id,hMl id hi,hb⟩
 have hlive0:∀ id,zdK (mm M) m (mm Mi) m id:=fun id hi=>by
  obtain ⟨b,hb⟩:=Option.isSome_iff_exists.1 hi
  have:=hMi id b hb
  exact ⟨hMl id hi,rfl,rfl,rfl,by unfold zJ;rw [hb,this],by unfold zbt;rw [hb,this]⟩
 have hnS:∀ id,(mm M id).isSome=true→¬ x.S0 (m.blk id):=fun id hi=>(hr.lo id hi).2
 have hmem:zfZ (zd2 S Pi) (mm Mi) m w:=by
  refine ⟨fun id b hb=>?_,fun i j hi hj=>hr.inj i j (hMl i hi) (hMl j hj),fun i hi hS=>?_⟩
  ·exact ⟨zow (hlive0 id) (by rw [hb];rfl) (fun i _=>hlive0 i) (zfU hSown) (hr.blk id _ (hMi id _ hb)),zfv hro id b hb⟩
  ·rcases hS with (hS | ⟨id,hid,hb,hno⟩) | ⟨o,ho⟩
   ·exact hnS i (hMl i hi) hS.1
   ·have:=hr.inj _ _ hid (hMl i hi) hb
    subst this
    exact hno (zbW hi)
   ·exact hnS i (hMl i hi) (hPi _ o ho).s0
 have hSlt:∀ k,S k→k<w.heap.size:=fun k hk=>by
  rcases hk with hk | ⟨id,hid,hb,_⟩
  ·exact Nat.lt_of_lt_of_le (hr.s0 k hk.1) hr.same.size
  ·rw [← hb];exact hr.live_lt hid
 have hPS:∀ b o,Pi b o→¬ S b:=fun b o hp hS=>by
  rcases hS with hS | ⟨id,hid,hb,_⟩
  ·exact hS.2 ⟨o,hp⟩
  ·exact hnS id hid (hb ▸ (hPi b o hp).s0)
 have hcall:=hc.2 S Pi w m vs hSlt (fun b o hp=>⟨(hPi b o hp).now hr,hPS b o hp⟩) hmem (by rw [hl,h1]) (fun j v l hvj hlj=>by
  have hlt:=(List.getElem?_eq_some_iff.1 hvj).1
  rw [hl] at hlt
  have haj:=List.getElem?_eq_getElem hlt
  obtain ⟨l',hl',hor⟩:=h2 j _ haj
  rw [hlj] at hl';cases hl'
  have hra:=hvs j v _ hvj haj
  rcases hor with he | ⟨hp,hin⟩
  ·rw [he] at hra
   exact tr2 (fun id _=>hlive0 id) (.inl (zfU hSown)) hra
  ·have hp1:=zjv (x:=x) (S:=Own (zd2 S Pi) (mm Mi) m) hSown hr.blk hra hp (fun id hi hlive hS=>by
    have:=hin _ hi
    rw [hv] at this;cases this) m
   have hpp:l.isPure2=true:=by
    revert hp
    generalize zas[j]=b
    intro hp
    cases b<;>simp only [LV.pure] at hp<;>first
     | (cases hp;rfl)
     | (obtain ⟨c,_,hp⟩:=Option.bind_eq_some_iff.1 hp;cases hp;rfl)
   exact zpe hpp (.inl fun k hk=>hk) hp1) hpre
 refine Calls.mono hcall fun e w1 he=>?_
 obtain ⟨v,r,Mo,m1,Po,rfl,hpo,hb⟩:=he
 obtain ⟨hno,hnl⟩:=hnew r Mo Po hpo
 have hno':=zmf hno
 have hle0:x.ow.heap.size≤x.w0.heap.size:=x.p3.size
 have hle1:x.w0.heap.size≤w.heap.size:=hr.same.size
 have hlentS:∀ k,(∃ j,(mm Mi j).isSome=true∧k=m.blk j)→¬ x.S0 k:=fun k ⟨j,hj,e⟩=>e ▸ hnS j (hMl j hj)
 have hPo1:∀ b o,Po b o→b<w.heap.size→Own x.S0 (mm M) m b:=fun b o hp hlt=>by
  rcases (hb.pv b o hp).2.1 with h3 | ⟨j,hj,e⟩ | ⟨o',h3⟩
  ·omega
  ·exact .inr ⟨j,hMl j hj,e.symm⟩
  ·exact .inl (hPi b o' h3).s0
 let S1:Nat→Prop:=fun k=>(x.S0 k∧¬ ∃ o,Pi k o)∨∃ o,Po k o
 have hPoS:∀ b o,Po b o→¬ S b:=fun b o hp=>(hb.pv b o hp).2.2
 obtain ⟨x1,hx1,hs1,hown1,hw1⟩:∃ x1:Cx,Sib x x1∧x1.S0=S1∧(∀ k,x1.own0 k↔((x.own0 k∨x.w0.heap.size≤k∨∃ o,Pi k o)∧¬ S1 k))∧x1.w0=w1:=by
  refine ⟨{x with S0:=S1,own0:=fun k=>(x.own0 k∨x.w0.heap.size≤k∨∃ o,Pi k o)∧¬ S1 k,w0:=w1,p1:=fun k hk=>.inl ⟨x.p1 k hk,fun ⟨o,ho⟩=>(hPi k o ho).no hk⟩,p2:=fun k hk=>?_,p3:=⟨by have:=hb.same.size;omega,fun k hk hn=>?_⟩,p4:=⟨hb.os.trans (hr.os.trans x.p4.1),hb.tape.trans (hr.tape.trans x.p4.2.1),hb.output.trans (hr.output.trans x.p4.2.2)⟩},⟨rfl,rfl,rfl,rfl,rfl,rfl,rfl,rfl⟩,rfl,fun k=>Iff.rfl,rfl⟩
  ·rcases hk.1 with h3 | h3 | ⟨o,h3⟩
   ·exact x.p2 k h3
   ·exact .inr (Nat.le_trans hle0 h3)
   ·exact (hPi k o h3).new.symm
  ·have hno:∀ k,k<x.ow.heap.size→¬ x.oo k→¬ ((∃ j,(mm Mi j).isSome=true∧k=m.blk j)∨∃ o,Pi k o):=fun k hk hn h=>by
    rcases h with ⟨j,hj,e⟩ | ⟨o,ho⟩
    ·subst e
     rcases (hr.lo j (hMl j hj)).1 with h3 | h3
     ·omega
     ·rcases x.p2 _ h3 with h4 | h4
      ·exact hn h4
      ·omega
    ·rcases (hPi k o ho).new with h4 | h4
     ·omega
     ·exact hn h4
   rw [hb.same.at_ k (by omega) (hno k hk hn),hr.same.at_ k (by omega) (fun h=>(x.p2 k h).elim hn (fun h=>by omega)),x.p3.at_ k hk hn]
 -- the memory then
 let m':Mp:=⟨fun i=>if (mm Mo i).isSome=true then m1.blk i else m.blk i,fun i=>if (mm Mo i).isSome=true then m1.off i else m.off i,fun i=>if (mm Mo i).isSome=true then m1.cap i else m.cap i⟩
 have hM1:∀ id,mm (Mo++dropM (zS Mi) M) id=(zdY id Mo).getD (if id∈zS Mi then none else mm M id):=fun id=>by rw [zlZ,zfF]
 have hcases:∀ id b,mm (Mo++dropM (zS Mi) M) id=some b→mm Mo id=some b∨(mm Mo id=none∧id∉zS Mi∧mm M id=some b):=fun id b hb'=>by
  rw [hM1] at hb'
  cases hf:zdY id Mo with
  | some q=>
    rw [hf] at hb'
    have:q=some b:=hb'
    subst this
    exact .inl (zmE hf)
  | none=>
    rw [hf] at hb'
    have hb'':(if id∈zS Mi then none else mm M id)=some b:=hb'
    split at hb''
    ·cases hb''
    ·rename_i hk
     refine .inr ⟨?_,hk,hb''⟩
     cases hmo:mm Mo id with
     | none=>rfl
     | some b'=>rw [zfE hmo] at hf;cases hf
 have hinMo:∀ id b,mm Mo id=some b→mm (Mo++dropM (zS Mi) M) id=some b:=fun id b hb'=>by rw [hM1,zfE hb'];rfl
 have hin:∀ id,(mm Mo id).isSome=true→m'.blk id=m1.blk id∧m'.off id=m1.off id∧m'.cap id=m1.cap id:=fun id hi=>⟨if_pos hi,if_pos hi,if_pos hi⟩
 have hout:∀ id,mm Mo id=none→m'.blk id=m.blk id∧m'.off id=m.off id∧m'.cap id=m.cap id:=fun id hi=>by
  have:¬ (mm Mo id).isSome=true:=by rw [hi];exact Bool.false_ne_true
  exact ⟨if_neg this,if_neg this,if_neg this⟩
 let S2:Nat→Prop:=fun k=>x.S0 k∨∃ o,Po k o
 have hown:∀ k,Own S2 (mm (Mo++dropM (zS Mi) M)) m' k→k<w.heap.size→Own S2 (mm M) m k:=fun k hk hlt=>by
  rcases hk with hk | ⟨id,hi,hbk⟩
  ·exact .inl hk
  ·obtain ⟨b,hb'⟩:=Option.isSome_iff_exists.1 hi
   rcases hcases id b hb' with h3 | ⟨h3,h4,h5⟩
   ·have hi':(mm Mo id).isSome=true:=by rw [h3];rfl
    rw [(hin id hi').1] at hbk
    rcases hb.new id hi' with h6 | ⟨j,hj,h6⟩ | ⟨o,h6⟩
    ·omega
    ·exact .inr ⟨j,hMl j hj,by rw [← h6];exact hbk⟩
    ·exact .inl (.inl (hbk ▸ (hPi _ o h6).s0))
   ·rw [(hout id h3).1] at hbk
    exact .inr ⟨id,by rw [h5];rfl,hbk⟩
 have hup:Mws x.S0 S2 (mm M) m w w:=⟨.refl _ _,fun k hk hlt=>by
  rcases hk with (hk | ⟨o,ho⟩) | hk
  ·exact .inl hk
  ·exact hPo1 k o ho hlt
  ·exact .inr hk⟩
 have hdown:Mws S2 S1 (mm (Mo++dropM (zS Mi) M)) m' w1 w1:=Mws.of fun k hk=>hk.elim (fun h=>.inl h.1) .inr
 have hmv:Mv S2 (mm M) m w (mm (Mo++dropM (zS Mi) M)) m' w1:=⟨⟨hb.same.size,fun k hk hO=>hb.same.at_ k hk (fun hl=>hO (by
  rcases hl with ⟨j,hj,e⟩ | ⟨o,ho⟩
  ·exact .inr ⟨j,hMl j hj,e.symm⟩
  ·exact .inl (.inl (hPi k o ho).s0)))⟩,hown⟩
 have hkeep:∀ id,((mm M id).isSome=true∨¬ ((∀ t,¬ (tm T t).on id)∧(∀ i b,mm M i=some b→¬ b.on id)))→zdK (mm M) m (mm (Mo++dropM (zS Mi) M)) m' id:=fun id hor hl=>by
  obtain ⟨b,hb'⟩:=Option.isSome_iff_exists.1 hl
  rcases hcases id b hb' with h3 | ⟨h3,h4,h5⟩
  ·have hi':(mm Mo id).isSome=true:=by rw [h3];rfl
   have hk:id∈zS Mi:=by
    rcases hno' id hi' with hk | ⟨f1,f2,f3⟩
    ·exact hk
    ·rcases hor with hor | hor
     ·rw [f3] at hor;cases hor
     ·exact absurd ⟨f1,f2⟩ hor
   have hmi:=hkl id hk
   obtain ⟨k1,k2,k3,k4,k5⟩:=hb.keep id hmi hi'
   obtain ⟨bi,hbi⟩:=Option.isSome_iff_exists.1 hmi
   obtain ⟨g1,g2,g3⟩:=hin id hi'
   refine ⟨hMl id hmi,g1.trans k1,g2.trans k2,g3.trans k3,?_,?_⟩
   ·have e1:zJ (mm (Mo++dropM (zS Mi) M)) id=zJ (mm Mo) id:=by unfold zJ;rw [hb',h3]
    have e2:zJ (mm M) id=zJ (mm Mi) id:=by unfold zJ;rw [hMi id bi hbi,hbi]
    rw [e1,e2];exact k4
   ·have e1:zbt (mm (Mo++dropM (zS Mi) M)) id=zbt (mm Mo) id:=by unfold zbt;rw [hb',h3]
    have e2:zbt (mm M) id=zbt (mm Mi) id:=by unfold zbt;rw [hMi id bi hbi,hbi]
    rw [e1,e2];exact k5
  ·obtain ⟨g1,g2,g3⟩:=hout id h3
   exact ⟨by rw [h5];rfl,g1,g2,g3,by unfold zJ;rw [hb',h5],by unfold zbt;rw [hb',h5]⟩
 have hkT:∀ t id,(tm T t).on id→zdK (mm M) m (mm (Mo++dropM (zS Mi) M)) m' id:=fun t id hi=>hkeep id (.inr fun ⟨h3,_⟩=>h3 t hi)
 have hkM:∀ i b id,mm M i=some b→b.on id→zdK (mm M) m (mm (Mo++dropM (zS Mi) M)) m' id:=fun i b id hb' hi=>hkeep id (.inr fun ⟨_,h3⟩=>h3 i b hb' hi)
 have hback:∀ k,Own S1 (mm (Mo++dropM (zS Mi) M)) m' k→Own (zd2 S Po) (mm Mo) m1 k:=fun k hk=>by
  rcases hk with (hk | ⟨o,ho⟩) | ⟨id,hi,hbk⟩
  ·exact .inl (.inl (.inl hk))
  ·exact .inl (.inr ⟨o,ho⟩)
  ·obtain ⟨b,hb'⟩:=Option.isSome_iff_exists.1 hi
   rcases hcases id b hb' with h3 | ⟨h3,h4,h5⟩
   ·have hi':(mm Mo id).isSome=true:=by rw [h3];rfl
    exact .inr ⟨id,hi',by rw [← (hin id hi').1];exact hbk⟩
   ·exact .inl (.inl (.inr ⟨id,by rw [h5];rfl,by rw [← (hout id h3).1];exact hbk,h4⟩))
 have hr1:Rel x1 (tm T) (mm (Mo++dropM (zS Mi) M)) m' a w1:=by
  refine ⟨fun t=>hs1 ▸ hdown.r3 (hmv.r3 (fun id hi=>hkT t id hi) (hup.r3 (hr.tmp t))),hr.sz.trans hx1.n.symm,hr.df,fun id b hb'=>hs1 ▸ ?_,fun i j hi hj hij=>?_,fun i hi=>?_,fun k hk=>?_,by rw [hw1],by rw [hw1],by rw [hw1],by rw [hw1];exact .refl _ _,fun i hl' hi=>?_⟩
  ·rcases hcases id b hb' with h3 | ⟨h3,h4,h5⟩
   ·obtain ⟨hba,hcl⟩:=hb.mem.blk id b h3
    have hi':(mm Mo id).isSome=true:=by rw [h3];rfl
    obtain ⟨g1,g2,g3⟩:=hin id hi'
    cases b with
    | box ty v=>
      obtain ⟨us,hu,hc⟩:=hba
      refine ⟨us,by rw [g1];exact hu,trC (fun i hi hl=>?_) (.inl (zfU fun k hk=>hback k hk)) hc⟩
      have hmo:=hcl i hi
      obtain ⟨bi,hbi⟩:=Option.isSome_iff_exists.1 hmo
      obtain ⟨e1,e2,e3⟩:=hin i hmo
      exact ⟨hmo,e1,e2,e3,by unfold zJ;rw [hinMo i bi hbi,hbi],by unfold zbt;rw [hinMo i bi hbi,hbi]⟩
    | row e z d f xs=>
      obtain ⟨us,hu,a1,a2,a3,a4,a5,a6,a7⟩:=hba
      refine ⟨us,by rw [g1];exact hu,by rw [g2,g3];exact a1,by rw [g3];exact a2,by rw [g3];exact a3,a4,a5,a6,fun i y j c hi hj=>?_⟩
      obtain ⟨u,h6,h7⟩:=a7 i y j c hi hj
      exact ⟨u,by rw [g2];exact h6,Rf.sub h7 fun k hk=>hback k hk⟩
   ·obtain ⟨g1,g2,g3⟩:=hout id h3
    have hli:(mm M id).isSome=true:=by rw [h5];rfl
    refine hdown.blk rfl (hmv.blk g1 g2 g3 (hb.same.at_ _ (hr.live_lt hli) ?_) (fun i hi=>hkM id b i h5 hi) (hup.blk rfl (hr.blk id b h5)))
    rintro (⟨j,hj,e⟩ | ⟨o,ho⟩)
    ·have:=hr.inj _ _ hli (hMl j hj) e
     subst this
     exact h4 (zbW hj)
    ·exact hnS id hli (hPi _ o ho).s0
  ·obtain ⟨bi,hbi⟩:=Option.isSome_iff_exists.1 hi
   obtain ⟨bj,hbj⟩:=Option.isSome_iff_exists.1 hj
   have cross:∀ p q bp,mm Mo p=some bp→mm Mo q=none→q∉zS Mi→(mm M q).isSome=true→m1.blk p=m.blk q→False:=fun p q bp h3 h4 h5 h6 h7=>by
    rcases hb.new p (by rw [h3];rfl) with h8 | ⟨j,hj,h8⟩ | ⟨o,h8⟩
    ·have:=hr.live_lt h6;omega
    ·have:=hr.inj _ _ (hMl j hj) h6 (h8.symm.trans h7)
     subst this
     exact h5 (zbW hj)
    ·exact hnS q h6 (h7 ▸ (hPi _ o h8).s0)
   rcases hcases i bi hbi with h3 | ⟨h3,h4,h5⟩<;>rcases hcases j bj hbj with g3 | ⟨g3,g4,g5⟩
   ·have hi':(mm Mo i).isSome=true:=by rw [h3];rfl
    have hj':(mm Mo j).isSome=true:=by rw [g3];rfl
    rw [(hin i hi').1,(hin j hj').1] at hij
    exact hb.mem.inj i j hi' hj' hij
   ·rw [(hin i (by rw [h3];rfl)).1,(hout j g3).1] at hij
    exact (cross i j bi h3 g3 g4 (by rw [g5];rfl) hij).elim
   ·rw [(hout i h3).1,(hin j (by rw [g3];rfl)).1] at hij
    exact (cross j i bj g3 h3 h4 (by rw [h5];rfl) hij.symm).elim
   ·rw [(hout i h3).1,(hout j g3).1] at hij
    exact hr.inj i j (by rw [h5];rfl) (by rw [g5];rfl) hij
  ·obtain ⟨bi,hbi⟩:=Option.isSome_iff_exists.1 hi
   have key:(x.own0 (m'.blk i)∨x.w0.heap.size≤m'.blk i∨∃ o,Pi (m'.blk i) o)∧¬ S1 (m'.blk i):=by
    rcases hcases i bi hbi with h3 | ⟨h3,h4,h5⟩
    ·have hi':(mm Mo i).isSome=true:=by rw [h3];rfl
     rw [(hin i hi').1]
     refine ⟨?_,fun hS=>hb.mem.out i hi' (hS.elim (fun h=>.inl (.inl h)) .inr)⟩
     rcases hb.new i hi' with h6 | ⟨j,hj,h6⟩ | h6
     ·exact .inr (.inl (Nat.le_trans hle1 h6))
     ·rw [h6];exact (hr.lo j (hMl j hj)).1.elim (fun h=>.inr (.inl h)) .inl
     ·exact .inr (.inr h6)
    ·have hli:(mm M i).isSome=true:=by rw [h5];rfl
     rw [(hout i h3).1]
     refine ⟨(hr.lo i hli).1.elim (fun h=>.inr (.inl h)) .inl,fun hS=>?_⟩
     rcases hS with hS | ⟨o,ho⟩
     ·exact hnS i hli hS.1
     ·rcases (hb.pv _ o ho).2.1 with h6 | ⟨j,hj,e⟩ | ⟨o',h6⟩
      ·have:=hr.live_lt hli;omega
      ·have:=hr.inj _ _ hli (hMl j hj) e
       subst this
       exact h4 (zbW hj)
      ·exact hnS i hli (hPi _ o' h6).s0
   exact ⟨.inr ((hown1 _).2 key),by rw [hs1];exact key.2⟩
  ·rw [hs1] at hk
   rw [hw1]
   rcases hk with hk | ⟨o,ho⟩
   ·exact Nat.lt_of_lt_of_le (hr.s0 k hk.1) (Nat.le_trans hle1 hb.same.size)
   ·exact (Array.getElem?_eq_some_iff.1 (hb.pv k o ho).1).1
  ·rw [hx1.lm,hx1.ll,hx1.lz]
   rw [hx1.lent] at hl'
   have hlive:(mm M i).isSome=true∨(mm Mo i).isSome=true:=by
    obtain ⟨bi,hbi⟩:=Option.isSome_iff_exists.1 hi
    rcases hcases i bi hbi with h3 | ⟨_,_,h5⟩
    ·exact .inr (by rw [h3];rfl)
    ·exact .inl (by rw [h5];rfl)
   have hM':(mm M i).isSome=true:=by
    rcases hlive with h3 | h3
    ·exact h3
    ·rcases hnl i h3 with h4 | h4
     ·exact hMl i h4
     ·exact absurd hl' h4
   obtain ⟨h0,k1,k2,k3,k4,k5⟩:=hkeep i (.inl hM') hi
   obtain ⟨q1,q2,q3,q4,q5⟩:=hr.keep i hl' h0
   exact ⟨k1.trans q1,k2.trans q2,k3.trans q3,k4.trans q4,k5.trans q5⟩
 have hpr:∀ b o,z7 x b o→(¬ ∃ o',Pi b o')→z7 x1 b o:=fun b o hp hno=>by
  have hS:S1 b:=.inl ⟨hp.s0,hno⟩
  refine ⟨by rw [hs1];exact hS,fun h=>((hown1 b).1 h).2 hS,by rw [hx1.ow,hx1.oo];exact hp.new,by rw [hx1.oS];exact hp.no,?_⟩
  rw [hw1,hb.same.at_ b (Nat.lt_of_lt_of_le hp.lt hle1) (fun h=>h.elim (fun h=>hlentS b h hp.s0) hno)]
  exact hp.now hr
 have hpn:∀ b o,Po b o→z7 x1 b o:=fun b o hp=>by
  have hS:S1 b:=.inr ⟨o,hp⟩
  obtain ⟨p1,p2,p3⟩:=hb.pv b o hp
  refine ⟨by rw [hs1];exact hS,fun h=>((hown1 b).1 h).2 hS,?_,?_,by rw [hw1];exact p1⟩
  ·rw [hx1.ow,hx1.oo]
   rcases p2 with h3 | ⟨j,hj,e⟩ | ⟨o',h3⟩
   ·exact .inl (by omega)
   ·rcases (hr.lo j (hMl j hj)).1 with h4 | h4
    ·exact .inl (by omega)
    ·rw [e];exact (x.p2 _ h4).symm
   ·exact (hPi b o' h3).new
  ·rw [hx1.oS]
   intro ho
   exact p3 (.inl ⟨x.p1 b ho,fun ⟨o',h3⟩=>(hPi b o' h3).no ho⟩)
 have hdis:∀ b o o',Po b o→z7 x b o'→∃ o',Pi b o':=fun b o o' hp hq=>by
  rcases (hb.pv b o hp).2.1 with h3 | h3 | h3
  ·have:=hq.lt;omega
  ·exact absurd hq.s0 (hlentS b h3)
  ·exact h3
 refine Ka.base hx1 _ _ _ _ (h r Mo Po x1 hpo hx1 hpr hpn hdis m' _ w1 (hr1.putd (hx1.n.trans hn) hd ?_))
 rw [hs1]
 refine tr3 (fun id hi hl=>?_) (.inl (zfU fun k hk=>hback k hk)) hb.val
 have hmo:=honr r Mo Po hpo id hi
 obtain ⟨b,hb'⟩:=Option.isSome_iff_exists.1 hmo
 obtain ⟨g1,g2,g3⟩:=hin id hmo
 exact ⟨hmo,g1,g2,g3,by unfold zJ;rw [hinMo id b hb',hb'],by unfold zbt;rw [hinMo id b hb',hb']⟩
end
open Go.RowKit
set_option linter.unusedVariables false
set_option linter.unusedSimpArgs false
theorem zo8 {S S1:Nat→Prop} {w w1:World} {v:Value} {c:C} (hf:c.flat=true) (h:Rf S w v c):Rf S1 w1 v c:=by
 cases c with
 | int k n=>rw [zec h];exact .int k n
 | bool b=>rw [zft h];exact .bool b
 | str s=>rw [zlY h];exact .str s
 | sl z d f xs=>cases hf
 | val u=>cases h with
   | val _ h1=>exact .val _ h1
def Qv (Pv:Nat→Obj→Prop) (g:Nat→Prop) (t:TypeId) (z:Nat) {α:Type} (f:α→List C) (xs:List α) (v:Value):Prop:=
 (xs=[]∧v=.slice none 0 0)∨∃ b o c us,g b∧v=.slice (some ⟨b,o,none⟩) xs.length c∧Pv b (.cells us t (0,0))∧o+c*z≤us.size∧xs.length≤c∧c≤9223372036854775807∧∀ (i:Nat) y (j:Nat) q,xs[i]? = some y→(f y)[j]? = some q→∃ u,us[o+i*z+j]? = some u∧∀ S w,Rf S w u q
section
variable {Pv Pv':Nat→Obj→Prop} {g g':Nat→Prop} {t:TypeId} {z:Nat} {α:Type} {f:α→List C} {xs:List α} {v:Value}
theorem Qv.mono (h:Qv Pv g t z f xs v) (h1:∀ b o,g b→Pv b o→Pv' b o∧g' b):Qv Pv' g' t z f xs v:=by
 rcases h with h | ⟨b,o,c,us,hg,hv,hp,hh⟩
 ·exact .inl h
 ·obtain ⟨h2,h3⟩:=h1 b _ hg hp
  exact .inr ⟨b,o,c,us,h3,hv,h2,hh⟩
theorem Qv.one (h:Qv Pv g t z f xs v):v.oneCell'=true:=by
 rcases h with ⟨_,rfl⟩ | ⟨b,o,c,us,hg,rfl,_⟩<;>rfl
theorem Qv.rf (h:Qv Pv g t z f xs v) {S:Nat→Prop} {w:World} (d:α) (hP:∀ b o,g b→Pv b o→w.heap[b]? = some o∧¬ S b) (hz:0<z) (hl:∀ y∈xs,(f y).length=z):Rf S w v (.sl z d f xs):=by
 rcases h with ⟨rfl,rfl⟩ | ⟨b,o,c,us,hg,rfl,hp,h1,h2,h3,h4⟩
 ·exact .nil _ _ z d f
 ·by_cases hx:0<xs.length
  ·obtain ⟨hb,hS⟩:=hP b _ hg hp
   have hall:∀ i y j q,xs[i]? = some y→(f y)[j]? = some q→∃ u,w.cell? ⟨b,o+i*z+j,none⟩=some u∧Rf S w u q:=fun i y j q hi hj=>by
    obtain ⟨u,hu,hr⟩:=h4 i y j q hi hj
    exact ⟨u,by rw [zcF hb];exact hu,hr S w⟩
   refine .row b o c z xs.length d f xs (fun i j=>(w.cell? ⟨b,o+i*z+j,none⟩).getD undef) rfl hx hz h2 h3 hS hl (fun i y j q hi hj=>?_) (fun i y j q hi hj=>?_)
   ·obtain ⟨u,h1,_⟩:=hall i y j q hi hj;rw [h1];rfl
   ·obtain ⟨u,h1,h2⟩:=hall i y j q hi hj
    show Rf S w ((w.cell? ⟨b,o+i*z+j,none⟩).getD undef) q
    rw [h1];exact h2
  ·have h0:xs=[]:=List.length_eq_zero_iff.1 (by omega)
   subst h0
   exact .nil _ _ z d f
end
section
variable {P:Program} {S S1:Nat→Prop} {M M1:Mem} {m:Mp} {w:World}
theorem zjn.recode {id:Nat} {e:TypeId} {z:Nat} {α β:Type} {f:α→List C} {xs:List α} {f':β→List C} {xs':List β} (h:zjn S M m w id e z f xs) (hl:xs'.length=xs.length) (hz:∀ y∈xs',(f' y).length=z)
 (hc:∀ (i:Nat) y y' (j:Nat) c',xs[i]? = some y→xs'[i]? = some y'→(f' y')[j]? = some c'→∃ c,(f y)[j]? = some c∧∀ u,Rf (Own S M m) w u c→Rf (Own S1 M1 m) w u c'):zjn S1 M1 m w id e z f' xs':=by
 obtain ⟨us,hu,a1,a2,a3,a4,a5,a6,a7⟩:=h
 refine ⟨us,hu,a1,by rw [hl];exact a2,a3,a4,hz,trivial,fun i y' j c' hi hj=>?_⟩
 have hlt:=(List.getElem?_eq_some_iff.1 hi).1
 rw [hl] at hlt
 obtain ⟨c,h1,h2⟩:=hc i _ y' j c' (List.getElem?_eq_getElem hlt) hi hj
 obtain ⟨u,hu',hr⟩:=a7 i _ j c (List.getElem?_eq_getElem hlt) h1
 exact ⟨u,hu',h2 u hr⟩
theorem zqp {id:Nat} {e:TypeId} {z:Nat} {α:Type} {d:α} {f:α→List C} {xs:List α} (h:zjn S M m w id e z f xs) (hSb:¬ S1 (m.blk id)) (hS:∀ k,S1 k→Own S M m k):Rf S1 w (.slice (some ⟨m.blk id,m.off id,none⟩) xs.length (m.cap id)) (.sl z d f xs):=by
 obtain ⟨us,hu,a1,a2,a3,a4,a5,a6,a7⟩:=h
 by_cases hx:0<xs.length
 ·have hall:∀ i y j q,xs[i]? = some y→(f y)[j]? = some q→∃ u,w.cell? ⟨m.blk id,m.off id+i*z+j,none⟩=some u∧Rf (Own S M m) w u q:=fun i y j q hi hj=>by
   obtain ⟨u,h1,h2⟩:=a7 i y j q hi hj
   exact ⟨u,by rw [zcF hu];exact h1,h2⟩
  refine .row (m.blk id) (m.off id) (m.cap id) z xs.length d f xs (fun i j=>(w.cell? ⟨m.blk id,m.off id+i*z+j,none⟩).getD undef) rfl hx a4 a2 a3 hSb a5 (fun i y j q hi hj=>?_) (fun i y j q hi hj=>?_)
  ·obtain ⟨u,h1,_⟩:=hall i y j q hi hj;rw [h1];rfl
  ·obtain ⟨u,h1,h2⟩:=hall i y j q hi hj
   show Rf S1 w ((w.cell? ⟨m.blk id,m.off id+i*z+j,none⟩).getD undef) q
   rw [h1];exact h2.sub hS
 ·have h0:xs=[]:=List.length_eq_zero_iff.1 (by omega)
  subst h0
  exact .nil _ _ z d f
structure Ot (S:Nat→Prop) (r:LV) (Mo:Mem) (m1:Mp) (Po:Nat→Obj→Prop) (w1:World) (v:Value):Prop where
 val:R3 (zd2 S Po) Mo m1 w1 v r
 mem:zfZ (zd2 S Po) Mo m1 w1
 pv:∀ b o,Po b o→w1.heap[b]? = some o∧¬ S b
theorem zfC {f:FuncId} {args:List LV} {Mi:Ml} {Pre:(Nat→Obj→Prop)→Prop} {Post Post':LV→Ml→(Nat→Obj→Prop)→Prop} (h:CtG P f args Mi Pre Post)
 (hc:∀ S r Mo m1 Po w1 v,Ot S r (mm Mo) m1 Po w1 v→Post r Mo Po→∃ r' Mo' Po',Post' r' Mo' Po'∧Ot S r' (mm Mo') m1 Po' w1 v∧(∀ b o,Po' b o→Po b o)∧∀ i,(mm Mo' i).isSome=true→(mm Mo i).isSome=true∧zJ (mm Mo') i=zJ (mm Mo) i∧zbt (mm Mo') i=zbt (mm Mo) i):CtG P f args Mi Pre Post':=by
 refine ⟨h.1,fun S Pi w m vs h1 h2 h3 h4 h5 h6=>Calls.mono (h.2 S Pi w m vs h1 h2 h3 h4 h5 h6) ?_⟩
 rintro e w1 ⟨v,r,Mo,m1,Po,he,hp,hb⟩
 obtain ⟨r',Mo',Po',hp',ho,hsub,hlv⟩:=hc S r Mo m1 Po w1 v ⟨hb.val,hb.mem,fun b o h=>⟨(hb.pv b o h).1,(hb.pv b o h).2.2⟩⟩ hp
 refine ⟨v,r',Mo',m1,Po',he,hp',ho.val,ho.mem,fun b o h=>⟨(ho.pv b o h).1,(hb.pv b o (hsub b o h)).2.1,(ho.pv b o h).2⟩,fun i hi=>hb.new i (hlv i hi).1,fun i hi hi2=>?_,hb.same,hb.os,hb.tape,hb.output⟩
 obtain ⟨k1,k2,k3⟩:=hlv i hi2
 obtain ⟨q1,q2,q3,q4,q5⟩:=hb.keep i hi k1
 exact ⟨q1,q2,q3,k2.trans q4,k3.trans q5⟩
theorem zim {m:Mp}:zfZ S (mm []) m w:=⟨fun id b hb=>(by cases hb),fun i j hi=>(by cases hi),fun i hi=>(by cases hi)⟩
theorem zd2.no {Pi:Nat→Obj→Prop} (h:zip Pi) {k:Nat} (hk:zd2 S Pi k):S k:=hk.elim id fun ⟨o,ho⟩=>absurd ho (h k o)
theorem zgD {f:FuncId} {args:List LV} {id:Nat} {e:TypeId} {z:Nat} {α:Type} {d:α} {g:α→List C} {xs:List α} (h:Ct P f args [] (zdh id e z d g xs)) (hf:∀ y∈xs,zhC (g y)=true) :
 CtG P f args [] zip (fun r Mo Po=>∃ v,r=.dat (.val v)∧Mo=[]∧Qv Po (fun _=>True) e z g xs v):=by
 refine ⟨h.1,fun S Pi w m vs hS hPi hM hl hvs hpre=>Calls.mono (h.2 S w m vs hS zim hl fun j v l hv hlj=>?_) ?_⟩
 ·exact (Mws.of (M:=mm []) (m:=m) (w:=w) (S1:=zd2 S Pi) fun k hk=>.inl hk).r2 (hvs j v l hv hlj)
 rintro en w1 ⟨v,r,Mo,m1,rfl,hpo,hb⟩
 rcases hpo with ⟨rfl,rfl⟩ | ⟨rfl,rfl,rfl⟩
 ·have h1:mm [(id,some (Blk.row e z d g xs))] id=some (.row e z d g xs):=by rw [zI];unfold upd;rw [if_pos rfl]
  have hs1:(mm [(id,some (Blk.row e z d g xs))] id).isSome=true:=by rw [h1];rfl
  have hv:=hb.val.2 xs.length (by unfold zJ;rw [h1])
  obtain ⟨us,hu,a1,a2,a3,a4,a5,a6,a7⟩:=(hb.mem.blk id _ h1).1
  refine ⟨v,.dat (.val v),[],m1,fun b o=>b=m1.blk id∧w1.heap[b]? = some o,rfl,⟨v,rfl,rfl,.inr ⟨m1.blk id,m1.off id,m1.cap id,us,trivial,hv,⟨rfl,hu⟩,a1,a2,a3,fun i y j q hi hj=>?_⟩⟩,.val v hb.val.1,zim,fun b o ⟨e1,h2⟩=>⟨h2,?_,?_⟩,fun i hi=>(by cases hi),fun i hi=>(by cases hi),⟨hb.same.size,fun k hk hn=>hb.same.at_ k hk fun hh=>hn (.inl hh)⟩,hb.os,hb.tape,hb.output⟩
  ·obtain ⟨u,h6,h7⟩:=a7 i y j q hi hj
   exact ⟨u,h6,fun S' w'=>zo8 (zfx (hf y (List.mem_of_getElem? hi)) q (List.mem_of_getElem? hj)) h7⟩
  ·subst e1
   exact (hb.new id hs1).elim .inl fun ⟨j,hj,_⟩=>by cases hj
  ·subst e1
   exact hb.mem.out id hs1
 ·exact ⟨v,.dat (.val v),[],m1,fun _ _=>False,rfl,⟨v,rfl,rfl,.inl ⟨rfl,hb.val.1⟩⟩,.val v (by rw [hb.val.1];rfl),zim,fun b o h=>h.elim,fun i hi=>(by cases hi),fun i hi=>(by cases hi),⟨hb.same.size,fun k hk hn=>hb.same.at_ k hk fun hh=>hn (.inl hh)⟩,hb.os,hb.tape,hb.output⟩
end
open Go.RowKit
set_option linter.unusedVariables false
set_option linter.unusedSimpArgs false
theorem zhN:∀ {l1 l2:List En} {b:Nat→Bool} {i:Nat} {M:Ml},zbu (l1++l2) b i M=zbu l2 b (i+l1.length) (zbu l1 b i M)
 | [],l2,b,i,M=>by simp [zbu]
 | e::l1,l2,b,i,M=>by
   rw [List.cons_append,zbu,zhN,zbu,List.length_cons,show i+1+l1.length=i+(l1.length+1) by omega]
def idp (an:List (List Nat)) (iA:Nat):Nat→List En→List En→Prop
 | i,e::l,e'::l'=>(match nth an i with
   | some al=>match elem iA al with
     | true=>True
     | false=>e=e'
   | none=>True)∧idp an iA (i+1) l l'
 | _,_,_=>True
theorem ztI {an:List (List Nat)} {iA:Nat}:∀ {l l':List En} {i:Nat},l.length=l'.length→idp an iA i l l'→∀ j,j<l.length→(∀ al,an[i+j]? = some al→iA∉al)→(i+j<an.length)→l[j]? = l'[j]?
 | [],_,i,_,_,j,hj,_,_=>by cases hj
 | e::l,[],i,h,_,j,hj,_,_=>by cases h
 | e::l,e'::l',i,hl,h,0,hj,hn,hlt=>by
   simp only [idp] at h
   have h1:=h.1
   rw [Nat.add_zero] at hlt
   rw [zge,List.getElem?_eq_getElem hlt] at h1
   have hno:=hn _ (by rw [Nat.add_zero];exact List.getElem?_eq_getElem hlt)
   dsimp only at h1
   split at h1
   ·rename_i he;exact absurd (zfl.1 he) hno
   ·rw [h1];rfl
 | e::l,e'::l',i,hl,h,j+1,hj,hn,hlt=>by
   simp only [idp] at h
   have:=ztI (l:=l) (l':=l') (i:=i+1) (by simpa using hl) h.2 j (by simpa using hj) (fun al hal=>hn al (by rwa [show i+(j+1)=i+1+j by omega])) (by omega)
   simpa using this
section
variable {P:Program} {x:Cx} {tb:Tb} {R:Cx→Tl→Ml→Prop} {n:Nat}
theorem zpx:∀ {l:List Oper} {acc:List (List Nat)},(ze4 acc l).length=acc.length+l.length
 | [],acc=>by simp [ze4]
 | o::l,acc=>by
   rw [ze4,zpx];simp;omega
theorem zew {Y:Type} (y0:Y) {id:Nat} {ops:Array Oper} {k k1:List It} {T T1 T2:Tl} {M M1 M2:Ml} {s:Prop} (hn:x.n=n) (htb:zaJ P tb) (hmix:P.follows .mixedOrders=true) (ho:run tb n 1000 T M True k=.bad s T1 M1 (.code (.region id ops true)::k1)) (hs0:s)
 (L:Nat) {p0 q0:List Oper} {oA:Oper} (hp0:ops.toList.take L=p0) (hall:ops.toList=p0++oA::q0)
 (hsp:List Hn) {sp:Cx→Prop} {lgp:List En} (hpre:∀ x1,drF P x1 tb n ops.toList (ziZ ops.toList ops.toList) p0 hsp True T1 M1=.done (sp x1) lgp T2 M2) (hsp1:∀ x1,Sib x x1→sp x1)
 (vA:Y→LV) (hg:gst ops.toList oA T2=.yes)
 (hsq:Y→List Hn) {sq:Y→Cx→Prop} {lgq:Y→List En} {T3:Y→Tl} {M3:Y→Ml} (hsuf:∀ y x1,drF P x1 tb n ops.toList (ziZ ops.toList ops.toList) q0 (hsq y) True (putd oA.dst (vA y) T2) M2=.done (sq y x1) (lgq y) (T3 y) (M3 y)) (hsq1:∀ y x1,Sib x x1→sq y x1)
 (hac:acB ops.toList 0=true) (hord:∀ y,zlk (ze4 [] ops.toList) [] (lgp++⟨oA.dst,vA y,[],none,zbb ops.toList oA,zbd T2 oA.op.operands.toList⟩::lgq y) 0=true) (hid:∀ y,idp (ze4 [] ops.toList) p0.length (p0.length+1) (lgq y) (lgq y0))
 (F:Y→Cx→Prop) (hF:∀ y x1,F y x1→Sib x x1)
 (hA:∀ T' M',(∀ t∈zbb ops.toList oA,tm T' t=tm T2 t)→(∀ id∈zbd T2 oA.op.operands.toList,mm M' id=mm M2 id)→OpW P x (fun _ _ _=>False) oA [.stop (fun x1 T1 M1=>∃ y,F y x1∧T1=putd oA.dst (vA y) T'∧M1=M')] T' M')
 (h:∀ y x1,F y x1→Wc P x1 R k1 (T3 y) (M3 y)):Wc P x R k T M:=by
 refine go hn htb ho ⟨hs0,?_⟩
 have hn1:∀ x1:Cx,Sib x x1→x1.n=n:=fun x1 h=>h.n.trans hn
 have hok0:=fun x1 hx=>(ziW (hn1 x1 hx) htb p0 hsp True T1 M1 _ _ _ _ (hpre x1) (hsp1 x1 hx)).2
 have hok2:=fun y x1 hx=>(ziW (hn1 x1 hx) htb q0 (hsq y) True _ _ _ _ _ _ (hsuf y x1) (hsq1 y x1 hx)).2
 have hlp:lgp.length=p0.length:=(hok0 x (.refl x)).1.len
 have hlq:∀ y,(lgq y).length=q0.length:=fun y=>(hok2 y x (.refl x)).1.len
 have hT2:zaQ lgp (fun _=>true) 0 T1=T2:=(hok0 x (.refl x)).2.1.symm
 have hM2:zbu lgp (fun _=>true) 0 M1=M2:=(hok0 x (.refl x)).2.2.symm
 have hsz:ops.size=p0.length+1+q0.length:=by rw [← Array.length_toList (xs:=ops),hall];simp;omega
 let eA:Y→En:=fun y=>⟨oA.dst,vA y,[],none,zbb ops.toList oA,zbd T2 oA.op.operands.toList⟩
 let lg:Y→List En:=fun y=>lgp++eA y::lgq y
 have hlg:∀ y,(lg y).length=ops.size:=fun y=>by
  show (lgp++eA y::lgq y).length=_
  rw [List.length_append,List.length_cons,hlp,hlq,hsz];omega
 have hlo:∀ y j,j<p0.length→(lg y)[j]? = lgp[j]?:=fun y j hj=>List.getElem?_append_left (by omega)
 have hmid:∀ y,(lg y)[p0.length]? = some (eA y):=fun y=>by
  show (lgp++eA y::lgq y)[p0.length]? = _
  rw [List.getElem?_append_right (by omega),hlp,Nat.sub_self];rfl
 have hhi:∀ y j,(lg y)[p0.length+1+j]? = (lgq y)[j]?:=fun y j=>by
  show (lgp++eA y::lgq y)[p0.length+1+j]? = _
  rw [List.getElem?_append_right (by omega),hlp,show p0.length+1+j-p0.length=j+1 by omega];rfl
 have olo:∀ j,j<p0.length→ops.toList[j]? = p0[j]?:=fun j hj=>by rw [hall];exact List.getElem?_append_left hj
 have omid:ops.toList[p0.length]? = some oA:=by rw [hall,List.getElem?_append_right (by omega),Nat.sub_self];rfl
 have ohi:∀ j,ops.toList[p0.length+1+j]? = q0[j]?:=fun j=>by
  rw [hall,List.getElem?_append_right (by omega),show p0.length+1+j-p0.length=j+1 by omega];rfl
 have selLoT:∀ y i,i≤p0.length→zaQ (lg y) (pre i) 0 T1=zaQ lgp (pre i) 0 T1:=fun y i hi=>by
  show zaQ (lgp++eA y::lgq y) (pre i) 0 T1=_
  rw [zeh,zeM (fun j _=>zfg.2 (by omega))]
 have selLoM:∀ y i,i≤p0.length→zbu (lg y) (pre i) 0 M1=zbu lgp (pre i) 0 M1:=fun y i hi=>by
  show zbu (lgp++eA y::lgq y) (pre i) 0 M1=_
  rw [zhN,zgE (fun j _=>zfg.2 (by omega))]
 have selT2:∀ y,zaQ (lg y) (pre p0.length) 0 T1=T2:=fun y=>by
  rw [selLoT y _ (Nat.le_refl _),← hT2]
  exact zea fun j hj=>by rw [Nat.zero_add];exact zhr.2 (by omega)
 have selM2:∀ y,zbu (lg y) (pre p0.length) 0 M1=M2:=fun y=>by
  rw [selLoM y _ (Nat.le_refl _),← hM2]
  exact zfz fun j hj=>by rw [Nat.zero_add];exact zhr.2 (by omega)
 have selHiT:∀ y b,(∀ j,j≤p0.length→b j=true)→zaQ (lg y) b 0 T1=zaQ (lgq y) b (p0.length+1) (putd oA.dst (vA y) T2):=fun y b hb=>by
  show zaQ (lgp++eA y::lgq y) b 0 T1=_
  rw [zeh,Nat.zero_add,hlp,zea (l:=lgp) (b':=fun _=>true) (fun j hj=>by rw [Nat.zero_add];exact hb j (by omega)),hT2,zaQ,hb _ (Nat.le_refl _)]
 have selHiM:∀ y b,(∀ j,j≤p0.length→b j=true)→zbu (lg y) b 0 M1=zbu (lgq y) b (p0.length+1) M2:=fun y b hb=>by
  show zbu (lgp++eA y::lgq y) b 0 M1=_
  rw [zhN,Nat.zero_add,hlp,zfz (l:=lgp) (b':=fun _=>true) (fun j hj=>by rw [Nat.zero_add];exact hb j (by omega)),hM2,zbu,hb _ (Nat.le_refl _)]
  rfl
 refine zrQ (Y:=ULift Y) p0.length (fun y=>lg y.down) (fun y=>F y.down) ⟨y0⟩ hmix hac (fun y=>hlg y.down) (fun y=>hord y.down) ?_ ?_ (fun y x1 h=>hF y.down x1 h) ?_ ?_ ?_ (by omega)
 ·intro i hi hal y
  rcases Nat.lt_trichotomy i p0.length with h1 | h1 | h1
  ·rw [hlo _ _ h1,hlo _ _ h1]
  ·exact absurd h1 hi
  ·obtain ⟨j,rfl⟩:∃ j,i=p0.length+1+j:=⟨i-(p0.length+1),by omega⟩
   rw [hhi,hhi]
   by_cases hj:j<q0.length
   ·exact ztI ((hlq _).trans (hlq _).symm) (hid y.down) j (by rw [hlq];exact hj) hal (by rw [zpx,hall];simp;omega)
   ·rw [List.getElem?_eq_none (by rw [hlq];omega),List.getElem?_eq_none (by rw [hlq];omega)]
 ·intro y e e0 h1 h2
  rw [hmid] at h1 h2
  cases h1;cases h2
  exact ⟨rfl,rfl,rfl⟩
 ·intro y x1 hx i o e hi hio hie
  rcases Nat.lt_trichotomy i p0.length with h1 | h1 | h1
  ·rw [olo i h1] at hio
   rw [hlo _ i h1] at hie
   have:=(hok0 x1 hx).1.get 0 i o e hio hie
   rw [Nat.zero_add] at this
   rw [selLoT _ i (by omega),selLoM _ i (by omega)]
   exact this
  ·exact absurd h1 hi
  ·obtain ⟨j,rfl⟩:∃ j,i=p0.length+1+j:=⟨i-(p0.length+1),by omega⟩
   rw [ohi] at hio
   rw [hhi] at hie
   rw [selHiT _ _ (fun j hj=>zhr.2 (by omega)),selHiM _ _ (fun j hj=>zhr.2 (by omega))]
   exact (hok2 y.down x1 hx).1.get (p0.length+1) j o e hio hie
 ·intro o e0 hio hie
  rw [omid] at hio
  rw [hmid] at hie
  cases hio;cases hie
  rw [selT2,selM2]
  refine ⟨fun id h=>(by have h:id∈([]:List Nat):=h;cases h),fun T' M' ht hm _ m a w hr=>?_⟩
  unfold OpG
  rw [if_pos (zoJ hg ht hr)]
  refine zek (hA T' M' ht hm m a w hr) fun a w hk=>?_
  obtain ⟨x1,hx,T4,M4,m1,hr1,y,hFy,rfl,rfl⟩:=hk
  exact ⟨⟨y⟩,x1,m1,eA y,hmid y,hFy,hr1⟩
 ·intro y x1 hFy
  have e1:=(hok2 y.down x (.refl x)).2
  rw [selHiT _ _ (fun _ _=>rfl),selHiM _ _ (fun _ _=>rfl),zlW (j:=0),zmN (j:=0),← e1.1,← e1.2]
  exact h y.down x1 hFy
/-! ### what turns it -/
variable {o:Oper} {T:Tl} {M:Ml} {k:List It}
theorem ziV.congr {all:List Oper} {T':Tl} {t:TypeId} {u v:LV} (hi:ziV n o T t u v) (ht:∀ q∈zbb all o,tm T' q=tm T q):ziV n o T' t u v:=by
 obtain ⟨hdo,c,p,q,hop,hc,ha,hty,hp,hq⟩:=hi
 have hops:∀ r∈c.args.toList,r∈o.op.operands.toList:=fun r hr=>by
  rw [hop]
  simp only [Op.operands,Call.operands,Array.toList_append,List.mem_append]
  exact .inr hr
 exact ⟨hdo,c,p,q,hop,hc,ha,hty,(zbZ ht (hops p (by rw [ha];simp))).trans hp,(zbZ ht (hops q (by rw [ha];simp))).trans hq⟩
theorem ziV.on2 {T:Tl} {t:TypeId} {u v:LV} (hi:ziV n o T t u v):∀ id,v.on2 id→id∈zbd T o.op.operands.toList:=fun id h=>by
 obtain ⟨hdo,c,p,q,hop,hc,ha,hty,hp,hq⟩:=hi
 have:q∈o.op.operands.toList:=by
  rw [hop]
  simp only [Op.operands,Call.operands,Array.toList_append,List.mem_append]
  exact .inr (by rw [ha];simp)
 exact zdu this (by rw [hq];exact h)
open Classical in
theorem ztg {t e:TypeId} {y:Ty} {v0:Value} {v:LV} {d1 z:Nat} {α:Type} {f:α→List C} {xs:List α} {cont:List (List C)} (ys:List α) {tg:Nat→Nat} {c0:Nat} (hn:x.n=n) (htb:zaJ P tb) (hi:ziV n o T t (.dat (.val v0)) v) (hq:Qv (z7 x) (fun b=>tg b=c0) e z f xs v0)
 (hs:zfn tb t=some (e,y)) (hz:Nat.beq y.size z=true) (hz0:0<z) (hv:zfG (mm M) v=some (z,cont)) (hys:cont=ys.map f) (hpos:0<ys.length) (hd:o.dst=some d1) (hfl:∀ y,zhC (f y)=true∧(f y).length=z) (hby:(xs.length+ys.length)*y.bytes≤140737488355328)
 (h:∀ x1 v1 (tg':Nat→Nat),Sib x x1→Qv (z7 x1) (fun b=>tg' b=c0) e z f (xs++ys) v1→(∀ c,c≠c0→∀ {e':TypeId} {z':Nat} {β:Type} {f':β→List C} {zs:List β} {u:Value},Qv (z7 x) (fun b=>tg b=c) e' z' f' zs u→Qv (z7 x1) (fun b=>tg' b=c) e' z' f' zs u)→Wc P x1 R k ((d1,.dat (.val v1))::T) M):OpW P x R o k T M:=by
 intro m a w hr
 obtain ⟨hdo,c,p,q,hop,hc,ha,hty,hp,hqv⟩:=hi
 obtain ⟨ht,hty2⟩:=zfi htb hs
 obtain ⟨i,zv,hinfo,his,hib,hiz,hzs⟩:=(htb e y hty2).zsz
 have hze:y.size=z:=zbh.1 hz
 have hpv:=zah hr p
 have hqe:=zah hr q
 rw [hp] at hpv
 rw [hqv] at hqe
 have hpv:a.eval p=v0:=zed hpv
 obtain ⟨A,cc,hqs,hsrc⟩:=zln hr.blk hqe hv
 have hcl:cont.length=ys.length:=by rw [hys,List.length_map]
 obtain ⟨b2,o2,hA2,L1,hL1,_,hg1⟩:=hsrc (by omega)
 have hzi:i.size=z:=by rw [his,hze]
 -- the run
 have key:∃ (gr:Option Nat) (L0:List Value) (r:Value) (w1:World),(Builtin.append_ #[t,t] o.type #[v0,.slice A cont.length cc]).run P w=.ok r w1∧Apd w e z gr (xs.length+ys.length) (L0++L1) r w1∧Lst (Own x.S0 (mm M) m) w z (xs.map f) L0∧(∀ b,gr=some b→tg b=c0∧∃ q,z7 x b q):=by
  rcases hq with ⟨rfl,rfl⟩ | ⟨b,oo,c1,us,hgb,rfl,hp1,h1,h2,h3,h4⟩
  ·obtain ⟨r,w1,hrun,hapd⟩:=zoR (P:=P) (w:=w) t o.type e i zv ht hinfo hiz hzs (by rw [hzi];exact hz0) (m:=ys.length) (c:=cc) (L1:=L1) (A:=A) hpos (by rw [hL1.len,hcl,hzi]) ⟨b2,o2,hA2,hg1⟩ hL1.one (by rw [hib];simpa using hby) (by rw [hib];exact (htb e y hty2).pos.2)
   refine ⟨none,[],r,w1,by rw [hcl];exact hrun,?_,⟨by simp,fun y hy=>by simp at hy,fun i y j q hi=>by simp at hi⟩,fun b h=>by cases h⟩
   rw [hzi] at hapd
   simpa using hapd
  ·have hu:=hp1.now hr
   obtain ⟨L0,hL0,hg0⟩:=ziN (S:=Own x.S0 (mm M) m) (w:=w) (cont:=xs.map f) (fun k=>us[oo+k]?) hz0 (fun y hy=>by
    obtain ⟨t,ht,rfl⟩:=List.mem_map.1 hy;exact (hfl t).2) (fun i y j q hi hj=>by
    obtain ⟨t,ht,rfl⟩:=zh3 hi
    obtain ⟨u,hu',hrf⟩:=h4 i t j q ht hj
    exact ⟨u,by rw [← Nat.add_assoc];exact hu',hrf _ _⟩)
   obtain ⟨r,w1,hrun,hapd⟩:=zru (P:=P) (w:=w) t o.type e i zv ht hinfo hiz hzs (by rw [hzi];exact hz0) (g:=b) (o:=oo) (cap:=c1) (n:=xs.length) (m:=ys.length) (c:=cc) (us:=us) (L0:=L0) (L1:=L1) (A:=A) hu (by rw [hzi];exact h1) h2 h3
    (by rw [hL0.len,List.length_map,hzi]) (fun j u hj=>hg0 j u hj) (by rw [hL1.len,hcl,hzi]) (fun _=>⟨b2,o2,hA2,hg1⟩) hL1.one (by rw [hib];exact hby) (by rw [hib];exact (htb e y hty2).pos.2)
   rw [hzi] at hapd
   exact ⟨some b,L0,r,w1,by rw [hcl];exact hrun,hapd,hL0,fun b' hb'=>by cases hb';exact ⟨hgb,_,hp1⟩⟩
 obtain ⟨gr,L0,r,w1,hrun,hapd,hL0,hgr⟩:=key
 have hex:=zjl (P:=P) hop hc ha hty hpv hqs hrun
 have hchg:Chg x w w1:=⟨hapd.same.size,fun k hk=>by
  by_cases hkg:some k=gr
  ·obtain ⟨_,q,hq⟩:=hgr k hkg.symm
   exact .inr ⟨hq.s0,hq.new⟩
  ·exact .inl (hapd.same.at_ k hk hkg),hapd.os.1,hapd.os.2.1,hapd.os.2.2⟩
 obtain ⟨x1,hl,hr1⟩:=zmq hr hchg
 obtain ⟨b1,o1,c1,us1,hv1,hb1,hub,hsz1,hkc,hcm,hLs⟩:=hapd.res
 have hp1:z7 x1 b1 (.cells us1 e (0,0)):=by
  rcases hb1 with hb1 | hb1
  ·obtain ⟨_,q,hq⟩:=hgr b1 hb1.symm
   exact hl.old hq hub
  ·exact hl.fresh hr hb1 hub
 have hcont:Lst (Own x.S0 (mm M) m) w z ((xs++ys).map f) (L0++L1):=by
  rw [List.map_append,← hys];exact hL0.app hL1
 let tg':Nat→Nat:=fun b=>if ∃ o,z7 x b o then tg b else c0
 have hold:∀ b' o',z7 x b' o'→tg b'≠c0→z7 x1 b' o':=fun b' o' hp' hne=>by
  refine hl.old hp' ?_
  rw [hapd.same.at_ b' (Nat.lt_of_lt_of_le hp'.lt hr.same.size) (fun hh=>hne (hgr b' hh.symm).1)]
  exact hp'.now hr
 have hgo:=h x1 r tg' hl.sib (.inr ⟨b1,o1,c1,us1,?_,by rw [List.length_append];exact hv1,hp1,hsz1,by rw [List.length_append];exact hkc,hcm,fun i y j q hi hj=>?_⟩) (fun c hne e' z' β f' zs u hq'=>hq'.mono fun b o hgb hpb=>⟨hold b o hpb (by rw [hgb];exact hne),?_⟩)
 ·unfold Oper.wp
  rw [hex]
  refine Ka.base hl.sib _ _ _ _ (hgo m _ w1 ?_)
  rw [hd]
  exact hr1.putd (hl.sib.n.trans hn) (d:=some d1) (by rw [← hd];exact hdo) (l:=.dat (.val r)) (.val r (by rw [hv1];rfl))
 ·show (if ∃ o,z7 x b1 o then tg b1 else c0)=c0
  split
  ·rename_i hh
   obtain ⟨q,hq'⟩:=hh
   rcases hb1 with hb1 | hb1
   ·exact (hgr b1 hb1.symm).1
   ·have h5:=hq'.lt
    have h6:=hr.same.size
    omega
  ·rfl
 ·obtain ⟨u,hu,hrf⟩:=hcont.el i (f y) j q (by rw [List.getElem?_map,hi];rfl) hj
  exact ⟨u,by rw [Nat.add_assoc];exact hLs _ u hu,fun S' w'=>zo8 (zfx (hfl y).1 q (List.mem_of_getElem? hj)) hrf⟩
 ·show (if ∃ o,z7 x b o then tg b else c0)=c
  rw [if_pos ⟨o,hpb⟩];exact hgb
end
open Go.RowKit
set_option linter.unusedVariables false
set_option linter.unusedSimpArgs false
section
variable {P:Program} {x:Cx} {tb:Tb} {R:Cx→Tl→Ml→Prop} {n:Nat} {o:Oper} {T:Tl} {M:Ml} {k:List It}
theorem zbQ {f:FuncId} {ags args:List LV} {Mi:Ml} {Pre:(Nat→Obj→Prop)→Prop} {Post:LV→Ml→(Nat→Obj→Prop)→Prop} {dst:Option Nat} {s:Prop} {T1:Tl} {M1:Ml} {k1:List It} (hn:x.n=n) (htb:zaJ P tb) (fl:List Bool) (Pi:Nat→Obj→Prop) (hPi:∀ b o,Pi b o→z7 x b o) (hpre:Pre Pi) (hc:CtG P f args Mi Pre Post) (ho:run tb n 1000 T M True k=.call f ags dst s T1 M1 k1) (hs:s) (hd:zaA n dst=true)
 (ha:zc4 (mm M1) fl ags=some args) (hsub:LeM (rn []) M1 Mi) (hro:zdD Mi=true) (hv:zg7 fl ags=[]) (hkl:∀ id∈zS Mi,(mm Mi id).isSome=true)
 (h:∀ r Mo Po,Post r Mo Po→zf2 T1 M1 Mi Mo=true∧(∀ id,(mm Mo id).isSome=true→(mm Mi id).isSome=true∨¬ x.lent id)∧(∀ id,r.on id→(mm Mo id).isSome=true)∧∀ x1,Sib x x1→(∀ b o,z7 x b o→(¬ ∃ o',Pi b o')→z7 x1 b o)→(∀ b o,Po b o→z7 x1 b o)→(∀ b o o',Po b o→z7 x b o'→∃ o',Pi b o')→Wc P x1 R k1 (Ab.putd dst r T1) (Mo++dropM (zS Mi) M1)):Wc P x R k T M:=
 go hn htb ho ⟨hs,ztE hn hd fl Pi hPi hpre hc ha hsub hro hv (fun r Mo Po hp=>⟨(h r Mo Po hp).1,(h r Mo Po hp).2.1⟩) (fun r Mo Po hp=>(h r Mo Po hp).2.2.1) hkl fun r Mo Po x1 hp=>(h r Mo Po hp).2.2.2 x1⟩
theorem zqh {Y:Type} {f:FuncId} {ags args:List LV} {Q:Y→(Nat→Obj→Prop)→Prop} {vA:Y→LV} {dst:Option Nat} {s:Prop} {T1:Tl} {M1:Ml} {k1:List It} (hn:x.n=n) (htb:zaJ P tb) (fl:List Bool) (hc:CtG P f args [] zip (fun r Mo Po=>∃ y,r=vA y∧Mo=[]∧Q y Po)) (hon:∀ y id,¬ (vA y).on id) (ho:run tb n 1000 T M True k=.call f ags dst s T1 M1 k1) (hs:s) (hd:zaA n dst=true)
 (ha:zc4 (mm M1) fl ags=some args) (hv:zg7 fl ags=[])
 (h:∀ y Po x1,Q y Po→Sib x x1→(∀ b o,z7 x b o→z7 x1 b o)→(∀ b o,Po b o→z7 x1 b o)→(∀ b o o',Po b o→¬ z7 x b o')→Wc P x1 R k1 (Ab.putd dst (vA y) T1) M1):Wc P x R k T M:=by
 refine zbQ hn htb fl (fun _ _=>False) (fun b o h=>h.elim) (fun b o h=>h) hc ho hs hd ha trivial rfl hv (fun i hi=>by cases hi) ?_
 rintro r Mo Po ⟨y,rfl,rfl,hq⟩
 refine ⟨rfl,fun id hi=>(by cases hi),fun id hi=>absurd hi (hon y id),fun x1 hx h1 h2 h3=>h y Po x1 hq hx (fun b o hp=>h1 b o hp fun ⟨_,h⟩=>h) h2 fun b o o' hp hq=>(h3 b o o' hp hq).elim fun _ h=>h⟩
theorem zkt {Y:Type} {all:List Oper} {c:Call} {f:FuncId} {ags args:List LV} {Q:Y→(Nat→Obj→Prop)→Prop} {vA:Y→LV} (fl:List Bool) (hc:CtG P f args [] zip (fun r Mo Po=>∃ y,r=vA y∧Mo=[]∧Q y Po)) (hon:∀ y id,¬ (vA y).on id) (hn:x.n=n) (htb:zaJ P tb) (hdo:zaA n o.dst=true) (hop:o.op=.call c) (hcal:c.callee=.value (.func f)) (ha:zdQ tb T c.args.toList c.argTypes.toList=some ags)
 (hav:zc4 (mm M) fl ags=some args) (hlk:lk3 ags=[]) (hv:zg7 fl ags=[]) (F:Y→Cx→Prop)
 (h:∀ y Po x1,Q y Po→Sib x x1→(∀ b o,z7 x b o→z7 x1 b o)→(∀ b o,Po b o→z7 x1 b o)→(∀ b o o',Po b o→¬ z7 x b o')→F y x1) :
 ∀ T' M',(∀ t∈zbb all o,tm T' t=tm T t)→(∀ id∈zbd T o.op.operands.toList,mm M' id=mm M id)→OpW P x (fun _ _ _=>False) o [.stop (fun x1 T1 M1=>∃ y,F y x1∧T1=putd o.dst (vA y) T'∧M1=M')] T' M':=by
 intro T' M' ht hm
 have hops:∀ q∈c.args.toList,q∈o.op.operands.toList:=fun q hq=>by
  rw [hop]
  simp only [Op.operands,Call.operands,Array.toList_append,List.mem_append]
  exact .inr hq
 have ha':zdQ tb T' c.args.toList c.argTypes.toList=some ags:=(zf5 fun q hq=>zbZ ht (hops q hq)).trans ha
 have hav':zc4 (mm M') fl ags=some args:=(zfT fun l hl id hi=>by
  have:=zdl ⟨l,hl,hi⟩
  rw [hlk] at this;cases this).trans hav
 refine zmn htb hop hcal ha' (ztE hn hdo fl (fun _ _=>False) (fun b o h=>h.elim) (fun b o h=>h) hc hav' trivial rfl hv (fun r Mo Po hp=>?_) (fun r Mo Po hp=>?_) (fun i hi=>by cases hi) (fun r Mo Po x1 hp hx h1 h2 h3=>?_))
 ·obtain ⟨y,rfl,rfl,_⟩:=hp
  exact ⟨rfl,fun id hi=>by cases hi⟩
 ·obtain ⟨y,rfl,rfl,_⟩:=hp
  exact fun id hi=>absurd hi (hon y id)
 ·obtain ⟨y,rfl,rfl,hq⟩:=hp
  exact fun m a w hr=>⟨x1,.refl x1,_,_,m,hr,y,h y Po x1 hq hx (fun b o hp=>h1 b o hp fun ⟨_,h⟩=>h) h2 (fun b o o' hp hq=>(h3 b o o' hp hq).elim fun _ h=>h),rfl,rfl⟩
theorem zsr {t e:TypeId} {y:Ty} {u v:LV} {d1 z:Nat} {cont:List (List C)} {α:Type} {d:α} {f:α→List C} (ys:List α) (hn:x.n=n) (htb:zaJ P tb) (hi:ziV n o T t u v) (hu:∃ c,u=.nil c)
 (hs:zfn tb t=some (e,y)) (hz:Nat.beq y.size z=true) (hv:zfG (mm M) v=some (z,cont)) (hys:cont=ys.map f) (hpos:0<ys.length) (hd:o.dst=some d1) (hf:fresh T M d1=true) (hd1:mm M d1=none)
 (hby:ys.length*y.bytes≤140737488355328) (h:Wc P x R k ((d1,.own d1)::T) ((d1,some (.row e z d f ys))::M)):OpW P x R o k T M:=by
 intro m a w hr
 obtain ⟨hdo,c,p,q,hop,hc,ha,hty,hp,hq⟩:=hi
 obtain ⟨ht,hty2⟩:=zfi htb hs
 obtain ⟨i,zv,hinfo,his,hib,hiz,hzs⟩:=(htb e y hty2).zsz
 have hze:y.size=z:=zbh.1 hz
 have hpv:=zah hr p
 have hqv:=zah hr q
 rw [hp] at hpv
 rw [hq] at hqv
 have hpe:a.eval p=.slice none 0 0:=by
  obtain ⟨c,rfl⟩:=hu
  exact hpv.1
 obtain ⟨A,cc,hqe,hsrc⟩:=zln hr.blk hqv hv
 have hcl:cont.length=ys.length:=by rw [hys,List.length_map]
 obtain ⟨b,oo,hA,L1,hL1,hz0,hg⟩:=hsrc (by omega)
 have hzi:i.size=z:=by rw [his,hze]
 obtain ⟨r,w1,hrun,hapd⟩:=zoR (P:=P) (w:=w) t o.type e i zv ht hinfo hiz hzs (by rw [hzi];exact hz0) (m:=ys.length) (c:=cc) (L1:=L1) (A:=A) hpos (by rw [hL1.len,hcl,hzi]) ⟨b,oo,hA,hg⟩ hL1.one (by rw [hib];exact hby) (by rw [hib];exact (htb e y hty2).pos.2)
 have hex:=zjl (P:=P) hop hc ha hty hpe (by rw [hqe,hcl]) hrun
 rw [hzi] at hapd
 obtain ⟨m1,hr1,hv1⟩:=zjk (d:=d) (f:=f) hr (id:=d1) (.inl rfl) hf hd1 hz0 hapd (by rw [← hys];exact hL1) M (.inl ⟨rfl,rfl⟩)
 unfold Oper.wp
 rw [hex]
 show Ka P x R k .normal (a.put o.dst r) w1
 rw [hd]
 exact h m1 _ w1 (hr1.putd (d:=some d1) hn (by rw [← hd];exact hdo) hv1)
variable {all:List Oper}
theorem zmk {t e:TypeId} {y:Ty} {u v:LV} {d1 z:Nat} {α:Type} {d:α} {f:α→List C} {cont:List (List C)} (ys:List α) (hn:x.n=n) (htb:zaJ P tb) (h:gst all o T=.yes) (hi:ziV n o T t u v) (hu:∃ c,u=.nil c)
 (hs:zfn tb t=some (e,y)) (hz:Nat.beq y.size z=true) (hv:zfG (mm M) v=some (z,cont)) (hys:cont=ys.map f) (hpos:0<ys.length) (hd:o.dst=some d1) (hf:fresh T M d1=true) (hby:ys.length*y.bytes≤140737488355328) :
 zeV P x all o ⟨o.dst,.own d1,[(d1,some (.row e z d f ys))],some d1,zbb all o,zbd T o.op.operands.toList⟩ T M:=by
 refine zdX h (.inr bk1) (fun id hid=>by cases hid;exact hf) fun T' M' ht hM hf'=>zgQ d1 ?_
 obtain ⟨hdo,c,p,q,hop,hc,ha,hty,hp,hq⟩:=hi
 have hops:∀ r∈c.args.toList,r∈o.op.operands.toList:=fun r hr=>by
  rw [hop]
  simp only [Op.operands,Call.operands,Array.toList_append,List.mem_append]
  exact .inr hr
 have hpm:p∈o.op.operands.toList:=hops p (by rw [ha];simp)
 have hqm:q∈o.op.operands.toList:=hops q (by rw [ha];simp)
 have same:∀ r∈o.op.operands.toList,∀ i,(val T r).on2 i→mm ((d1,none)::M') i=mm M i:=fun r hr i hi=>by
  have hne:i≠d1:=fun e=>by
   subst e
   refine zic (zde hf) r ?_
   revert hi
   cases val T r<;>intro hi<;>first | exact hi | exact hi.elim
  rw [zI,zaZ _ _ hne]
  exact hM i (zdu hr hi)
 refine zsr (d:=d) ys hn htb ⟨hdo,c,p,q,hop,hc,ha,hty,(zbZ ht hpm).trans hp,(zbZ ht hqm).trans hq⟩ hu hs hz (zf3 (fun i hi=>same q hqm i (by
  rw [hq]
  revert hi
  cases v<;>intro hi<;>first | exact hi | exact hi.elim)) hv) hys hpos hd (hf' _ rfl) (by rw [zI,zac]) hby (fun m a w hr=>⟨x,.refl x,(d1,.own d1)::T',(d1,some (.row e z d f ys))::M',m,?_,rfl,by rw [hd];rfl,rfl⟩)
 have:mm ((d1,some (.row e z d f ys))::M')=mm ((d1,some (.row e z d f ys))::(d1,none)::M'):=by
  funext i
  simp only [zI]
  by_cases hi:i=d1
  ·subst hi;rw [zac,zac]
  ·rw [zaZ _ _ hi,zaZ _ _ hi,zaZ _ _ hi]
 rw [this];exact hr
theorem zqJ {all:List Oper} {t e:TypeId} {y:Ty} {v0:Value} {v:LV} {d1 z:Nat} {α:Type} {f:α→List C} {xs:List α} {cont:List (List C)} (ys:List α) {tg:Nat→Nat} {c0:Nat} (hn:x.n=n) (htb:zaJ P tb) (hi:ziV n o T t (.dat (.val v0)) v) (hq:Qv (z7 x) (fun b=>tg b=c0) e z f xs v0)
 (hs:zfn tb t=some (e,y)) (hz:Nat.beq y.size z=true) (hz0:0<z) (hv:zfG (mm M) v=some (z,cont)) (hys:cont=ys.map f) (hpos:0<ys.length) (hd:o.dst=some d1) (hfl:∀ y,zhC (f y)=true∧(f y).length=z) (hby:(xs.length+ys.length)*y.bytes≤140737488355328) (F:Value→Cx→Prop)
 (h:∀ x1 v1 (tg':Nat→Nat),Sib x x1→Qv (z7 x1) (fun b=>tg' b=c0) e z f (xs++ys) v1→(∀ c,c≠c0→∀ {e':TypeId} {z':Nat} {β:Type} {f':β→List C} {zs:List β} {u:Value},Qv (z7 x) (fun b=>tg b=c) e' z' f' zs u→Qv (z7 x1) (fun b=>tg' b=c) e' z' f' zs u)→F v1 x1) :
 ∀ T' M',(∀ t∈zbb all o,tm T' t=tm T t)→(∀ id∈zbd T o.op.operands.toList,mm M' id=mm M id)→OpW P x (fun _ _ _=>False) o [.stop (fun x1 T1 M1=>∃ y,F y x1∧T1=putd o.dst (.dat (.val y)) T'∧M1=M')] T' M':=fun T' M' ht hm=>
 ztg ys hn htb (hi.congr ht) hq hs hz hz0 (zf3 (fun i h1=>hm i (hi.on2 i (zrJ h1))) hv) hys hpos hd hfl hby fun x1 v1 tg' hx h1 h2 m a w hr=>⟨x1,.refl x1,_,_,m,hr,v1,h x1 v1 tg' hx h1 h2,by rw [hd];rfl,rfl⟩
end
section
variable {S:Nat→Prop} {r:LV} {m1:Mp} {Po:Nat→Obj→Prop} {w1:World} {v:Value}
theorem zhE {J:Nat→Prop}:∀ k,zd2 S (fun b o=>Po b o∧¬ J b) k→zd2 S Po k:=fun k h=>h.imp id fun ⟨o,h,_⟩=>⟨o,h⟩
theorem Ot.thaw {Mo:Mem} (J:Nat→Prop) (h:Ot S r Mo m1 Po w1 v):Ot S r Mo m1 (fun b o=>Po b o∧¬ J b) w1 v:=
 ⟨(Mws.of zhE).r3 h.val,⟨fun id b hb=>⟨(Mws.of zhE).blk rfl (h.mem.blk id b hb).1,(h.mem.blk id b hb).2⟩,h.mem.inj,fun i hi hw=>h.mem.out i hi (zhE _ hw)⟩,fun b o hp=>h.pv b o hp.1⟩
theorem Ot.recode {Mo:Ml} (J:Nat→Prop) (h:Ot S r (mm Mo) m1 Po w1 v) {id:Nat} {e:TypeId} {z:Nat} {α β:Type} {d:α} {f:α→List C} {xs:List α} (d':β) (f':β→List C) (xs':List β) (hM:mm Mo id=some (.row e z d f xs)) (hl:xs'.length=xs.length) (hz:∀ y∈xs',(f' y).length=z)
 (hc:∀ W:Nat→Prop,(∀ b o,Po b o→J b→w1.heap[b]? = some o∧¬ W b)→∀ (i:Nat) y y' (j:Nat) c',xs[i]? = some y→xs'[i]? = some y'→(f' y')[j]? = some c'→∃ c,(f y)[j]? = some c∧∀ u,Rf W w1 u c→Rf W w1 u c'):Ot S r (mm ((id,some (.row e z d' f' xs'))::Mo)) m1 (fun b o=>Po b o∧¬ J b) w1 v:=by
 have hlive:∀ i,(mm ((id,some (.row e z d' f' xs'))::Mo) i).isSome=true→(mm Mo i).isSome=true:=fun i hi=>by
  rw [zI] at hi;unfold upd at hi
  split at hi
  ·rename_i e;subst e;rw [hM];rfl
  ·exact hi
 have hrl:∀ i,zJ (mm ((id,some (.row e z d' f' xs'))::Mo)) i=zJ (mm Mo) i∧zbt (mm ((id,some (.row e z d' f' xs'))::Mo)) i=zbt (mm Mo) i:=fun i=>by
  unfold zJ zbt
  by_cases hi:i=id
  ·subst hi
   rw [zI,zac,hM]
   exact ⟨by show some xs'.length=some xs.length;rw [hl],rfl⟩
  ·rw [zI,zaZ _ _ hi]
   exact ⟨rfl,rfl⟩
 have hkeep:∀ i,zdK (mm Mo) m1 (mm ((id,some (.row e z d' f' xs'))::Mo)) m1 i:=fun i hi=>⟨hlive i hi,rfl,rfl,rfl,(hrl i).1,(hrl i).2⟩
 have hown:∀ k,Own (zd2 S (fun b o=>Po b o∧¬ J b)) (mm ((id,some (.row e z d' f' xs'))::Mo)) m1 k→Own (zd2 S Po) (mm Mo) m1 k:=fun k hk=>by
  rcases hk with hk | ⟨i,hi,hb⟩
  ·exact .inl (zhE _ hk)
  ·exact .inr ⟨i,hlive i hi,hb⟩
 refine ⟨tr3 (fun i _=>hkeep i) (.inl (zfU hown)) h.val,⟨fun i b hb=>?_,fun i j hi hj=>h.mem.inj i j (hlive i hi) (hlive j hj),fun i hi hw=>h.mem.out i (hlive i hi) (zhE _ hw)⟩,fun b o hp=>h.pv b o hp.1⟩
 by_cases hi:i=id
 ·subst hi
  rw [zI,zac] at hb;cases hb
  refine ⟨?_,fun j hj=>(show False from hj).elim⟩
  refine (h.mem.blk i _ hM).1.recode hl hz fun i' y y' j c' h1 h2 h3=>?_
  have hw:∀ b o,Po b o→J b→w1.heap[b]? = some o∧¬ Own (zd2 S (fun b o=>Po b o∧¬ J b)) (mm ((i,some (.row e z d' f' xs'))::Mo)) m1 b:=fun b o hp hj=>⟨(h.pv b o hp).1,fun hw=>by
   rcases hw with (hw | ⟨o',_,hn⟩) | ⟨q,hq,hbq⟩
   ·exact (h.pv b o hp).2 hw
   ·exact hn hj
   ·exact h.mem.out q (hlive q hq) (hbq ▸ .inr ⟨o,hp⟩)⟩
  obtain ⟨c,h4,h5⟩:=hc _ hw i' y y' j c' h1 h2 h3
  exact ⟨c,h4,fun u hu=>h5 u (hu.sub hown)⟩
 ·rw [zI,zaZ _ _ hi] at hb
  obtain ⟨h1,h2⟩:=h.mem.blk i b hb
  refine ⟨zow (hkeep i) (by rw [zI,zaZ _ _ hi,hb];rfl) (fun j _=>hkeep j) (zfU hown) h1,fun j hj=>?_⟩
  have:=h2 j hj
  rw [zI];unfold upd
  split
  ·rfl
  ·exact this
def LV.frz1 (id:Nat) (c:C):LV→LV
 | .own i=>match Nat.beq i id with
   | true=>.dat c
   | false=>.own i
 | .nil c=>.dat c
 | l=>l
def LV.ownDat:LV→Bool
 | .own _=>true
 | .dat _=>true
 | .nil _=>true
 | _=>false
theorem Ot.frz {Mo:Ml} {ls:List LV} (h:Ot S (.lagg ls) (mm Mo) m1 Po w1 v) {id:Nat} {e:TypeId} {z:Nat} {α:Type} {d:α} {f:α→List C} {xs:List α} (hM:mm Mo id=some (.row e z d f xs)) (hod:∀ l∈ls,l.ownDat=true) (hrows:∀ i b,mm Mo i=some b→∀ j,¬ b.on j):Ot S (.lagg (ls.map (LV.frz1 id (.sl z d f xs)))) (mm ((id,none)::Mo)) m1 Po w1 v:=by
 have hlive:∀ i,(mm ((id,none)::Mo) i).isSome=true→i≠id∧(mm Mo i).isSome=true∧mm ((id,none)::Mo) i=mm Mo i:=fun i hi=>by
  rw [zI] at hi ⊢;unfold upd at hi ⊢
  split at hi
  ·cases hi
  ·rename_i hne;exact ⟨hne,hi,if_neg hne⟩
 have hkeep:∀ i,zdK (mm Mo) m1 (mm ((id,none)::Mo)) m1 i:=fun i hi=>by
  obtain ⟨h1,h2,h3⟩:=hlive i hi
  exact ⟨h2,rfl,rfl,rfl,by unfold zJ;rw [h3],by unfold zbt;rw [h3]⟩
 have hown:∀ k,Own (zd2 S Po) (mm ((id,none)::Mo)) m1 k→Own (zd2 S Po) (mm Mo) m1 k:=fun k hk=>by
  rcases hk with hk | ⟨i,hi,hb⟩
  ·exact .inl hk
  ·exact .inr ⟨i,(hlive i hi).2.1,hb⟩
 refine ⟨?_,⟨fun i b hb=>?_,fun i j hi hj=>h.mem.inj i j (hlive i hi).2.1 (hlive j hj).2.1,fun i hi=>h.mem.out i (hlive i hi).2.1⟩,h.pv⟩
 ·obtain ⟨us,hv,hl,hd⟩:=h.val
  refine ⟨us,hv,by rw [hl,List.length_map],fun j u l hu hlj=>?_⟩
  rw [List.getElem?_map] at hlj
  obtain ⟨l0,h0,rfl⟩:=Option.map_eq_some_iff.1 hlj
  obtain ⟨h1,h2⟩:=hd j u l0 hu h0
  refine ⟨?_,h2⟩
  have hk:=hod l0 (List.mem_of_getElem? h0)
  cases l0 with
  | own i=>
    show R1 _ _ _ _ _ (match Nat.beq i id with | true=>LV.dat (.sl z d f xs) | false=>.own i)
    cases hb:Nat.beq i id with
    | true=>
      have:=zbh.1 hb;subst this
      have hv:=h1.2 xs.length (by unfold zJ;rw [hM])
      rw [hv]
      refine zqp (h.mem.blk i _ hM).1 (fun hw=>?_) hown
      rcases hw with hw | ⟨q,hq,hbq⟩
      ·exact h.mem.out i (by rw [hM];rfl) hw
      ·exact (hlive q hq).1 (h.mem.inj q i (hlive q hq).2.1 (by rw [hM];rfl) hbq)
    | false=>exact tr1 (l:=.own i) (fun i _=>hkeep i) (.inl (zfU hown)) h1
  | dat c=>exact tr1 (l:=.dat c) (fun i _=>hkeep i) (.inl (zfU hown)) h1
  | nil c=>exact tr1 (l:=.dat c) (fun i _=>hkeep i) (.inl (zfU hown)) h1.2
  | _=>cases hk
 ·obtain ⟨h1,h2,h3⟩:=hlive i (by rw [hb];rfl)
  rw [h3] at hb
  exact ⟨zow (hkeep i) (by rw [h3,hb];rfl) (fun j _=>hkeep j) (zfU hown) (h.mem.blk i b hb).1,fun j hj=>absurd hj (hrows i b hb j)⟩
def LV.dn:LV→LV
 | .nil c=>.dat c
 | l=>l
theorem Ot.dn {M:Mem} {ls:List LV} (h:Ot S (.lagg ls) M m1 Po w1 v):Ot S (.lagg (ls.map LV.dn)) M m1 Po w1 v:=by
 refine ⟨?_,h.mem,h.pv⟩
 obtain ⟨us,hv,hl,hd⟩:=h.val
 refine ⟨us,hv,by rw [hl,List.length_map],fun j u l hu hlj=>?_⟩
 rw [List.getElem?_map] at hlj
 obtain ⟨l0,h0,rfl⟩:=Option.map_eq_some_iff.1 hlj
 obtain ⟨h1,h2⟩:=hd j u l0 hu h0
 refine ⟨?_,h2⟩
 cases l0<;>first | exact h1 | exact h1.2
end
open Go.RowKit
set_option linter.unusedVariables false
set_option linter.unusedSimpArgs false
set_option maxRecDepth 100000
section
variable {P:Program} {x:Cx} {tb:Tb} {R:Cx→Tl→Ml→Prop} {n:Nat} {o:Oper} {T:Tl} {M:Ml} {k:List It}
theorem zh4 {t e t1:TypeId} {p:Operand} {d1 z:Nat} {α:Type} {d:α} {f:α→List C} {xs:List α} (hn:x.n=n) (hdo:zaA n o.dst=true) (hd:o.dst=some d1) (hop:o.op=.binOp .eql t p (.const (.slice none 0 0)) t1) (hp:val T p=.dat (.sl z d f xs)) (ht:P.underlying t=some (.slice e))
 (h1:xs=[]→Wc P x R k ((d1,.known true)::T) M) (h0:Wc P x R k ((d1,.known false)::T) M):OpW P x R o k T M:=fun m a w hr=>by
 have hv:=zah hr p
 rw [hp] at hv
 obtain ⟨A,c,hpe,hrow⟩:=zkz hv
 have hrun:(execOp a.eval o).run P w=.ok (.value (.bool A.isNone)) w:=by
  have hg:(eqGuard .eql t p (.const (.slice none 0 0)) (.slice A xs.length c) (.slice none 0 0)).run P w=.ok () w:=rfl
  have hb:(binOp .eql t (.slice A xs.length c) (.slice none 0 0)).run P w=.ok (.bool A.isNone) w:=by
   have h1:(binOp .eql t (.slice A xs.length c) (.slice none 0 0)).run P w=((Op.equalIn (9999+1) t (.slice A xs.length c) (.slice none 0 0)).run P w).andThen fun b w'=>.ok (.bool b) w':=by
    simp only [binOp];simp [Op.equal,Op.maxDepth]
   rw [h1,Op.equalIn]
   cases A<;>simp [run_underlying ht]
  have he:a.eval (.const (.slice none 0 0))=.slice none 0 0:=rfl
  simp only [execOp,hop,hpe,he,Sem.run_bind,hg,hb,Result.andThen_ok,Sem.run_pure]
 unfold Oper.wp
 rw [hrun]
 show Ka P x R k .normal (a.put o.dst _) w
 rw [hd]
 cases A with
 | none=>
   have hx:xs=[]:=by
    rcases Nat.eq_zero_or_pos xs.length with h | h
    ·exact List.length_eq_zero_iff.1 h
    ·obtain ⟨b,o,hA,_⟩:=hrow h;cases hA
   exact h1 hx m _ w (hr.putd (d:=some d1) (l:=.known true) hn (hd ▸ hdo) rfl)
 | some A=>exact h0 m _ w (hr.putd (d:=some d1) (l:=.known false) hn (hd ▸ hdo) rfl)
end
theorem zda (l:List Int) (hs:l.length≤2199023255552):Ct Tryz.prog 213 [.dat (zbc l)] [] (zdh 1 3 1 (0:Int) iC l):=by
 refine zD (rs:=[(.tmp 2,22)]) za Tryz.func213 rfl rfl rfl (Nat.le_of_ble_eq_true rfl) rfl fun ho hm x hn hlent=>?_
 refine zdU hn za rfl ?_ rfl (zh4 hn rfl rfl rfl rfl Tryz.underlying22 (fun hnil=>?_) ?_)
 ·exact qS
 ·refine zf hn za rfl qS ⟨_,_,[],[],rfl,rfl,trivial,rfl,rfl,rfl,.inr ⟨?_,rfl,rfl⟩⟩
  exact hnil
 ·refine zT hn za (0:Int) iC ([]:List Int) rfl ?_ rfl rfl rfl rfl rfl rfl rfl rfl rfl ?_;exact qS
  refine zas hn za l rfl ?_ rfl rfl rfl rfl rfl rfl rfl rfl ?_ ?_;exact qS
  ·show (0+l.length)*8≤_;omega
  refine zf hn za rfl qS ⟨_,.own 1,[(1,some (.row 3 1 (0:Int) iC l))],[(1,7)],rfl,rfl,⟨?_,trivial⟩,rfl,rfl,rfl,.inl ⟨rfl,rfl⟩⟩
  rfl
theorem zeR (l:List Int) (hs:l.length≤2199023255552):Con Tryz.prog 213 [.dat (zbc l)] (.dat (zbc l)):=zii (zda l hs)
theorem ziy (l:List zbl) (hs:l.length≤2199023255552):Ct Tryz.prog 249 [.dat (zaW l)] [] (zdh 1 128 4 zdr zd0 l):=by
 refine zD (rs:=[(.tmp 2,125)]) za Tryz.func249 rfl rfl rfl (Nat.le_of_ble_eq_true rfl) rfl fun ho hm x hn hlent=>?_
 refine zdU hn za rfl ?_ rfl (zh4 hn rfl rfl rfl rfl Tryz.underlying125 (fun hnil=>?_) ?_)
 ·exact qS
 ·refine zf hn za rfl qS ⟨_,_,[],[],rfl,rfl,trivial,rfl,rfl,rfl,.inr ⟨?_,rfl,rfl⟩⟩
  exact hnil
 ·refine zT hn za zdr zd0 ([]:List zbl) rfl ?_ rfl rfl rfl rfl rfl rfl rfl rfl rfl ?_;exact qS
  refine zas hn za l rfl ?_ rfl rfl rfl rfl rfl rfl rfl rfl ?_ ?_;exact qS
  ·show (0+l.length)*32≤_;omega
  refine zf hn za rfl qS ⟨_,.own 1,[(1,some (.row 128 4 zdr zd0 l))],[(1,7)],rfl,rfl,⟨?_,trivial⟩,rfl,rfl,rfl,.inl ⟨rfl,rfl⟩⟩
  rfl
theorem zh1 (l:List zbl) (hs:l.length≤2199023255552):Con Tryz.prog 249 [.dat (zaW l)] (.dat (zaW l)):=zii (ziy l hs)
theorem zd4 (l:List zo) (hs:l.length≤2199023255552):Ct Tryz.prog 250 [.dat (zB l)] [] (zdh 1 197 3 zi z5 l):=by
 refine zD (rs:=[(.tmp 2,189)]) za Tryz.func250 rfl rfl rfl (Nat.le_of_ble_eq_true rfl) rfl fun ho hm x hn hlent=>?_
 refine zdU hn za rfl ?_ rfl (zh4 hn rfl rfl rfl rfl Tryz.underlying189 (fun hnil=>?_) ?_)
 ·exact qS
 ·refine zf hn za rfl qS ⟨_,_,[],[],rfl,rfl,trivial,rfl,rfl,rfl,.inr ⟨?_,rfl,rfl⟩⟩
  exact hnil
 ·refine zT hn za zi z5 ([]:List zo) rfl ?_ rfl rfl rfl rfl rfl rfl rfl rfl rfl ?_;exact qS
  refine zas hn za l rfl ?_ rfl rfl rfl rfl rfl rfl rfl rfl ?_ ?_;exact qS
  ·show (0+l.length)*24≤_;omega
  refine zf hn za rfl qS ⟨_,.own 1,[(1,some (.row 197 3 zi z5 l))],[(1,7)],rfl,rfl,⟨?_,trivial⟩,rfl,rfl,rfl,.inl ⟨rfl,rfl⟩⟩
  rfl
theorem zdG (l:List zo) (hs:l.length≤2199023255552):Con Tryz.prog 250 [.dat (zB l)] (.dat (zB l)):=zii (zd4 l hs)
theorem zmR (l:List zal) (hs:l.length≤2199023255552):Ct Tryz.prog 210 [.dat (zm l)] [] (zdh 1 193 2 zj zO l):=by
 refine zD (rs:=[(.tmp 2,43)]) za Tryz.func210 rfl rfl rfl (Nat.le_of_ble_eq_true rfl) rfl fun ho hm x hn hlent=>?_
 refine zdU hn za rfl ?_ rfl (zh4 hn rfl rfl rfl rfl Tryz.underlying43 (fun hnil=>?_) ?_)
 ·exact qS
 ·refine zf hn za rfl qS ⟨_,_,[],[],rfl,rfl,trivial,rfl,rfl,rfl,.inr ⟨?_,rfl,rfl⟩⟩
  exact hnil
 ·refine zT hn za zj zO ([]:List zal) rfl ?_ rfl rfl rfl rfl rfl rfl rfl rfl rfl ?_;exact qS
  refine zas hn za l rfl ?_ rfl rfl rfl rfl rfl rfl rfl rfl ?_ ?_;exact qS
  ·show (0+l.length)*32≤_;omega
  refine zf hn za rfl qS ⟨_,.own 1,[(1,some (.row 193 2 zj zO l))],[(1,7)],rfl,rfl,⟨?_,trivial⟩,rfl,rfl,rfl,.inl ⟨rfl,rfl⟩⟩
  rfl
open Go.RowKit
set_option linter.unusedVariables false
set_option linter.unusedSimpArgs false
set_option maxRecDepth 100000
def zlu (h:LV→LV) (id:Nat) (e:TypeId) (z:Nat) {α:Type} (d:α) (f:α→List C) (xs:List α) (r:LV) (Mo:Ml):Prop:=(r=h (.own id)∧Mo=[(id,some (.row e z d f xs))])∨(xs=[]∧r=h (.nil (.sl z d f []))∧Mo=[])
section
variable {P:Program} {x:Cx} {tb:Tb} {R:Cx→Tl→Ml→Prop}
theorem zg2 {n:Nat} (hn:x.n=n) (htb:zaJ P tb) {k:List It} {T:Tl} {M:Ml} {f:FuncId} {ags args:List LV} {hh:LV→LV} {id:Nat} {e:TypeId} {z:Nat} {α:Type} {d:α} {g:α→List C} {xs:List α} {dst:Option Nat} {s:Prop} {T1:Tl} {M1:Ml} {k1:List It} (fl:List Bool) (hc:Ct P f args [] (zlu hh id e z d g xs)) (ho:run tb n 1000 T M True k=.call f ags dst s T1 M1 k1) (hs:s) (hd:zaA n dst=true)
 (ha:zc4 (mm M1) fl ags=some args) (hv:zg7 fl ags=[]) (hnew:zf2 T1 M1 [] [(id,some (.row e z d g xs))]=true) (hsm:Nat.blt id 1000=true)
 (hon:∀ i,(hh (.own id)).on i→i=id) (hon0:∀ i,¬ (hh (.nil (.sl z d g []))).on i)
 (h:Wc P x R k1 (Ab.putd dst (hh (.own id)) T1) ((id,some (.row e z d g xs))::M1)) (h0:xs=[]→Wc P x R k1 (Ab.putd dst (hh (.nil (.sl z d g []))) T1) M1):Wc P x R k T M:=by
 refine zbB hn htb fl hc ho hs hd ha trivial rfl (fun i hi=>by rw [hv] at hi;cases hi) (.inl hv) (fun i hi=>by cases hi) ?_
 rintro r Mo (⟨rfl,rfl⟩ | ⟨hx,rfl,rfl⟩)
 ·refine ⟨hnew,fun i hi=>.inr fun hl=>?_,fun i hi=>?_,h⟩
  ·have:i=id:=by
    rw [zI] at hi;unfold upd at hi
    split at hi
    ·assumption
    ·cases hi
   have h1:=x.big i hl
   have h2:id<1000:=Nat.blt_eq.mp hsm
   omega
  ·have:i=id:=hon i hi
   subst this
   rw [zI];unfold upd;rw [if_pos rfl];rfl
 ·exact ⟨rfl,fun i hi=>(by cases hi),fun i hi=>(hon0 i hi).elim,h0 hx⟩
def zag (r0:LV) (M0:Ml) (r:LV) (Mo:Ml):Prop:=r=r0∧Mo=M0
theorem zpl {id:Nat}:∀ {M0:Ml},M0.all (fun p=>Nat.blt p.1 1000)=true→(mm M0 id).isSome=true→id<1000
 | [],_,h=>by cases h
 | (k,v)::r,h,hi=>by
   simp only [List.all_cons,Bool.and_eq_true] at h
   rw [zI] at hi;unfold upd at hi
   split at hi
   ·rename_i e;subst e;exact Nat.blt_eq.mp h.1
   ·exact zpl h.2 hi
theorem ziS {n:Nat} (hn:x.n=n) (htb:zaJ P tb) {k:List It} {T:Tl} {M:Ml} {f:FuncId} {ags args:List LV} {r0:LV} {M0:Ml} {dst:Option Nat} {s:Prop} {T1:Tl} {M1:Ml} {k1:List It} (fl:List Bool) (hc:Ct P f args [] (zag r0 M0)) (ho:run tb n 1000 T M True k=.call f ags dst s T1 M1 k1) (hs:s) (hd:zaA n dst=true)
 (ha:zc4 (mm M1) fl ags=some args) (hv:zg7 fl ags=[]) (hnew:zf2 T1 M1 [] M0=true) (hsm:M0.all (fun p=>Nat.blt p.1 1000)=true)
 (hon:∀ i,r0.on i→(mm M0 i).isSome=true)
 (h:Wc P x R k1 (Ab.putd dst r0 T1) (M0++M1)):Wc P x R k T M:=by
 refine zbB hn htb fl hc ho hs hd ha trivial rfl (fun i hi=>by rw [hv] at hi;cases hi) (.inl hv) (fun i hi=>by cases hi) ?_
 rintro r Mo ⟨rfl,rfl⟩
 refine ⟨hnew,fun i hi=>.inr fun hl=>?_,hon,h⟩
 have h1:=x.big i hl
 have h2:=zpl hsm hi
 omega
end
def zp0 (g:zW) (l:LV):LV:=.lagg [.dat (.int .i64 g.proc),.dat (.int .i64 g.pc),l,.dat (.int .i64 g.state),.dat (zaW g.trace)]
def zmt (g:zW) (l:LV):LV:=.lagg [.dat (.int .i64 g.proc),.dat (.int .i64 g.pc),.dat (zbc g.regs),.dat (.int .i64 g.state),l]
theorem zhR (g:zW) (h1:g.regs.length≤2199023255552) (h2:g.trace.length≤2199023255552):Ct Tryz.prog 211 [.dagg (zH g)] [] (zlu (zp0 g) 501 3 1 (0:Int) iC g.regs):=by
 refine zD (rs:=[(.cell 2 172,172)]) za Tryz.func211 rfl rfl rfl (Nat.le_of_ble_eq_true rfl) rfl fun ho hm x hn hlent=>?_
 have hk:=zh1 g.trace h2
 refine zgi hn za 200 [false] (zda g.regs h1) rfl ?_ rfl rfl rfl rfl rfl ?_ ?_
 ·exact qS
 ·refine qK hn za rfl rfl (by assumption) ?_
  refine zf hn za rfl ?_ ⟨_,(zp0 g) (.own 501),[(501,some (.row 3 1 (0:Int) iC g.regs))],[(501,200)],rfl,rfl,⟨?_,trivial⟩,rfl,rfl,rfl,.inl ⟨rfl,rfl⟩⟩;exact qS
  rfl
 ·intro hx
  refine qK hn za rfl rfl (by assumption) ?_
  refine zf hn za rfl ?_ ⟨_,(zp0 g) (.nil (.sl 1 (0:Int) iC [])),[],[],rfl,rfl,trivial,rfl,rfl,rfl,.inr ⟨?_,rfl,rfl⟩⟩;exact qS
  exact hx
theorem zhx (g:zW) (h1:g.regs.length≤2199023255552) (h2:g.trace.length≤2199023255552):Ct Tryz.prog 211 [.dagg (zH g)] [] (zlu (zmt g) 501 128 4 zdr zd0 g.trace):=by
 refine zD (rs:=[(.cell 2 172,172)]) za Tryz.func211 rfl rfl rfl (Nat.le_of_ble_eq_true rfl) rfl fun ho hm x hn hlent=>?_
 have hk:=zeR g.regs h1
 refine qK hn za rfl rfl (by assumption) ?_
 refine zgi hn za 200 [false] (ziy g.trace h2) rfl ?_ rfl rfl rfl rfl rfl ?_ ?_
 ·exact qS
 ·refine zf hn za rfl ?_ ⟨_,(zmt g) (.own 501),[(501,some (.row 128 4 zdr zd0 g.trace))],[(501,200)],rfl,rfl,⟨?_,trivial⟩,rfl,rfl,rfl,.inl ⟨rfl,rfl⟩⟩;exact qS
  rfl
 ·intro hx
  refine zf hn za rfl ?_ ⟨_,(zmt g) (.nil (.sl 4 zdr zd0 [])),[],[],rfl,rfl,trivial,rfl,rfl,rfl,.inr ⟨?_,rfl,rfl⟩⟩;exact qS
  exact hx
theorem zgu (g:zW) (h1:g.regs.length≤2199023255552) (h2:g.trace.length≤2199023255552):Con Tryz.prog 211 [.dagg (zH g)] (.dagg (zH g)):=by
 refine zk (rs:=[(.cell 2 172,172)]) za Tryz.func211 rfl rfl rfl (Nat.le_of_ble_eq_true rfl) fun ho x hn=>?_
 have hk1:=zeR g.regs h1
 have hk2:=zh1 g.trace h2
 refine qK hn za rfl rfl (by assumption) ?_
 refine qK hn za rfl rfl (by assumption) ?_
 refine zf hn za rfl qS ⟨_,rfl,?_⟩
 rfl
theorem zhe (g:zW) (h1:g.regs.length≤2199023255552) (h2:g.trace.length≤2199023255552):Ct Tryz.prog 205 [.dagg (zH g)] [] (zag (.lagg [.dat (.int .i64 g.proc),.dat (.int .i64 g.pc),.own 501,.dat (.int .i64 g.state),.own 502]) [(501,some (.row 3 1 (0:Int) iC g.regs)),(502,some (.row 128 4 zdr zd0 g.trace))]):=by
 refine zD (rs:=[(.cell 2 172,172)]) za Tryz.func205 rfl rfl rfl (Nat.le_of_ble_eq_true rfl) rfl fun ho hm x hn hlent=>?_
 refine zT hn za (0:Int) iC ([]:List Int) rfl ?_ rfl rfl rfl rfl rfl rfl rfl rfl rfl ?_;exact qS
 refine zas hn za g.regs rfl ?_ rfl rfl rfl rfl rfl rfl rfl rfl ?_ ?_;exact qS
 ·show (0+g.regs.length)*8≤_;omega
 refine zT hn za zdr zd0 ([]:List zbl) rfl ?_ rfl rfl rfl rfl rfl rfl rfl rfl rfl ?_;exact qS
 refine zas hn za g.trace rfl ?_ rfl rfl rfl rfl rfl rfl rfl rfl ?_ ?_;exact qS
 ·show (0+g.trace.length)*32≤_;omega
 refine zf hn za rfl ?_ ⟨_,.lagg [.dat (.int .i64 g.proc),.dat (.int .i64 g.pc),.own 501,.dat (.int .i64 g.state),.own 502],[(501,some (.row 3 1 (0:Int) iC g.regs)),(502,some (.row 128 4 zdr zd0 g.trace))],[(501,6),(502,11)],rfl,rfl,⟨?_,?_,trivial⟩,rfl,rfl,rfl,rfl,rfl⟩
 ·exact qS
 ·rfl
 ·rfl
theorem zeN (g:zW) (h1:g.regs.length≤2199023255552) (h2:g.trace.length≤2199023255552):Con Tryz.prog 205 [.dagg (zH g)] (.dagg (zH g)):=by
 refine zk (rs:=[(.cell 2 172,172)]) za Tryz.func205 rfl rfl rfl (Nat.le_of_ble_eq_true rfl) fun ho x hn=>?_
 refine zT hn za (0:Int) iC ([]:List Int) rfl ?_ rfl rfl rfl rfl rfl rfl rfl rfl rfl ?_;exact qS
 refine zas hn za g.regs rfl ?_ rfl rfl rfl rfl rfl rfl rfl rfl ?_ ?_;exact qS
 ·show (0+g.regs.length)*8≤_;omega
 refine zT hn za zdr zd0 ([]:List zbl) rfl ?_ rfl rfl rfl rfl rfl rfl rfl rfl rfl ?_;exact qS
 refine zas hn za g.trace rfl ?_ rfl rfl rfl rfl rfl rfl rfl rfl ?_ ?_;exact qS
 ·show (0+g.trace.length)*32≤_;omega
 refine zf hn za rfl qS ⟨_,rfl,?_⟩
 rfl
def zbq (g:zW) (r v:Int):zW:=if zds r 0 g.regs.length && zK v then {g with regs:=g.regs.set r.toNat v} else g
def tell (g:zW) (i:zbl):zW:={g with trace:=g.trace++[i]}
theorem zd6 (g:zW) (r v:Int) (h1:g.regs.length≤2199023255552) (h2:g.trace.length≤2199023255552):Con Tryz.prog 272 [.dagg (zH g),.dat (.int .i64 r),.dat (.int .i64 v)] (.dagg (zH (zbq g r v))):=by
 refine zk (rs:=[(.cell 6 172,172)]) za Tryz.func272 rfl rfl rfl (Nat.le_of_ble_eq_true rfl) fun ho x hn=>?_
 refine ziS hn za [false] (zhe g h1 h2) rfl ?_ rfl rfl rfl rfl rfl ?_ ?_
 ·exact qS
 ·intro i hi
  simp [LV.on,LV.on2,LV.on1] at hi
  rcases hi with rfl | rfl<;>rfl
 repeat' (first | (refine ze hn za rfl qS ?_ ?_<;>intro hc<;>first | (replace hc:=qC2 hc;try exact qX) | exact qF2 hc | skip) | refine zf hn za rfl qS ⟨_,rfl,?_⟩ | refine qK hn za rfl rfl (by (first | exact zan _ | assumption)) ?_)
 all_goals (try (refine congrArg (fun g=>LV.dagg (zH g)) (Eq.symm ?_);rw [zbq,if_neg (by simp only [zds,zK,Bool.and_eq_true,decide_eq_true_eq] at *;omega)]))
 refine zaI hn za v rfl ?_ rfl rfl rfl rfl rfl rfl (Nat.le_of_ble_eq_true rfl) rfl ?_;(first | (exact qS) | decide | (simp only [List.length_replicate,List.length_set];decide))
 refine zf hn za rfl qS ⟨_,rfl,?_⟩
 rw [zbq,if_pos (by simp only [zds,zK,Bool.and_eq_true,decide_eq_true_eq];omega)];rfl
theorem zd7 (g:zW) (r v:Int) (h1:g.regs.length≤2199023255552) (h2:g.trace.length≤2199023255552):Con Tryz.prog 252 [.dagg (zH g),.dat (.int .i64 r),.dat (.int .i64 v)] (.dagg (zH (zbq g r v))):=by
 refine zk (rs:=[(.cell 6 172,172)]) za Tryz.func252 rfl rfl rfl (Nat.le_of_ble_eq_true rfl) fun ho x hn=>?_
 refine zg2 hn za [false] (zhR g h1 h2) rfl ?_ rfl rfl rfl rfl rfl ?_ ?_ ?_ ?_
 ·exact qS
 ·intro i hi
  simp [zp0,LV.on,LV.on2,LV.on1] at hi
  omega
 ·intro i hi
  simp [zp0,LV.on,LV.on2,LV.on1] at hi
 ·repeat' (first | (refine ze hn za rfl qS ?_ ?_<;>intro hc<;>first | (replace hc:=qC2 hc;try exact qX) | exact qF2 hc | skip) | refine zf hn za rfl qS ⟨_,rfl,?_⟩ | refine qK hn za rfl rfl (by (first | exact zaY _ | exact zN _ _ _ | assumption)) ?_)
  all_goals (try (refine congrArg (fun g=>LV.dagg (zH g)) (Eq.symm ?_);rw [zbq,if_neg (by simp only [zds,zK,Bool.and_eq_true,decide_eq_true_eq] at *;omega)]))
  refine zaI hn za v rfl ?_ rfl rfl rfl rfl rfl rfl (Nat.le_of_ble_eq_true rfl) rfl ?_;(first | (exact qS) | decide | (simp only [List.length_replicate,List.length_set];decide))
  refine zf hn za rfl qS ⟨_,rfl,?_⟩
  rw [zbq,if_pos (by simp only [zds,zK,Bool.and_eq_true,decide_eq_true_eq];omega)];rfl
 ·intro hx
  repeat' (first | (refine ze hn za rfl qS ?_ ?_<;>intro hc<;>first | (replace hc:=qC2 hc;try exact qX) | exact qF2 hc | skip) | refine zf hn za rfl qS ⟨_,rfl,?_⟩ | refine qK hn za rfl rfl (by (first | exact zaY _ | exact zN _ _ _ | assumption)) ?_)
  rw [show zbq g r v={g with regs:=[]} by
   rw [zbq,if_neg (by simp only [zds,zK,Bool.and_eq_true,decide_eq_true_eq,hx,List.length_nil] at *;omega),← hx]]
  rfl
theorem zaH (g:zW) (i:zbl) (h1:g.regs.length≤2199023255551) (h2:g.trace.length≤2199023255551):Con Tryz.prog 282 [.dagg (zH g),.dagg (zd0 i)] (.dagg (zH (tell g i))):=by
 refine zk (rs:=[(.cell 4 172,172)]) za Tryz.func282 rfl rfl rfl (Nat.le_of_ble_eq_true rfl) fun ho x hn=>?_
 refine ziS hn za [false] (zhe g (by omega) (by omega)) rfl ?_ rfl rfl rfl rfl rfl ?_ ?_
 ·exact qS
 ·intro i hi
  simp [LV.on,LV.on2,LV.on1] at hi
  rcases hi with rfl | rfl<;>rfl
 refine zT hn za zdr zd0 [i] rfl ?_ rfl rfl rfl rfl rfl rfl rfl rfl rfl ?_;exact qS
 refine zas hn za [i] rfl ?_ rfl rfl rfl rfl rfl rfl rfl rfl ?_ ?_;exact qS
 ·show (g.trace.length+1)*32≤_;omega
 refine zf hn za rfl qS ⟨_,rfl,?_⟩
 rfl
theorem zbP (g:zW) (i:zbl) (h1:g.regs.length≤2199023255551) (h2:g.trace.length≤2199023255551):Con Tryz.prog 283 [.dagg (zH g),.dagg (zd0 i)] (.dagg (zH (tell g i))):=by
 refine zk (rs:=[(.cell 4 172,172)]) za Tryz.func283 rfl rfl rfl (Nat.le_of_ble_eq_true rfl) fun ho x hn=>?_
 refine zg2 hn za [false] (zhx g (by omega) (by omega)) rfl ?_ rfl rfl rfl rfl rfl ?_ ?_ ?_ ?_
 ·exact qS
 ·intro i hi
  simp [zmt,LV.on,LV.on2,LV.on1] at hi
  omega
 ·intro i hi
  simp [zmt,LV.on,LV.on2,LV.on1] at hi
 ·refine zT hn za zdr zd0 [i] rfl ?_ rfl rfl rfl rfl rfl rfl rfl rfl rfl ?_;exact qS
  refine zas hn za [i] rfl ?_ rfl rfl rfl rfl rfl rfl rfl rfl ?_ ?_;exact qS
  ·show (g.trace.length+1)*32≤_;omega
  refine zf hn za rfl qS ⟨_,rfl,?_⟩
  rfl
 ·intro hx
  refine zT hn za zdr zd0 [i] rfl ?_ rfl rfl rfl rfl rfl rfl rfl rfl rfl ?_;exact qS
  refine zi6 hn za [i] rfl ?_ (.inr rfl) rfl rfl rfl rfl rfl rfl rfl (Nat.le_of_ble_eq_true rfl) (Nat.le_of_ble_eq_true rfl) ?_;exact qS
  refine zf hn za rfl qS ⟨_,rfl,?_⟩
  rw [tell,hx];rfl
open Go.RowKit
set_option linter.unusedVariables false
set_option linter.unusedSimpArgs false
set_option maxRecDepth 100000
section
variable {P:Program} {x:Cx} {tb:Tb} {R:Cx→Tl→Ml→Prop} {n:Nat} {o:Oper} {T:Tl} {M:Ml} {k:List It}
theorem zop {t t1:TypeId} {p q:Operand} {d:Nat} {i j:Int} (hn:x.n=n) (hdo:zaA n o.dst=true) (hd:o.dst=some d) (hop:o.op=.binOp .rem t p q t1) (hp:val T p=.dat (.int .i64 i)) (hq:val T q=.dat (.int .i64 j)) (hj:0<j)
 (h:Wc P x R k ((d,.dat (.int .i64 (i.tmod j)))::T) M):OpW P x R o k T M:=by
 refine zp5 (l:=.dat (.int .i64 (i.tmod j))) hn hdo hd (fun m a w hr=>⟨.int .i64 (i.tmod j),?_,Rf.int .i64 (i.tmod j)⟩) h
 have h1:a.eval p=.int .i64 i:=by
  have h:=zah hr p
  rw [hp] at h
  have h0:Rf (Own x.S0 (mm M) m) w (a.eval p) (.int .i64 i):=h
  generalize a.eval p=v at h0 ⊢
  cases h0;rfl
 have h2:a.eval q=.int .i64 j:=by
  have h:=zah hr q
  rw [hq] at h
  have h0:Rf (Own x.S0 (mm M) m) w (a.eval q) (.int .i64 j):=h
  generalize a.eval q=v at h0 ⊢
  cases h0;rfl
 have h3:(eqGuard .rem t p q (.int .i64 i) (.int .i64 j)).run P w=.ok () w:=rfl
 have h4:(binOp .rem t (.int .i64 i) (.int .i64 j)).run P w=.ok (.int .i64 (i.tmod j)) w:=by
  simp only [binOp,ne_eq,not_true_eq_false,if_false,Op.intDiv]
  rw [if_neg (by omega)];rfl
 simp only [execOp,hop,h1,h2,Sem.run_bind,h3,h4,Result.andThen_ok,Sem.run_pure]
end
theorem zpS (n m:Int) (hm:0<m):n % m=if n.tmod m<0 then n.tmod m+m else n.tmod m:=by
 have h1:n.tmod m<m:=Int.tmod_lt_of_pos n hm
 have h2:-m<n.tmod m:=by
  have:=Int.neg_tmod n m
  have h3:=Int.tmod_lt_of_pos (-n) hm
  omega
 have h3:n % m=n.tmod m % m:=by
  have:=Int.tmod_add_mul_tdiv n m
  conv=>lhs;rw [← this]
  rw [Int.add_mul_emod_self_left]
 rw [h3]
 split
 ·rename_i h
  rw [← Int.add_emod_right,Int.emod_eq_of_lt (by omega) (by omega)]
 ·exact Int.emod_eq_of_lt (by omega) (by omega)
def zV (n m:Int):Int:=if m<1 then 0 else n % m
theorem zfs (n m:Int) (hm:m≤1099511627776):Con Tryz.prog 214 [.dat (.int .i64 n),.dat (.int .i64 m)] (.dat (.int .i64 (zV n m))):=by
 refine zk (rs:=[(.tmp 4,3)]) za Tryz.func214 rfl rfl rfl (Nat.le_of_ble_eq_true rfl) fun ho x hn=>?_
 refine ze hn za rfl qS ?_ ?_<;>intro hc<;>first | (replace hc:=qC2 hc;try exact qX) | exact qF2 hc | skip
 ·refine zf hn za rfl qS ⟨_,rfl,?_⟩
  rw [zV,if_pos (by omega)];rfl
 ·refine zdU hn za rfl ?_ rfl (zop hn rfl rfl rfl rfl rfl ?_ ?_);exact qS;omega
  have h1:=zpS n m (by omega)
  have h2:n.tmod m<m:=Int.tmod_lt_of_pos n (by omega)
  have h3:-m<n.tmod m:=by
   have:=Int.neg_tmod n m
   have h3:=Int.tmod_lt_of_pos (-n) (show 0<m by omega)
   omega
  refine ze hn za rfl qS ?_ ?_<;>intro hc<;>first | (replace hc:=qC2 hc;try exact qX) | exact qF2 hc | skip
  ·refine zf hn za rfl qS ⟨_,rfl,?_⟩
   rw [zV,if_neg (by omega),h1,if_pos (by omega)];rfl
  ·refine zf hn za rfl qS ⟨_,rfl,?_⟩
   rw [zV,if_neg (by omega),h1,if_neg (by omega)];rfl
theorem zgJ (n m:Int) (hm:m≤1099511627776):Con Tryz.prog 209 [.dat (.int .i64 n),.dat (.int .i64 m)] (.dat (.int .i64 (zV n m))):=by
 refine zk (rs:=[(.tmp 4,3)]) za Tryz.func209 rfl rfl rfl (Nat.le_of_ble_eq_true rfl) fun ho x hn=>?_
 refine ze hn za rfl qS ?_ ?_<;>intro hc<;>first | (replace hc:=qC2 hc;try exact qX) | exact qF2 hc | skip
 ·refine zf hn za rfl qS ⟨_,rfl,?_⟩
  rw [zV,if_pos (by omega)];rfl
 ·refine zdU hn za rfl ?_ rfl (zop hn rfl rfl rfl rfl rfl ?_ ?_);exact qS;omega
  have h1:=zpS n m (by omega)
  have h2:n.tmod m<m:=Int.tmod_lt_of_pos n (by omega)
  have h3:-m<n.tmod m:=by
   have:=Int.neg_tmod n m
   have h3:=Int.tmod_lt_of_pos (-n) (show 0<m by omega)
   omega
  refine ze hn za rfl qS ?_ ?_<;>intro hc<;>first | (replace hc:=qC2 hc;try exact qX) | exact qF2 hc | skip
  ·refine zf hn za rfl qS ⟨_,rfl,?_⟩
   rw [zV,if_neg (by omega),h1,if_pos (by omega)];rfl
  ·refine zf hn za rfl qS ⟨_,rfl,?_⟩
   rw [zV,if_neg (by omega),h1,if_neg (by omega)];rfl
def zeX (op a b:Int):Int:=if zK a && zK b then (if op=3 then (a+b) % 1000 else if op=4 then (a-b) % 1000 else if op=5∧a<b then 1 else 0) else 0
def over (g:zW) (why:Int):zW:=if why=0 then tell {g with state:=3} ⟨9,0,0,false⟩ else tell {g with state:=4} ⟨10,0,why,false⟩
def za5 (p v:Int):zW:=if decide (0≤p) && zK v then ⟨p,0,[v,0,0,0,0,0],1,[]⟩ else zd
theorem zlJ (n:Int):zV n 1000=n % 1000:=by rw [zV,if_neg (by omega)]
theorem zng (op a b:Int):Con Tryz.prog 253 [.dat (.int .i64 op),.dat (.int .i64 a),.dat (.int .i64 b)] (.dat (.int .i64 (zeX op a b))):=by
 refine zk (rs:=[(.tmp 6,3)]) za Tryz.func253 rfl rfl rfl (Nat.le_of_ble_eq_true rfl) fun ho x hn=>?_
 have hk1:=zfs (a+b) 1000 (by omega)
 have hk2:=zfs (a-b) 1000 (by omega)
 repeat' (first | (refine ze hn za rfl qS ?_ ?_<;>intro hc<;>first | (replace hc:=qC2 hc;try exact qX) | exact qF2 hc | skip) | refine zf hn za rfl qS ⟨_,rfl,?_⟩ | refine qK hn za rfl rfl (by (first | exact zaY _ | assumption)) ?_)
 all_goals ((
 refine congrArg (fun i=>LV.dat (.int .i64 i)) (Eq.symm ?_)
 first
  | (rw [zeX,if_neg (by simp only [zK,Bool.and_eq_true,decide_eq_true_eq] at *;omega)])
  | (rw [zeX,if_pos (by simp only [zK,Bool.and_eq_true,decide_eq_true_eq] at *;omega)]
     try simp only [zlJ]
     repeat' split
     all_goals omega)))
theorem zm9 (op a b:Int):Con Tryz.prog 273 [.dat (.int .i64 op),.dat (.int .i64 a),.dat (.int .i64 b)] (.dat (.int .i64 (zeX op a b))):=by
 refine zk (rs:=[(.tmp 6,3)]) za Tryz.func273 rfl rfl rfl (Nat.le_of_ble_eq_true rfl) fun ho x hn=>?_
 have hk2:=zgJ (a-b) 1000 (by omega)
 repeat' (first | (refine ze hn za rfl qS ?_ ?_<;>intro hc<;>first | (replace hc:=qC2 hc;try exact qX) | exact qF2 hc | skip) | refine zf hn za rfl qS ⟨_,rfl,?_⟩ | refine qK hn za rfl rfl (by (first | exact zan _ | assumption)) ?_)
 all_goals (try ((
 refine congrArg (fun i=>LV.dat (.int .i64 i)) (Eq.symm ?_)
 first
  | (rw [zeX,if_neg (by simp only [zK,Bool.and_eq_true,decide_eq_true_eq] at *;omega)])
  | (rw [zeX,if_pos (by simp only [zK,Bool.and_eq_true,decide_eq_true_eq] at *;omega)]
     try simp only [zlJ]
     repeat' split
     all_goals omega)));done)
 refine zdU hn za rfl ?_ rfl (zop hn rfl rfl rfl rfl rfl ?_ ?_);exact qS;omega
 refine zf hn za rfl qS ⟨_,rfl,?_⟩
 rw [Int.tmod_eq_emod_of_nonneg (by omega)]
 ((
 refine congrArg (fun i=>LV.dat (.int .i64 i)) (Eq.symm ?_)
 first
  | (rw [zeX,if_neg (by simp only [zK,Bool.and_eq_true,decide_eq_true_eq] at *;omega)])
  | (rw [zeX,if_pos (by simp only [zK,Bool.and_eq_true,decide_eq_true_eq] at *;omega)]
     try simp only [zlJ]
     repeat' split
     all_goals omega)))
theorem zbO (g:zW) (why:Int) (h1:g.regs.length≤2199023255551) (h2:g.trace.length≤2199023255551):Con Tryz.prog 251 [.dagg (zH g),.dat (.int .i64 why)] (.dagg (zH (over g why))):=by
 refine zk (rs:=[(.cell 4 172,172)]) za Tryz.func251 rfl rfl rfl (Nat.le_of_ble_eq_true rfl) fun ho x hn=>?_
 have hk1:=zbP {g with state:=3} ⟨9,0,0,false⟩ h1 h2
 have hk2:=zbP {g with state:=4} ⟨10,0,why,false⟩ h1 h2
 repeat' (first | (refine ze hn za rfl qS ?_ ?_<;>intro hc<;>first | (replace hc:=qC2 hc;try exact qX) | exact qF2 hc | skip) | refine zf hn za rfl qS ⟨_,rfl,?_⟩ | refine qK hn za rfl rfl (by assumption) ?_)
 ·rw [over,if_pos hc];rfl
 ·rw [over,if_neg hc];rfl
theorem zce (g:zW) (why:Int) (h1:g.regs.length≤2199023255551) (h2:g.trace.length≤2199023255551):Con Tryz.prog 271 [.dagg (zH g),.dat (.int .i64 why)] (.dagg (zH (over g why))):=by
 refine zk (rs:=[(.cell 4 172,172)]) za Tryz.func271 rfl rfl rfl (Nat.le_of_ble_eq_true rfl) fun ho x hn=>?_
 have hk0:=zeN g (by omega) (by omega)
 have hk1:=zaH {g with state:=3} ⟨9,0,0,false⟩ h1 h2
 have hk2:=zaH {g with state:=4} ⟨10,0,why,false⟩ h1 h2
 repeat' (first | (refine ze hn za rfl qS ?_ ?_<;>intro hc<;>first | (replace hc:=qC2 hc;try exact qX) | exact qF2 hc | skip) | refine zf hn za rfl qS ⟨_,rfl,?_⟩ | refine qK hn za rfl rfl (by assumption) ?_)
 ·rw [over,if_pos hc];rfl
 ·rw [over,if_neg hc];rfl
theorem zhp (p v:Int):Con Tryz.prog 156 [.dat (.int .i64 p),.dat (.int .i64 v)] (.dagg (zH (za5 p v))):=by
 refine zk (rs:=[(.cell 4 172,172)]) za Tryz.func156 rfl rfl rfl (Nat.le_of_ble_eq_true rfl) fun ho x hn=>?_
 repeat' (first | (refine ze hn za rfl qS ?_ ?_<;>intro hc<;>first | (replace hc:=qC2 hc;try exact qX) | exact qF2 hc | skip) | refine zf hn za rfl qS ⟨_,rfl,?_⟩ | refine qK hn za rfl rfl (by (first | exact zaY _ | assumption)) ?_)
 ·rw [za5,if_neg (by simp only [zK,Bool.and_eq_true,decide_eq_true_eq] at *;omega)];rfl
 ·rw [za5,if_neg (by simp only [zK,Bool.and_eq_true,decide_eq_true_eq] at *;omega)];rfl
 ·refine zqY hn za (d:=(0:Int)) iC (0:Int) rfl ?_ rfl rfl rfl rfl rfl rfl rfl rfl ?_ ?_;exact qS
  ·exact ⟨by decide,by decide⟩
  refine zaI hn za v rfl ?_ rfl rfl rfl rfl rfl rfl (Nat.le_of_ble_eq_true rfl) rfl ?_;(first | (exact qS) | decide | (simp only [List.length_replicate,List.length_set];decide))
  refine zf hn za rfl qS ⟨_,rfl,?_⟩
  rw [za5,if_pos (by simp only [zK,Bool.and_eq_true,decide_eq_true_eq] at *;omega)];rfl
theorem zhj (p v:Int):Con Tryz.prog 151 [.dat (.int .i64 p),.dat (.int .i64 v)] (.dagg (zH (za5 p v))):=by
 refine zk (rs:=[(.cell 4 172,172)]) za Tryz.func151 rfl rfl rfl (Nat.le_of_ble_eq_true rfl) fun ho x hn=>?_
 repeat' (first | (refine ze hn za rfl qS ?_ ?_<;>intro hc<;>first | (replace hc:=qC2 hc;try exact qX) | exact qF2 hc | skip) | refine zf hn za rfl qS ⟨_,rfl,?_⟩ | refine qK hn za rfl rfl (by (first | exact zan _ | assumption)) ?_)
 ·rw [za5,if_neg (by simp only [zK,Bool.and_eq_true,decide_eq_true_eq] at *;omega)];rfl
 ·rw [za5,if_neg (by simp only [zK,Bool.and_eq_true,decide_eq_true_eq] at *;omega)];rfl
 ·refine zqY hn za (d:=(0:Int)) iC (0:Int) rfl ?_ rfl rfl rfl rfl rfl rfl rfl rfl ?_ ?_;exact qS
  ·exact ⟨by decide,by decide⟩
  refine zaI hn za v rfl ?_ rfl rfl rfl rfl rfl rfl (Nat.le_of_ble_eq_true rfl) rfl ?_;(first | (exact qS) | decide | (simp only [List.length_replicate,List.length_set];decide))
  refine zf hn za rfl qS ⟨_,rfl,?_⟩
  rw [za5,if_pos (by simp only [zK,Bool.and_eq_true,decide_eq_true_eq] at *;omega)];rfl
open Go.RowKit
set_option linter.unusedVariables false
set_option linter.unusedSimpArgs false
set_option maxRecDepth 100000
def zdR (c:zY) (n:Nat):Prop:=c.buf.length≤n∧c.sends.length≤n∧c.recvs.length≤n
def zqy (c:zY) (l:LV):LV:=.lagg [.dat (.int .i64 c.cap),l,.dat (zB c.sends),.dat (zB c.recvs),.dat (.bool c.closed)]
theorem zjy (c:zY) (h:zdR c 2199023255552):Con Tryz.prog 212 [.dagg (zae c)] (.dagg (zae c)):=by
 refine zk (rs:=[(.cell 2 191,191)]) za Tryz.func212 rfl rfl rfl (Nat.le_of_ble_eq_true rfl) fun ho x hn=>?_
 have hk1:=zeR c.buf h.1
 have hk2:=zdG c.sends h.2.1
 have hk3:=zdG c.recvs h.2.2
 refine qK hn za rfl rfl (by assumption) ?_
 refine qK hn za rfl rfl (by assumption) ?_
 refine qK hn za rfl rfl (by assumption) ?_
 refine zf hn za rfl qS ⟨_,rfl,?_⟩
 rfl
set_option maxHeartbeats 1000000 in
theorem zgB (c:zY) (h:zdR c 2199023255552):Ct Tryz.prog 212 [.dagg (zae c)] [] (zlu (zqy c) 501 3 1 (0:Int) iC c.buf):=by
 refine zD (rs:=[(.cell 2 191,191)]) za Tryz.func212 rfl rfl rfl (Nat.le_of_ble_eq_true rfl) rfl fun ho hm x hn hlent=>?_
 have hk2:=zdG c.sends h.2.1
 have hk3:=zdG c.recvs h.2.2
 refine zgi hn za 200 [false] (zda c.buf h.1) rfl ?_ rfl rfl rfl rfl rfl ?_ ?_
 ·exact qS
 ·refine qK hn za rfl rfl (by assumption) ?_
  refine qK hn za rfl rfl (by assumption) ?_
  refine zf hn za rfl ?_ ⟨_,(zqy c) (.own 501),[(501,some (.row 3 1 (0:Int) iC c.buf))],[(501,200)],rfl,rfl,⟨?_,trivial⟩,rfl,rfl,rfl,.inl ⟨rfl,rfl⟩⟩;exact qS
  rfl
 ·intro hx
  refine qK hn za rfl rfl (by assumption) ?_
  refine qK hn za rfl rfl (by assumption) ?_
  refine zf hn za rfl ?_ ⟨_,(zqy c) (.nil (.sl 1 (0:Int) iC [])),[],[],rfl,rfl,trivial,rfl,rfl,rfl,.inr ⟨?_,rfl,rfl⟩⟩;exact qS
  exact hx
def zo0 (c:zY):LV:=.lagg [.dat (.int .i64 c.cap),.own 501,.own 502,.own 503,.dat (.bool c.closed)]
def zkf (c:zY):Ml:=[(501,some (.row 3 1 (0:Int) iC c.buf)),(502,some (.row 197 3 zi z5 c.sends)),(503,some (.row 197 3 zi z5 c.recvs))]
theorem ze7 (c:zY) (h:zdR c 2199023255552):Ct Tryz.prog 206 [.dagg (zae c)] [] (zag (zo0 c) (zkf c)):=by
 obtain ⟨h1,h2,h3⟩:=h
 refine zD (rs:=[(.cell 2 191,191)]) za Tryz.func206 rfl rfl rfl (Nat.le_of_ble_eq_true rfl) rfl fun ho hm x hn hlent=>?_
 refine zT hn za (0:Int) iC ([]:List Int) rfl ?_ rfl rfl rfl rfl rfl rfl rfl rfl rfl ?_;exact qS
 refine zas hn za c.buf rfl ?_ rfl rfl rfl rfl rfl rfl rfl rfl ?_ ?_;exact qS
 ·show (0+c.buf.length)*8≤_;omega
 refine zT hn za zi z5 ([]:List zo) rfl ?_ rfl rfl rfl rfl rfl rfl rfl rfl rfl ?_;exact qS
 refine zas hn za c.sends rfl ?_ rfl rfl rfl rfl rfl rfl rfl rfl ?_ ?_;exact qS
 ·show (0+c.sends.length)*24≤_;omega
 refine zT hn za zi z5 ([]:List zo) rfl ?_ rfl rfl rfl rfl rfl rfl rfl rfl rfl ?_;exact qS
 refine zas hn za c.recvs rfl ?_ rfl rfl rfl rfl rfl rfl rfl rfl ?_ ?_;exact qS
 ·show (0+c.recvs.length)*24≤_;omega
 refine zf hn za rfl ?_ ⟨_,zo0 c,zkf c,[(501,6),(502,11),(503,16)],rfl,rfl,⟨?_,?_,?_,trivial⟩,rfl,rfl,rfl,rfl,rfl⟩
 ·exact qS
 ·rfl
 ·rfl
 ·rfl
theorem zgk (c:zY) (h:zdR c 2199023255552):Con Tryz.prog 206 [.dagg (zae c)] (.dagg (zae c)):=by
 obtain ⟨h1,h2,h3⟩:=h
 refine zk (rs:=[(.cell 2 191,191)]) za Tryz.func206 rfl rfl rfl (Nat.le_of_ble_eq_true rfl) fun ho x hn=>?_
 refine zT hn za (0:Int) iC ([]:List Int) rfl ?_ rfl rfl rfl rfl rfl rfl rfl rfl rfl ?_;exact qS
 refine zas hn za c.buf rfl ?_ rfl rfl rfl rfl rfl rfl rfl rfl ?_ ?_;exact qS
 ·show (0+c.buf.length)*8≤_;omega
 refine zT hn za zi z5 ([]:List zo) rfl ?_ rfl rfl rfl rfl rfl rfl rfl rfl rfl ?_;exact qS
 refine zas hn za c.sends rfl ?_ rfl rfl rfl rfl rfl rfl rfl rfl ?_ ?_;exact qS
 ·show (0+c.sends.length)*24≤_;omega
 refine zT hn za zi z5 ([]:List zo) rfl ?_ rfl rfl rfl rfl rfl rfl rfl rfl rfl ?_;exact qS
 refine zas hn za c.recvs rfl ?_ rfl rfl rfl rfl rfl rfl rfl rfl ?_ ?_;exact qS
 ·show (0+c.recvs.length)*24≤_;omega
 refine zf hn za rfl qS ⟨_,rfl,?_⟩
 rfl
def zcD (c:zY):zY×List zo×List zo×Int:=if !chanOk c then (zg,[],[],1) else if c.closed then (zg,[],[],2) else ({c with recvs:=[],sends:=[],closed:=true},c.recvs,c.sends,0)
def zpf:zY×List zo×List zo×Int→LV
 | (c,r,s,k)=>.tup [.dagg (zae c),.dat (zB r),.dat (zB s),.dat (.int .i64 k)]
theorem zkr (c:zY) (h:zdR c 2199023255552):Con Tryz.prog 299 [.dagg (zae c)] (zpf (zcD c)):=by
 refine zk (rs:=[(.cell 2 191,191),(.tmp 3,189),(.tmp 4,189),(.tmp 5,3)]) za Tryz.func299 rfl rfl rfl (Nat.le_of_ble_eq_true rfl) fun ho x hn=>?_
 have hk:=zgk c h
 repeat' (first | (refine ze hn za rfl qS ?_ ?_<;>intro hc<;>first | (replace hc:=qC2 hc;try exact qX) | exact qF2 hc | skip) | refine zf hn za rfl qS ⟨_,rfl,?_⟩ | refine qK hn za rfl rfl (by (first | exact zai _ | assumption)) ?_)
 ·rw [zcD,if_pos (by rw [hc];rfl)];rfl
 ·rw [zcD,if_neg (by simp [*]),if_pos hc];rfl
 ·rw [zcD,if_neg (by simp [*]),if_neg (by simp [*])];rfl
theorem zkl (c:zY) (h:zdR c 2199023255552):Con Tryz.prog 289 [.dagg (zae c)] (zpf (zcD c)):=by
 refine zk (rs:=[(.cell 2 191,191),(.tmp 3,189),(.tmp 4,189),(.tmp 5,3)]) za Tryz.func289 rfl rfl rfl (Nat.le_of_ble_eq_true rfl) fun ho x hn=>?_
 have hk:=zjy c h
 repeat' (first | (refine ze hn za rfl qS ?_ ?_<;>intro hc<;>first | (replace hc:=qC2 hc;try exact qX) | exact qF2 hc | skip) | refine zf hn za rfl qS ⟨_,rfl,?_⟩ | refine qK hn za rfl rfl (by (first | exact zU _ | assumption)) ?_)
 ·rw [zcD,if_pos (by rw [hc];rfl)];rfl
 ·rw [zcD,if_neg (by simp [*]),if_pos hc];rfl
 ·refine qD hn za zu [] rfl rfl ?_ ?_
  ·(try refine qM ?_);repeat' (first | exact trivial | (first | exact zU _ | assumption) | assumption | omega | exact qV | refine And.intro ?_ ?_)
  refine zf hn za rfl qS ⟨_,rfl,?_⟩
  rw [zcD,if_neg (by simp [*]),if_neg (by simp [*])];rfl
def zcn (c:zY) (v:Int):zY×zo×Int:=if !(chanOk c && zK v) then (zg,zi,1) else if c.closed then (zg,zi,2) else if !zeB c then (zg,zi,3) else if 0<c.recvs.length then ({c with recvs:=c.recvs.drop 1},c.recvs.getD 0 zi,0) else ({c with buf:=c.buf++[v]},⟨-1,0,0⟩,0)
def zvb:zY×zo×Int→LV
 | (c,w,k)=>.tup [.dagg (zae c),.dagg (z5 w),.dat (.int .i64 k)]
set_option maxHeartbeats 1000000 in
theorem zk9 (c:zY) (v:Int) (h:zdR c 2199023255551):Con Tryz.prog 284 [.dagg (zae c),.dat (.int .i64 v)] (zvb (zcn c v)):=by
 obtain ⟨h1,h2,h3⟩:=h
 refine zk (rs:=[(.cell 4 191,191),(.cell 5 197,197),(.tmp 6,3)]) za Tryz.func284 rfl rfl rfl (Nat.le_of_ble_eq_true rfl) fun ho x hn=>?_
 repeat' (first | (refine ze hn za rfl qS ?_ ?_<;>intro hc<;>first | (replace hc:=qC2 hc;try exact qX) | exact qF2 hc | skip) | refine zf hn za rfl qS ⟨_,rfl,?_⟩ | refine qK hn za rfl rfl (by (first | exact zdO _ | exact zU _ | exact zaY _ | assumption)) ?_)
 ·rw [zcn,if_pos (by simp [*])];rfl
 ·rw [zcn,if_pos (by rw [show zK v=false from decide_eq_false hc,Bool.and_false];rfl)];rfl
 ·rw [zcn,if_neg (by simp [zK, *]),if_pos hc];rfl
 ·rw [zcn,if_neg (by simp [zK, *]),if_neg (by simp [*]),if_pos (by simp [*])];rfl
 refine zg2 hn za [false] (zgB c ⟨by omega,by omega,by omega⟩) rfl ?_ rfl rfl rfl rfl rfl ?_ ?_ ?_ ?_
 ·exact qS
 ·intro i hi
  simp [zqy,LV.on,LV.on2,LV.on1] at hi
  omega
 ·intro i hi
  simp [zqy,LV.on,LV.on2,LV.on1] at hi
 ·refine ze hn za rfl qS ?_ ?_<;>intro hc<;>first | (replace hc:=qC2 hc;try exact qX) | exact qF2 hc | skip
  ·refine zgN hn za 1 c.recvs.length rfl ?_ rfl rfl rfl rfl rfl ?_ ?_ ?_ ?_ ?_;exact qS;(first | exact .inl ⟨rfl,rfl⟩ | exact Bnd.some .i64 rfl);(first | exact .inl ⟨rfl,rfl⟩ | exact Bnd.some .i64 rfl);(first | exact Nat.zero_le _ | omega);(first | exact Nat.le_refl _ | omega)
   refine qD hn za zu [] rfl rfl ?_ ?_
   ·(try refine qM ?_);repeat' (first | exact trivial | (first | exact zdO _ | exact zU _ | exact zaY _ | assumption) | assumption | omega | exact qV | refine And.intro ?_ ?_)
   refine zf hn za rfl qS ⟨_,rfl,?_⟩
   rw [zcn,if_neg (by simp [zK, *]),if_neg (by simp [*]),if_neg (by simp [*]),if_pos (by omega),List.take_length];rfl
  ·refine zT hn za (0:Int) iC [v] rfl ?_ rfl rfl rfl rfl rfl rfl rfl rfl rfl ?_;exact qS
   refine zas hn za [v] rfl ?_ rfl rfl rfl rfl rfl rfl rfl rfl ?_ ?_;exact qS
   ·show (c.buf.length+1)*8≤_;omega
   refine zf hn za rfl qS ⟨_,rfl,?_⟩
   rw [zcn,if_neg (by simp [zK, *]),if_neg (by simp [*]),if_neg (by simp [*]),if_neg (by omega)];rfl
 ·intro hx
  refine ze hn za rfl qS ?_ ?_<;>intro hc<;>first | (replace hc:=qC2 hc;try exact qX) | exact qF2 hc | skip
  ·refine zgN hn za 1 c.recvs.length rfl ?_ rfl rfl rfl rfl rfl ?_ ?_ ?_ ?_ ?_;exact qS;(first | exact .inl ⟨rfl,rfl⟩ | exact Bnd.some .i64 rfl);(first | exact .inl ⟨rfl,rfl⟩ | exact Bnd.some .i64 rfl);(first | exact Nat.zero_le _ | omega);(first | exact Nat.le_refl _ | omega)
   refine qD hn za zu [] rfl rfl ?_ ?_
   ·(try refine qM ?_);repeat' (first | exact trivial | (first | exact zdO _ | exact zU _ | exact zaY _ | assumption) | assumption | omega | exact qV | refine And.intro ?_ ?_)
   refine zf hn za rfl qS ⟨_,rfl,?_⟩
   rw [zcn,if_neg (by simp [zK, *]),if_neg (by simp [*]),if_neg (by simp [*]),if_pos (by omega),List.take_length]
   show LV.tup [.dagg [_,zbc [],_,_,_],_,_]=LV.tup [.dagg [_,zbc c.buf,_,_,_],_,_]
   rw [hx];rfl
  ·refine zT hn za (0:Int) iC [v] rfl ?_ rfl rfl rfl rfl rfl rfl rfl rfl rfl ?_;exact qS
   refine zi6 hn za [v] rfl ?_ (.inr rfl) rfl rfl rfl rfl rfl rfl rfl (Nat.le_of_ble_eq_true rfl) (Nat.le_of_ble_eq_true rfl) ?_;exact qS
   refine zf hn za rfl qS ⟨_,rfl,?_⟩
   rw [zcn,if_neg (by simp [zK, *]),if_neg (by simp [*]),if_neg (by simp [*]),if_neg (by omega),hx];rfl
theorem zc6:Con Tryz.prog 304 [] (.dagg (z5 ⟨-1,0,0⟩)):=by
 refine zk (rs:=[(.cell 0 197,197)]) za Tryz.func304 rfl rfl rfl (Nat.le_of_ble_eq_true rfl) fun ho x hn=>?_
 repeat' (first | (refine ze hn za rfl qS ?_ ?_<;>intro hc<;>first | (replace hc:=qC2 hc;try exact qX) | exact qF2 hc | skip) | refine zf hn za rfl qS ⟨_,rfl,?_⟩ | refine qK hn za rfl rfl (by assumption) ?_)
 rfl
theorem zv3 (c:zY):∀ i,(zo0 c).on i→(mm (zkf c) i).isSome=true:=by
 intro i hi
 simp [zo0,LV.on,LV.on2,LV.on1] at hi
 rcases hi with rfl | rfl | rfl<;>rfl
set_option maxHeartbeats 1000000 in
theorem zkZ (c:zY) (v:Int) (h:zdR c 2199023255551):Con Tryz.prog 295 [.dagg (zae c),.dat (.int .i64 v)] (zvb (zcn c v)):=by
 obtain ⟨h1,h2,h3⟩:=h
 refine zk (rs:=[(.cell 4 191,191),(.cell 5 197,197),(.tmp 6,3)]) za Tryz.func295 rfl rfl rfl (Nat.le_of_ble_eq_true rfl) fun ho x hn=>?_
 repeat' (first | (refine ze hn za rfl qS ?_ ?_<;>intro hc<;>first | (replace hc:=qC2 hc;try exact qX) | exact qF2 hc | skip) | refine zf hn za rfl qS ⟨_,rfl,?_⟩ | refine qK hn za rfl rfl (by (first | exact zc6 | exact zdH _ | exact zai _ | exact zan _ | assumption)) ?_)
 ·rw [zcn,if_pos (by simp [*])];rfl
 ·rw [zcn,if_pos (by rw [show zK v=false from decide_eq_false hc,Bool.and_false];rfl)];rfl
 ·rw [zcn,if_neg (by simp [zK, *]),if_pos hc];rfl
 ·rw [zcn,if_neg (by simp [zK, *]),if_neg (by simp [*]),if_pos (by simp [*])];rfl
 refine ziS hn za [false] (ze7 c ⟨by omega,by omega,by omega⟩) rfl ?_ rfl rfl rfl rfl rfl (zv3 c) ?_
 ·exact qS
 refine ze hn za rfl qS ?_ ?_<;>intro hc<;>first | (replace hc:=qC2 hc;try exact qX) | exact qF2 hc | skip
 ·refine zg4 hn za 1 c.recvs.length rfl ?_ rfl rfl rfl rfl rfl rfl rfl rfl ?_ ?_ ?_ ?_ ?_;exact qS;(first | exact .inl ⟨rfl,rfl⟩ | exact Bnd.some .i64 rfl);(first | exact .inl ⟨rfl,rfl⟩ | exact Bnd.some .i64 rfl);(first | exact Nat.zero_le _ | omega);(first | exact Nat.le_refl _ | omega)
  refine qD hn za zu [] rfl rfl ?_ ?_
  ·(try refine qM ?_);repeat' (first | exact trivial | (first | exact zc6 | exact zdH _ | exact zai _ | exact zan _ | assumption) | assumption | omega | exact qV | refine And.intro ?_ ?_)
  refine zf hn za rfl qS ⟨_,rfl,?_⟩
  rw [zcn,if_neg (by simp [zK, *]),if_neg (by simp [*]),if_neg (by simp [*]),if_pos (by omega),List.take_length];rfl
 ·refine zT hn za (0:Int) iC [v] rfl ?_ rfl rfl rfl rfl rfl rfl rfl rfl rfl ?_;exact qS
  refine zas hn za [v] rfl ?_ rfl rfl rfl rfl rfl rfl rfl rfl ?_ ?_;exact qS
  ·show (c.buf.length+1)*8≤_;omega
  refine qD hn za zu [.r (.dagg (z5 ⟨-1,0,0⟩))] rfl rfl ?_ ?_
  ·(try refine qM ?_);repeat' (first | exact trivial | (first | exact zc6 | exact zdH _ | exact zai _ | exact zan _ | assumption) | assumption | omega | exact qV | refine And.intro ?_ ?_)
  refine zf hn za rfl qS ⟨_,rfl,?_⟩
  rw [zcn,if_neg (by simp [zK, *]),if_neg (by simp [*]),if_neg (by simp [*]),if_neg (by omega)];rfl
theorem zsZ {α:Type} (l:List α) (a:α) (h:0<l.length):(l++[a]).drop 1=l.drop 1++[a]:=by cases l with
 | nil=>cases h
 | cons b l=>rfl
theorem ztv {α:Type} {d:α} (l:List α) (a:α) (h:0<l.length):(l++[a]).getD 0 d=l.getD 0 d:=by cases l with
 | nil=>cases h
 | cons b l=>rfl
def recvW (c:zY):zo:=if 0<c.sends.length then c.sends.getD 0 zi else ⟨-1,0,0⟩
def zdB (c:zY):List Int:=if 0<c.sends.length then c.buf++[(c.sends.getD 0 zi).val] else c.buf
def za7 (c:zY):zY×Int×Bool×zo×Int:=if !chanOk c then (zg,0,false,zi,1) else if !zet c then (zg,0,false,zi,3) else if (zdB c).length=0 then ({c with sends:=c.sends.drop 1},0,false,recvW c,0) else ({c with sends:=c.sends.drop 1,buf:=(zdB c).drop 1},(zdB c).getD 0 0,true,recvW c,0)
def zuZ:zY×Int×Bool×zo×Int→LV
 | (c,v,b,w,k)=>.tup [.dagg (zae c),.dat (.int .i64 v),.dat (.bool b),.dagg (z5 w),.dat (.int .i64 k)]
set_option maxHeartbeats 1000000 in
theorem zjO (c:zY) (h:zdR c 2199023255551):Con Tryz.prog 297 [.dagg (zae c)] (zuZ (za7 c)):=by
 obtain ⟨h1,h2,h3⟩:=h
 refine zk (rs:=[(.cell 2 191,191),(.tmp 3,3),(.tmp 4,4),(.cell 5 197,197),(.tmp 6,3)]) za Tryz.func297 rfl rfl rfl (Nat.le_of_ble_eq_true rfl) fun ho x hn=>?_
 repeat' (first | (refine ze hn za rfl qS ?_ ?_<;>intro hc<;>first | (replace hc:=qC2 hc;try exact qX) | exact qF2 hc | skip) | refine zf hn za rfl qS ⟨_,rfl,?_⟩ | refine qK hn za rfl rfl (by (first | exact zc6 | exact zct _ | exact zai _ | assumption)) ?_)
 ·rw [za7,if_pos (by simp [*])];rfl
 ·rw [za7,if_neg (by simp [*]),if_pos (by simp [*])];rfl
 refine ziS hn za [false] (ze7 c ⟨by omega,by omega,by omega⟩) rfl ?_ rfl rfl rfl rfl rfl (zv3 c) ?_
 ·exact qS
 refine qK hn za rfl rfl (by (first | exact zc6 | exact zct _ | exact zai _ | assumption)) ?_
 refine ze hn za rfl qS ?_ ?_<;>intro hc<;>first | (replace hc:=qC2 hc;try exact qX) | exact qF2 hc | skip
 ·refine zg4 hn za 1 c.sends.length rfl ?_ rfl rfl rfl rfl rfl rfl rfl rfl ?_ ?_ ?_ ?_ ?_;exact qS;(first | exact .inl ⟨rfl,rfl⟩ | exact Bnd.some .i64 rfl);(first | exact .inl ⟨rfl,rfl⟩ | exact Bnd.some .i64 rfl);(first | exact Nat.zero_le _ | omega);(first | exact Nat.le_refl _ | omega)
  refine zT hn za (0:Int) iC [(c.sends.getD 0 zi).val] rfl ?_ rfl rfl rfl rfl rfl rfl rfl rfl rfl ?_;exact qS
  refine zas hn za [(c.sends.getD 0 zi).val] rfl ?_ rfl rfl rfl rfl rfl rfl rfl rfl ?_ ?_;exact qS
  ·show (c.buf.length+1)*8≤_;omega
  have hw:recvW c=c.sends.getD 0 zi:=if_pos (by omega)
  have hb:zdB c=c.buf++[(c.sends.getD 0 zi).val]:=if_pos (by omega)
  refine ze hn za rfl qS ?_ ?_<;>intro hc<;>first | (replace hc:=qC2 hc;try exact qX) | exact qF2 hc | skip
  ·exfalso
   simp only [List.length_append,List.length_cons,List.length_nil] at hc
   omega
  ·refine zg4 hn za 1 (c.buf++[(c.sends.getD 0 zi).val]).length rfl ?_ rfl rfl rfl rfl rfl rfl rfl rfl ?_ ?_ ?_ ?_ ?_;exact qS;(first | exact .inl ⟨rfl,rfl⟩ | exact Bnd.some .i64 rfl);(first | exact .inl ⟨rfl,rfl⟩ | exact Bnd.some .i64 rfl);(first | exact Nat.zero_le _ | omega);(first | exact Nat.le_refl _ | omega)
   refine qD hn za zu [] rfl rfl ?_ ?_
   ·(try refine qM ?_);repeat' (first | exact trivial | (first | exact zc6 | exact zct _ | exact zai _ | assumption) | assumption | omega | exact qV | refine And.intro ?_ ?_)
   refine zf hn za rfl qS ⟨_,rfl,?_⟩
   rw [za7,if_neg (by simp [*]),if_neg (by simp [*]),if_neg (by rw [hb];simp),List.take_length,List.take_length,hw,hb]
   rfl
 ·have hw:recvW c=⟨-1,0,0⟩:=if_neg (by omega)
  have hb:zdB c=c.buf:=if_neg (by omega)
  have hs0:c.sends=[]:=List.length_eq_zero_iff.1 (by omega)
  refine ze hn za rfl qS ?_ ?_<;>intro hc<;>first | (replace hc:=qC2 hc;try exact qX) | exact qF2 hc | skip
  ·refine qD hn za zu [] rfl rfl ?_ ?_
   ·(try refine qM ?_);repeat' (first | exact trivial | (first | exact zc6 | exact zct _ | exact zai _ | assumption) | assumption | omega | exact qV | refine And.intro ?_ ?_)
   refine zf hn za rfl qS ⟨_,rfl,?_⟩
   rw [za7,if_neg (by simp [*]),if_neg (by simp [*]),if_pos (by rw [hb];omega),hw,hs0]
   rfl
  ·refine zg4 hn za 1 c.buf.length rfl ?_ rfl rfl rfl rfl rfl rfl rfl rfl ?_ ?_ ?_ ?_ ?_;exact qS;(first | exact .inl ⟨rfl,rfl⟩ | exact Bnd.some .i64 rfl);(first | exact .inl ⟨rfl,rfl⟩ | exact Bnd.some .i64 rfl);(first | exact Nat.zero_le _ | omega);(first | exact Nat.le_refl _ | omega)
   refine qD hn za zu [] rfl rfl ?_ ?_
   ·(try refine qM ?_);repeat' (first | exact trivial | (first | exact zc6 | exact zct _ | exact zai _ | assumption) | assumption | omega | exact qV | refine And.intro ?_ ?_)
   refine zf hn za rfl qS ⟨_,rfl,?_⟩
   rw [za7,if_neg (by simp [*]),if_neg (by simp [*]),if_neg (by rw [hb];omega),List.take_length,hw,hb,hs0]
   rfl
set_option maxHeartbeats 2000000 in
theorem zi0 (c:zY) (h:zdR c 2199023255551):Con Tryz.prog 286 [.dagg (zae c)] (zuZ (za7 c)):=by
 obtain ⟨h1,h2,h3⟩:=h
 refine zk (rs:=[(.cell 2 191,191),(.tmp 3,3),(.tmp 4,4),(.cell 5 197,197),(.tmp 6,3)]) za Tryz.func286 rfl rfl rfl (Nat.le_of_ble_eq_true rfl) fun ho x hn=>?_
 repeat' (first | (refine ze hn za rfl qS ?_ ?_<;>intro hc<;>first | (replace hc:=qC2 hc;try exact qX) | exact qF2 hc | skip) | refine zf hn za rfl qS ⟨_,rfl,?_⟩ | refine qK hn za rfl rfl (by (first | exact zbK _ | exact zU _ | assumption)) ?_)
 ·rw [za7,if_pos (by simp [*])];rfl
 ·rw [za7,if_neg (by simp [*]),if_pos (by simp [*])];rfl
 have hwok:0<c.sends.length→0≤(c.sends.getD 0 zi).g:=fun hp=>by
  have hok:chanOk c=true:=by assumption
  simp only [chanOk,Bool.and_eq_true] at hok
  have h0:=List.all_eq_true.1 hok.2.2.1 _ (List.getElem_mem hp)
  have h1:c.sends.getD 0 zi=c.sends[0]:=by rw [List.getD_eq_getElem?_getD,List.getElem?_eq_getElem hp];rfl
  rw [← h1] at h0
  simp only [zaU,Bool.and_eq_true,decide_eq_true_eq] at h0
  omega
 refine zg2 hn za [false] (zgB c ⟨by omega,by omega,by omega⟩) rfl ?_ rfl rfl rfl rfl rfl ?_ ?_ ?_ ?_
 ·exact qS
 ·intro i hi
  simp [zqy,LV.on,LV.on2,LV.on1] at hi
  omega
 ·intro i hi
  simp [zqy,LV.on,LV.on2,LV.on1] at hi
 ·refine ze hn za rfl qS ?_ ?_<;>intro hc<;>first | (replace hc:=qC2 hc;try exact qX) | exact qF2 hc | skip
  ·have hw:recvW c=c.sends.getD 0 zi:=if_pos (by omega)
   have hb:zdB c=c.buf++[(c.sends.getD 0 zi).val]:=if_pos (by omega)
   have hg:0≤(c.sends.getD (Int.toNat 0) zi).g:=hwok (by omega)
   refine zgN hn za 1 c.sends.length rfl ?_ rfl rfl rfl rfl rfl ?_ ?_ ?_ ?_ ?_;exact qS;(first | exact .inl ⟨rfl,rfl⟩ | exact Bnd.some .i64 rfl);(first | exact .inl ⟨rfl,rfl⟩ | exact Bnd.some .i64 rfl);(first | exact Nat.zero_le _ | omega);(first | exact Nat.le_refl _ | omega)
   refine ze hn za rfl qS ?_ ?_<;>intro hc<;>first | (replace hc:=qC2 hc;try exact qX) | exact qF2 hc | skip
   ·refine zg4 hn za 1 c.buf.length rfl ?_ rfl rfl rfl rfl rfl rfl rfl rfl ?_ ?_ ?_ ?_ ?_;exact qS;(first | exact .inl ⟨rfl,rfl⟩ | exact Bnd.some .i64 rfl);(first | exact .inl ⟨rfl,rfl⟩ | exact Bnd.some .i64 rfl);(first | exact Nat.zero_le _ | omega);(first | exact Nat.le_refl _ | omega)
    refine ze hn za rfl qS ?_ ?_<;>intro hc<;>first | (replace hc:=qC2 hc;try exact qX) | exact qF2 hc | skip
    refine zT hn za (0:Int) iC [(c.sends.getD 0 zi).val] rfl ?_ rfl rfl rfl rfl rfl rfl rfl rfl rfl ?_;exact qS
    refine zas hn za [(c.sends.getD 0 zi).val] rfl ?_ rfl rfl rfl rfl rfl rfl rfl rfl ?_ ?_;exact qS
    ·show (((c.buf.take c.buf.length).drop 1).length+1)*8≤_
     rw [List.take_length,List.length_drop];omega
    refine qD hn za zu [] rfl rfl ?_ ?_
    ·(try refine qM ?_);repeat' (first | exact trivial | (first | exact zbK _ | exact zU _ | assumption) | assumption | omega | exact qV | refine And.intro ?_ ?_)
    refine zf hn za rfl qS ⟨_,rfl,?_⟩
    rw [za7,if_neg (by simp [*]),if_neg (by simp [*]),if_neg (by rw [hb];simp),List.take_length,List.take_length,hw,hb,zsZ _ _ (by omega),ztv _ _ (by omega)]
    rfl
   ·refine ze hn za rfl qS ?_ ?_<;>intro hc<;>first | (replace hc:=qC2 hc;try exact qX) | exact qF2 hc | skip
    refine qD hn za zu [] rfl rfl ?_ ?_
    ·(try refine qM ?_);repeat' (first | exact trivial | (first | exact zbK _ | exact zU _ | assumption) | assumption | omega | exact qV | refine And.intro ?_ ?_)
    refine zf hn za rfl qS ⟨_,rfl,?_⟩
    have hx:c.buf=[]:=List.length_eq_zero_iff.1 (by omega)
    rw [za7,if_neg (by simp [*]),if_neg (by simp [*]),if_neg (by rw [hb];simp),List.take_length,hw,hb]
    show LV.tup [.dagg [_,zbc c.buf,_,_,_],_,_,_,_]=_
    rw [hx];rfl
  ·have hw:recvW c=⟨-1,0,0⟩:=if_neg (by omega)
   have hb:zdB c=c.buf:=if_neg (by omega)
   have hs0:c.sends=[]:=List.length_eq_zero_iff.1 (by omega)
   refine ze hn za rfl qS ?_ ?_<;>intro hc<;>first | (replace hc:=qC2 hc;try exact qX) | exact qF2 hc | skip
   ·refine zg4 hn za 1 c.buf.length rfl ?_ rfl rfl rfl rfl rfl rfl rfl rfl ?_ ?_ ?_ ?_ ?_;exact qS;(first | exact .inl ⟨rfl,rfl⟩ | exact Bnd.some .i64 rfl);(first | exact .inl ⟨rfl,rfl⟩ | exact Bnd.some .i64 rfl);(first | exact Nat.zero_le _ | omega);(first | exact Nat.le_refl _ | omega)
    refine ze hn za rfl qS ?_ ?_<;>intro hc<;>first | (replace hc:=qC2 hc;try exact qX) | exact qF2 hc | skip
    refine qD hn za zu [] rfl rfl ?_ ?_
    ·(try refine qM ?_);repeat' (first | exact trivial | (first | exact zbK _ | exact zU _ | assumption) | assumption | omega | exact qV | refine And.intro ?_ ?_)
    refine zf hn za rfl qS ⟨_,rfl,?_⟩
    rw [za7,if_neg (by simp [*]),if_neg (by simp [*]),if_neg (by rw [hb];omega),List.take_length,hw,hb,hs0]
    rfl
   ·refine ze hn za rfl qS ?_ ?_<;>intro hc<;>first | (replace hc:=qC2 hc;try exact qX) | exact qF2 hc | skip
    refine qD hn za zu [] rfl rfl ?_ ?_
    ·(try refine qM ?_);repeat' (first | exact trivial | (first | exact zbK _ | exact zU _ | assumption) | assumption | omega | exact qV | refine And.intro ?_ ?_)
    refine zf hn za rfl qS ⟨_,rfl,?_⟩
    rw [za7,if_neg (by simp [*]),if_neg (by simp [*]),if_pos (by rw [hb];omega),hw,hs0]
    rfl
 ·intro hx
  refine ze hn za rfl qS ?_ ?_<;>intro hc<;>first | (replace hc:=qC2 hc;try exact qX) | exact qF2 hc | skip
  ·have hw:recvW c=c.sends.getD 0 zi:=if_pos (by omega)
   have hb:zdB c=c.buf++[(c.sends.getD 0 zi).val]:=if_pos (by omega)
   have hg:0≤(c.sends.getD (Int.toNat 0) zi).g:=hwok (by omega)
   refine zgN hn za 1 c.sends.length rfl ?_ rfl rfl rfl rfl rfl ?_ ?_ ?_ ?_ ?_;exact qS;(first | exact .inl ⟨rfl,rfl⟩ | exact Bnd.some .i64 rfl);(first | exact .inl ⟨rfl,rfl⟩ | exact Bnd.some .i64 rfl);(first | exact Nat.zero_le _ | omega);(first | exact Nat.le_refl _ | omega)
   refine ze hn za rfl qS ?_ ?_<;>intro hc<;>first | (replace hc:=qC2 hc;try exact qX) | exact qF2 hc | skip
   refine ze hn za rfl qS ?_ ?_<;>intro hc<;>first | (replace hc:=qC2 hc;try exact qX) | exact qF2 hc | skip
   refine qD hn za zu [] rfl rfl ?_ ?_
   ·(try refine qM ?_);repeat' (first | exact trivial | (first | exact zbK _ | exact zU _ | assumption) | assumption | omega | exact qV | refine And.intro ?_ ?_)
   refine zf hn za rfl qS ⟨_,rfl,?_⟩
   rw [za7,if_neg (by simp [*]),if_neg (by simp [*]),if_neg (by rw [hb];simp),List.take_length,hw,hb,hx]
   rfl
  ·have hw:recvW c=⟨-1,0,0⟩:=if_neg (by omega)
   have hb:zdB c=c.buf:=if_neg (by omega)
   have hs0:c.sends=[]:=List.length_eq_zero_iff.1 (by omega)
   refine ze hn za rfl qS ?_ ?_<;>intro hc<;>first | (replace hc:=qC2 hc;try exact qX) | exact qF2 hc | skip
   refine ze hn za rfl qS ?_ ?_<;>intro hc<;>first | (replace hc:=qC2 hc;try exact qX) | exact qF2 hc | skip
   refine qD hn za zu [] rfl rfl ?_ ?_
   ·(try refine qM ?_);repeat' (first | exact trivial | (first | exact zbK _ | exact zU _ | assumption) | assumption | omega | exact qV | refine And.intro ?_ ?_)
   refine zf hn za rfl qS ⟨_,rfl,?_⟩
   rw [za7,if_neg (by simp [*]),if_neg (by simp [*]),if_pos (by rw [hb,hx];rfl),hw,hs0]
   show LV.tup [.dagg [_,zbc [],_,_,_],_,_,_,_]=LV.tup [.dagg [_,zbc c.buf,_,_,_],_,_,_,_]
   rw [hx];rfl
def zcT (m:zal) (g:Int):zal×Bool×Bool:=if zcs m=true∧0≤g∧¬ g∈m.wait then (if m.owner=g then (m,false,false) else if m.owner=-1 then ({m with owner:=g},true,true) else ({m with wait:=m.wait++[g]},false,true)) else (zj,false,false)
def zu4:zal×Bool×Bool→LV
 | (m,a,b)=>.tup [.dagg (zO m),.dat (.bool a),.dat (.bool b)]
def zbF (m:zal) (g:Int):zal×Int×Bool:=if zcs m=true∧0≤g∧g=m.owner then (if 0<m.wait.length then (⟨m.wait.getD 0 0,m.wait.drop 1⟩,m.wait.getD 0 0,true) else (⟨-1,m.wait⟩,-1,true)) else (zj,0,false)
def zrB:zal×Int×Bool→LV
 | (m,a,b)=>.tup [.dagg (zO m),.dat (.int .i64 a),.dat (.bool b)]
theorem zkQ (m:zal) (h:m.wait.length≤2199023255552):Ct Tryz.prog 207 [.dagg (zO m)] [] (zag (.lagg [.dat (.int .i64 m.owner),.own 501]) [(501,some (.row 3 1 (0:Int) iC m.wait))]):=by
 refine zD (rs:=[(.cell 2 193,193)]) za Tryz.func207 rfl rfl rfl (Nat.le_of_ble_eq_true rfl) rfl fun ho hm x hn hlent=>?_
 refine zT hn za (0:Int) iC ([]:List Int) rfl ?_ rfl rfl rfl rfl rfl rfl rfl rfl rfl ?_;exact qS
 refine zas hn za m.wait rfl ?_ rfl rfl rfl rfl rfl rfl rfl rfl ?_ ?_;exact qS
 ·show (0+m.wait.length)*8≤_;omega
 refine zf hn za rfl ?_ ⟨_,.lagg [.dat (.int .i64 m.owner),.own 501],[(501,some (.row 3 1 (0:Int) iC m.wait))],[(501,6)],rfl,rfl,⟨?_,trivial⟩,rfl,rfl,rfl,rfl,rfl⟩
 ·exact qS
 ·rfl
theorem zgp (m:zal) (h:m.wait.length≤2199023255552):Con Tryz.prog 207 [.dagg (zO m)] (.dagg (zO m)):=by
 refine zk (rs:=[(.cell 2 193,193)]) za Tryz.func207 rfl rfl rfl (Nat.le_of_ble_eq_true rfl) fun ho x hn=>?_
 refine zT hn za (0:Int) iC ([]:List Int) rfl ?_ rfl rfl rfl rfl rfl rfl rfl rfl rfl ?_;exact qS
 refine zas hn za m.wait rfl ?_ rfl rfl rfl rfl rfl rfl rfl rfl ?_ ?_;exact qS
 ·show (0+m.wait.length)*8≤_;omega
 refine zf hn za rfl qS ⟨_,rfl,?_⟩
 rfl
set_option maxHeartbeats 1000000 in
theorem zir (m:zal) (g:Int) (h:m.wait.length≤2199023255551):Con Tryz.prog 294 [.dagg (zO m),.dat (.int .i64 g)] (zu4 (zcT m g)):=by
 refine zk (rs:=[(.cell 4 193,193),(.tmp 5,4),(.tmp 6,4)]) za Tryz.func294 rfl rfl rfl (Nat.le_of_ble_eq_true rfl) fun ho x hn=>?_
 repeat' (first | (refine ze hn za rfl qS ?_ ?_<;>intro hc<;>first | (replace hc:=qC2 hc;try exact qX) | exact qF2 hc | skip) | refine zf hn za rfl qS ⟨_,rfl,?_⟩ | refine qK hn za rfl rfl (by (first | exact zbp _ | exact zdg _ _ | assumption)) ?_)
 ·((rw [zcT,if_neg (by first | (simp [*];done) | (simp only [not_and];intros;omega) | (intro h;omega))];rfl))
 ·((rw [zcT,if_neg (by first | (simp [*];done) | (simp only [not_and];intros;omega) | (intro h;omega))];rfl))
 ·((rw [zcT,if_neg (by first | (simp [*];done) | (simp only [not_and];intros;omega) | (intro h;omega))];rfl))
 refine ziS hn za [false] (zkQ m (by omega)) rfl ?_ rfl rfl rfl rfl rfl ?_ ?_
 ·exact qS
 ·intro i hi
  simp [LV.on,LV.on2,LV.on1] at hi
  subst hi;rfl
 repeat' (first | (refine ze hn za rfl qS ?_ ?_<;>intro hc<;>first | (replace hc:=qC2 hc;try exact qX) | exact qF2 hc | skip) | refine zf hn za rfl qS ⟨_,rfl,?_⟩ | refine qK hn za rfl rfl (by (first | exact zbp _ | exact zdg _ _ | assumption)) ?_)
 ·((rw [zcT,if_pos ⟨by assumption,by omega,by assumption⟩];(first | rw [if_pos (by assumption)] | (rw [if_neg (by assumption)];(first | rw [if_pos (by assumption)] | rw [if_neg (by assumption)])))));rfl
 ·((rw [zcT,if_pos ⟨by assumption,by omega,by assumption⟩];(first | rw [if_pos (by assumption)] | (rw [if_neg (by assumption)];(first | rw [if_pos (by assumption)] | rw [if_neg (by assumption)])))));rfl
 refine zT hn za (0:Int) iC [g] rfl ?_ rfl rfl rfl rfl rfl rfl rfl rfl rfl ?_;exact qS
 refine zas hn za [g] rfl ?_ rfl rfl rfl rfl rfl rfl rfl rfl ?_ ?_;exact qS
 ·show (m.wait.length+1)*8≤_;omega
 refine zf hn za rfl qS ⟨_,rfl,?_⟩
 ((rw [zcT,if_pos ⟨by assumption,by omega,by assumption⟩];(first | rw [if_pos (by assumption)] | (rw [if_neg (by assumption)];(first | rw [if_pos (by assumption)] | rw [if_neg (by assumption)])))));rfl
set_option maxHeartbeats 1000000 in
theorem znb (m:zal) (g:Int) (h:m.wait.length≤2199023255551):Con Tryz.prog 291 [.dagg (zO m),.dat (.int .i64 g)] (zu4 (zcT m g)):=by
 refine zk (rs:=[(.cell 4 193,193),(.tmp 5,4),(.tmp 6,4)]) za Tryz.func291 rfl rfl rfl (Nat.le_of_ble_eq_true rfl) fun ho x hn=>?_
 repeat' (first | (refine ze hn za rfl qS ?_ ?_<;>intro hc<;>first | (replace hc:=qC2 hc;try exact qX) | exact qF2 hc | skip) | refine zf hn za rfl qS ⟨_,rfl,?_⟩ | refine qK hn za rfl rfl (by (first | exact zak _ | exact zcI _ _ | assumption)) ?_)
 ·((rw [zcT,if_neg (by first | (simp [*];done) | (simp only [not_and];intros;omega) | (intro h;omega))];rfl))
 ·((rw [zcT,if_neg (by first | (simp [*];done) | (simp only [not_and];intros;omega) | (intro h;omega))];rfl))
 ·((rw [zcT,if_neg (by first | (simp [*];done) | (simp only [not_and];intros;omega) | (intro h;omega))];rfl))
 refine zgi hn za 200 [false] (zda m.wait (by omega)) rfl ?_ rfl rfl rfl rfl rfl ?_ ?_
 ·exact qS
 ·repeat' (first | (refine ze hn za rfl qS ?_ ?_<;>intro hc<;>first | (replace hc:=qC2 hc;try exact qX) | exact qF2 hc | skip) | refine zf hn za rfl qS ⟨_,rfl,?_⟩ | refine qK hn za rfl rfl (by (first | exact zak _ | exact zcI _ _ | assumption)) ?_)
  ·((rw [zcT,if_pos ⟨by assumption,by omega,by assumption⟩];(first | rw [if_pos (by assumption)] | (rw [if_neg (by assumption)];(first | rw [if_pos (by assumption)] | rw [if_neg (by assumption)])))));rfl
  ·((rw [zcT,if_pos ⟨by assumption,by omega,by assumption⟩];(first | rw [if_pos (by assumption)] | (rw [if_neg (by assumption)];(first | rw [if_pos (by assumption)] | rw [if_neg (by assumption)])))));rfl
  refine zT hn za (0:Int) iC [g] rfl ?_ rfl rfl rfl rfl rfl rfl rfl rfl rfl ?_;exact qS
  refine zas hn za [g] rfl ?_ rfl rfl rfl rfl rfl rfl rfl rfl ?_ ?_;exact qS
  ·show (m.wait.length+1)*8≤_;omega
  refine zf hn za rfl qS ⟨_,rfl,?_⟩
  ((rw [zcT,if_pos ⟨by assumption,by omega,by assumption⟩];(first | rw [if_pos (by assumption)] | (rw [if_neg (by assumption)];(first | rw [if_pos (by assumption)] | rw [if_neg (by assumption)])))));rfl
 ·intro hx
  have hm:m=⟨m.owner,[]⟩:=by cases m;cases hx;rfl
  repeat' (first | (refine ze hn za rfl qS ?_ ?_<;>intro hc<;>first | (replace hc:=qC2 hc;try exact qX) | exact qF2 hc | skip) | refine zf hn za rfl qS ⟨_,rfl,?_⟩ | refine qK hn za rfl rfl (by (first | exact zak _ | exact zcI _ _ | assumption)) ?_)
  ·((rw [zcT,if_pos ⟨by assumption,by omega,by assumption⟩];(first | rw [if_pos (by assumption)] | (rw [if_neg (by assumption)];(first | rw [if_pos (by assumption)] | rw [if_neg (by assumption)])))));rw [hm];rfl
  ·((rw [zcT,if_pos ⟨by assumption,by omega,by assumption⟩];(first | rw [if_pos (by assumption)] | (rw [if_neg (by assumption)];(first | rw [if_pos (by assumption)] | rw [if_neg (by assumption)])))));rw [hm];rfl
  refine zT hn za (0:Int) iC [g] rfl ?_ rfl rfl rfl rfl rfl rfl rfl rfl rfl ?_;exact qS
  refine zi6 hn za [g] rfl ?_ (.inr rfl) rfl rfl rfl rfl rfl rfl rfl (Nat.le_of_ble_eq_true rfl) (Nat.le_of_ble_eq_true rfl) ?_;exact qS
  refine zf hn za rfl qS ⟨_,rfl,?_⟩
  ((rw [zcT,if_pos ⟨by assumption,by omega,by assumption⟩];(first | rw [if_pos (by assumption)] | (rw [if_neg (by assumption)];(first | rw [if_pos (by assumption)] | rw [if_neg (by assumption)])))));rw [hx];rfl
set_option maxHeartbeats 1000000 in
theorem zlg (m:zal) (g:Int) (h:m.wait.length≤2199023255551):Con Tryz.prog 290 [.dagg (zO m),.dat (.int .i64 g)] (zrB (zbF m g)):=by
 refine zk (rs:=[(.cell 4 193,193),(.tmp 5,3),(.tmp 6,4)]) za Tryz.func290 rfl rfl rfl (Nat.le_of_ble_eq_true rfl) fun ho x hn=>?_
 have hk:=zeR m.wait (by omega)
 repeat' (first | (refine ze hn za rfl qS ?_ ?_<;>intro hc<;>first | (replace hc:=qC2 hc;try exact qX) | exact qF2 hc | skip) | refine zf hn za rfl qS ⟨_,rfl,?_⟩ | refine qK hn za rfl rfl (by (first | exact zak _ | assumption)) ?_)
 ·rw [zbF,if_neg (by simp [*])];rfl
 ·rw [zbF,if_neg (by intro h;omega)];rfl
 ·rw [zbF,if_neg (by intro h;omega)];rfl
 ·refine zgN hn za 1 m.wait.length rfl ?_ rfl rfl rfl rfl rfl ?_ ?_ ?_ ?_ ?_;exact qS;(first | exact .inl ⟨rfl,rfl⟩ | exact Bnd.some .i64 rfl);(first | exact .inl ⟨rfl,rfl⟩ | exact Bnd.some .i64 rfl);(first | exact Nat.zero_le _ | omega);(first | exact Nat.le_refl _ | omega)
  refine qD hn za zu [] rfl rfl ?_ ?_
  ·(try refine qM ?_);repeat' (first | exact trivial | (first | exact zak _ | assumption) | assumption | omega | exact qV | refine And.intro ?_ ?_)
  refine zf hn za rfl qS ⟨_,rfl,?_⟩
  rw [zbF,if_pos ⟨by assumption,by omega,by assumption⟩,if_pos (by omega),List.take_length];rfl
 ·refine qD hn za zu [] rfl rfl ?_ ?_
  ·(try refine qM ?_);repeat' (first | exact trivial | (first | exact zak _ | assumption) | assumption | omega | exact qV | refine And.intro ?_ ?_)
  refine zf hn za rfl qS ⟨_,rfl,?_⟩
  rw [zbF,if_pos ⟨by assumption,by omega,by assumption⟩,if_neg (by omega)];rfl
set_option maxHeartbeats 1000000 in
theorem zhg (m:zal) (g:Int) (h:m.wait.length≤2199023255551):Con Tryz.prog 300 [.dagg (zO m),.dat (.int .i64 g)] (zrB (zbF m g)):=by
 refine zk (rs:=[(.cell 4 193,193),(.tmp 5,3),(.tmp 6,4)]) za Tryz.func300 rfl rfl rfl (Nat.le_of_ble_eq_true rfl) fun ho x hn=>?_
 have hk:=zgp m (by omega)
 repeat' (first | (refine ze hn za rfl qS ?_ ?_<;>intro hc<;>first | (replace hc:=qC2 hc;try exact qX) | exact qF2 hc | skip) | refine zf hn za rfl qS ⟨_,rfl,?_⟩ | refine qK hn za rfl rfl (by (first | exact zbp _ | assumption)) ?_)
 ·rw [zbF,if_neg (by simp [*])];rfl
 ·rw [zbF,if_neg (by intro h;omega)];rfl
 ·rw [zbF,if_neg (by intro h;omega)];rfl
 ·refine zgN hn za 1 m.wait.length rfl ?_ rfl rfl rfl rfl rfl ?_ ?_ ?_ ?_ ?_;exact qS;(first | exact .inl ⟨rfl,rfl⟩ | exact Bnd.some .i64 rfl);(first | exact .inl ⟨rfl,rfl⟩ | exact Bnd.some .i64 rfl);(first | exact Nat.zero_le _ | omega);(first | exact Nat.le_refl _ | omega)
  refine qD hn za zu [] rfl rfl ?_ ?_
  ·(try refine qM ?_);repeat' (first | exact trivial | (first | exact zbp _ | assumption) | assumption | omega | exact qV | refine And.intro ?_ ?_)
  refine zf hn za rfl qS ⟨_,rfl,?_⟩
  rw [zbF,if_pos ⟨by assumption,by omega,Eq.symm (by assumption)⟩,if_pos (by omega),List.take_length];rfl
 ·refine qD hn za zu [] rfl rfl ?_ ?_
  ·(try refine qM ?_);repeat' (first | exact trivial | (first | exact zbp _ | assumption) | assumption | omega | exact qV | refine And.intro ?_ ?_)
  refine zf hn za rfl qS ⟨_,rfl,?_⟩
  rw [zbF,if_pos ⟨by assumption,by omega,Eq.symm (by assumption)⟩,if_neg (by omega)];rfl
def bxG (g:Int):Ml:=[(1000,some (.box 3 (.dat (.int .i64 g))))]
theorem zpC (w:zo) (g:Int):Ct Tryz.prog 310 [.dagg (z5 w),.ptr 1000 0] (bxG g) (zag (.dat (.bool (decide (w.g=g)))) (bxG g)):=by
 refine zD (rs:=[(.tmp 3,4)]) za Tryz.func310 rfl rfl rfl (Nat.le_of_ble_eq_true rfl) rfl fun ho hm x hn hlent=>?_
 refine zf hn za rfl ?_ ⟨_,.dat (.bool (decide (w.g=g))),bxG g,[],rfl,rfl,⟨?_,trivial⟩,rfl,rfl,rfl,rfl,rfl⟩
 ·exact qS
 ·rfl
def zq3 (l:List zo) (g:Int) (r:LV) (Mo:Ml):Prop:=Mo=bxG g∧((r=.dat (.int .i64 (-1))∧∀ j<l.length,¬ (l.getD j zi).g=g)∨∃ i:Nat,r=.dat (.int .i64 i)∧i<l.length∧(l.getD i zi).g=g∧∀ j<i,¬ (l.getD j zi).g=g)
theorem zjb (l:List zo) (g:Int) (hl:l.length≤2199023255552):Ct Tryz.prog 311 [.dat (zB l),.clo 310 [(1000,0)]] (bxG g) (zq3 l g):=by
 refine zD (rs:=[(.tmp 4,3)]) za Tryz.func311 rfl rfl rfl (Nat.le_of_ble_eq_true rfl) rfl fun ho hm x hn hlent=>?_
 refine zM hn za rfl ?_ (fun (wI:Nat) wT wM=>((8,.dat (.int .i64 wI))::wT,wM)) (fun wI=>wI≤l.length∧(fun i=>∀ j<i,¬ (l.getD j zi).g=g) wI) (fun wI=>l.length-wI) 0 ⟨Nat.zero_le _,?_⟩ ?_ ?_;exact qS
 ·intro j hj;omega
 ·refine zt [] qL ?_ rfl;repeat' (first | exact trivial | refine And.intro rfl ?_)
 rintro i ⟨hi,hq⟩
 refine ze hn za rfl qS ?_ ?_<;>intro hc<;>first | (replace hc:=qC2 hc;try exact qX) | exact qF2 hc | skip
 ·have hlt:i<l.length:=by omega
  refine zbB hn za [false,true] (zpC (l.getD i zi) g) rfl ?_ rfl rfl ⟨rfl,trivial⟩ rfl (fun i hi=>(by cases hi)) (.inl rfl) (fun i hi=>by rw [List.mem_singleton.1 hi];rfl) ?_;exact qS
  rintro r Mo ⟨rfl,rfl⟩
  refine ⟨rfl,fun i hi=>.inl hi,fun i hi=>hi.elim,?_⟩
  refine ze hn za rfl qS ?_ ?_<;>intro hc<;>first | (replace hc:=qC2 hc;try exact qX) | exact qF2 hc | skip
  ·refine zf hn za rfl ?_ ⟨_,.dat (.int .i64 i),bxG g,[],rfl,rfl,⟨?_,trivial⟩,rfl,rfl,rfl,rfl,.inr ⟨i,rfl,hlt,hc,hq⟩⟩
   ·exact qS
   ·rfl
  ·refine zx hn za rfl qS ⟨i+1,⟨?_,?_⟩,?_,?_⟩
   ·omega
   ·intro j hj
    rcases Nat.lt_or_eq_of_le (Nat.le_of_lt_succ hj) with h | h
    ·exact hq j h
    ·rw [h];exact hc
   ·show l.length-(i+1)<l.length-i;omega
   ·refine zt [] qL ?_ rfl;repeat' (first | exact trivial | refine And.intro rfl ?_)
 ·refine zf hn za rfl ?_ ⟨_,.dat (.int .i64 (-1)),bxG g,[],rfl,rfl,⟨?_,trivial⟩,rfl,rfl,rfl,rfl,.inl ⟨rfl,fun j hj=>hq j (by omega)⟩⟩
  ·exact qS
  ·rfl
def zoZ (g:Int) (w:zo):Bool:=!decide (w.g=g)
def zat (l:List zo) (g:Int):List zo:=l.filter (zoZ g)
def zsg (id:Nat) (l:List zo) (g:Int):Ml:=(id,some (.row 197 3 zi z5 l))::bxG g
def zuH (l:List zo) (g:Int) (r:LV) (Mo:Ml):Prop:=(r=.own 1001∧Mo=zsg 1001 (zat l g) g)∨(r=.own 1002∧Mo=zsg 1002 (zat l g) g)
theorem zs6 (l:List zo) (g:Int):∀ r Mo,zq3 l g r Mo→zoi r Mo:=by
 rintro r Mo ⟨rfl,h⟩
 have hr:r.flatR=true:=by rcases h with ⟨rfl,_⟩ | ⟨i,rfl,_⟩<;>rfl
 refine ⟨hr,fun id e z α d f xs h=>?_,fun id t v h=>?_⟩
 ·unfold bxG at h;rw [zI] at h;unfold Ab.upd at h;split at h<;>cases h
 ·unfold bxG at h;rw [zI] at h;unfold Ab.upd at h;split at h
  ·cases h;rfl
  ·cases h
structure zlj (l:List zo) (g:Int) (y:Nat×Nat×List zo):Prop where
 lt:y.1<y.2.1
 le:y.2.1≤l.length
 len:y.2.2.length=l.length
 tak:y.2.2.take y.1=zat (l.take y.2.1) g
 drp:y.2.2.drop y.2.1=l.drop y.2.1
theorem zlj.get {l:List zo} {g:Int} {y:Nat×Nat×List zo} (h:zlj l g y) (hj:y.2.1<l.length):y.2.2.getD y.2.1 zi=l.getD y.2.1 zi:=by
 have h1:(y.2.2.drop y.2.1)[0]? = (l.drop y.2.1)[0]?:=by rw [h.drp]
 rw [List.getElem?_drop,List.getElem?_drop,Nat.add_zero] at h1
 rw [List.getD_eq_getElem?_getD,List.getD_eq_getElem?_getD,h1]
theorem zdv {l:List zo} {j:Nat} (hj:j<l.length):l.take (j+1)=l.take j++[l.getD j zi]:=by
 rw [List.take_add_one,List.getD_eq_getElem?_getD,List.getElem?_eq_getElem hj];rfl
theorem zlj.skip {l:List zo} {g:Int} {y:Nat×Nat×List zo} (h:zlj l g y) (hj:y.2.1<l.length) (hg:(l.getD y.2.1 zi).g=g):zlj l g (y.1,y.2.1+1,y.2.2):=by
 refine ⟨Nat.lt_succ_of_lt h.lt,hj,h.len,?_,?_⟩
 ·show y.2.2.take y.1=zat (l.take (y.2.1+1)) g
  rw [h.tak,zdv hj,zat,zat,List.filter_append,List.filter_cons_of_neg (by rw [zoZ,decide_eq_true hg];simp)];simp
 ·show y.2.2.drop (y.2.1+1)=l.drop (y.2.1+1)
  rw [← List.drop_drop,← List.drop_drop,h.drp]
theorem zlj.keep {l:List zo} {g:Int} {y:Nat×Nat×List zo} (h:zlj l g y) (hj:y.2.1<l.length) (hg:¬ (l.getD y.2.1 zi).g=g):zlj l g (y.1+1,y.2.1+1,y.2.2.set y.1 (l.getD y.2.1 zi)):=by
 have hlt:=h.lt
 have hlen:=h.len
 refine ⟨Nat.succ_lt_succ h.lt,hj,by rw [List.length_set];exact h.len,?_,?_⟩
 ·show (y.2.2.set y.1 (l.getD y.2.1 zi)).take (y.1+1)=zat (l.take (y.2.1+1)) g
  have h1:(y.2.2.set y.1 (l.getD y.2.1 zi)).take (y.1+1)=y.2.2.take y.1++[l.getD y.2.1 zi]:=by
   rw [zdv (by rw [List.length_set];omega),List.take_set_of_le (Nat.le_refl _)]
   congr 1
   rw [List.getD_eq_getElem?_getD,List.getElem?_set_self (by omega)];rfl
  rw [h1,h.tak,zdv hj,zat,zat,List.filter_append,List.filter_cons_of_pos (by rw [zoZ,decide_eq_false hg];rfl)];rfl
 ·show (y.2.2.set y.1 (l.getD y.2.1 zi)).drop (y.2.1+1)=l.drop (y.2.1+1)
  rw [List.drop_set_of_lt (by omega),← List.drop_drop,← List.drop_drop,h.drp]
theorem zn6 {l:List zo} {g:Int} {n:Nat} (hn:n≤l.length) (h:∀ j<n,¬ (l.getD j zi).g=g):zat (l.take n) g=l.take n:=by
 rw [zat,List.filter_eq_self]
 intro w hw
 obtain ⟨j,hj⟩:=List.mem_iff_getElem?.1 hw
 have hlt:=(List.getElem?_eq_some_iff.1 hj).1
 rw [List.length_take] at hlt
 rw [List.getElem?_take_of_lt (by omega)] at hj
 have:=h j (by omega)
 rw [List.getD_eq_getElem?_getD,hj] at this
 have h1:¬ w.g=g:=this
 rw [zoZ,decide_eq_false h1];rfl
theorem zlj.zero {l:List zo} {g:Int} {i:Nat} (hi:i<l.length) (hg:(l.getD i zi).g=g) (h:∀ j<i,¬ (l.getD j zi).g=g):zlj l g (i,i+1,l):=by
 refine ⟨Nat.lt_succ_self i,hi,rfl,?_,rfl⟩
 show l.take i=zat (l.take (i+1)) g
 rw [zdv hi,zat,List.filter_append,List.filter_cons_of_neg (by rw [zoZ,decide_eq_true hg];simp)]
 have:=zn6 (Nat.le_of_lt hi) h
 rw [zat] at this
 rw [this];simp
theorem znc (l:List zo) (g:Int) (hl:l.length≤2199023255552):Ct Tryz.prog 309 [.own 1001,.clo 310 [(1000,0)]] (zsg 1001 l g) (zuH l g):=by
 refine zD (rs:=[(.tmp 4,189)]) za Tryz.func309 rfl rfl rfl (Nat.le_of_ble_eq_true rfl) rfl fun ho hm x hn hlent=>?_
 refine zbB hn za [false,true] (zjb l g hl) rfl ?_ rfl rfl ⟨rfl,trivial⟩ rfl (fun i hi h=>by rw [List.mem_singleton.1 hi] at h;exact absurd (List.mem_singleton.1 h) (by decide)) (.inr (zs6 l g)) (fun i hi=>by rw [List.mem_singleton.1 hi];rfl) ?_
 ·exact qS
 rintro r Mo ⟨rfl,⟨rfl,hno⟩ | ⟨i0,rfl,hi0,hg0,hb0⟩⟩
 ·refine ⟨rfl,fun i hi=>.inl hi,fun i hi=>hi.elim,?_⟩
  refine ze hn za rfl qS ?_ ?_<;>intro hc<;>first | (replace hc:=qC2 hc;try exact qX) | exact qF2 hc | skip
  rotate_left
  ·exact absurd trivial hc
  refine zf hn za rfl ?_ ⟨_,.own 1001,zsg 1001 l g,[],rfl,rfl,⟨?_,?_,trivial⟩,rfl,rfl,rfl,.inl ⟨rfl,?_⟩⟩
  ·exact qS
  ·rfl
  ·rfl
  ·have:=zn6 (Nat.le_refl l.length) hno
   rw [List.take_length] at this
   rw [this]
 ·refine ⟨rfl,fun i hi=>.inl hi,fun i hi=>hi.elim,?_⟩
  refine ze hn za rfl qS ?_ ?_<;>intro hc<;>first | (replace hc:=qC2 hc;try exact qX) | exact qF2 hc | skip
  refine zM hn za rfl ?_ (fun (y:Nat×Nat×List zo) wT wM=>((5,.dat (.int .i64 y.1))::(6,.dat (.int .i64 y.2.1))::wT,(1001,some (.row 197 3 zi z5 y.2.2))::wM)) (zlj l g) (fun y=>l.length-y.2.1) (i0,i0+1,l) (zlj.zero hi0 hg0 hb0) (zt [] ?_ ?_ rfl) ?_
  ·exact qS
  ·exact qL
  ·exact qL
  rintro ⟨i,j,ys⟩ hq
  have hlt:=hq.lt
  have hle:=hq.le
  have hlen:=hq.len
  simp only at hlt hle hlen
  refine ze hn za rfl qS ?_ ?_<;>intro hc<;>first | (replace hc:=qC2 hc;try exact qX) | exact qF2 hc | skip
  ·have hjl:j<l.length:=by omega
   have hgt:=hq.get hjl
   simp only at hgt
   refine zbB hn za [false,true] (zpC (ys.getD j zi) g) rfl ?_ rfl rfl ⟨rfl,trivial⟩ rfl (fun i hi=>(by cases hi)) (.inl rfl) (fun i hi=>by rw [List.mem_singleton.1 hi];rfl) ?_
   ·exact qS
   rintro r Mo ⟨rfl,rfl⟩
   refine ⟨rfl,fun i hi=>.inl hi,fun i hi=>hi.elim,?_⟩
   refine ze hn za rfl qS ?_ ?_<;>intro hc<;>first | (replace hc:=qC2 hc;try exact qX) | exact qF2 hc | skip
   ·refine zaI hn za (ys.getD j zi) rfl ?_ rfl rfl rfl rfl rfl rfl (Nat.le_of_ble_eq_true rfl) rfl ?_;(first | (exact qS) | decide | (simp only [List.length_replicate,List.length_set];decide))
    refine zx hn za rfl ?_ ⟨(i+1,j+1,ys.set i (ys.getD j zi)),?_,?_,?_⟩
    ·exact qS
    ·rw [hgt];exact hq.keep hjl (by rw [← hgt];exact hc)
    ·show l.length-(j+1)<l.length-j;omega
    ·refine zt [] qL ?_ rfl;repeat' (first | exact trivial | refine And.intro rfl ?_)
   ·refine zx hn za rfl ?_ ⟨(i,j+1,ys),?_,?_,?_⟩
    ·exact qS
    ·exact hq.skip hjl (by rw [← hgt];exact hc)
    ·show l.length-(j+1)<l.length-j;omega
    ·refine zt [] qL ?_ rfl;repeat' (first | exact trivial | refine And.intro rfl ?_)
  ·refine zpD zi i hn za rfl ?_ rfl rfl rfl rfl rfl rfl rfl rfl rfl rfl rfl rfl rfl rfl ?_ ?_;exact qS
   ·show i<ys.length
    omega
   refine zg4 hn za 0 i rfl ?_ rfl rfl rfl rfl rfl rfl rfl rfl ?_ ?_ ?_ ?_ ?_
   ·exact qS
   ·(first | exact .inl ⟨rfl,rfl⟩ | exact Bnd.some .i64 rfl)
   ·(first | exact .inl ⟨rfl,rfl⟩ | exact Bnd.some .i64 rfl)
   ·exact Nat.zero_le _
   ·show i≤(ys.take i++List.replicate (ys.length-i) zi).length
    rw [List.length_append,List.length_take,List.length_replicate];omega
   have hfin:((ys.take i++List.replicate (ys.length-i) zi).take i).drop 0=zat l g:=by
    rw [List.drop_zero,List.take_append_of_le_length (by rw [List.length_take];omega),List.take_take,Nat.min_self]
    have h1:=hq.tak
    rw [show (i,j,ys).2.1=l.length by show j=_;omega,List.take_length] at h1
    exact h1
   refine zf hn za rfl ?_ ⟨_,.own 1002,zsg 1002 (zat l g) g,[(1002,41)],rfl,rfl,⟨?_,?_,trivial⟩,rfl,rfl,rfl,.inr ⟨rfl,rfl⟩⟩
   ·exact qS
   ·exact congrArg (fun q=>some (Blk.row 197 3 zi z5 q)) hfin
   ·rfl
theorem zmx (g:Int):Ct Tryz.prog 309 [.nil (.sl 3 zi z5 []),.clo 310 [(1000,0)]] (bxG g) (zag (.nil (.sl 3 zi z5 [])) (bxG g)):=by
 refine zD (rs:=[(.tmp 4,189)]) za Tryz.func309 rfl rfl rfl (Nat.le_of_ble_eq_true rfl) rfl fun ho hm x hn hlent=>?_
 refine zbB hn za [false,true] (zjb [] g (Nat.zero_le _)) rfl ?_ rfl rfl ⟨rfl,trivial⟩ rfl (fun i hi=>(by cases hi)) (.inl rfl) (fun i hi=>by rw [List.mem_singleton.1 hi];rfl) ?_
 ·exact qS
 rintro r Mo ⟨rfl,⟨rfl,hno⟩ | ⟨i0,rfl,hi0,hg0,hb0⟩⟩
 ·refine ⟨rfl,fun i hi=>.inl hi,fun i hi=>hi.elim,?_⟩
  refine ze hn za rfl qS ?_ ?_<;>intro hc<;>first | (replace hc:=qC2 hc;try exact qX) | exact qF2 hc | skip
  rotate_left
  ·exact absurd trivial hc
  refine zf hn za rfl ?_ ⟨_,.nil (.sl 3 zi z5 []),bxG g,[],rfl,rfl,⟨?_,trivial⟩,rfl,rfl,rfl,rfl,rfl⟩
  ·exact qS
  ·rfl
 ·cases hi0
theorem zoE (l:List zo) (g:Int) (hl:l.length≤2199023255552):Ct Tryz.prog 307 [.dat (zB l),.dat (.int .i64 g)] [] (zdh 1 197 3 zi z5 (zat l g)):=by
 refine zD (rs:=[(.tmp 4,189)]) za Tryz.func307 rfl rfl rfl (Nat.le_of_ble_eq_true rfl) rfl fun ho hm x hn hlent=>?_
 have hl0:∀ i,¬ x.lent i:=fun i h=>by have:=(hlent i).1 h;cases this
 refine zgi hn za 200 [false] (zd4 l hl) rfl ?_ rfl rfl rfl rfl rfl ?_ ?_
 ·exact qS
 ·refine zsH (T1:=[(6,.own 1001),(3,.ptr 1000 0)]) (M1:=zsg 1001 l g) (zqQ [(1001,200),(1000,3)] ?_ ?_ rfl (fun i hi=>(hl0 i hi).elim)) ?_
  ·exact qL
  ·exact qL
  refine zbB hn za [true,true] (znc l g hl) rfl ?_ rfl rfl ⟨rfl,rfl,trivial⟩ rfl (fun i hi=>(by cases hi)) (.inl rfl) (fun i hi=>by rcases List.mem_cons.1 hi with rfl | hi;exact rfl;rw [List.mem_singleton.1 hi];rfl) ?_
  ·exact qS
  rintro r Mo (⟨rfl,rfl⟩ | ⟨rfl,rfl⟩)
  ·refine ⟨rfl,fun i hi=>.inr (hl0 i),fun i hi=>?_,?_⟩
   ·have:1001=i:=hi
    subst this;rfl
   ·refine zf hn za rfl qS ⟨_,.own 1,[(1,some (.row 197 3 zi z5 (zat l g)))],[(1,1001)],rfl,rfl,⟨?_,trivial⟩,rfl,rfl,rfl,.inl ⟨rfl,rfl⟩⟩
    rfl
  ·refine ⟨rfl,fun i hi=>.inr (hl0 i),fun i hi=>?_,?_⟩
   ·have:1002=i:=hi
    subst this;rfl
   ·refine zf hn za rfl qS ⟨_,.own 1,[(1,some (.row 197 3 zi z5 (zat l g)))],[(1,1002)],rfl,rfl,⟨?_,trivial⟩,rfl,rfl,rfl,.inl ⟨rfl,rfl⟩⟩
    rfl
 ·intro hx
  refine zsH (T1:=[(6,.nil (.sl 3 zi z5 [])),(3,.ptr 1000 0)]) (M1:=bxG g) (zqQ [(1000,3)] ?_ ?_ rfl (fun i hi=>(hl0 i hi).elim)) ?_
  ·exact qL
  ·exact qL
  refine zbB hn za [true,true] (zmx g) rfl ?_ rfl rfl ⟨rfl,trivial⟩ rfl (fun i hi=>(by cases hi)) (.inl rfl) (fun i hi=>by rw [List.mem_singleton.1 hi];rfl) ?_
  ·exact qS
  rintro r Mo ⟨rfl,rfl⟩
  refine ⟨rfl,fun i hi=>.inr (hl0 i),fun i hi=>hi.elim,?_⟩
  refine zf hn za rfl qS ⟨_,_,[],[],rfl,rfl,trivial,rfl,rfl,rfl,.inr ⟨?_,rfl,rfl⟩⟩
  rw [hx];rfl
theorem ziA (l:List zo) (g:Int) (hl:l.length≤2199023255552):Con Tryz.prog 307 [.dat (zB l),.dat (.int .i64 g)] (.dat (zB (zat l g))):=zii (zoE l g hl)
theorem zrV {l:List zo} {i:Nat} (g:Int) (hi:i<l.length):zat (l.take (i+1)) g=zat (l.take i) g++(if (l.getD i zi).g=g then [] else [l.getD i zi]):=by
 rw [zdv hi,zat,zat,List.filter_append]
 congr 1
 split
 ·rename_i h;rw [List.filter_cons_of_neg (by rw [zoZ,decide_eq_true h];simp)];rfl
 ·rename_i h;rw [List.filter_cons_of_pos (by rw [zoZ,decide_eq_false h];rfl)];rfl
theorem zix (l:List zo) (g:Int) (hl:l.length≤2199023255552):Con Tryz.prog 308 [.dat (zB l),.dat (.int .i64 g)] (.dat (zB (zat l g))):=by
 refine zk (rs:=[(.tmp 4,189)]) za Tryz.func308 rfl rfl rfl (Nat.le_of_ble_eq_true rfl) fun ho x hn=>?_
 refine zT hn za zi z5 ([]:List zo) rfl ?_ rfl rfl rfl rfl rfl rfl rfl rfl rfl ?_;exact qS
 refine zM hn za rfl ?_ (fun (wI:Nat) wT wM=>((11,.dat (.int .i64 wI))::(5,.own 100)::([(8,.no)]++wT),(100,some ((fun i=>.row 197 3 zi z5 (zat (l.take i) g)) wI))::([(8,none)]++wM))) (fun wI=>wI≤l.length∧(fun i=>(zat (l.take i) g).length≤i) wI) (fun wI=>l.length-wI) 0 ⟨Nat.zero_le _,?_⟩ (zt [(100,8),(8,999)] ?_ ?_ rfl) ?_;exact qS
 ·simp [zat]
 ·exact qL
 ·exact qL
 rintro i ⟨hi,hln⟩
 refine ze hn za rfl qS ?_ ?_<;>intro hc<;>first | (replace hc:=qC2 hc;try exact qX) | exact qF2 hc | skip
 ·have hlt:i<l.length:=by omega
  have hnx:=zrV g hlt
  refine ze hn za rfl qS ?_ ?_<;>intro hc<;>first | (replace hc:=qC2 hc;try exact qX) | exact qF2 hc | skip
  ·refine zT hn za zi z5 [l.getD i zi] rfl ?_ rfl rfl rfl rfl rfl rfl rfl rfl rfl ?_;exact qS
   refine zas hn za [l.getD i zi] rfl ?_ rfl rfl rfl rfl rfl rfl rfl rfl ?_ ?_;exact qS
   ·show ((zat (l.take i) g).length+1)*24≤_;omega
   rw [if_neg hc] at hnx
   refine zx hn za rfl qS ⟨i+1,⟨?_,?_⟩,?_,?_⟩
   ·omega
   ·show (zat (l.take (i+1)) g).length≤i+1
    rw [hnx,List.length_append];simp;omega
   ·show l.length-(i+1)<l.length-i;omega
   ·refine zt [(100,22),(8,999)] qL ?_ rfl;repeat' (first | exact trivial | refine And.intro rfl ?_)
    refine And.intro (congrArg (fun q=>some (Blk.row 197 3 zi z5 q)) ?_) ?_
    ·rw [hnx]
    ·exact qL
  ·rw [if_pos hc,List.append_nil] at hnx
   refine zx hn za rfl qS ⟨i+1,⟨?_,?_⟩,?_,?_⟩
   ·omega
   ·show (zat (l.take (i+1)) g).length≤i+1
    rw [hnx];omega
   ·show l.length-(i+1)<l.length-i;omega
   ·refine zt [(8,999)] qL ?_ rfl;repeat' (first | exact trivial | refine And.intro rfl ?_)
    refine And.intro (congrArg (fun q=>some (Blk.row 197 3 zi z5 q)) ?_) ?_
    ·rw [hnx]
    ·exact qL
 ·have hie:i=l.length:=by omega
  subst hie
  refine zf hn za rfl qS ⟨_,rfl,?_⟩
  rw [List.take_length];rfl
def zcN (p:zn) (g:zW):zW:=
 if (zb p g).op=1 then over g 0
 else if (zb p g).op=6 then {g with pc:=(zb p g).a}
 else if (zb p g).op=7 then (if regOf g (zb p g).a=0 then {g with pc:=g.pc+1} else {g with pc:=(zb p g).b})
 else if (zb p g).op=2 then {zbq g (zb p g).a (zb p g).b with pc:=g.pc+1}
 else {zbq g (zb p g).a (zeX (zb p g).op (regOf g (zb p g).b) (regOf g (zb p g).c)) with pc:=g.pc+1}
theorem zrH {p:zn} {g:zW} (hp:zaa p=true) (hg:zao p g=true) (ho:(zb p g).op<8):((zb p g).op=1∨(zb p g).op=2∨(zb p g).op=3∨(zb p g).op=4∨(zb p g).op=5∨(zb p g).op=6∨(zb p g).op=7)∧((zb p g).op=7→0≤(zb p g).a∧(zb p g).a<6)∧(((zb p g).op=3∨(zb p g).op=4∨(zb p g).op=5)→(0≤(zb p g).b∧(zb p g).b<6)∧0≤(zb p g).c∧(zb p g).c<6):=by
 obtain ⟨n,h,hn⟩:=zoL hp hg
 rw [zap] at h
 simp only [zcE,decide_eq_true_eq] at h
 refine ⟨by omega,fun h7=>by omega,fun h3=>by omega⟩
theorem zc8 (g:zW) (r v:Int):(zbq g r v).regs.length=g.regs.length∧(zbq g r v).trace=g.trace∧(zbq g r v).pc=g.pc:=by
 unfold zbq;split
 ·exact ⟨List.length_set,rfl,rfl⟩
 ·exact ⟨rfl,rfl,rfl⟩
theorem zpU {p:zn} {g:zW} (h:zao p g=true):g.regs.length=6∧0≤g.pc∧g.pc<zZ p g.proc:=by
 rw [zao,decide_eq_true_eq] at h;exact ⟨h.2.2.1,h.1,h.2.1⟩
set_option maxHeartbeats 2000000 in
theorem ziY (p:zn) (g:zW) (hp:zaa p=true) (hg:zao p g=true) (ho8:(zb p g).op<8) (ht:g.trace.length≤2199023255551) (hpc:g.pc≤1099511627776):Con Tryz.prog 217 [.dagg (zQ p),.dagg (zH g)] (.dagg (zH (zcN p g))):=by
 refine zk (rs:=[(.cell 4 172,172)]) za Tryz.func217 rfl rfl rfl (Nat.le_of_ble_eq_true rfl) fun ho x hn=>?_
 obtain ⟨hr6,hp0,hp1⟩:=zpU hg
 obtain ⟨hop,h7,h3⟩:=zrH hp hg ho8
 have hat:=con_at_impl.instr p g hg
 have hov:=zbO g 0 (by omega) ht
 have hs2:=zd7 g (zb p g).a (zb p g).b (by omega) (by omega)
 have hcal:=zng (zb p g).op (regOf g (zb p g).b) (regOf g (zb p g).c)
 have hs3:=zd7 g (zb p g).a (zeX (zb p g).op (regOf g (zb p g).b) (regOf g (zb p g).c)) (by omega) (by omega)
 have hq2:=(zc8 g (zb p g).a (zb p g).b).2.2
 have hq3:=(zc8 g (zb p g).a (zeX (zb p g).op (regOf g (zb p g).b) (regOf g (zb p g).c))).2.2
 have hrg:∀ r:Int,0≤r∧r<6→regOf g r=g.regs.getD r.toNat 0:=fun r hr=>by rw [regOf,if_pos (by omega)]
 repeat' (first | (refine ze hn za rfl qS ?_ ?_<;>intro hc<;>first | (replace hc:=qC2 hc;try exact qX) | exact qF2 hc | skip) | refine zf hn za rfl qS ⟨_,rfl,?_⟩ | refine qK hn za rfl rfl (by (first | exact con_at_impl.instr _ _ (by assumption) | assumption)) ?_)
 ·rw [zcN,if_pos hc];rfl
 ·rw [zcN,if_neg (by assumption),if_pos hc];rfl
 ·rw [zcN,if_neg (by assumption),if_neg (by assumption),if_pos (by assumption),if_neg (by rw [hrg _ (h7 (by assumption))];exact hc)];rfl
 ·rw [zcN,if_neg (by assumption),if_neg (by assumption),if_pos (by assumption),if_pos (by rw [hrg _ (h7 (by assumption))];exact hc)];rfl
 ·rw [zcN,if_neg (by assumption),if_neg (by assumption),if_neg (by assumption),if_pos (by assumption),← hq2];rfl
 ·have h33:=h3 (by omega)
  rw [hrg _ h33.1,hrg _ h33.2] at hcal hs3 hq3
  refine qD hn za zu [.r (.dat (.int .i64 (zeX (zb p g).op (g.regs.getD (zb p g).b.toNat 0) (g.regs.getD (zb p g).c.toNat 0)))),.r (.dagg (zH (zbq g (zb p g).a (zeX (zb p g).op (g.regs.getD (zb p g).b.toNat 0) (g.regs.getD (zb p g).c.toNat 0)))))] rfl rfl ?_ ?_
  ·(try refine qM ?_);repeat' (first | exact trivial | (first | exact con_at_impl.instr _ _ (by assumption) | assumption) | assumption | omega | exact qV | refine And.intro ?_ ?_)
  refine zf hn za rfl qS ⟨_,rfl,?_⟩
  rw [zcN,if_neg (by assumption),if_neg (by assumption),if_neg (by assumption),if_neg (by assumption),hrg _ h33.1,hrg _ h33.2,← hq3];rfl
set_option maxHeartbeats 2000000 in
theorem zks (p:zn) (g:zW) (hp:zaa p=true) (hg:zao p g=true) (ho8:(zb p g).op<8) (ht:g.trace.length≤2199023255551) (hpc:g.pc≤1099511627776):Con Tryz.prog 247 [.dagg (zQ p),.dagg (zH g)] (.dagg (zH (zcN p g))):=by
 refine zk (rs:=[(.cell 4 172,172)]) za Tryz.func247 rfl rfl rfl (Nat.le_of_ble_eq_true rfl) fun ho x hn=>?_
 obtain ⟨hr6,hp0,hp1⟩:=zpU hg
 obtain ⟨hop,h7,h3⟩:=zrH hp hg ho8
 have hat:=con_at_spec.l09At p g hg
 have hcp:=zeN g (by omega) (by omega)
 have hov:=zce g 0 (by omega) ht
 have hs2:=zd6 g (zb p g).a (zb p g).b (by omega) (by omega)
 have hcal:=zm9 (zb p g).op (regOf g (zb p g).b) (regOf g (zb p g).c)
 have hs3:=zd6 g (zb p g).a (zeX (zb p g).op (regOf g (zb p g).b) (regOf g (zb p g).c)) (by omega) (by omega)
 have hrc:=zR g (zb p g).c
 have hrb:=zR g (zb p g).b
 have hra:=zR g (zb p g).a
 have hq2:=(zc8 g (zb p g).a (zb p g).b).2.2
 have hq3:=(zc8 g (zb p g).a (zeX (zb p g).op (regOf g (zb p g).b) (regOf g (zb p g).c))).2.2
 repeat' (first | (refine ze hn za rfl qS ?_ ?_<;>intro hc<;>first | (replace hc:=qC2 hc;try exact qX) | exact qF2 hc | skip) | refine zf hn za rfl qS ⟨_,rfl,?_⟩ | refine qK hn za rfl rfl (by (first | exact con_at_spec.l09At _ _ (by assumption) | exact zR _ _ | assumption)) ?_)
 ·rw [zcN,if_pos hc];rfl
 ·rw [zcN,if_neg (by assumption),if_neg (by omega),if_neg (by omega),if_pos (by assumption),← hq2];rfl
 rotate_right 3
 ·rw [zcN,if_neg (by assumption),if_pos hc];rfl
 ·rw [zcN,if_neg (by assumption),if_neg (by assumption),if_pos (by assumption),if_neg hc];rfl
 ·rw [zcN,if_neg (by assumption),if_neg (by assumption),if_pos (by assumption),if_pos hc];rfl
 all_goals
  refine qD hn za zu [.r (.dat (.int .i64 (regOf g (zb p g).b))),.r (.dat (.int .i64 (regOf g (zb p g).c))),.r (.dat (.int .i64 (zeX (zb p g).op (regOf g (zb p g).b) (regOf g (zb p g).c)))),.r (.dagg (zH (zbq g (zb p g).a (zeX (zb p g).op (regOf g (zb p g).b) (regOf g (zb p g).c)))))] rfl rfl ?_ ?_
  ·(try refine qM ?_);repeat' (first | exact trivial | (first | exact con_at_spec.l09At _ _ (by assumption) | exact zR _ _ | assumption) | assumption | omega | exact qV | refine And.intro ?_ ?_)
  repeat' (first | (refine ze hn za rfl qS ?_ ?_<;>intro hc<;>first | (replace hc:=qC2 hc;try exact qX) | exact qF2 hc | skip) | refine zf hn za rfl qS ⟨_,rfl,?_⟩ | refine qK hn za rfl rfl (by (first | exact con_at_spec.l09At _ _ (by assumption) | exact zR _ _ | assumption)) ?_)
  rw [zcN,if_neg (by omega),if_neg (by omega),if_neg (by omega),if_neg (by omega),← hq3];rfl
def zbr (op:Int):Bool:=decide (8≤op∧op≤15)
theorem zaB (op:Int):Con Tryz.prog 246 [.dat (.int .i64 op)] (.dat (.bool (zbr op))):=by
 refine zk (rs:=[(.tmp 2,4)]) za Tryz.func246 rfl rfl rfl (Nat.le_of_ble_eq_true rfl) fun ho x hn=>?_
 (repeat' (first | (refine ze hn za rfl qS ?_ ?_<;>intro hc<;>first | (replace hc:=qC2 hc;try exact qX) | exact qF2 hc | skip) | refine zf hn za rfl qS ⟨_,rfl,?_⟩ | refine qK hn za rfl rfl (by assumption) ?_))<;>(simp [zdW,zbr, *]<;>omega)
theorem zaN (op:Int):Con Tryz.prog 216 [.dat (.int .i64 op)] (.dat (.bool (zbr op))):=by
 refine zk (rs:=[(.tmp 2,4)]) za Tryz.func216 rfl rfl rfl (Nat.le_of_ble_eq_true rfl) fun ho x hn=>?_
 (repeat' (first | (refine ze hn za rfl qS ?_ ?_<;>intro hc<;>first | (replace hc:=qC2 hc;try exact qX) | exact qF2 hc | skip) | refine zf hn za rfl qS ⟨_,rfl,?_⟩ | refine qK hn za rfl rfl (by assumption) ?_))<;>(simp [zdW,zbr, *]<;>omega)
def zdz (i:zaD):Int:=if 8≤i.op∧i.op≤14 then i.a else 0
theorem zmS (i:zaD):Con Tryz.prog 215 [.dagg (zc7 i)] (.dat (.int .i64 (zdz i))):=by
 refine zk (rs:=[(.tmp 2,3)]) za Tryz.func215 rfl rfl rfl (Nat.le_of_ble_eq_true rfl) fun ho x hn=>?_
 repeat' (first | (refine ze hn za rfl qS ?_ ?_<;>intro hc<;>first | (replace hc:=qC2 hc;try exact qX) | exact qF2 hc | skip) | refine zf hn za rfl qS ⟨_,rfl,?_⟩ | refine qK hn za rfl rfl (by assumption) ?_)
 all_goals (refine congrArg (fun n=>LV.dat (.int .i64 n)) (Eq.symm ?_);first | (rw [zdz,if_pos (by omega)];done) | (rw [zdz,if_neg (by omega)];done))
theorem zhM (i:zaD):Con Tryz.prog 245 [.dagg (zc7 i)] (.dat (.int .i64 (zdz i))):=by
 refine zk (rs:=[(.tmp 2,3)]) za Tryz.func245 rfl rfl rfl (Nat.le_of_ble_eq_true rfl) fun ho x hn=>?_
 repeat' (first | (refine ze hn za rfl qS ?_ ?_<;>intro hc<;>first | (replace hc:=qC2 hc;try exact qX) | exact qF2 hc | skip) | refine zf hn za rfl qS ⟨_,rfl,?_⟩ | refine qK hn za rfl rfl (by (first | exact zaB _ | assumption)) ?_)
 all_goals (refine congrArg (fun n=>LV.dat (.int .i64 n)) (Eq.symm ?_);(try simp only [zbr,decide_eq_true_eq,decide_eq_false_iff_not] at *);first | (rw [zdz,if_pos (by omega)];done) | (rw [zdz,if_neg (by omega)];done))
theorem zgb (g:zW) (ch v:Int) (h1:g.regs.length≤2199023255551) (h2:g.trace.length≤2199023255551):Con Tryz.prog 285 [.dagg (zH g),.dat (.int .i64 ch),.dat (.int .i64 v)] (.dagg (zH (tell g ⟨1,ch,v,false⟩))):=by
 refine zk (rs:=[(.cell 6 172,172)]) za Tryz.func285 rfl rfl rfl (Nat.le_of_ble_eq_true rfl) fun ho x hn=>?_
 have hk:=zbP g ⟨1,ch,v,false⟩ h1 h2
 repeat' (first | (refine ze hn za rfl qS ?_ ?_<;>intro hc<;>first | (replace hc:=qC2 hc;try exact qX) | exact qF2 hc | skip) | refine zf hn za rfl qS ⟨_,rfl,?_⟩ | refine qK hn za rfl rfl (by assumption) ?_)
 rfl
def zqg (b:Bool):Int:=if b then 1 else 0
theorem zn8 (b:Bool):Con Tryz.prog 301 [.dat (.bool b)] (.dat (.int .i64 (zqg b))):=by
 refine zk (rs:=[(.tmp 2,3)]) za Tryz.func301 rfl rfl rfl (Nat.le_of_ble_eq_true rfl) fun ho x hn=>?_
 (repeat' (first | (refine ze hn za rfl qS ?_ ?_<;>intro hc<;>first | (replace hc:=qC2 hc;try exact qX) | exact qF2 hc | skip) | refine zf hn za rfl qS ⟨_,rfl,?_⟩ | refine qK hn za rfl rfl (by assumption) ?_))<;>(rw [hc];rfl)
theorem zk1 (b:Bool):Con Tryz.prog 306 [.dat (.bool b)] (.dat (.int .i64 (zqg b))):=by
 refine zk (rs:=[(.tmp 2,3)]) za Tryz.func306 rfl rfl rfl (Nat.le_of_ble_eq_true rfl) fun ho x hn=>?_
 (repeat' (first | (refine ze hn za rfl qS ?_ ?_<;>intro hc<;>first | (replace hc:=qC2 hc;try exact qX) | exact qF2 hc | skip) | refine zf hn za rfl qS ⟨_,rfl,?_⟩ | refine qK hn za rfl rfl (by assumption) ?_))<;>(rw [hc];rfl)
def zcj (g:zW) (ch v:Int) (ok:Bool) (reg okReg:Int):zW:=zbq (zbq (tell g ⟨2,ch,if ok then v else 0,ok⟩) reg (if ok then v else 0)) okReg (zqg ok)
set_option maxHeartbeats 4000000 in
theorem zhc (g:zW) (ch v:Int) (ok:Bool) (reg okReg:Int) (h1:g.regs.length≤2199023255551) (h2:g.trace.length≤2199023255551):Con Tryz.prog 287 [.dagg (zH g),.dat (.int .i64 ch),.dat (.int .i64 v),.dat (.bool ok),.dat (.int .i64 reg),.dat (.int .i64 okReg)] (.dagg (zH (zcj g ch v ok reg okReg))):=by
 refine zk (rs:=[(.cell 12 172,172)]) za Tryz.func287 rfl rfl rfl (Nat.le_of_ble_eq_true rfl) fun ho x hn=>?_
 have hb:=zn8 ok
 have hl1:=zc8 (tell g ⟨2,ch,if ok then v else 0,ok⟩) reg (if ok then v else 0)
 have ht:(tell g ⟨2,ch,if ok then v else 0,ok⟩).trace.length=g.trace.length+1:=by simp [tell]
 have hr:(tell g ⟨2,ch,if ok then v else 0,ok⟩).regs=g.regs:=rfl
 have hk1:=zbP g ⟨2,ch,if ok then v else 0,ok⟩ h1 h2
 have hk2:=zd7 (tell g ⟨2,ch,if ok then v else 0,ok⟩) reg (if ok then v else 0) (by rw [hr];omega) (by omega)
 have hk3:=zd7 (zbq (tell g ⟨2,ch,if ok then v else 0,ok⟩) reg (if ok then v else 0)) okReg (zqg ok) (by rw [hl1.1,hr];omega) (by rw [hl1.2.1];omega)
 refine ze hn za rfl qS ?_ ?_<;>intro hc<;>first | (replace hc:=qC2 hc;try exact qX) | exact qF2 hc | skip
 ·rw [if_neg (by rw [hc];decide)] at hk1 hk2 hk3
  refine qK hn za rfl rfl (by assumption) ?_
  refine qK hn za rfl rfl (by assumption) ?_
  refine qK hn za rfl rfl (by assumption) ?_
  refine qK hn za rfl rfl (by assumption) ?_
  refine zf hn za rfl qS ⟨_,rfl,?_⟩
  rw [zcj,if_neg (by rw [hc];decide)];rfl
 ·rw [if_pos hc] at hk1 hk2 hk3
  refine qK hn za rfl rfl (by assumption) ?_
  refine qK hn za rfl rfl (by assumption) ?_
  refine qK hn za rfl rfl (by assumption) ?_
  refine qK hn za rfl rfl (by assumption) ?_
  refine zf hn za rfl qS ⟨_,rfl,?_⟩
  rw [zcj,if_pos hc];rfl
set_option maxHeartbeats 4000000 in
theorem ze8 (g:zW) (ch v:Int) (ok:Bool) (reg okReg:Int) (h1:g.regs.length≤2199023255551) (h2:g.trace.length≤2199023255551):Con Tryz.prog 298 [.dagg (zH g),.dat (.int .i64 ch),.dat (.int .i64 reg),.dat (.int .i64 okReg),.dat (.int .i64 v),.dat (.bool ok)] (.dagg (zH (zcj g ch v ok reg okReg))):=by
 refine zk (rs:=[(.cell 12 172,172)]) za Tryz.func298 rfl rfl rfl (Nat.le_of_ble_eq_true rfl) fun ho x hn=>?_
 have hb:=zk1 ok
 have hl1:=zc8 (tell g ⟨2,ch,if ok then v else 0,ok⟩) reg (if ok then v else 0)
 have ht:(tell g ⟨2,ch,if ok then v else 0,ok⟩).trace.length=g.trace.length+1:=by simp [tell]
 have hr:(tell g ⟨2,ch,if ok then v else 0,ok⟩).regs=g.regs:=rfl
 have hk1:=zaH g ⟨2,ch,if ok then v else 0,ok⟩ h1 h2
 have hk2:=zd6 (tell g ⟨2,ch,if ok then v else 0,ok⟩) reg (if ok then v else 0) (by rw [hr];omega) (by omega)
 have hk3:=zd6 (zbq (tell g ⟨2,ch,if ok then v else 0,ok⟩) reg (if ok then v else 0)) okReg (zqg ok) (by rw [hl1.1,hr];omega) (by rw [hl1.2.1];omega)
 refine ze hn za rfl qS ?_ ?_<;>intro hc<;>first | (replace hc:=qC2 hc;try exact qX) | exact qF2 hc | skip
 ·rw [if_neg (by rw [hc];decide)] at hk1 hk2 hk3
  refine qK hn za rfl rfl (by assumption) ?_
  refine qK hn za rfl rfl (by assumption) ?_
  refine qK hn za rfl rfl (by assumption) ?_
  refine qK hn za rfl rfl (by assumption) ?_
  refine zf hn za rfl qS ⟨_,rfl,?_⟩
  rw [zcj,if_neg (by rw [hc];decide)];rfl
 ·rw [if_pos hc] at hk1 hk2 hk3
  refine qK hn za rfl rfl (by assumption) ?_
  refine qK hn za rfl rfl (by assumption) ?_
  refine qK hn za rfl rfl (by assumption) ?_
  refine qK hn za rfl rfl (by assumption) ?_
  refine zf hn za rfl qS ⟨_,rfl,?_⟩
  rw [zcj,if_pos hc];rfl
end Go.Proofs.YtjmefaihkblliaaGreat.Ab

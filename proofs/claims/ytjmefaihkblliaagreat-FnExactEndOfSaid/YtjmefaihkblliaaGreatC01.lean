/- Texts of one claim, joined: AbC, AbD, AbE, AbF, AbG, AbH, AbI, AbJ, AbK, AbL, AbM, AbN, AbO, AbP, AbQ, AbR, AbS. Conditions: zas each says. -/
import Derived.KernelRfl
import Derived.ArgAppend
import Derived.Laws.MakeOwn
import Derived.Orders
import Derived.Maps.RangeRun
import Derived.RangeFuncRecord
import Derived.Test.YtjmefaihkblliaaGreatC00
namespace Go.Proofs.YtjmefaihkblliaaGreat.Ab
open Go.RowKit
set_option linter.unusedVariables false
set_option linter.unusedSimpArgs false
inductive Okc:C→Prop where
 | int (k:IntKind) (n:Int):Okc (.int k n)
 | bool (b:Bool):Okc (.bool b)
 | str (s:ByteArray):Okc (.str s)
 | val (v:Value):Okc (.val v)
 | sl (z:Nat) {α:Type} (d:α) (f:α→List C) (xs:List α) (hl:xs.length≤9223372036854775807) (h:∀ x∈xs,∀ c∈f x,Okc c):Okc (.sl z d f xs)
theorem Rf.ok {S:Nat→Prop} {w:World} {v:Value} {c:C} (h:Rf S w v c):Okc c:=by
 induction h with
 | int k n=>exact .int k n
 | bool b=>exact .bool b
 | str s=>exact .str s
 | val v h=>exact .val v
 | nil A c z d f=>exact .sl z d f [] (by simp) (fun x hx=>by cases hx)
 | row b o c z n d f xs us hn hne hz hc hm hS hl hu hr ih=>
   refine .sl z d f xs (by omega) (fun x hx c hc=>?_)
   obtain ⟨i,hi⟩:=List.mem_iff_getElem?.1 hx
   obtain ⟨j,hj⟩:=List.mem_iff_getElem?.1 hc
   exact ih i x j c hi hj
theorem Okc.len {z:Nat} {α:Type} {d:α} {f:α→List C} {xs:List α} (h:Okc (.sl z d f xs)):xs.length≤9223372036854775807:=by cases h;assumption
theorem Okc.el {z:Nat} {α:Type} {d:α} {f:α→List C} {xs:List α} (h:Okc (.sl z d f xs)) {x:α} (hx:x∈xs) {c:C} (hc:c∈f x):Okc c:=by
 cases h with
 | sl _ _ _ _ _ h=>exact h x hx c hc
def OkL:LV→Prop
 | .dat c=>Okc c
 | .dagg cs=>∀ c∈cs,Okc c
 | _=>True
def OkR:LV→Prop
 | .tup ls=>∀ l∈ls,OkL l
 | l=>OkL l
theorem R2.ok {S:Nat→Prop} {M:Mem} {m:Mp} {w:World} {v:Value} {l:LV} (h:R2 S M m w v l):OkL l:=by
 cases l with
 | dat c=>exact Rf.ok h
 | dagg cs=>
   obtain ⟨us,hv,hd⟩:=h
   intro c hc
   obtain ⟨j,hj⟩:=List.mem_iff_getElem?.1 hc
   have hlt:=(List.getElem?_eq_some_iff.1 hj).1
   rw [← hd.1] at hlt
   exact (hd.2 j _ c (List.getElem?_eq_getElem hlt) hj).ok
 | _=>trivial
theorem R3.ok {S:Nat→Prop} {M:Mem} {m:Mp} {w:World} {v:Value} {l:LV} (h:R3 S M m w v l):OkR l:=by
 cases l with
 | tup ls=>
   obtain ⟨us,hv,hl,hd⟩:=h
   intro l hlm
   obtain ⟨j,hj⟩:=List.mem_iff_getElem?.1 hlm
   have hlt:=(List.getElem?_eq_some_iff.1 hj).1
   rw [← hl] at hlt
   exact (hd j _ l (List.getElem?_eq_getElem hlt) hj).ok
 | dat c=>exact R2.ok (l:=.dat c) h
 | dagg cs=>exact R2.ok (l:=.dagg cs) h
 | _=>trivial
section
variable {P:Program} {x:Cx} {tb:Tb} {R:Cx→Tl→Ml→Prop}
theorem zvI {f:FuncId} {args:List LV} {r:LV} (hca:zgw P f) (h:(∀ l∈args,OkL l)→Con P f args r):Con P f args r:=by
 refine ⟨hca,fun S w m vs hS hl hvs=>?_⟩
 exact (h (fun l hlm=>by
  obtain ⟨j,hj⟩:=List.mem_iff_getElem?.1 hlm
  have hlt:=(List.getElem?_eq_some_iff.1 hj).1
  rw [← hl] at hlt
  exact (hvs j _ l (List.getElem?_eq_getElem hlt) hj).ok)).2 S w m vs hS hl hvs
theorem zk {f:FuncId} {fn:Func} {c:Code} {args:List LV} {rs:List (ResultVar×TypeId)} {r:LV} (htb:zaJ P tb) (hf:P.funcs[f]? = some fn) (hb:fn.body=some c) (hname:(fn.name == "runtime.NumGoroutine")=false)
 (hres:fn.results=(rs.map (·.1)).toArray) (hn:args.length≤fn.ntmps)
 (h:(∀ l∈args,OkL l)→∀ x:Cx,x.n=fn.ntmps→Wc P x (Ret tb rs r) [.code c] (zhh 0 args) []):Con P f args r:=
 zvI ⟨fn,c,hf,hb,hname⟩ fun ho=>zwc htb hf hb hname hres hn (h ho)
theorem go {n:Nat} (hn:x.n=n) (htb:zaJ P tb) {k:List It} {T:Tl} {M:Ml} {o:Out} (ho:run tb n 1000 T M True k=o) (h:ztY P x n R o):Wc P x R k T M:=(zdw hn htb 1000 T M True k (by rw [ho];exact h)).2
theorem zf {n:Nat} (hn:x.n=n) (htb:zaJ P tb) {k:List It} {T:Tl} {M:Ml} {s:Prop} {T1:Tl} {M1:Ml} (ho:run tb n 1000 T M True k=.ret s T1 M1) (hs:s) (h:R x T1 M1):Wc P x R k T M:=go hn htb ho ⟨hs,h⟩
theorem zx {n:Nat} (hn:x.n=n) (htb:zaJ P tb) {k:List It} {T:Tl} {M:Ml} {s:Prop} {J:Cx→Tl→Ml→Prop} {T1:Tl} {M1:Ml} (ho:run tb n 1000 T M True k=.stop s J T1 M1) (hs:s) (h:J x T1 M1):Wc P x R k T M:=go hn htb ho ⟨hs,h⟩
theorem ze {n:Nat} (hn:x.n=n) (htb:zaJ P tb) {k:List It} {T:Tl} {M:Ml} {b:Bool} {s:Prop} {M1:Ml} {T1 T2:Tl} {k1 k2:List It} (ho:run tb n 1000 T M True k=.cond b s M1 T1 k1 T2 k2) (hs:s) (h1:b=true→Wc P x R k1 T1 M1) (h2:b=false→Wc P x R k2 T2 M1):Wc P x R k T M:=go hn htb ho ⟨hs,h1,h2⟩
theorem zM {n:Nat} (hn:x.n=n) (htb:zaJ P tb) {k:List It} {T:Tl} {M:Ml} {c:Code} {s:Prop} {T1 Ts:Tl} {M1 Ms:Ml} {k1:List It} (ho:run tb n 1000 T M True k=.loop c s T1 Ts M1 Ms k1) (hs:s) {α:Type} (I:α→Tl→Ml→Tl×Ml) (Q:α→Prop) (μ:α→Nat) (y0:α) (h0:Q y0) (hle:Le x T1 M1 (I y0 Ts Ms).1 (I y0 Ts Ms).2)
 (h:∀ y,Q y→Wc P x R (.code c::.stop (fun x1 T1 M1=>∃ y1,Q y1∧μ y1<μ y∧LeX x1 x T1 M1 (I y1 Ts Ms).1 (I y1 Ts Ms).2)::k1) (I y Ts Ms).1 (I y Ts Ms).2):Wc P x R k T M:=go hn htb ho ⟨hs,zup (fun y=>I y Ts Ms) Q μ y0 h0 hle h⟩
theorem zut {n:Nat} (hn:x.n=n) (htb:zaJ P tb) {k:List It} {T:Tl} {M:Ml} {f:FuncId} {args args1:List LV} {r:LV} {dst:Option Nat} {s:Prop} {T1:Tl} {M1:Ml} {k1:List It} (ho:run tb n 1000 T M True k=.call f args dst s T1 M1 k1) (hs:s) (hd:zaA n dst=true) (vw:List Nat)
 (ha:zeU (mm M1) args=some args1) (hc:Con P f args1 r) (hp:r.isPure=true) (hv:r.flat=true∨∀ id,(∃ l∈args,l.on2 id)→id∈vw) (h:Wc P x R k1 (Ab.putd dst r T1) (dropM vw M1)):Wc P x R k T M:=go hn htb ho ⟨hs,zsQ hn hd vw hc ha hp hv h⟩
end
open Go.RowKit
set_option linter.unusedVariables false
set_option linter.unusedSimpArgs false
def zlz (P:Program) (fs:Array Field):Nat→List (Nat×TypeId)→Bool
 | _,[]=>true
 | i,q::r=>(match fs[i]? with
   | some f=>Nat.beq f.offset q.1 && Nat.beq f.type q.2 && !Nat.beq (P.cellsOf f.type) 0 && (P.info? f.type).isSome
   | none=>false) && zlz P fs (i+1) r
def kdB (P:Program) (k:Kd) (fields:List (Nat×TypeId)) (d:TypeDesc):Bool:=match k,d with
 | .int k,.int k'=>decide (k=k')
 | .bool,.bool=>true
 | .str,.string=>true
 | .sl e,.slice e'=>Nat.beq e e'
 | .ptr,.pointer _=>true
 | .st,.struct fs=>Nat.beq fs.size fields.length && zlz P fs 0 fields
 | _,_=>false
def tyB (P:Program) (t:TypeId) (k:Kd) (fields:List (Nat×TypeId)):Bool:=match P.underlying t with
 | some d=>kdB P k fields d
 | none=>false
theorem zmY {P:Program} {fs:Array Field}:∀ {fields:List (Nat×TypeId)} {i0:Nat},zlz P fs i0 fields=true→∀ (i:Nat) q,fields[i]? = some q→∃ f,fs[i0+i]? = some f∧f.offset=q.1∧f.type=q.2∧P.cellsOf f.type≠0∧(P.info? f.type).isSome=true
 | [],_,_,i,q,hq=>by cases hq
 | q0::r,i0,h,i,q,hq=>by
   simp only [zlz,Bool.and_eq_true] at h
   cases i with
   | zero=>
     have:q0=q:=by simpa using hq
     subst this
     have h1:=h.1
     split at h1
     ·rename_i f hf
      simp only [Bool.and_eq_true,Bool.not_eq_true'] at h1
      exact ⟨f,hf,zbh.1 h1.1.1.1,zbh.1 h1.1.1.2,zin.1 h1.1.2,h1.2⟩
     ·cases h1
   | succ i=>
     have:=zmY h.2 i q (by simpa using hq)
     rwa [show i0+1+i=i0+(i+1) by omega] at this
theorem zvY {P:Program} {k:Kd} {fields:List (Nat×TypeId)} {d:TypeDesc} (h:kdB P k fields d=true):zoN P k fields d:=by
 unfold kdB at h
 split at h
 ·show _=_
  exact of_decide_eq_true h
 ·trivial
 ·trivial
 ·exact zbh.1 h
 ·trivial
 ·rw [Bool.and_eq_true] at h
  refine ⟨zbh.1 h.1,fun i q hq=>?_⟩
  have:=zmY h.2 i q hq
  rwa [Nat.zero_add] at this
 ·cases h
theorem zaK {P:Program} {t:TypeId} {y:Ty} (z:Value) (hi:(P.info? t).map (fun i=>(i.zero,i.size,i.bytes))=some (some z,y.size,y.bytes)) (hk:tyB P t y.kd y.fields=true)
 (hz:z.cells.toList=y.zero.map zv) (hza:y.agg=true→z=.agg z.cells) (hp:0<y.size∧0<y.bytes) (hl:y.zl=y.zero.map zlv∧y.zero.length=y.size∧∀ c∈y.zero,zOk c) (h1:y.agg=false→y.size=1):za9 P t y:=by
 refine ⟨?_,?_,hp,hl,h1⟩
 ·cases h:P.info? t with
  | none=>rw [h] at hi;cases hi
  | some i=>
    rw [h] at hi
    simp only [Option.map_some,Option.some.injEq,Prod.mk.injEq] at hi
    exact ⟨i,rfl,hi.2.1,hi.2.2,z,hi.1,hz,hza⟩
 ·unfold tyB at hk
  split at hk
  ·rename_i d hd;exact ⟨d,hd,zvY hk⟩
  ·cases hk
theorem zkI (g:Nat) (t:TypeId):∀ (vs:List Value) (o:Nat) (cur:Array Value) (w:World),w.heap[g]? = some (.cells cur t (0,0))→o+vs.length≤cur.size→
 w.setCells g o vs=w.setRow g (cur.toList.take o++vs++cur.toList.drop (o+vs.length)).toArray
 | [],o,cur,w,hg,_=>by
   simp only [World.setCells,List.append_nil,List.length_nil,Nat.add_zero,List.take_append_drop,Array.toArray_toList]
   rw [setRow_self w g cur t (0,0) hg]
 | v::zd9,o,cur,w,hg,hl=>by
   have ih:=zkI g t zd9 (o+1) (cur.setIfInBounds o v) (w.setRow g (cur.setIfInBounds o v)) (setRow_heap w g cur _ t _ hg) (by simp at hl ⊢;omega)
   rw [World.setCells,setCell_eq_setRow w g o cur t (0,0) v hg,ih,setRow_setRow]
   have e:=list_seg_step cur.toList o v zd9 (by simp at hl ⊢;omega)
   congr 2
   simpa [Array.toList_setIfInBounds,Nat.add_assoc,Nat.add_comm 1] using e
structure Lst (S:Nat→Prop) (w:World) (z:Nat) (cont:List (List C)) (L:List Value):Prop where
 len:L.length=cont.length*z
 each:∀ y∈cont,y.length=z
 el:∀ (i:Nat) y (j:Nat) q,cont[i]? = some y→y[j]? = some q→∃ u,L[i*z+j]? = some u∧Rf S w u q
section
variable {S S1:Nat→Prop} {w w1:World} {z:Nat} {c0 c1 cont:List (List C)} {L L0 L1:List Value}
theorem Lst.app (h0:Lst S w z c0 L0) (h1:Lst S w z c1 L1):Lst S w z (c0++c1) (L0++L1):=by
 refine ⟨by rw [List.length_append,List.length_append,h0.len,h1.len,Nat.add_mul],fun y hy=>(List.mem_append.1 hy).elim (h0.each y) (h1.each y),fun i y j q hi hj=>?_⟩
 rcases Nat.lt_or_ge i c0.length with h | h
 ·rw [List.getElem?_append_left h] at hi
  obtain ⟨u,hu,hr⟩:=h0.el i y j q hi hj
  exact ⟨u,by rw [List.getElem?_append_left (List.getElem?_eq_some_iff.1 hu).1];exact hu,hr⟩
 ·rw [List.getElem?_append_right h] at hi
  obtain ⟨u,hu,hr⟩:=h1.el _ y j q hi hj
  refine ⟨u,?_,hr⟩
  have hle:c0.length*z≤i*z:=Nat.mul_le_mul_right _ h
  rw [List.getElem?_append_right (by rw [h0.len];omega),h0.len,show i*z+j-c0.length*z=(i-c0.length)*z+j by rw [Nat.sub_mul];omega]
  exact hu
theorem Lst.one (h:Lst S w z cont L):∀ u∈L,u.oneCell'=true:=fun u hu=>by
 obtain ⟨k,hk⟩:=List.mem_iff_getElem?.1 hu
 have hlt:=(List.getElem?_eq_some_iff.1 hk).1
 rw [h.len] at hlt
 have hz:0<z:=by
  rcases Nat.eq_zero_or_pos z with hz | hz
  ·subst hz;simp at hlt
  ·exact hz
 have hi:k / z<cont.length:=by rw [Nat.div_lt_iff_lt_mul hz];exact hlt
 have hmod:=Nat.mod_lt k hz
 have hdm:=Nat.div_add_mod k z
 have hyl:=h.each _ (List.mem_of_getElem? (List.getElem?_eq_getElem hi))
 obtain ⟨u',hu',hr⟩:=h.el (k / z) _ (k % z) _ (List.getElem?_eq_getElem hi) (List.getElem?_eq_getElem (by rw [hyl];exact hmod))
 rw [show k / z*z+k % z=k by rw [Nat.mul_comm];exact hdm,hk] at hu'
 cases hu';exact hr.one
theorem Lst.move (h:Lst S w z cont L) (hm:∀ v c,Rf S w v c→Rf S1 w1 v c):Lst S1 w1 z cont L:=⟨h.len,h.each,fun i y j q hi hj=>by
 obtain ⟨u,hu,hr⟩:=h.el i y j q hi hj
 exact ⟨u,hu,hm _ _ hr⟩⟩
theorem ziN (g:Nat→Option Value) (hz:0<z) (he:∀ y∈cont,y.length=z) (h:∀ (i:Nat) y (j:Nat) q,cont[i]? = some y→y[j]? = some q→∃ u,g (i*z+j)=some u∧Rf S w u q) :
 ∃ L,Lst S w z cont L∧∀ k u,L[k]? = some u→g k=some u:=by
 have hall:∀ k,k<cont.length*z→∃ u,g k=some u:=fun k hk=>by
  have hi:k / z<cont.length:=by rw [Nat.div_lt_iff_lt_mul hz];exact hk
  have hmod:=Nat.mod_lt k hz
  have hdm:=Nat.div_add_mod k z
  have hyl:=he _ (List.mem_of_getElem? (List.getElem?_eq_getElem hi))
  obtain ⟨u',hu',hr⟩:=h (k / z) _ (k % z) _ (List.getElem?_eq_getElem hi) (List.getElem?_eq_getElem (by rw [hyl];exact hmod))
  rw [show k / z*z+k % z=k by rw [Nat.mul_comm];exact hdm] at hu'
  exact ⟨u',hu'⟩
 have hget:∀ k u,((List.range (cont.length*z)).map fun k=>(g k).getD undef)[k]? = some u→g k=some u:=fun k u hk=>by
  have hlt:k<cont.length*z:=by have:=(List.getElem?_eq_some_iff.1 hk).1;simpa using this
  obtain ⟨u',hu'⟩:=hall k hlt
  simp [hlt,hu'] at hk
  rw [hu',hk]
 refine ⟨(List.range (cont.length*z)).map fun k=>(g k).getD undef,⟨by simp,he,fun i y j q hi hj=>?_⟩,hget⟩
 obtain ⟨u,hu,hr⟩:=h i y j q hi hj
 have hil:=(List.getElem?_eq_some_iff.1 hi).1
 have hjl:=(List.getElem?_eq_some_iff.1 hj).1
 rw [he y (List.mem_of_getElem? hi)] at hjl
 have hlt:i*z+j<cont.length*z:=by
  have:=Nat.mul_le_mul_right z hil
  rw [Nat.succ_mul] at this
  omega
 exact ⟨u,by simp [hlt,hu],hr⟩
end
def zfG (M:Mem):LV→Option (Nat×List (List C))
 | .dat (.sl z _ g ys)=>some (z,ys.map g)
 | .nil (.sl z _ g ys)=>some (z,ys.map g)
 | .own id=>match M id with
   | some (.row _ z _ g ys)=>some (z,ys.map g)
   | _=>none
 | _=>none
section
variable {x:Cx} {M:Mem} {m:Mp} {a:Act} {w:World} {P:Program}
theorem zh3 {α:Type} {g:α→List C} {ys:List α} {i:Nat} {y:List C} (h:(ys.map g)[i]? = some y):∃ t,ys[i]? = some t∧y=g t:=by
 rw [List.getElem?_map] at h
 cases hy:ys[i]? with
 | none=>rw [hy] at h;cases h
 | some t=>rw [hy] at h;cases h;exact ⟨t,rfl,rfl⟩
theorem zln (hblk:∀ id b,M id=some b→zfe x.S0 M m w id b) {v:Value} {l:LV} (hv:R3 x.S0 M m w v l) {z:Nat} {cont:List (List C)} (h:zfG M l=some (z,cont)) :
 ∃ A c,v=.slice A cont.length c∧(0<cont.length→∃ b o,A=some ⟨b,o,none⟩∧∃ L,Lst (Own x.S0 M m) w z cont L∧0<z∧∀ k u,L[k]? = some u→w.cell? ⟨b,o+k,none⟩=some u):=by
 cases l with
 | dat c=>
   cases c with
   | sl z' d g ys=>
     cases h
     obtain ⟨A,c,hvv,hc⟩:=zkz hv
     refine ⟨A,c,by rw [List.length_map];exact hvv,fun hpos=>?_⟩
     obtain ⟨b,o,hA,hz,_,_,_,hl,hcc⟩:=hc (by simpa using hpos)
     obtain ⟨L,hL,hg⟩:=ziN (S:=Own x.S0 M m) (w:=w) (cont:=ys.map g) (fun k=>w.cell? ⟨b,o+k,none⟩) hz (fun y hy=>by
      obtain ⟨t,ht,rfl⟩:=List.mem_map.1 hy;exact hl t ht) (fun i y j q hi hj=>by
      obtain ⟨t,ht,rfl⟩:=zh3 hi
      obtain ⟨u,hu,hr⟩:=hcc i t j q ht hj
      exact ⟨u,by rw [← Nat.add_assoc];exact hu,hr⟩)
     exact ⟨b,o,hA,L,hL,hz,hg⟩
   | _=>cases h
 | nil c=>
   cases c with
   | sl z' d g ys=>
     cases h
     obtain ⟨hvv,hr⟩:=hv
     obtain ⟨A,c,hv2,_⟩:=zkz hr
     rw [hvv] at hv2
     simp only [Value.slice.injEq] at hv2
     obtain ⟨_,hl,_⟩:=hv2
     refine ⟨none,0,by rw [List.length_map,← hl];exact hvv,fun hpos=>?_⟩
     rw [List.length_map] at hpos
     omega
   | _=>cases h
 | own id=>
   simp only [zfG] at h
   split at h
   ·rename_i e z' α d g ys hm
    cases h
    have hvv:=hv.2 _ (show zJ M id=some _ by unfold zJ;rw [hm])
    obtain ⟨us,hu,a1,a2,a3,a4,a5,a6,a7⟩:=hblk id _ hm
    refine ⟨_,_,by rw [List.length_map];exact hvv,fun hpos=>⟨_,_,rfl,?_⟩⟩
    obtain ⟨L,hL,hg⟩:=ziN (S:=Own x.S0 M m) (w:=w) (cont:=ys.map g) (fun k=>w.cell? ⟨m.blk id,m.off id+k,none⟩) a4 (fun y hy=>by
     obtain ⟨t,ht,rfl⟩:=List.mem_map.1 hy;exact a5 t ht) (fun i y j q hi hj=>by
     obtain ⟨t,ht,rfl⟩:=zh3 hi
     obtain ⟨u,hu',hr⟩:=a7 i t j q ht hj
     exact ⟨u,by rw [zcF hu,← Nat.add_assoc];exact hu',hr⟩)
    exact ⟨L,hL,a4,hg⟩
   ·cases h
 | _=>cases h
end
section
variable {P:Program} {w:World}
theorem zpr (t ty e:TypeId) (i:TypeInfo) (ht:P.underlying t=some (.slice e)) (hi:P.info? e=some i) (a0:Addr) (n cap:Nat) (A:Option Addr) (c:Nat) (hc:n≤cap) :
 (Builtin.append_ #[t,t] ty #[.slice (some a0) n cap,.slice A 0 c]).run P w=.ok (.slice (some a0) n cap) w:=by
 cases A<;>simp [Builtin.append_,run_underlying ht,sizeOf,typeInfo,hi,Builtin.lenOf,Builtin.firstCells,storeCells,loadCells,loadCellsFrom,hc]
structure Apd (w:World) (e z:Nat) (g:Option Nat) (k:Nat) (L:List Value) (v:Value) (w1:World):Prop where
 same:zfw (fun k=>some k=g) w w1
 os:w1.os=w.os∧w1.tape=w.tape∧w1.output=w.output
 res:∃ b o c us,v=.slice (some ⟨b,o,none⟩) k c∧(some b=g∨w.heap.size≤b)∧w1.heap[b]? = some (.cells us e (0,0))∧o+c*z≤us.size∧k≤c∧c≤9223372036854775807∧∀ j u,L[j]? = some u→us[o+j]? = some u
theorem zru (t ty e:TypeId) (i:TypeInfo) (zv:Value) (ht:P.underlying t=some (.slice e)) (hi:P.info? e=some i) (hz:i.zero=some zv) (hzs:zv.cells.size=i.size) (hpos:0<i.size)
 {g o cap n m c:Nat} {us:Array Value} {L0 L1:List Value} {A:Option Addr} (hg:w.heap[g]? = some (.cells us e (0,0))) (hsz:o+cap*i.size≤us.size) (hn:n≤cap) (hcap:cap≤9223372036854775807)
 (hl0:L0.length=n*i.size) (h0:∀ j u,L0[j]? = some u→us[o+j]? = some u)
 (hl1:L1.length=m*i.size) (h1:0<m→∃ b q,A=some ⟨b,q,none⟩∧∀ j u,L1[j]? = some u→w.cell? ⟨b,q+j,none⟩=some u) (hone:∀ u∈L1,u.oneCell'=true)
 (hby:(n+m)*i.bytes≤140737488355328) (hb1:0<i.bytes) :
 ∃ v w1,(Builtin.append_ #[t,t] ty #[.slice (some ⟨g,o,none⟩) n cap,.slice A m c]).run P w=.ok v w1∧Apd w e i.size (some g) (n+m) (L0++L1) v w1:=by
 rcases Nat.eq_zero_or_pos m with hm | hm
 ·subst hm
  have hL1:L1=[]:=List.length_eq_zero_iff.1 (by rw [hl1];simp)
  subst hL1
  refine ⟨_,_,zpr t ty e i ht hi _ n cap A c hn,.refl _ _,⟨rfl,rfl,rfl⟩,g,o,cap,us,rfl,.inl rfl,hg,hsz,hn,hcap,fun j u hj=>h0 j u (by simpa using hj)⟩
 ·obtain ⟨b,q,rfl,hc1⟩:=h1 hm
  have hnews:∀ j u,L1[j]? = some u→w.cell? ((⟨b,q,none⟩:Addr).add j)=some u:=fun j u hj=>by rw [zcA];exact hc1 j u hj
  have hmax:n+m≤140737488355328:=Nat.le_trans (Nat.le_mul_of_pos_right _ hb1) hby
  by_cases hroom:n+m≤cap
  ·have hfit:o+n*i.size+L1.length≤us.size:=by
    have:=Nat.mul_le_mul_right i.size hroom
    rw [Nat.add_mul] at this
    omega
   have hr:=run_append_room_cells (P:=P) (w:=w) t ty e i ht hi g o n cap ⟨b,q,none⟩ m c L1 hl1 hnews hone hroom
    (fun j hj=>by rw [zcF hg,Array.getElem?_eq_getElem (by omega)];rfl) (fun j hj=>by simp [World.frozen?,hg])
   rw [zkI g e L1 _ us w hg hfit] at hr
   refine ⟨_,_,hr,⟨(zc5 w g _).size,fun k hk hne=>(zc5 w g _).at_ k hk (fun e=>hne (by rw [e]))⟩,⟨rfl,rfl,rfl⟩,g,o,cap,_,rfl,.inl rfl,setRow_heap w g us _ e _ hg,?_,hroom,hcap,fun j u hj=>?_⟩
   ·simp only [List.size_toArray,List.length_append,List.length_take,List.length_drop,Array.length_toList]
    omega
   ·rw [List.getElem?_toArray]
    rcases Nat.lt_or_ge j L0.length with hj0 | hj0
    ·rw [List.getElem?_append_left hj0] at hj
     rw [List.append_assoc,List.getElem?_append_left (by rw [List.length_take,Array.length_toList];omega),List.getElem?_take_of_lt (by omega),Array.getElem?_toList]
     exact h0 j u hj
    ·rw [List.getElem?_append_right hj0] at hj
     have hjl:=(List.getElem?_eq_some_iff.1 hj).1
     rw [List.append_assoc,List.getElem?_append_right (by rw [List.length_take,Array.length_toList];omega),List.getElem?_append_left (by rw [List.length_take,Array.length_toList];omega),List.length_take,Array.length_toList,Nat.min_eq_left (by omega),
      show o+j-(o+n*i.size)=j-L0.length by omega]
     exact hj
  ·obtain ⟨v',w1,hr,hown,hgr⟩:=run_append_arg_grows (P:=P) (w:=w) t ty e i zv i.size i.bytes ht hi hz rfl rfl hzs hpos ⟨g,o,none⟩ n cap L0 hl0
    (fun j u hj=>by rw [zcA,zcF hg];exact h0 j u hj) ⟨b,q,none⟩ m c L1 hl1 hnews (by omega) (by simp only [maxLen];omega) hby
   obtain ⟨_,hh⟩:=hown
   rcases hh with ⟨_,h00⟩ | ⟨g',cap',cur,hv',hbg,hgb,hnc,hcm,hcs,htk⟩
   ·omega
   ·refine ⟨v',w1,hr,⟨hgr.size,fun k hk _=>hgr.block k hk (by simp)⟩,⟨hgr.os,hgr.tape,hgr.output⟩,g',0,cap',cur,hv',.inr hbg,hgb,by rw [hcs];omega,hnc,by simp only [maxLen] at hcm;omega,fun j u hj=>?_⟩
    rw [← htk] at hj
    have hjl:=(List.getElem?_eq_some_iff.1 hj).1
    rw [List.length_take] at hjl
    rw [List.getElem?_take_of_lt (by omega)] at hj
    rw [Nat.zero_add,← Array.getElem?_toList];exact hj
theorem zoR (t ty e:TypeId) (i:TypeInfo) (zv:Value) (ht:P.underlying t=some (.slice e)) (hi:P.info? e=some i) (hz:i.zero=some zv) (hzs:zv.cells.size=i.size) (hpos:0<i.size)
 {m c:Nat} {L1:List Value} {A:Option Addr} (hm:0<m)
 (hl1:L1.length=m*i.size) (h1:∃ b q,A=some ⟨b,q,none⟩∧∀ j u,L1[j]? = some u→w.cell? ⟨b,q+j,none⟩=some u) (hone:∀ u∈L1,u.oneCell'=true)
 (hby:m*i.bytes≤140737488355328) (hb1:0<i.bytes) :
 ∃ v w1,(Builtin.append_ #[t,t] ty #[.slice none 0 0,.slice A m c]).run P w=.ok v w1∧Apd w e i.size none m L1 v w1:=by
 obtain ⟨b,q,rfl,hc1⟩:=h1
 have hnews:∀ j u,L1[j]? = some u→w.cell? ((⟨b,q,none⟩:Addr).add j)=some u:=fun j u hj=>by rw [zcA];exact hc1 j u hj
 have hmax:m≤140737488355328:=Nat.le_trans (Nat.le_mul_of_pos_right _ hb1) hby
 obtain ⟨v',w1,hr,hown,hgr,_⟩:=run_append_own (P:=P) w w.heap.size t ty e i zv i.size i.bytes ht hi hz rfl rfl hzs hpos (.slice none 0 0) 0 [] ⟨by simp,.inl ⟨rfl,rfl⟩⟩ ⟨b,q,none⟩ m c L1 hl1 hnews hone (by simp only [maxLen];omega) (by simpa using hby) (Nat.le_refl _)
 obtain ⟨_,hh⟩:=hown
 rcases hh with ⟨_,h00⟩ | ⟨g',cap',cur,hv',hbg,hgb,hnc,hcm,hcs,htk⟩
 ·omega
 ·rw [Nat.zero_add] at hv' hnc htk
  rw [List.nil_append] at htk
  refine ⟨v',w1,hr,⟨hgr.size,fun k hk _=>hgr.block k hk (by simp [Value.ownBlock])⟩,⟨hgr.os,hgr.tape,hgr.output⟩,g',0,cap',cur,hv',.inr hbg,hgb,by rw [hcs];omega,hnc,by simp only [maxLen] at hcm;omega,fun j u hj=>?_⟩
  rw [← htk] at hj
  have hjl:=(List.getElem?_eq_some_iff.1 hj).1
  rw [List.length_take] at hjl
  rw [List.getElem?_take_of_lt (by omega)] at hj
  rw [Nat.zero_add,← Array.getElem?_toList];exact hj
end
section
variable {P:Program} {x:Cx} {tb:Tb} {R:Cx→Tl→Ml→Prop} {n:Nat} {o:Oper} {T:Tl} {M:Ml} {k:List It}
def zfn (tb:Tb) (t:TypeId):Option (TypeId×Ty):=match tb t with
 | some y=>match y.kd with
   | .sl e=>match tb e with
     | some q=>some (e,q)
     | none=>none
   | _=>none
 | none=>none
theorem zfi (htb:zaJ P tb) {t e:TypeId} {y:Ty} (h:zfn tb t=some (e,y)):P.underlying t=some (.slice e)∧tb e=some y:=by
 unfold zfn at h
 split at h
 ·rename_i y0 hy
  split at h
  ·rename_i e' hk
   split at h
   ·rename_i q hq
    cases h
    obtain ⟨d,hd,hkd⟩:=(htb t y0 hy).desc
    rw [hk] at hkd
    refine ⟨?_,hq⟩
    cases d<;>simp only [zoN] at hkd<;>first | (subst hkd;exact hd) | exact hkd.elim
   ·cases h
  ·cases h
 ·cases h
theorem za9.zsz {t:TypeId} {y:Ty} (h:za9 P t y):∃ i z,P.info? t=some i∧i.size=y.size∧i.bytes=y.bytes∧i.zero=some z∧z.cells.size=i.size:=by
 obtain ⟨i,hi,hs,hb,z,hz,hzc,_⟩:=h.info
 refine ⟨i,z,hi,hs,hb,hz,?_⟩
 rw [hs,← h.zl.2.1,← Array.length_toList,hzc,List.length_map]
theorem zuB {β:Type 1} (F:Nat→β) (k:Nat) (u v:β):Ab.upd (Ab.upd F k u) k v=Ab.upd F k v:=by
 funext i;unfold Ab.upd;split<;>rfl
theorem zjk {m:Mp} {a:Act} {w w1:World} (hr:Rel x (tm T) (mm M) m a w) {id d1:Nat} {e z:Nat} {α:Type} {d:α} {f:α→List C} {zs:List α} {v:Value} {L:List Value} {gr:Option Nat}
 (hold:gr=none∨∃ id b,mm M id=some b∧gr=some (m.blk id)∧(mm ((id,none)::M) d1).isSome=false) (hf:fresh T M d1=true) (hd1:mm M d1=none) (hz:0<z)
 (ha:Apd w e z gr zs.length L v w1) (hL:Lst (Own x.S0 (mm M) m) w z (zs.map f) L) (M1:Ml) (hM1:(gr=none∧M1=M)∨∃ id b,mm M id=some b∧gr=some (m.blk id)∧M1=(id,none)::M) :
 ∃ m1,Rel x (tm T) (mm ((d1,some (.row e z d f zs))::M1)) m1 a w1∧R3 x.S0 (mm ((d1,some (.row e z d f zs))::M1)) m1 w1 v (.own d1):=by
 obtain ⟨b,oo,c,us,hv,hb,hub,hsz,hkc,hcm,hLs⟩:=ha.res
 rcases hM1 with ⟨hg,rfl⟩ | ⟨id,bk,hbk,hg,rfl⟩
 ·subst hg
  have hb':w.heap.size≤b:=by rcases hb with hb | hb;cases hb;exact hb
  have hr1:=hr.upd d1 (some (.row e z d f zs)) (B:=b) (O:=oo) (c:=c) (w1:=w1) ⟨ha.same.size,fun k hk _=>ha.same.at_ k hk (fun e=>by cases e)⟩ ha.os (fun _=>.inr hb') (.inr (zde hf)) (fun b0 hb0 hmv hke=>by
   cases hb0
   refine ⟨us,by rw [Mp.set_blk];exact hub,by rw [Mp.set_off,Mp.set_cap];exact hsz,by rw [Mp.set_cap];exact hkc,by rw [Mp.set_cap];exact hcm,hz,fun y hy=>hL.each _ (List.mem_map_of_mem hy),trivial,fun i y j q hi hj=>?_⟩
   obtain ⟨u,hu,hrf⟩:=hL.el i (f y) j q (by rw [List.getElem?_map,hi];rfl) hj
   exact ⟨u,by rw [Mp.set_off,Nat.add_assoc];exact hLs _ u hu,hmv.dat hrf⟩)
  refine ⟨_,by rw [zI];exact hr1,by rw [hv];rfl,fun k hk=>?_⟩
  rw [zI] at hk
  unfold zJ at hk;rw [zac] at hk;cases hk
  rw [hv,Mp.set_blk,Mp.set_off,Mp.set_cap]
 ·subst hg
  have hne:d1≠id:=fun e=>by rw [e,hbk] at hd1;cases hd1
  have hr0:=hr.rename id d1 hne (by rw [hd1];rfl) (zde hf)
  have hown:∀ k,Own x.S0 (Ab.upd (Ab.upd (mm M) id none) d1 (mm M id)) (m.set d1 (m.blk id) (m.off id) (m.cap id)) k→Own x.S0 (mm M) m k:=by
   intro k hk
   rcases hk with hk | ⟨i,hi,hbk'⟩
   ·exact .inl hk
   ·by_cases e1:i=d1
    ·subst e1;rw [Mp.set_blk] at hbk';exact .inr ⟨id,by rw [hbk];rfl,hbk'⟩
    ·rw [(Mp.set_ne m d1 _ _ _ e1).1] at hbk'
     rw [zaZ _ _ e1] at hi
     by_cases e0:i=id
     ·subst e0;rw [zac] at hi;cases hi
     ·rw [zaZ _ _ e0] at hi;exact .inr ⟨i,hi,hbk'⟩
  have hlive:((Ab.upd (Ab.upd (mm M) id none) d1 (mm M id)) d1).isSome=true:=by rw [zac,hbk];rfl
  have hfr:zcd (tm T) (Ab.upd (Ab.upd (mm M) id none) d1 (mm M id)) d1:=by
   refine ⟨(zde hf).1,fun i b0 hb0=>?_,(zde hf).2.2⟩
   by_cases e1:i=d1
   ·subst e1;rw [zac] at hb0;exact (zde hf).2.1 id b0 hb0
   ·rw [zaZ _ _ e1] at hb0
    by_cases e0:i=id
    ·subst e0;rw [zac] at hb0;cases hb0
    ·rw [zaZ _ _ e0] at hb0;exact (zde hf).2.1 i b0 hb0
  have hr1:=hr0.upd d1 (some (.row e z d f zs)) (B:=b) (O:=oo) (c:=c) (w1:=w1)
   ⟨ha.same.size,fun k hk hno=>ha.same.at_ k hk (fun e=>hno ⟨hlive,by rw [Mp.set_blk];simpa using e⟩)⟩ ha.os
   (fun _=>by rcases hb with hb | hb
              ·exact .inl ⟨hlive,by rw [Mp.set_blk];simpa using hb⟩
              ·exact .inr hb) (.inr hfr) (fun b0 hb0 hmv hke=>by
   cases hb0
   refine ⟨us,by rw [Mp.set_blk];exact hub,by rw [Mp.set_off,Mp.set_cap];exact hsz,by rw [Mp.set_cap];exact hkc,by rw [Mp.set_cap];exact hcm,hz,fun y hy=>hL.each _ (List.mem_map_of_mem hy),trivial,fun i y j q hi hj=>?_⟩
   obtain ⟨u,hu,hrf⟩:=hL.el i (f y) j q (by rw [List.getElem?_map,hi];rfl) hj
   exact ⟨u,by rw [Mp.set_off,Nat.add_assoc];exact hLs _ u hu,hmv.dat (Rf.sub hrf hown)⟩)
  rw [zuB,← zI,← zI] at hr1
  refine ⟨_,hr1,by rw [hv];rfl,fun k hk=>?_⟩
  rw [zI] at hk
  unfold zJ at hk;rw [zac] at hk;cases hk
  rw [hv,Mp.set_blk,Mp.set_off,Mp.set_cap]
theorem zjl {c:Call} {p q:Operand} {t:TypeId} {a:Act} {w w1:World} {u v r:Value} (hop:o.op=.call c) (hc:c.callee=.builtin .append) (ha:c.args=#[p,q]) (hty:c.argTypes=#[t,t]) (hp:a.eval p=u) (hq:a.eval q=v)
 (hrun:(Builtin.append_ #[t,t] o.type #[u,v]).run P w=.ok r w1):(execOp a.eval o).run P w=.ok (.value r) w1:=by
 simp only [execOp,hop,resolve,hc,ha,hty,invoke,builtin,Sem.run_bind,Sem.run_pure,Result.andThen_ok,List.map_toArray,List.map_cons,List.map_nil,hp,hq,hrun]
theorem zra {t e:TypeId} {y:Ty} {u v:LV} {id d1 z:Nat} {α:Type} {d:α} {f:α→List C} {xs:List α} {cont:List (List C)} (ys:List α) (hn:x.n=n) (htb:zaJ P tb) (hi:ziV n o T t u v) (hu:u=.own id) (hm:mm M id=some (.row e z d f xs))
 (hs:zfn tb t=some (e,y)) (hz:Nat.beq y.size z=true) (hv:zfG (mm M) v=some (z,cont)) (hys:cont=ys.map f) (hd:o.dst=some d1) (hf:fresh T M d1=true) (hd1:mm M d1=none)
 (hby:(xs.length+ys.length)*y.bytes≤140737488355328) (h:Wc P x R k ((d1,.own d1)::T) ((d1,some (.row e z d f (xs++ys)))::(id,none)::M)):OpW P x R o k T M:=by
 intro m a w hr
 obtain ⟨hdo,c,p,q,hop,hc,ha,hty,hp,hq⟩:=hi
 subst hu
 obtain ⟨ht,hty2⟩:=zfi htb hs
 obtain ⟨i,zv,hinfo,his,hib,hiz,hzs⟩:=(htb e y hty2).zsz
 have hze:y.size=z:=zbh.1 hz
 have hpv:=zah hr p
 have hqv:=zah hr q
 rw [hp] at hpv
 rw [hq] at hqv
 have hpe:=hpv.2 _ (show zJ (mm M) id=some _ by unfold zJ;rw [hm])
 obtain ⟨us,hu,a1,a2,a3,a4,a5,a6,a7⟩:=hr.blk id _ hm
 obtain ⟨L0,hL0,hg0⟩:=ziN (S:=Own x.S0 (mm M) m) (w:=w) (cont:=xs.map f) (fun k=>us[m.off id+k]?) a4 (fun y hy=>by
  obtain ⟨t,ht,rfl⟩:=List.mem_map.1 hy;exact a5 t ht) (fun i y j q hi hj=>by
  obtain ⟨t,ht,rfl⟩:=zh3 hi
  obtain ⟨u,hu',hrf⟩:=a7 i t j q ht hj
  exact ⟨u,by rw [← Nat.add_assoc];exact hu',hrf⟩)
 obtain ⟨A,cc,hqe,hsrc⟩:=zln hr.blk hqv hv
 have hcl:cont.length=ys.length:=by rw [hys,List.length_map]
 have hsrc':∃ L1,Lst (Own x.S0 (mm M) m) w z cont L1∧(0<ys.length→∃ b q,A=some ⟨b,q,none⟩∧∀ j u,L1[j]? = some u→w.cell? ⟨b,q+j,none⟩=some u):=by
  rcases Nat.eq_zero_or_pos ys.length with h0 | h0
  ·refine ⟨[],⟨by rw [hcl,h0];simp,fun y hy=>?_,fun i y j q hi=>?_⟩,fun hh=>by omega⟩
   ·have:cont=[]:=List.length_eq_zero_iff.1 (by omega)
    rw [this] at hy;cases hy
   ·have:cont=[]:=List.length_eq_zero_iff.1 (by omega)
    rw [this] at hi;cases hi
  ·obtain ⟨b,oo,hA,L,hL,_,hg⟩:=hsrc (by omega)
   exact ⟨L,hL,fun _=>⟨b,oo,hA,hg⟩⟩
 obtain ⟨L1,hL1,hg1⟩:=hsrc'
 have hzi:i.size=z:=by rw [his,hze]
 obtain ⟨r,w1,hrun,hapd⟩:=zru (P:=P) (w:=w) t o.type e i zv ht hinfo hiz hzs (by rw [hzi];exact a4) (g:=m.blk id) (o:=m.off id) (cap:=m.cap id) (n:=xs.length) (m:=ys.length) (c:=cc) (us:=us) (L0:=L0) (L1:=L1) (A:=A) hu (by rw [hzi];exact a1) a2 a3
  (by rw [hL0.len,List.length_map,hzi]) (fun j u hj=>hg0 j u hj) (by rw [hL1.len,hcl,hzi]) hg1 hL1.one (by rw [hib];exact hby) (by rw [hib];exact (htb e y hty2).pos.2)
 have hex:=zjl (P:=P) hop hc ha hty hpe (by rw [hqe,hcl]) hrun
 rw [hzi,← List.length_append] at hapd
 have hcont:Lst (Own x.S0 (mm M) m) w z ((xs++ys).map f) (L0++L1):=by
  rw [List.map_append,← hys];exact hL0.app hL1
 obtain ⟨m1,hr1,hv1⟩:=zjk (d:=d) (f:=f) hr (id:=id) (.inr ⟨id,_,hm,rfl,by
  rw [zI];unfold Ab.upd;split
  ·rfl
  ·rw [hd1];rfl⟩) hf hd1 a4 hapd hcont ((id,none)::M) (.inr ⟨id,_,hm,rfl,rfl⟩)
 unfold Oper.wp
 rw [hex]
 show Ka P x R k .normal (a.put o.dst r) w1
 rw [hd]
 exact h m1 _ w1 (hr1.putd (d:=some d1) hn (by rw [← hd];exact hdo) hv1)
theorem zpW {t e:TypeId} {y:Ty} {u v:LV} {d1 z:Nat} {cont:List (List C)} {α:Type} {d:α} {f:α→List C} (ys:List α) (hn:x.n=n) (htb:zaJ P tb) (hi:ziV n o T t u v) (hu:u=.nil0∨u=.nil (.sl z d f []))
 (hs:zfn tb t=some (e,y)) (hz:Nat.beq y.size z=true) (hv:zfG (mm M) v=some (z,cont)) (hys:cont=ys.map f) (hpos:0<ys.length) (hd:o.dst=some d1) (hf:fresh T M d1=true) (hd1:mm M d1=none)
 (hby:ys.length*y.bytes≤140737488355328) (h:Wc P x R k ((d1,.own d1)::T) ((d1,some (.row e z d f ys))::M)):OpW P x R o k T M:=by
 intro m a w hr
 obtain ⟨hdo,c,p,q,hop,hc,ha,hty,hp,hq⟩:=hi
 obtain ⟨ht,hty2⟩:=zfi htb hs
 obtain ⟨i,zv,hinfo,his,hib,hiz,hzs⟩:=(htb e y hty2).zsz
 have hze:y.size=z:=zbh.1 hz
 have hpv:=zah hr p
 have hqv:=zah hr q
 rw [hp] at hpv
 rw [hq] at hqv
 have hpe:a.eval p=.slice none 0 0:=by
  rcases hu with rfl | rfl
  ·exact hpv
  ·exact hpv.1
 obtain ⟨A,cc,hqe,hsrc⟩:=zln hr.blk hqv hv
 have hcl:cont.length=ys.length:=by rw [hys,List.length_map]
 obtain ⟨b,oo,hA,L1,hL1,hz0,hg⟩:=hsrc (by omega)
 have hzi:i.size=z:=by rw [his,hze]
 obtain ⟨r,w1,hrun,hapd⟩:=zoR (P:=P) (w:=w) t o.type e i zv ht hinfo hiz hzs (by rw [hzi];exact hz0) (m:=ys.length) (c:=cc) (L1:=L1) (A:=A) hpos (by rw [hL1.len,hcl,hzi]) ⟨b,oo,hA,hg⟩ hL1.one (by rw [hib];exact hby) (by rw [hib];exact (htb e y hty2).pos.2)
 have hex:=zjl (P:=P) hop hc ha hty hpe (by rw [hqe,hcl]) hrun
 rw [hzi] at hapd
 obtain ⟨m1,hr1,hv1⟩:=zjk (d:=d) (f:=f) hr (id:=d1) (.inl rfl) hf hd1 hz0 hapd (by rw [← hys];exact hL1) M (.inl ⟨rfl,rfl⟩)
 unfold Oper.wp
 rw [hex]
 show Ka P x R k .normal (a.put o.dst r) w1
 rw [hd]
 exact h m1 _ w1 (hr1.putd (d:=some d1) hn (by rw [← hd];exact hdo) hv1)
end
section
variable {P:Program} {x:Cx} {tb:Tb} {R:Cx→Tl→Ml→Prop} {n:Nat} {o:Oper} {T:Tl} {M:Ml} {k:List It}
def ze3:LV→List Nat
 | .own id=>[id]
 | .lagg ls=>ids1 ls
 | _=>[]
where
 ids1:List LV→List Nat
  | []=>[]
  | .own id::ls=>id::ids1 ls
  | _::ls=>ids1 ls
theorem zog {id:Nat}:∀ {ls:List LV} {l:LV} {M:Mem} {c:C},l∈ls→l.on1 id→l.data M=some c→id∈ze3.ids1 ls
 | k::ls,l,M,c,hm,ho,hd=>by
   rcases List.mem_cons.1 hm with rfl | hm
   ·cases l<;>first
     | (have:_=id:=ho;subst this;exact List.mem_cons_self)
     | exact ho.elim
     | cases hd
   ·have:=zog hm ho hd
    cases k<;>first | exact List.mem_cons_of_mem _ this | exact this
theorem zre {t:TypeId} {e:TypeId} {y:Ty} {v v1:LV} {id i off z:Nat} {α:Type} {d:α} {f:α→List C} {xs:List α} {cs:List C} (a1:α) (hn:x.n=n) (htb:zaJ P tb) (hi:zuE o T t id i off v) (hm:mm M id=some (.row e z d f xs))
 (hy:tb t=some y) (hv:v.typed y=some v1) (hcs:zeG (mm M) v1.cells=some cs) (hf:f a1=(f (xs.getD i d)).take off++cs++(f (xs.getD i d)).drop (off+cs.length)) (hle:off+cs.length≤z)
 (hid:id∉ze3 v1) (hd:o.dst=none) (h:Wc P x R k T ((id,some (.row e z d f (xs.set i a1)))::dropM (ze3 v1) M)):OpW P x R o k T M:=by
 intro m a w hr
 obtain ⟨p,q,hop,hp,hq⟩:=hi
 have hpv:=zah hr p
 have hqv:=zah hr q
 rw [hp] at hpv
 rw [hq] at hqv
 obtain ⟨hil,hpe⟩:=hpv.2 _ (show zJ (mm M) id=some _ by unfold zJ;rw [hm])
 have hrz:zbt (mm M) id=z:=by unfold zbt;rw [hm]
 rw [hrz] at hpe
 obtain ⟨us,hu,b1,b2,b3,b4,b5,b6,b7⟩:=hr.blk id _ hm
 have hq2:R2 x.S0 (mm M) m w (a.eval q) v:=by
  revert hv hqv;cases v<;>intro hv hqv<;>first | exact hqv | cases hv
 obtain ⟨vs,hone⟩:=zd1 (htb t y hy) hq2 hv
 have hrs:=zpI hone.rc
 obtain ⟨hcl,hcd⟩:=zid hcs
 have hvl:vs.length=cs.length:=by rw [hrs.1,hcl]
 have hin:m.off id+i*z+z≤us.size:=by
  have:=Nat.mul_le_mul_right z (Nat.succ_le_of_lt (Nat.lt_of_lt_of_le hil b2))
  rw [Nat.succ_mul] at this
  omega
 have hst:=znB (P:=P) (w:=w) (htb t y hy) (v:=a.eval q) (vs:=vs) (g:=m.blk id) (off:=m.off id+i*z+off) (e:=e) (us:=us) hone.cells hone.len hone.one hu (by omega)
 have hex:(execOp a.eval o).run P w=.ok .skip (w.setRow (m.blk id) (us.toList.take (m.off id+i*z+off)++vs++us.toList.drop (m.off id+i*z+off+vs.length)).toArray):=by
  simp only [execOp,hop,hpe,Instr.storeAt,Instr.sureAddr,Sem.run_bind,Sem.run_pure,Result.andThen_ok,hst]
 -- the rows that are stored are given up
 have hr0:=hr.dropM (ze3 v1)
 have hm0:mm (dropM (ze3 v1) M) id=some (.row e z d f xs):=by
  have:∀ l:List Nat,id∉l→mm (dropM l M) id=mm M id:=by
   intro l
   induction l with
   | nil=>intro _;rfl
   | cons j l ih=>
     intro hj
     show mm ((j,none)::dropM l M) id=_
     rw [zI,zaZ _ _ (fun e=>hj (by rw [e];exact List.mem_cons_self))]
     exact ih (fun hh=>hj (List.mem_cons_of_mem _ hh))
  rw [this _ hid];exact hm
 have hvrf:∀ (j:Nat) u c,vs[j]? = some u→cs[j]? = some c→Rf (Own x.S0 (mm (dropM (ze3 v1) M)) m) w u c:=by
  intro j u c hj hc
  have hlt:=(List.getElem?_eq_some_iff.1 hj).1
  rw [hrs.1] at hlt
  have hl:=List.getElem?_eq_getElem hlt
  obtain ⟨c',hc',hdat⟩:=hcd j _ hl
  rw [hc] at hc';cases hc'
  refine zlD (x:=x) (M:=mm M) (m:=m) (fun k hk=>?_) hr.blk (hrs.2 j u _ hj hl).1 hdat (fun i' hi' hlive hS=>?_)
  ·rcases hk with hk | ⟨i',hi',hb⟩
   ·exact .inl hk
   ·exact .inr ⟨i',(zi8 hi').1,hb⟩
  ·have hmem:i'∈ze3 v1:=by
    cases v1 with
    | lagg ls=>exact zog (List.mem_of_getElem? hl) hi' hdat
    | dagg ds=>
      have:=List.mem_of_getElem? hl
      obtain ⟨c0,_,hc0⟩:=List.mem_map.1 this
      rw [← hc0] at hi';exact hi'.elim
    | _=>
      have:=List.mem_of_getElem? hl
      rw [List.mem_singleton.1 this] at hi' hdat
      first
       | (have:_=i':=hi';subst this;exact List.mem_cons_self)
       | exact hi'.elim
       | cases hdat
   rcases hS with hS | ⟨i'',hi'',hb⟩
   ·exact (hr.lo i' hlive).2 hS
   ·obtain ⟨h1,h2⟩:=zi8 hi''
    have:=hr.inj _ _ h1 hlive hb
    subst this
    exact h2 hmem
 obtain ⟨us0,hu0,_,_,_,_,_,_,c7⟩:=hr0.blk id _ hm0
 rw [hu] at hu0;cases hu0
 have hkeep:zdK (mm (dropM (ze3 v1) M)) m (Ab.upd (mm (dropM (ze3 v1) M)) id (some (.row e z d f (xs.set i a1)))) m id:=fun _=>⟨by rw [hm0];rfl,rfl,rfl,rfl,by unfold zJ;rw [zac,hm0];simp,by unfold zbt;rw [zac,hm0]⟩
 have hfl:(f (xs.getD i d)).length=z:=b5 _ (List.mem_of_getElem? (zd5 hil))
 have hr1:=hr0.upd id (some (.row e z d f (xs.set i a1))) (B:=m.blk id) (O:=m.off id) (c:=m.cap id) (w1:=w.setRow (m.blk id) (us.toList.take (m.off id+i*z+off)++vs++us.toList.drop (m.off id+i*z+off+vs.length)).toArray)
  ⟨(zc5 w _ _).size,fun k hk hne=>(zc5 w _ _).at_ k hk (fun e=>hne ⟨by rw [hm0];rfl,e⟩)⟩ ⟨rfl,rfl,rfl⟩ (fun _=>.inl ⟨by rw [hm0];rfl,rfl⟩) (.inl (by rw [zhS];exact hkeep))
  (fun b hb hmv hke=>by
    cases hb
    rw [zhS] at hmv hke ⊢
    refine ⟨_,setRow_heap w _ us _ e _ hu,?_,by rw [List.length_set];exact b2,b3,b4,fun y hy=>?_,trivial,fun i' y j c hi' hj=>?_⟩
    ·simp only [List.size_toArray,List.length_append,List.length_take,List.length_drop,Array.length_toList]
     omega
    ·rcases List.mem_or_eq_of_mem_set hy with hy | rfl
     ·exact b5 y hy
     ·rw [hf,List.length_append,List.length_append,List.length_take,List.length_drop];omega
    ·rw [List.getElem?_toArray]
     have hulen:us.toList.length=us.size:=Array.length_toList
     have other:∀ (c:C) (u:Value),us[m.off id+i'*z+j]? = some u→(m.off id+i'*z+j<m.off id+i*z+off∨m.off id+i*z+off+vs.length≤m.off id+i'*z+j)→(us.toList.take (m.off id+i*z+off)++vs++us.toList.drop (m.off id+i*z+off+vs.length))[m.off id+i'*z+j]? = some u:=by
      intro c u hcu hor
      have hlt:=(Array.getElem?_eq_some_iff.1 hcu).1
      rcases hor with hlo | hhi
      ·rw [List.append_assoc,List.getElem?_append_left (by rw [List.length_take,hulen];omega),List.getElem?_take_of_lt hlo,Array.getElem?_toList];exact hcu
      ·rw [List.getElem?_append_right (by rw [List.length_append,List.length_take,hulen];omega),List.getElem?_drop,List.length_append,List.length_take,hulen,Nat.min_eq_left (by omega),
        show m.off id+i*z+off+vs.length+(m.off id+i'*z+j-(m.off id+i*z+off+vs.length))=m.off id+i'*z+j by omega,Array.getElem?_toList]
       exact hcu
     by_cases hii:i'=i
     ·subst hii
      rw [List.getElem?_set_self hil] at hi'
      cases hi'
      rw [hf] at hj
      rcases Nat.lt_or_ge j off with hj1 | hj1
      ·rw [List.append_assoc,List.getElem?_append_left (by rw [List.length_take,hfl];omega),List.getElem?_take_of_lt hj1] at hj
       obtain ⟨u,h1,h2⟩:=c7 i' _ j c (zd5 hil) hj
       exact ⟨u,other c u h1 (.inl (by omega)),hmv.dat h2⟩
      ·rcases Nat.lt_or_ge j (off+cs.length) with hj2 | hj2
       ·rw [List.append_assoc,List.getElem?_append_right (by rw [List.length_take,hfl];omega),List.getElem?_append_left (by rw [List.length_take,hfl];omega),List.length_take,hfl,Nat.min_eq_left (by omega)] at hj
        have hlt:j-off<vs.length:=by omega
        have hu1:=List.getElem?_eq_getElem hlt
        refine ⟨_,?_,hmv.dat (hvrf _ _ c hu1 hj)⟩
        rw [List.append_assoc,List.getElem?_append_right (by rw [List.length_take,hulen];omega),List.getElem?_append_left (by rw [List.length_take,hulen];omega),List.length_take,hulen,Nat.min_eq_left (by omega),
         show m.off id+i'*z+j-(m.off id+i'*z+off)=j-off by omega]
        exact hu1
       ·rw [List.getElem?_append_right (by rw [List.length_append,List.length_take,hfl];omega),List.getElem?_drop,List.length_append,List.length_take,hfl,Nat.min_eq_left (by omega),show off+cs.length+(j-(off+cs.length))=j by omega] at hj
        obtain ⟨u,h1,h2⟩:=c7 i' _ j c (zd5 hil) hj
        exact ⟨u,other c u h1 (.inr (by omega)),hmv.dat h2⟩
     ·rw [List.getElem?_set_ne (fun e=>hii e.symm)] at hi'
      obtain ⟨u,h1,h2⟩:=c7 i' y j c hi' hj
      refine ⟨u,other c u h1 ?_,hmv.dat h2⟩
      have hjz:j<z:=by have:=(List.getElem?_eq_some_iff.1 hj).1;rw [b5 y (List.mem_of_getElem? hi')] at this;exact this
      rcases Nat.lt_or_ge i' i with hlt | hge
      ·left
       have:=Nat.mul_le_mul_right z (Nat.succ_le_of_lt hlt)
       rw [Nat.succ_mul] at this
       omega
      ·right
       have:=Nat.mul_le_mul_right z (show i+1≤i' by omega)
       rw [Nat.succ_mul] at this
       omega)
 rw [zhS,← zI] at hr1
 unfold Oper.wp
 rw [hex]
 show Ka P x R k .normal (a.put o.dst undef) _
 rw [hd]
 exact h m _ _ hr1
theorem zas (hn:x.n=n) (htb:zaJ P tb) {s:Prop} {T1:Tl} {M1:Ml} {k1:List It} {t e:TypeId} {y:Ty} {v:LV} {id d1 z:Nat} {α:Type} {d:α} {f:α→List C} {xs:List α} {cont:List (List C)} (ys:List α) (ho:run tb n 1000 T M True k=.app t (.own id) v o s T1 M1 k1) (hs:s)
 (hm:mm M1 id=some (.row e z d f xs)) (hsl:zfn tb t=some (e,y)) (hz:Nat.beq y.size z=true) (hv:zfG (mm M1) v=some (z,cont)) (hd:o.dst=some d1) (hf:fresh T1 M1 d1=true) (hd1:mm M1 d1=none) (hys:cont=ys.map f)
 (hby:(xs.length+ys.length)*y.bytes≤140737488355328) (h:Wc P x R k1 ((d1,.own d1)::T1) ((d1,some (.row e z d f (xs++ys)))::(id,none)::M1)):Wc P x R k T M:=
 go hn htb ho ⟨hs,fun hi=>zra ys hn htb hi rfl hm hsl hz hv hys hd hf hd1 hby h⟩
theorem zi6 (hn:x.n=n) (htb:zaJ P tb) {s:Prop} {T1:Tl} {M1:Ml} {k1:List It} {t e:TypeId} {y:Ty} {u v:LV} {d1 z:Nat} {α:Type} {d:α} {f:α→List C} {cont:List (List C)} (ys:List α) (ho:run tb n 1000 T M True k=.app t u v o s T1 M1 k1) (hs:s) (hu:u=.nil0∨u=.nil (.sl z d f []))
 (hsl:zfn tb t=some (e,y)) (hz:Nat.beq y.size z=true) (hv:zfG (mm M1) v=some (z,cont)) (hd:o.dst=some d1) (hf:fresh T1 M1 d1=true) (hd1:mm M1 d1=none) (hys:cont=ys.map f) (hpos:0<ys.length)
 (hby:ys.length*y.bytes≤140737488355328) (h:Wc P x R k1 ((d1,.own d1)::T1) ((d1,some (.row e z d f ys))::M1)):Wc P x R k T M:=
 go hn htb ho ⟨hs,fun hi=>zpW ys hn htb hi hu hsl hz hv hys hpos hd hf hd1 hby h⟩
theorem zaI (hn:x.n=n) (htb:zaJ P tb) {s:Prop} {T1:Tl} {M1:Ml} {k1:List It} {t e:TypeId} {y:Ty} {v v1:LV} {id i off z:Nat} {α:Type} {d:α} {f:α→List C} {xs:List α} {cs:List C} (a1:α) (ho:run tb n 1000 T M True k=.set t id i off v o s T1 M1 k1) (hs:s)
 (hm:mm M1 id=some (.row e z d f xs)) (hy:tb t=some y) (hv:v.typed y=some v1) (hcs:zeG (mm M1) v1.cells=some cs) (hd:o.dst=none) (hid:(ze3 v1).elem id=false) (hle:off+cs.length≤z)
 (hf:f a1=(f (xs.getD i d)).take off++cs++(f (xs.getD i d)).drop (off+cs.length)) (h:Wc P x R k1 T1 ((id,some (.row e z d f (xs.set i a1)))::dropM (ze3 v1) M1)):Wc P x R k T M:=
 go hn htb ho ⟨hs,fun hi=>zre a1 hn htb hi hm hy hv hcs hf hle (fun hh=>by rw [List.elem_eq_true_of_mem hh] at hid;cases hid) hd h⟩
end
section
variable {P:Program} {x:Cx} {tb:Tb} {R:Cx→Tl→Ml→Prop} {n:Nat} {o:Oper} {T:Tl} {M:Ml} {k:List It}
theorem zrb {m:Mp} {a:Act} {w:World} (hr:Rel x (tm T) (mm M) m a w) {d1:Nat} {e z cap:Nat} {α:Type} {d:α} {f:α→List C} {zs:List α} {us:Array Value} {L:List Value}
 (hf:fresh T M d1=true) (hd1:mm M d1=none) (hz:0<z) (hc:zs.length≤cap) (hus:cap*z≤us.size) (hmax:cap≤9223372036854775807)
 (hL:Lst (Own x.S0 (mm M) m) w z (zs.map f) L) (hLs:∀ (j:Nat) (u:Value),L[j]? = some u→us[j]? = some u) :
 ∃ m1,Rel x (tm T) (mm ((d1,some (.row e z d f zs))::M)) m1 a (w.alloc (.cells us e))∧R3 x.S0 (mm ((d1,some (.row e z d f zs))::M)) m1 (w.alloc (.cells us e)) (.slice (some ⟨w.heap.size,0,none⟩) zs.length cap) (.own d1):=
 zjk (d:=d) (f:=f) hr (id:=d1) (gr:=none) (.inl rfl) hf hd1 hz
  ⟨ziR _ _ _,⟨rfl,rfl,rfl⟩,w.heap.size,0,cap,us,rfl,.inr (Nat.le_refl _),ziU _ _,by omega,hc,hmax,fun j u hj=>by rw [Nat.zero_add];exact hLs j u hj⟩ hL M (.inl ⟨rfl,rfl⟩)
theorem zif {a:Act} {w w1:World} {r:Value} {l:LV} {M1:Ml} {m1:Mp} {d1:Nat} (hn:x.n=n) (hdo:zaA n o.dst=true) (hd:o.dst=some d1) (hex:(execOp a.eval o).run P w=.ok (.value r) w1) (hr1:Rel x (tm T) (mm M1) m1 a w1) (hv:R3 x.S0 (mm M1) m1 w1 r l) (h:Wc P x R k ((d1,l)::T) M1) :
 o.wp P a w (Ka P x R k .normal) (fun _ _ _=>False):=by
 unfold Oper.wp
 rw [hex]
 show Ka P x R k .normal (a.put o.dst r) w1
 rw [hd] at hdo ⊢
 exact h m1 _ w1 (hr1.putd (d:=some d1) hn hdo hv)
theorem ztA {t e:TypeId} {y:Ty} {d1:Nat} {p q:Operand} {kl kc:IntKind} {c:Int} {α:Type} {d:α} (f:α→List C) (z0:α) (hn:x.n=n) (htb:zaJ P tb) (hdo:zaA n o.dst=true) (hop:o.op=.makeSlice t p q) (hp:val T p=.dat (.int kl c)) (hq:val T q=.dat (.int kc c))
 (hs:zfn tb t=some (e,y)) (hd:o.dst=some d1) (hf:fresh T M d1=true) (hd1:mm M d1=none) (hz0:f z0=y.zero) (hc:0≤c∧(y.bytes:Int)*c≤281474976710656)
 (h:Wc P x R k ((d1,.own d1)::T) ((d1,some (.row e y.size d f (List.replicate c.toNat z0)))::M)):OpW P x R o k T M:=by
 intro m a w hr
 obtain ⟨ht,hty2⟩:=zfi htb hs
 have hty:=htb e y hty2
 obtain ⟨i,hi,his,hib,zv0,hiz,hzc,_⟩:=hty.info
 obtain ⟨z1,z2,z3⟩:=hty.zl
 have hpv:=zah hr p
 have hqv:=zah hr q
 rw [hp] at hpv
 rw [hq] at hqv
 have hc63:c≤9223372036854775807:=by
  have:=hty.pos.2
  have h1:c≤(y.bytes:Int)*c:=by
   have:=Int.mul_le_mul_of_nonneg_right (show (1:Int)≤y.bytes by omega) hc.1
   omega
  omega
 have hrun:=run_make (P:=P) w t e i zv0 ht hi hiz kl kc c c hc.1 (Int.le_refl _) (by rw [hib];exact hc.2) hc63
 have hex:(execOp a.eval o).run P w=.ok (.value (.slice (some ⟨w.heap.size,0,none⟩) c.toNat c.toNat)) (w.alloc (.cells (madeCells zv0.cells (c.toNat*i.size)) e)):=by
  simp only [execOp,hop,zec hpv,zec hqv,Sem.run_bind,hrun,Result.andThen_ok,Sem.run_pure]
 have hzsz:zv0.cells.size=y.size:=by rw [← z2,← Array.length_toList,hzc,List.length_map]
 obtain ⟨L,hL,hLs⟩:=ziN (S:=Own x.S0 (mm M) m) (w:=w) (z:=y.size) (cont:=(List.replicate c.toNat z0).map f) (fun k=>(madeCells zv0.cells (c.toNat*i.size))[k]?) hty.pos.1
  (fun v hv=>by
    obtain ⟨t',ht',rfl⟩:=List.mem_map.1 hv
    rw [List.eq_of_mem_replicate ht',hz0,z2])
  (fun i' v j q hi' hj=>by
    obtain ⟨t',ht',rfl⟩:=zh3 hi'
    have hlt:=(List.getElem?_eq_some_iff.1 ht').1
    rw [List.length_replicate] at hlt
    rw [List.eq_of_mem_replicate (List.mem_of_getElem? ht'),hz0] at hj
    have hjl:=(List.getElem?_eq_some_iff.1 hj).1
    rw [z2] at hjl
    have hk:i'*y.size+j<c.toNat*i.size:=by
     rw [his]
     have:=Nat.mul_le_mul_right y.size (Nat.succ_le_of_lt hlt)
     rw [Nat.succ_mul] at this
     omega
    have hzj:zv0.cells[j]? = some (zv q):=by
     rw [← Array.getElem?_toList,hzc,List.getElem?_map,hj];rfl
    refine ⟨zv q,?_,?_⟩
    ·unfold madeCells
     rw [Array.getElem?_map,Array.getElem?_range,if_pos hk]
     simp only [Option.map_some]
     rw [hzsz,Nat.mul_comm,Nat.mul_add_mod,Nat.mod_eq_of_lt hjl]
     rw [getElem!_def,hzj]
    ·have hq0:=z3 q (List.mem_of_getElem? hj)
     cases q with
     | int k n=>exact Rf.int _ _
     | bool b=>exact Rf.bool _
     | str s=>exact Rf.str _
     | val v=>exact hq0.elim
     | sl z d f xs=>simp only [zOk] at hq0;subst hq0;exact .nil none 0 z d f)
 obtain ⟨m1,hr1,hv1⟩:=zrb (d:=d) (f:=f) (e:=e) (cap:=c.toNat) hr hf hd1 hty.pos.1 (zs:=List.replicate c.toNat z0) (us:=madeCells zv0.cells (c.toNat*i.size)) (L:=L) (by simp) (by rw [size_madeCells,his];exact Nat.le_refl _) (by omega) hL hLs
 rw [List.length_replicate] at hv1
 exact zif hn hdo hd hex hr1 hv1 h
def bsF (T:Tl) (M:Mem) (y:Ty):Nat→List (Nat×Operand)→Option (List (List C))
 | _,[]=>some []
 | k,(i,q)::r=>match Nat.beq i k with
   | true=>((val T q).typed y).bind fun v=>match ze3 v with
     | []=>(zeG M v.cells).bind fun cs=>(bsF T M y (k+1) r).bind fun zd9=>some (cs::zd9)
     | _=>none
   | false=>none
theorem zo6 {v:LV} {l:LV} {M:Mem} {c:C} {i:Nat} (h:ze3 v=[]) (hl:l∈v.cells) (ho:l.on1 i) (hd:l.data M=some c):False:=by
 cases v with
 | lagg ls=>
   have hm:i∈ze3.ids1 ls:=zog (ls:=ls) hl ho hd
   have h':ze3.ids1 ls=[]:=h
   rw [h'] at hm;cases hm
 | dagg ds=>
   obtain ⟨c0,_,hc0⟩:=List.mem_map.1 hl
   rw [← hc0] at ho;exact ho
 | own id=>cases h
 | _=>
   rw [List.mem_singleton.1 hl] at ho hd
   first
    | exact ho
    | cases hd
theorem zu6 {y:Ty} {e:TypeId} (hty:za9 P e y) {m:Mp} {a:Act} {w:World} (h:Rel x (tm T) (mm M) m a w):∀ (parts:List (Nat×Operand)) (k:Nat) (cont:List (List C)) (us:List Value),bsF T (mm M) y k parts=some cont→(k+parts.length)*y.size≤us.length→
 ∃ us1:List Value,Instr.fill (fun i=>some (i*y.size,y.size)) us.toArray (parts.map fun p=>(p.1,a.eval p.2))=some us1.toArray∧us1.length=us.length∧cont.length=parts.length∧(∀ v∈cont,v.length=y.size)∧(∀ j,j<k*y.size→us1[j]? = us[j]?)∧
   ∀ (i:Nat) v (j:Nat) q,cont[i]? = some v→v[j]? = some q→∃ u,us1[(k+i)*y.size+j]? = some u∧Rf (Own x.S0 (mm M) m) w u q
 | [],k,cont,us,hb,hle=>by
   cases hb
   exact ⟨us,rfl,rfl,rfl,fun v hv=>(by cases hv),fun _ _=>rfl,fun i v j q hv=>(by cases hv)⟩
 | (i0,q0)::r,k,cont,us,hb,hle=>by
   simp only [bsF] at hb
   split at hb
   ·rename_i hik
    have hik:=zbh.1 hik
    subst hik
    obtain ⟨v,hv,hb⟩:=Option.bind_eq_some_iff.1 hb
    split at hb
    ·rename_i hids
     obtain ⟨cs,hcs,hb⟩:=Option.bind_eq_some_iff.1 hb
     obtain ⟨zd9,hrest,hb⟩:=Option.bind_eq_some_iff.1 hb
     cases hb
     have hq:=zah h q0
     have hq2:R2 x.S0 (mm M) m w (a.eval q0) (val T q0):=by
      revert hv hq;cases val T q0<;>intro hv hq<;>first | exact hq | cases hv
     obtain ⟨vs,hone⟩:=zd1 hty hq2 hv
     have hrs:=zpI hone.rc
     obtain ⟨hcl,hcd⟩:=zid hcs
     rw [List.length_cons] at hle
     have hk1:(i0+1)*y.size≤us.length:=Nat.le_trans (Nat.mul_le_mul_right _ (by omega)) hle
     rw [Nat.succ_mul] at hk1
     have hfs:=zno (fun i=>some (i*y.size,y.size)) us.toArray i0 (a.eval q0) (r.map fun p=>(p.1,a.eval p.2)) rfl hone.cells hone.len (by simp;omega)
     have hul:us.toArray.toList.length=us.length:=by simp
     have hnl:(us.take (i0*y.size)++vs++us.drop (i0*y.size+vs.length)).length=us.length:=by
      have:=hone.len
      simp only [List.length_append,List.length_take,List.length_drop];omega
     obtain ⟨us1,h1,h2,h3,h4,h5,h6⟩:=zu6 hty h r (i0+1) zd9 (us.take (i0*y.size)++vs++us.drop (i0*y.size+vs.length)) hrest (by rw [hnl];rw [show i0+1+r.length=i0+(r.length+1) by omega];exact hle)
     refine ⟨us1,?_,by rw [h2,hnl],by simp [h3],fun v' hv'=>?_,fun j hj=>?_,fun i v' j q hv' hj=>?_⟩
     ·rw [List.map_cons,hfs]
      simpa using h1
     ·rcases List.mem_cons.1 hv' with rfl | hv'
      ·rw [hcl,← hrs.1];exact hone.len
      ·exact h4 v' hv'
     ·rw [h5 j (by rw [Nat.succ_mul];omega),List.append_assoc,List.getElem?_append_left (by rw [List.length_take];omega),List.getElem?_take_of_lt hj]
     ·cases i with
      | zero=>
        have:cs=v':=by simpa using hv'
        subst this
        have hjl:=(List.getElem?_eq_some_iff.1 hj).1
        have hjv:j<vs.length:=by rw [hrs.1,← hcl];exact hjl
        have hu1:=List.getElem?_eq_getElem hjv
        have hll:=List.getElem?_eq_getElem (show j<v.cells.length by rw [← hrs.1];exact hjv)
        obtain ⟨c',hc',hdat⟩:=hcd j _ hll
        rw [hj] at hc';cases hc'
        refine ⟨vs[j],?_,zlD (fun k hk=>hk) h.blk (hrs.2 j _ _ hu1 hll).1 hdat (fun id hon _ _=>zo6 hids (List.mem_of_getElem? hll) hon hdat)⟩
        have hlen:=hone.len
        rw [Nat.add_zero,h5 _ (by rw [Nat.succ_mul];omega),List.append_assoc,List.getElem?_append_right (by rw [List.length_take];omega),List.getElem?_append_left (by rw [List.length_take];omega),List.length_take,Nat.min_eq_left (by omega),
         show i0*y.size+j-i0*y.size=j by omega]
        exact hu1
      | succ i=>
        have:=h6 i v' j q (by simpa using hv') hj
        rwa [show i0+1+i=i0+(i+1) by omega] at this
    ·cases hb
   ·cases hb
theorem zrE {t e:TypeId} {y:Ty} {d1 len:Nat} {parts:Array (Nat×Operand)} {cont:List (List C)} {α:Type} {d:α} (f:α→List C) (ys:List α) (hn:x.n=n) (htb:zaJ P tb) (hdo:zaA n o.dst=true) (hop:o.op=.buildSlice t len parts)
 (hs:zfn tb t=some (e,y)) (hb:bsF T (mm M) y 0 parts.toList=some cont) (hlen:Nat.beq parts.toList.length len=true) (hsm:Nat.ble (len*y.size) 16777216=true) (hd:o.dst=some d1) (hf:fresh T M d1=true) (hd1:mm M d1=none) (hys:cont=ys.map f)
 (h:Wc P x R k ((d1,.own d1)::T) ((d1,some (.row e y.size d f ys))::M)):OpW P x R o k T M:=by
 intro m a w hr
 obtain ⟨ht,hty2⟩:=zfi htb hs
 have hty:=htb e y hty2
 obtain ⟨i,hi,his,hib,zv0,hiz,hzc,_⟩:=hty.info
 have hlen:=zbh.1 hlen
 have hsm:=Nat.le_of_ble_eq_true hsm
 obtain ⟨us1,hfill,hl1,hl2,hall,_,hel⟩:=zu6 hty hr parts.toList 0 cont (((Array.range (len*y.size)).map (fun j=>(if len*y.size=0 then #[] else zv0.cells)[j % (if len*y.size=0 then #[] else zv0.cells).size]!))).toList hb (by rw [Nat.zero_add,hlen];simp)
 have hcl:cont.length=ys.length:=by rw [hys,List.length_map]
 have hus1:us1.length=len*y.size:=by rw [hl1];simp
 have hrun:(Instr.buildSlice t len (parts.map fun p=>(p.1,a.eval p.2))).run P w=.ok (.slice (some ⟨w.heap.size,0,none⟩) len len) (w.alloc (.cells us1.toArray e)):=by
  have hfill':Instr.fill (fun j=>some (j*i.size,i.size)) ((Array.range (len*i.size)).map (fun j=>(if len*i.size=0 then #[] else zv0.cells)[j % (if len*i.size=0 then #[] else zv0.cells).size]!)) (parts.map fun p=>(p.1,a.eval p.2)).toList=some us1.toArray:=by
   rw [his]
   rw [Array.toArray_toList] at hfill
   rw [Array.toList_map];exact hfill
  by_cases h0:len*i.size=0
  ·simp only [h0,if_true] at hfill'
   simp only [Instr.buildSlice,Sem.run_bind,run_underlying ht,Result.andThen_ok,run_sizeOf w hi,Program.cellsOf,hi,Option.map_some,Option.getD_some,h0,if_true,Sem.run_pure]
   rw [if_neg (by omega)]
   simp only [Sem.run_pure,Result.andThen_ok,hfill',newRow,Sem.run_bind]
   rfl
  ·simp only [h0,if_false] at hfill'
   simp only [Instr.buildSlice,Sem.run_bind,run_underlying ht,Result.andThen_ok,run_sizeOf w hi,Program.cellsOf,hi,Option.map_some,Option.getD_some,h0,if_false,Sem.run_pure]
   rw [if_neg (by rw [his];omega)]
   simp only [Sem.run_pure,Result.andThen_ok,zeroValue,Sem.run_bind,run_typeInfo w hi,hiz,hfill',newRow]
   rfl
 have hex:(execOp a.eval o).run P w=.ok (.value (.slice (some ⟨w.heap.size,0,none⟩) ys.length len)) (w.alloc (.cells us1.toArray e)):=by
  have hyl:ys.length=len:=by rw [← hcl,hl2,hlen]
  simp only [execOp,hop,Sem.run_bind]
  rw [show (parts.map fun (i,x)=>(i,a.eval x))=(parts.map fun p=>(p.1,a.eval p.2)) from rfl,hrun,hyl]
  rfl
 obtain ⟨L,hL,hLs⟩:=ziN (S:=Own x.S0 (mm M) m) (w:=w) (z:=y.size) (cont:=ys.map f) (fun k=>us1.toArray[k]?) hty.pos.1 (fun v hv=>hall v (by rw [hys];exact hv)) (fun i v j q hi' hj=>by
  obtain ⟨u,h1,h2⟩:=hel i v j q (by rw [hys];exact hi') hj
  exact ⟨u,by rw [List.getElem?_toArray,← Nat.zero_add i];exact h1,h2⟩)
 have hyl:ys.length=len:=by rw [← hcl,hl2,hlen]
 obtain ⟨m1,hr1,hv1⟩:=zrb (d:=d) (f:=f) (e:=e) (cap:=len) hr hf hd1 hty.pos.1 (zs:=ys) (us:=us1.toArray) (L:=L) (by omega) (by simp;omega) (by have:=Nat.le_mul_of_pos_right len hty.pos.1;omega) hL hLs
 exact zif hn hdo hd hex hr1 hv1 h
end
def Bnd (T:Tl) (q:Option Operand) (dflt l:Nat):Prop:=(q=none∧l=dflt)∨∃ p kd,q=some p∧val T p=.dat (.int kd (l:Int))
theorem Bnd.none {T:Tl} {dflt:Nat}:Bnd T Option.none dflt dflt:=.inl ⟨rfl,rfl⟩
theorem Bnd.some {T:Tl} {dflt l:Nat} {p:Operand} (kd:IntKind) (h:val T p=.dat (.int kd (l:Int))):Bnd T (Option.some p) dflt l:=.inr ⟨p,kd,rfl,h⟩
section
variable {P:Program} {w:World}
theorem zoF {t e:TypeId} (i:TypeInfo) (ht:P.underlying t=some (.slice e)) (hi:P.info? e=some i) (A:Option Addr) (n c:Nat) (lo hi':Option Value) (l h:Nat) (hlo:(lo=none∧l=0)∨∃ k,lo=some (.int k (l:Int))) (hhi:(hi'=none∧h=n)∨∃ k,hi'=some (.int k (h:Int)))
 (hlh:l≤h) (hc:h≤c):(Instr.sliceAt t (.slice A n c) lo hi' none).run P w=.ok (.slice (if c=l then A else A.map (·.add (l*i.size))) (h-l) (c-l)) w:=by
 have hb:(Instr.sliceBounds true n c lo hi' none).run P w=.ok (l,h,c) w:=by
  have h1:∀ k code,(Instr.sliceBound (.int k (h:Int)) c code).run P w=.ok h w:=fun k code=>by
   simp only [Instr.sliceBound,asIntOf,Sem.run_bind,Sem.run_pure,Result.andThen_ok]
   rw [if_pos ⟨by omega,by omega⟩];simp
  have h2:∀ k code,(Instr.sliceBound (.int k (l:Int)) h code).run P w=.ok l w:=fun k code=>by
   simp only [Instr.sliceBound,asIntOf,Sem.run_bind,Sem.run_pure,Result.andThen_ok]
   rw [if_pos ⟨by omega,by omega⟩];simp
  rcases hlo with ⟨rfl,rfl⟩ | ⟨k1,rfl⟩<;>rcases hhi with ⟨rfl,rfl⟩ | ⟨k2,rfl⟩<;>simp [Instr.sliceBounds,h1,h2]
 simp only [Instr.sliceAt,Instr.slice,Sem.run_bind,run_underlying ht,Result.andThen_ok,hb,run_sizeOf w hi,Program.cellsOf,hi,Option.map_some,Option.getD_some,Sem.run_pure]
end
section
variable {P:Program} {x:Cx} {tb:Tb} {R:Cx→Tl→Ml→Prop} {n:Nat} {o:Oper} {T:Tl} {M:Ml} {k:List It}
theorem zjT {m:Mp} {a:Act} {w:World} (hr:Rel x (tm T) (mm M) m a w) {q:Option Operand} {dflt l:Nat} (h:Bnd T q dflt l):((q.map a.eval)=none∧l=dflt)∨∃ k,q.map a.eval=some (.int k (l:Int)):=by
 rcases h with ⟨rfl,h⟩ | ⟨p,kd,rfl,hv⟩
 ·exact .inl ⟨rfl,h⟩
 ·have:=zah hr p
  rw [hv] at this
  exact .inr ⟨kd,by rw [Option.map_some,zec this]⟩
theorem zrG {β:Type} {xs:List β} {l h i:Nat} {y:β} (hy:((xs.take h).drop l)[i]? = some y):xs[l+i]? = some y∧l+i<h:=by
 rw [List.getElem?_drop] at hy
 have hlt:=(List.getElem?_eq_some_iff.1 hy).1
 rw [List.length_take] at hlt
 rw [List.getElem?_take_of_lt (by omega)] at hy
 exact ⟨hy,by omega⟩
theorem zuk {t e:TypeId} {y:Ty} {p:Operand} {lo hi':Option Operand} {d1 z:Nat} {α:Type} {d:α} {f:α→List C} {xs:List α} (l h:Nat) (hn:x.n=n) (htb:zaJ P tb) (hdo:zaA n o.dst=true) (hop:o.op=.slice t p lo hi' none) (hp:val T p=.dat (.sl z d f xs))
 (hs:zfn tb t=some (e,y)) (hz:Nat.beq y.size z=true) (hd:o.dst=some d1) (hlo:Bnd T lo 0 l) (hhi:Bnd T hi' xs.length h) (hlh:l≤h) (hh:h≤xs.length)
 (hw:Wc P x R k ((d1,.dat (.sl z d f ((xs.take h).drop l)))::T) M):OpW P x R o k T M:=by
 intro m a w hr
 obtain ⟨ht,hty2⟩:=zfi htb hs
 obtain ⟨i,hi,his,_⟩:=(htb e y hty2).info
 have hze:i.size=z:=by rw [his];exact zbh.1 hz
 have hpv:=zah hr p
 rw [hp] at hpv
 obtain ⟨A,c,hpe,hrow⟩:=zkz hpv
 have hhc:h≤c:=by
  rcases Nat.eq_zero_or_pos xs.length with h0 | h0
  ·omega
  ·obtain ⟨_,_,_,_,hc,_⟩:=hrow h0;omega
 have hrun:=zoF (P:=P) (w:=w) i ht hi A xs.length c (lo.map a.eval) (hi'.map a.eval) l h (zjT hr hlo) (zjT hr hhi) hlh hhc
 have hex:(execOp a.eval o).run P w=.ok (.value (.slice (if c=l then A else A.map (·.add (l*i.size))) (h-l) (c-l))) w:=by
  simp only [execOp,hop,hpe,Sem.run_bind,Option.map_none,hrun,Result.andThen_ok,Sem.run_pure]
 have hlen:((xs.take h).drop l).length=h-l:=by rw [List.length_drop,List.length_take];omega
 refine zif hn hdo hd hex hr ?_ hw
 show Rf (Own x.S0 (mm M) m) w _ _
 rcases Nat.eq_zero_or_pos (h-l) with h0 | h0
 ·have:(xs.take h).drop l=[]:=List.length_eq_zero_iff.1 (by omega)
  rw [this,h0];exact .nil _ _ z d f
 ·obtain ⟨b,oo,rfl,hz0,hc,hm,hS,hl,hcc⟩:=hrow (by omega)
  rw [if_neg (by omega),Option.map_some,zcA,hze]
  have hall:∀ i' y' j q,((xs.take h).drop l)[i']? = some y'→(f y')[j]? = some q→∃ u,w.cell? ⟨b,oo+l*z+i'*z+j,none⟩=some u∧Rf (Own x.S0 (mm M) m) w u q:=fun i' y' j q hi' hj=>by
   obtain ⟨h1,_⟩:=zrG hi'
   obtain ⟨u,h3,h4⟩:=hcc _ y' j q h1 hj
   exact ⟨u,by rw [Nat.add_assoc oo,← Nat.add_mul];exact h3,h4⟩
  refine .row b (oo+l*z) (c-l) z (h-l) d f _ (fun i' j=>(w.cell? ⟨b,oo+l*z+i'*z+j,none⟩).getD undef) hlen.symm (by omega) hz0 (by omega) (by omega) hS (fun y' hy'=>hl y' (List.mem_of_mem_take (List.mem_of_mem_drop hy'))) (fun i' y' j q hi' hj=>?_) (fun i' y' j q hi' hj=>?_)
  ·obtain ⟨u,h3,_⟩:=hall i' y' j q hi' hj;rw [h3];rfl
  ·obtain ⟨u,h3,h4⟩:=hall i' y' j q hi' hj
   show Rf _ w ((w.cell? ⟨b,oo+l*z+i'*z+j,none⟩).getD undef) q
   rw [h3];exact h4
theorem zsU {t e0 e:TypeId} {y:Ty} {p:Operand} {lo hi':Option Operand} {id d1 z:Nat} {α:Type} {d:α} {f:α→List C} {xs:List α} (l h:Nat) (hn:x.n=n) (htb:zaJ P tb) (hdo:zaA n o.dst=true) (hop:o.op=.slice t p lo hi' none) (hp:val T p=.own id) (hm:mm M id=some (.row e z d f xs))
 (hs:zfn tb t=some (e0,y)) (hz:Nat.beq y.size z=true) (hd:o.dst=some d1) (hf:fresh T M d1=true) (hd1:mm M d1=none) (hlo:Bnd T lo 0 l) (hhi:Bnd T hi' xs.length h) (hlh:l≤h) (hh:h≤xs.length)
 (hw:Wc P x R k ((d1,.own d1)::T) ((d1,some (.row e z d f ((xs.take h).drop l)))::(id,none)::M)):OpW P x R o k T M:=by
 intro m a w hr
 obtain ⟨ht,hty2⟩:=zfi htb hs
 obtain ⟨i,hi,his,_⟩:=(htb e0 y hty2).info
 have hze:i.size=z:=by rw [his];exact zbh.1 hz
 have hpv:=zah hr p
 rw [hp] at hpv
 have hpe:=hpv.2 _ (show zJ (mm M) id=some _ by unfold zJ;rw [hm])
 obtain ⟨us,hu,a1,a2,a3,a4,a5,a6,a7⟩:=hr.blk id _ hm
 have hrun:=zoF (P:=P) (w:=w) i ht hi (some ⟨m.blk id,m.off id,none⟩) xs.length (m.cap id) (lo.map a.eval) (hi'.map a.eval) l h (zjT hr hlo) (zjT hr hhi) hlh (by omega)
 have hlen:((xs.take h).drop l).length=h-l:=by rw [List.length_drop,List.length_take];omega
 have hv:(Value.slice (if m.cap id=l then some ⟨m.blk id,m.off id,none⟩ else (some (⟨m.blk id,m.off id,none⟩:Addr)).map (·.add (l*i.size))) (h-l) (m.cap id-l))=.slice (some ⟨m.blk id,if m.cap id=l then m.off id else m.off id+l*z,none⟩) ((xs.take h).drop l).length (m.cap id-l):=by
  rw [hlen,hze]
  by_cases hcl:m.cap id=l
  ·rw [if_pos hcl,if_pos hcl]
  ·rw [if_neg hcl,if_neg hcl,Option.map_some,zcA]
 rw [hv] at hrun
 have hex:(execOp a.eval o).run P w=.ok (.value (.slice (some ⟨m.blk id,if m.cap id=l then m.off id else m.off id+l*z,none⟩) ((xs.take h).drop l).length (m.cap id-l))) w:=by
  simp only [execOp,hop,hpe,Sem.run_bind,Option.map_none,hrun,Result.andThen_ok,Sem.run_pure]
 obtain ⟨L,hL,hLs⟩:=ziN (S:=Own x.S0 (mm M) m) (w:=w) (z:=z) (cont:=((xs.take h).drop l).map f) (fun k=>us[(if m.cap id=l then m.off id else m.off id+l*z)+k]?) a4 (fun v hv=>by
  obtain ⟨t',ht',rfl⟩:=List.mem_map.1 hv
  exact a5 t' (List.mem_of_mem_take (List.mem_of_mem_drop ht'))) (fun i' v j q hi' hj=>by
  obtain ⟨t',ht',rfl⟩:=zh3 hi'
  obtain ⟨h1,h2⟩:=zrG ht'
  obtain ⟨u,h3,h4⟩:=a7 _ t' j q h1 hj
  refine ⟨u,?_,h4⟩
  rw [if_neg (by omega),Nat.add_assoc (m.off id),← Nat.add_assoc (l*z),← Nat.add_mul,← Nat.add_assoc]
  exact h3)
 obtain ⟨m1,hr1,hv1⟩:=zjk (d:=d) (f:=f) (e:=e) hr (id:=id) (d1:=d1) (gr:=some (m.blk id)) (zs:=(xs.take h).drop l) (L:=L) (w1:=w) (z:=z)
  (.inr ⟨id,_,hm,rfl,by
    rw [zI];unfold Ab.upd;split
    ·rfl
    ·rw [hd1];rfl⟩) hf hd1 a4
  ⟨.refl _ _,⟨rfl,rfl,rfl⟩,m.blk id,if m.cap id=l then m.off id else m.off id+l*z,m.cap id-l,us,rfl,.inl rfl,hu,by
    split
    ·rename_i hcl;rw [hcl,Nat.sub_self,Nat.zero_mul];omega
    ·have:l*z+(m.cap id-l)*z=m.cap id*z:=by rw [← Nat.add_mul];congr 1;omega
     omega,by omega,by omega,fun j u hj=>hLs j u hj⟩ hL ((id,none)::M) (.inr ⟨id,_,hm,rfl,rfl⟩)
 exact zif hn hdo hd hex hr1 hv1 hw
/-! ### the words -/
theorem zqY (hn:x.n=n) (htb:zaJ P tb) {s:Prop} {T1:Tl} {M1:Ml} {k1:List It} {t e:TypeId} {y:Ty} {d1:Nat} {p q:Operand} {kl kc:IntKind} {c:Int} {α:Type} {d:α} (f:α→List C) (z0:α) (ho:run tb n 1000 T M True k=.oth o s T1 M1 k1) (hs:s) (hop:o.op=.makeSlice t p q) (hp:val T1 p=.dat (.int kl c)) (hq:val T1 q=.dat (.int kc c))
 (hsl:zfn tb t=some (e,y)) (hd:o.dst=some d1) (hf:fresh T1 M1 d1=true) (hd1:mm M1 d1=none) (hz0:f z0=y.zero) (hc:0≤c∧(y.bytes:Int)*c≤281474976710656)
 (h:Wc P x R k1 ((d1,.own d1)::T1) ((d1,some (.row e y.size d f (List.replicate c.toNat z0)))::M1)):Wc P x R k T M:=
 go hn htb ho ⟨hs,fun hdo=>ztA f z0 hn htb hdo hop hp hq hsl hd hf hd1 hz0 hc h⟩
theorem zT (hn:x.n=n) (htb:zaJ P tb) {s:Prop} {T1:Tl} {M1:Ml} {k1:List It} {t e:TypeId} {y:Ty} {d1 len:Nat} {parts:Array (Nat×Operand)} {cont:List (List C)} {α:Type} (d:α) (f:α→List C) (ys:List α) (ho:run tb n 1000 T M True k=.oth o s T1 M1 k1) (hs:s) (hop:o.op=.buildSlice t len parts)
 (hsl:zfn tb t=some (e,y)) (hb:bsF T1 (mm M1) y 0 parts.toList=some cont) (hlen:Nat.beq parts.toList.length len=true) (hsm:Nat.ble (len*y.size) 16777216=true) (hd:o.dst=some d1) (hf:fresh T1 M1 d1=true) (hd1:mm M1 d1=none) (hys:cont=ys.map f)
 (h:Wc P x R k1 ((d1,.own d1)::T1) ((d1,some (.row e y.size d f ys))::M1)):Wc P x R k T M:=
 go hn htb ho ⟨hs,fun hdo=>zrE f ys hn htb hdo hop hsl hb hlen hsm hd hf hd1 hys h⟩
theorem zgN (hn:x.n=n) (htb:zaJ P tb) {s:Prop} {T1:Tl} {M1:Ml} {k1:List It} {t e:TypeId} {y:Ty} {p:Operand} {lo hi':Option Operand} {d1 z:Nat} {α:Type} {d:α} {f:α→List C} {xs:List α} (l h:Nat) (ho:run tb n 1000 T M True k=.oth o s T1 M1 k1) (hs:s) (hop:o.op=.slice t p lo hi' none) (hp:val T1 p=.dat (.sl z d f xs))
 (hsl:zfn tb t=some (e,y)) (hz:Nat.beq y.size z=true) (hd:o.dst=some d1) (hlo:Bnd T1 lo 0 l) (hhi:Bnd T1 hi' xs.length h) (hlh:l≤h) (hh:h≤xs.length)
 (hw:Wc P x R k1 ((d1,.dat (.sl z d f ((xs.take h).drop l)))::T1) M1):Wc P x R k T M:=
 go hn htb ho ⟨hs,fun hdo=>zuk l h hn htb hdo hop hp hsl hz hd hlo hhi hlh hh hw⟩
theorem zg4 (hn:x.n=n) (htb:zaJ P tb) {s:Prop} {T1:Tl} {M1:Ml} {k1:List It} {t e0 e:TypeId} {y:Ty} {p:Operand} {lo hi':Option Operand} {id d1 z:Nat} {α:Type} {d:α} {f:α→List C} {xs:List α} (l h:Nat) (ho:run tb n 1000 T M True k=.oth o s T1 M1 k1) (hs:s) (hop:o.op=.slice t p lo hi' none) (hp:val T1 p=.own id) (hm:mm M1 id=some (.row e z d f xs))
 (hsl:zfn tb t=some (e0,y)) (hz:Nat.beq y.size z=true) (hd:o.dst=some d1) (hf:fresh T1 M1 d1=true) (hd1:mm M1 d1=none) (hlo:Bnd T1 lo 0 l) (hhi:Bnd T1 hi' xs.length h) (hlh:l≤h) (hh:h≤xs.length)
 (hw:Wc P x R k1 ((d1,.own d1)::T1) ((d1,some (.row e z d f ((xs.take h).drop l)))::(id,none)::M1)):Wc P x R k T M:=
 go hn htb ho ⟨hs,fun hdo=>zsU l h hn htb hdo hop hp hm hsl hz hd hf hd1 hlo hhi hlh hh hw⟩
end
def zkh:Op→Bool
 | .move _=>true
 | .assign _=>true
 | .build _ _=>true
 | .unOp _ _ _=>true
 | .pick _ _ _=>true
 | .nilCheck _=>true
 | .binOp _ _ _ _ _=>true
 | .load _ _=>true
 | .fieldAddr _ _ _=>true
 | .indexAddr _ _ _=>true
 | .extract _ _=>true
 | .call c=>match c.callee with
   | .builtin .len=>true
   | .builtin .max=>true
   | .builtin .min=>true
   | _=>false
 | _=>false
structure zu3 (T T':Tl) (M M':Ml) (xs:List Operand):Prop where
 val:∀ q∈xs,val T q=val T' q
 mem:∀ q∈xs,∀ id,(Ab.val T q).on1 id→mm M id=mm M' id
theorem ziJ {n:Nat} {T T':Tl} {M M':Ml} {s s1:Option Prop} {o:Oper} {l:LV} {T1:Tl} {M1:Ml} (h:out n T M s o l=some (s1,T1,M1)):T1=putd o.dst l T∧M1=M∧out n T' M' s o l=some (s1,putd o.dst l T',M'):=by
 obtain ⟨rfl,rfl,rfl,hd⟩:=zgg h
 refine ⟨rfl,rfl,?_⟩
 unfold out putd
 unfold zaA at hd
 cases hdo:o.dst with
 | none=>rfl
 | some t=>rw [hdo] at hd;simp only [hd]
theorem zca {n:Nat} {T T':Tl} {M M':Ml} {s s1:Option Prop} {o:Oper} {l:LV} {T1:Tl} {M1:Ml} (h:out n T M s o l=some (s1,T1,M1)):∃ l1,T1=putd o.dst l1 T∧M1=M∧out n T' M' s o l=some (s1,putd o.dst l1 T',M'):=⟨l,ziJ h⟩
theorem zwV {β:Type 1} {l:LV} {k:LV→Option β} (hl:l≠.no):fl l k=k l:=by cases l<;>first | rfl | exact absurd rfl hl
theorem zja {n:Nat} {T T':Tl} {M M':Ml} {s s1:Option Prop} {o:Oper} {l:LV} {T1:Tl} {M1:Ml} (h:fl l (out n T M s o)=some (s1,T1,M1)):∃ l1,T1=putd o.dst l1 T∧M1=M∧fl l (out n T' M' s o)=some (s1,putd o.dst l1 T',M'):=by
 have h1:=zkA h
 have hl:l≠.no:=by rintro rfl;cases h
 rw [zwV hl]
 exact ⟨l,ziJ h1⟩
theorem zg3 {n:Nat} {T T':Tl} {M M':Ml} {s s1:Option Prop} {o:Oper} {e:Option LV} {T1:Tl} {M1:Ml} (h:e.bind (out n T M s o)=some (s1,T1,M1)):∃ l1,T1=putd o.dst l1 T∧M1=M∧e.bind (out n T' M' s o)=some (s1,putd o.dst l1 T',M'):=by
 obtain ⟨l,hl,h⟩:=Option.bind_eq_some_iff.1 h
 obtain ⟨h1,h2,h3⟩:=ziJ (T':=T') (M':=M') h
 exact ⟨l,h1,h2,by rw [hl];exact h3⟩
theorem zmA {tb:Tb} {T T':Tl} {fields:List (Nat×TypeId)}:∀ {ps:List (Nat×Operand)} {cur:List LV},(∀ p∈ps,val T p.2=val T' p.2)→zot tb T fields cur ps=zot tb T' fields cur ps
 | [],cur,_=>rfl
 | (i,q)::r,cur,h=>by
   have h0:=h (i,q) List.mem_cons_self
   have ih:∀ cur,zot tb T fields cur r=zot tb T' fields cur r:=fun cur=>zmA (fun p hp=>h p (List.mem_cons_of_mem _ hp))
   simp only [zot]
   have h0':val T q=val T' q:=h0
   rw [h0']
   simp only [ih]
theorem znR {tb:Tb} {n:Nat} {o:Oper} {T T':Tl} {M M':Ml} {s:Option Prop} {T1:Tl} {M1:Ml} (hp:zkh o.op=true) (ha:zu3 T T' M M' o.op.operands.toList) (h:opF tb n o T M=some (s,T1,M1)) :
 ∃ l,T1=putd o.dst l T∧M1=M∧opF tb n o T' M'=some (s,putd o.dst l T',M'):=by
 cases hop:o.op with
 | move q=>
   have hv:=ha.val q (by rw [hop];simp [Op.operands])
   simp only [opF,hop] at h ⊢
   rw [hv] at h;exact zja h
 | assign q=>
   have hv:=ha.val q (by rw [hop];simp [Op.operands])
   simp only [opF,hop] at h ⊢
   rw [hv] at h;exact zja h
 | build t ps=>
   have hv:∀ p∈ps.toList,val T p.2=val T' p.2:=fun p hp=>ha.val p.2 (by
    rw [hop];simp only [Op.operands,Array.toList_map,List.mem_map];exact ⟨p,hp,rfl⟩)
   simp only [opF,hop] at h ⊢
   split at h
   ·rename_i y hy
    split at h
    ·rename_i hk
     rw [zmA hv] at h
     obtain ⟨l,hl,h⟩:=Option.bind_eq_some_iff.1 h
     simp only [hl,Option.bind_some]
     exact zca h
    ·cases h
   ·cases h
 | unOp u t q=>
   have hv:=ha.val q (by rw [hop];simp [Op.operands])
   cases u<;>simp only [opF,hop] at h ⊢<;>try cases h
   rw [hv] at h
   generalize val T' q=v at h ⊢
   cases v with
   | known b=>cases b<;>exact zca h
   | dat c=>cases c<;>first | exact zca h | cases h
   | _=>cases h
 | pick c p q=>
   have hv:=ha.val c (by rw [hop];simp [Op.operands])
   have hv1:=ha.val p (by rw [hop];simp [Op.operands])
   have hv2:=ha.val q (by rw [hop];simp [Op.operands])
   simp only [opF,hop] at h ⊢
   rw [hv,hv1,hv2] at h
   generalize val T' c=v at h ⊢
   cases v with
   | known b=>cases b<;>exact zja h
   | _=>cases h
 | nilCheck q=>
   have hv:=ha.val q (by rw [hop];simp [Op.operands])
   have hm:=ha.mem q (by rw [hop];simp [Op.operands])
   simp only [opF,hop] at h ⊢
   rw [hv] at h hm
   generalize val T' q=v at h hm ⊢
   cases v with
   | spt cs off=>exact zca h
   | ptr id off=>
     simp only [← hm id rfl]
     cases hb:mm M id with
     | none=>simp only [hb] at h;cases h
     | some b=>simp only [hb] at h ⊢;exact zca h
   | ept id i off=>
     simp only [← hm id rfl]
     cases hb:mm M id with
     | none=>simp only [hb] at h;cases h
     | some b=>
       simp only [hb] at h ⊢
       cases b with
       | box t v=>cases h
       | row e z d f xs=>exact zca h
   | _=>cases h
 | binOp b t p q ty=>
   have hv1:=ha.val p (by rw [hop];simp [Op.operands])
   have hv2:=ha.val q (by rw [hop];simp [Op.operands])
   simp only [opF,hop] at h ⊢
   rw [hv1,hv2] at h
   cases hb:bin b (val T' p) (val T' q) with
   | some r=>obtain ⟨s0,l⟩:=r;simp only [hb] at h ⊢;exact zca h
   | none=>
     simp only [hb] at h ⊢
     obtain ⟨y,hy,h⟩:=Option.bind_eq_some_iff.1 h
     simp only [hy,Option.bind_some]
     exact zg3 h
 | load t q=>
   have hv:=ha.val q (by rw [hop];simp [Op.operands])
   have hm:=ha.mem q (by rw [hop];simp [Op.operands])
   simp only [opF,hop] at h ⊢
   rw [hv] at h hm
   generalize val T' q=v at h hm ⊢
   cases hy:tb t with
   | none=>simp only [hy] at h;cases h
   | some y=>
     simp only [hy] at h ⊢
     cases v with
     | spt cs off=>exact zg3 h
     | ptr id off=>
       simp only [← hm id rfl]
       cases hb:mm M id with
       | none=>simp only [hb] at h;cases h
       | some b=>
         simp only [hb] at h ⊢
         cases b with
         | box t v=>exact zg3 h
         | row e z d f xs=>cases h
     | ept id i off=>
       simp only [← hm id rfl]
       cases hb:mm M id with
       | none=>simp only [hb] at h;cases h
       | some b=>
         simp only [hb] at h ⊢
         cases b with
         | box t v=>cases h
         | row e z d f xs=>exact zg3 h
     | _=>cases h
 | fieldAddr t q i=>
   have hv:=ha.val q (by rw [hop];simp [Op.operands])
   have hm:=ha.mem q (by rw [hop];simp [Op.operands])
   simp only [opF,hop] at h ⊢
   rw [hv] at h hm
   generalize val T' q=v at h hm ⊢
   cases hy:tb t with
   | none=>simp only [hy] at h;cases h
   | some y=>
     simp only [hy] at h ⊢
     cases hk:y.kd with
     | st=>
       simp only [hk] at h ⊢
       cases hf:nth y.fields i with
       | none=>simp only [hf] at h;cases h
       | some r=>
         obtain ⟨fo,ft⟩:=r
         simp only [hf] at h ⊢
         cases v with
         | spt cs off=>exact zca h
         | ptr id off=>
           simp only [← hm id rfl]
           cases hb:mm M id with
           | none=>simp only [hb] at h;cases h
           | some b=>simp only [hb] at h ⊢;exact zca h
         | ept id j off=>
           simp only [← hm id rfl]
           cases hb:mm M id with
           | none=>simp only [hb] at h;cases h
           | some b=>
             simp only [hb] at h ⊢
             cases b with
             | box t v=>cases h
             | row e z d f xs=>exact zca h
         | _=>cases h
     | _=>simp only [hk] at h;cases h
 | indexAddr t p q=>
   have hv1:=ha.val p (by rw [hop];simp [Op.operands])
   have hv2:=ha.val q (by rw [hop];simp [Op.operands])
   have hm:=ha.mem p (by rw [hop];simp [Op.operands])
   simp only [opF,hop] at h ⊢
   rw [hv1,hv2] at h
   rw [hv1] at hm
   generalize val T' p=v at h hm ⊢
   generalize val T' q=u at h ⊢
   cases hy:tb t with
   | none=>simp only [hy] at h;cases h
   | some y=>
     simp only [hy] at h ⊢
     cases hk:y.kd with
     | sl e=>
       simp only [hk] at h ⊢
       cases u with
       | dat c=>cases c with
         | int kq i=>cases v with
           | dat c=>cases c with
             | sl z d f xs=>
               cases hz:zhK tb e z with
               | true=>simp only [hz] at h ⊢;exact zca h
               | false=>simp only [hz] at h;cases h
             | _=>cases h
           | own id=>
             simp only [← hm id rfl]
             cases hb:mm M id with
             | none=>simp only [hb] at h;cases h
             | some b=>
               simp only [hb] at h ⊢
               cases b with
               | box t v=>cases h
               | row e' z d f xs=>
                 cases hz:zhK tb e z with
                 | true=>simp only [hz] at h ⊢;exact zca h
                 | false=>simp only [hz] at h;cases h
           | _=>cases h
         | _=>cases v<;>first | cases h | (rename_i c;cases c<;>cases h)
       | _=>cases v<;>first | cases h | (rename_i c;cases c<;>cases h)
     | _=>simp only [hk] at h;cases h
 | extract q i=>
   have hv:=ha.val q (by rw [hop];simp [Op.operands])
   simp only [opF,hop] at h ⊢
   rw [hv] at h
   generalize val T' q=v at h ⊢
   cases v with
   | tup ls=>
     obtain ⟨l,hl,h⟩:=Option.bind_eq_some_iff.1 h
     simp only [hl,Option.bind_some]
     exact zja h
   | _=>cases h
 | call c=>
   simp only [opF,hop] at h ⊢
   split at h
   ·rename_i p t hc hargs hty
    have hpm:p∈o.op.operands.toList:=by
     rw [hop]
     have:p∈c.args.toList:=by rw [hargs];exact List.mem_cons_self
     simp only [Op.operands,Call.operands,Array.toList_append,List.mem_append]
     exact .inr this
    have hv:=ha.val p hpm
    have hm:=ha.mem p hpm
    obtain ⟨y,hy,h⟩:=Option.bind_eq_some_iff.1 h
    obtain ⟨j,hj,h⟩:=Option.bind_eq_some_iff.1 h
    have hj':lenOf (mm M') y (val T' p)=some j:=by
     rw [hv] at hj hm
     generalize val T' p=v at hj hm ⊢
     unfold lenOf at hj ⊢
     cases v with
     | own id=>
       have hmm:=hm id rfl
       cases hk:y.kd<;>simp only [hk] at hj ⊢<;>first
        | (rw [hmm] at hj;exact hj)
        | cases hj
     | dat c=>cases hk:y.kd<;>simp only [hk] at hj ⊢<;>cases c<;>first | exact hj | cases hj
     | _=>cases hk:y.kd<;>simp only [hk] at hj ⊢<;>first | exact hj | cases hj
    simp only [hy,Option.bind_some,hj']
    exact zca h
   ·rename_i p q hc hargs
    have hin:∀ r∈[p,q],r∈o.op.operands.toList:=fun r hr=>by
     rw [hop]
     have:r∈c.args.toList:=by rw [hargs];exact hr
     simp only [Op.operands,Call.operands,Array.toList_append,List.mem_append]
     exact .inr this
    rw [ha.val p (hin p (by simp)),ha.val q (hin q (by simp))] at h
    split at h
    ·rename_i i j hi hj
     exact zca h
    ·cases h
   ·rename_i p q hc hargs
    have hin:∀ r∈[p,q],r∈o.op.operands.toList:=fun r hr=>by
     rw [hop]
     have:r∈c.args.toList:=by rw [hargs];exact hr
     simp only [Op.operands,Call.operands,Array.toList_append,List.mem_append]
     exact .inr this
    rw [ha.val p (hin p (by simp)),ha.val q (hin q (by simp))] at h
    split at h
    ·rename_i i j hi hj
     exact zca h
    ·cases h
   ·cases h
 | _=>rw [hop] at hp;cases hp
section
variable {P:Program} {ops:Array Oper} {Q:Exit→Act→World→Prop}
def left (n:Nat) (listed:Array Bool):Nat:=((List.range n).filter fun i=>!listed.getD i false).length
theorem zr2 {n:Nat} {listed:Array Bool} (h:left n listed=0):∀ i,i<n→listed.getD i false=true:=fun i hi=>by
 unfold left at h
 have h1:=List.length_eq_zero_iff.1 h
 have h2:=List.filter_eq_nil_iff.1 h1 i (List.mem_range.2 hi)
 simpa using h2
theorem zns {β:Type} {p q:β→Bool}:∀ {l:List β} {x:β},x∈l→p x=true→q x=false→(∀ y,q y=true→p y=true)→(l.filter q).length<(l.filter p).length
 | [],x,h,_,_,_=>by cases h
 | y::l,x,h,hp,hq,hpq=>by
   have hle:(l.filter q).length≤(l.filter p).length:=by
    clear h
    induction l with
    | nil=>simp
    | cons z l ih=>
      simp only [List.filter_cons]
      by_cases hz:q z=true
      ·rw [if_pos hz,if_pos (hpq z hz)];simp only [List.length_cons];omega
      ·rw [if_neg hz];split<;>first | (simp only [List.length_cons];omega) | omega
   rcases List.mem_cons.1 h with rfl | h
   ·simp only [List.filter_cons,hp,hq,if_true,Bool.false_eq_true,if_false,List.length_cons];omega
   ·have ih:=zns h hp hq hpq
    simp only [List.filter_cons]
    by_cases hy:q y=true
    ·rw [if_pos hy,if_pos (hpq y hy)];simp only [List.length_cons];omega
    ·rw [if_neg hy];split<;>first | (simp only [List.length_cons];omega) | omega
theorem zfH (listed:Array Bool) (i j:Nat):(listed.setIfInBounds i true).getD j false=true↔(listed.getD j false=true∨(j=i∧i<listed.size)):=by
 rw [Array.getD_eq_getD_getElem?,Array.getD_eq_getD_getElem?]
 by_cases hij:j=i
 ·subst hij
  by_cases hl:j<listed.size
  ·rw [Array.getElem?_setIfInBounds_self_of_lt hl];simp [hl]
  ·rw [Array.getElem?_eq_none (by simp;omega),Array.getElem?_eq_none (by omega)];simp [hl]
 ·rw [Array.getElem?_setIfInBounds_ne (fun e=>hij e.symm)];simp [hij]
theorem zsG {listed:Array Bool} {i:Nat} (hs:listed.size=ops.size) (hi:i<ops.size) (hn:listed.getD i false=false):left ops.size (listed.setIfInBounds i true)<left ops.size listed:=by
 refine zns (List.mem_range.2 hi) (by simp [hn]) ?_ (fun y hy=>?_)
 ·have:=(zfH listed i i).2 (.inr ⟨rfl,by omega⟩);rw [this];rfl
 ·cases hg:listed.getD y false with
  | false=>rfl
  | true=>
    have:=(zfH listed i y).2 (.inl hg)
    rw [this] at hy;cases hy
theorem zkd (Inv:Array Bool→Act→World→Prop)
 (hst:∀ listed i a w,listed.size=ops.size→i∈Region.ready .any ops listed→Inv listed a w→wpOp P ops Q i (fun a w=>Inv (listed.setIfInBounds i true) a w) a w)
 (hend:∀ listed a w,listed.size=ops.size→(∀ i,i<ops.size→listed.getD i false=true)→Inv listed a w→Q .normal a w)
 (hac:∀ i o,ops[i]? = some o→∀ e∈o.after,Region.binds .any e=true→e.on<i) :
 ∀ (fuel:Nat) (listed:Array Bool) (a:Act) (w:World),listed.size=ops.size→left ops.size listed≤fuel→Inv listed a w→wpAny P .any ops Q fuel listed a w:=by
 have hready:∀ listed:Array Bool,listed.size=ops.size→Region.ready .any ops listed=[]→∀ i,i<ops.size→listed.getD i false=true:=by
  intro listed hs hr
  apply Classical.byContradiction
  intro hno
  have hex:∃ i,i<ops.size∧listed.getD i false=false:=by
   apply Classical.byContradiction
   intro h2
   exact hno fun i hi=>by
    cases hg:listed.getD i false with
    | true=>rfl
    | false=>exact absurd ⟨i,hi,hg⟩ h2
  obtain ⟨i,⟨hi,hg⟩,hleast⟩:=exists_least hex
  have hmem:i∈Region.ready .any ops listed:=by
   unfold Region.ready
   rw [List.mem_filter]
   refine ⟨List.mem_range.2 hi,?_⟩
   have ho:=Array.getElem?_eq_getElem hi
   have hgt:listed.getD i true=false:=by
    rw [Array.getD_eq_getD_getElem?,Array.getElem?_eq_getElem (by omega)] at hg ⊢;exact hg
   rw [hgt,ho]
   simp only [Bool.not_false,Bool.true_and,Option.map_some,Option.getD_some]
   rw [Array.all_eq_true']
   intro e he
   cases hb:Region.binds .any e with
   | false=>rfl
   | true=>
     have hlt:=hac i _ ho e he hb
     cases hge:listed.getD e.on false with
     | true=>rfl
     | false=>have:=hleast e.on ⟨by omega,hge⟩;omega
  rw [hr] at hmem;cases hmem
 intro fuel
 induction fuel with
 | zero=>
   intro listed a w hs hl hI
   have hall:=zr2 (Nat.le_zero.1 hl)
   refine ⟨?_,hend listed a w hs hall hI⟩
   rw [List.eq_nil_iff_forall_not_mem]
   intro i hi
   unfold Region.ready at hi
   rw [List.mem_filter] at hi
   have h1:=hall i (List.mem_range.1 hi.1)
   have h2:listed.getD i true=true:=by
    rw [Array.getD_eq_getD_getElem?,Array.getElem?_eq_getElem (by have:=List.mem_range.1 hi.1;omega)] at h1 ⊢;exact h1
   rw [h2] at hi;simp at hi
 | succ fuel ih=>
   intro listed a w hs hl hI
   refine ⟨fun hr=>hend listed a w hs (hready listed hs hr) hI,fun i hi=>?_⟩
   have hi':=hi
   unfold Region.ready at hi'
   rw [List.mem_filter] at hi'
   have hlt:=List.mem_range.1 hi'.1
   have hn:listed.getD i false=false:=by
    cases hg:listed.getD i false with
    | false=>rfl
    | true=>
      have h2:listed.getD i true=true:=by
       rw [Array.getD_eq_getD_getElem?,Array.getElem?_eq_getElem (by omega)] at hg ⊢;exact hg
      rw [h2] at hi';simp at hi'
   exact wpOp_mono (fun a w hI'=>ih _ a w (by rw [Array.size_setIfInBounds];exact hs) (by have:=zsG hs hlt hn;omega) hI') (hst listed i a w hs hi hI)
end
structure En:Type 1 where
 dst:Option Nat
 val:LV
 mem:Ml
 new:Option Nat
 ts:List Nat
 ms:List Nat
def elem (k:Nat):List Nat→Bool
 | []=>false
 | j::l=>match Nat.beq j k with
   | true=>true
   | false=>elem k l
theorem zfl {k:Nat}:∀ {l:List Nat},elem k l=true↔k∈l
 | []=>by simp [elem]
 | j::l=>by
   unfold elem
   cases h:Nat.beq j k with
   | true=>have:=zbh.1 h;subst this;simp
   | false=>
     have:=zin.1 h
     show elem k l=true↔_
     rw [zfl,List.mem_cons]
     exact ⟨.inr,fun h=>h.resolve_left (fun e=>this e.symm)⟩
def keys:Ml→List Nat
 | []=>[]
 | (k,_)::r=>k::keys r
/-! ### what is known when some are done -/
def zaQ:List En→(Nat→Bool)→Nat→Tl→Tl
 | [],_,_,T=>T
 | e::l,b,i,T=>zaQ l b (i+1) (match b i with
   | true=>putd e.dst e.val T
   | false=>T)
def zbu:List En→(Nat→Bool)→Nat→Ml→Ml
 | [],_,_,M=>M
 | e::l,b,i,M=>zbu l b (i+1) (match b i with
   | true=>e.mem++M
   | false=>M)
def last {β:Type 1} (W:En→Option β):List En→(Nat→Bool)→Nat→β→β
 | [],_,_,r=>r
 | e::l,b,i,r=>last W l b (i+1) (match b i with
   | true=>(W e).getD r
   | false=>r)
def wT (t:Nat) (e:En):Option LV:=match e.dst with
 | some d=>match Nat.beq d t with
   | true=>some e.val
   | false=>none
 | none=>none
def zdY (id:Nat):Ml→Option (Option Blk)
 | []=>none
 | (k,v)::r=>match Nat.beq k id with
   | true=>some v
   | false=>zdY id r
theorem zlx (d:Option Nat) (v:LV) (T:Tl) (e:En) (hd:e.dst=d) (hv:e.val=v) (t:Nat):tm (putd d v T) t=(wT t e).getD (tm T t):=by
 subst hd;subst hv
 unfold wT putd
 cases e.dst with
 | none=>rfl
 | some d=>
   show (match Nat.beq d t with | true=>e.val | false=>zdM .no T t)=_
   dsimp only
   cases Nat.beq d t<;>rfl
theorem zlZ (E M:Ml) (id:Nat):mm (E++M) id=(zdY id E).getD (mm M id):=by
 induction E with
 | nil=>rfl
 | cons p E ih=>
   obtain ⟨k,v⟩:=p
   show (match Nat.beq k id with | true=>v | false=>zdM none (E++M) id)=_
   unfold zdY
   cases Nat.beq k id with
   | true=>rfl
   | false=>exact ih
theorem zdE (t:Nat):∀ (l:List En) (b:Nat→Bool) (i:Nat) (T:Tl),tm (zaQ l b i T) t=last (wT t) l b i (tm T t)
 | [],b,i,T=>rfl
 | e::l,b,i,T=>by
   rw [zaQ,last,zdE t l]
   cases b i with
   | true=>dsimp only;rw [zlx _ _ T e rfl rfl]
   | false=>rfl
theorem zfo (id:Nat):∀ (l:List En) (b:Nat→Bool) (i:Nat) (M:Ml),mm (zbu l b i M) id=last (fun e=>zdY id e.mem) l b i (mm M id)
 | [],b,i,M=>rfl
 | e::l,b,i,M=>by
   rw [zbu,last,zfo id l]
   cases b i with
   | true=>dsimp only;rw [zlZ]
   | false=>rfl
theorem zco {β:Type 1} {W:En→Option β}:∀ {l:List En} {b b':Nat→Bool} {i:Nat} {r:β},(∀ (j:Nat) e,l[j]? = some e→W e≠none→b (i+j)=b' (i+j))→last W l b i r=last W l b' i r
 | [],b,b',i,r,h=>rfl
 | e::l,b,b',i,r,h=>by
   rw [last,last]
   have ht:∀ (j:Nat) e',l[j]? = some e'→W e'≠none→b (i+1+j)=b' (i+1+j):=fun j e' hj hw=>by
    have:=h (j+1) e' hj hw
    rwa [show i+(j+1)=i+1+j by omega] at this
   cases hw:W e with
   | none=>
     have e1:∀ q:Bool,(match q with | true=>(none:Option β).getD r | false=>r)=r:=fun q=>by cases q<;>rfl
     rw [e1,e1]
     exact zco ht
   | some v=>
     have:=h 0 e rfl (by rw [hw];exact fun h=>by cases h)
     rw [Nat.add_zero] at this
     rw [this]
     exact zco ht
theorem zih {β:Type 1} {W:En→Option β} {v:β}:∀ {l:List En} {b:Nat→Bool} {i j0:Nat} {e0:En} {r:β},l[j0]? = some e0→W e0=some v→b (i+j0)=true→(∀ (j:Nat) e,j0<j→l[j]? = some e→W e≠none→b (i+j)=false)→last W l b i r=v
 | [],b,i,j0,e0,r,h0,_,_,_=>by cases h0
 | e::l,b,i,0,e0,r,h0,hw,hb,h=>by
   have he:e=e0:=by simpa using h0
   subst he
   rw [last]
   rw [Nat.add_zero] at hb
   rw [hb,hw]
   have:∀ {l:List En} {i:Nat} {r:β},(∀ (j:Nat) e,l[j]? = some e→W e≠none→b (i+j)=false)→last W l b i r=r:=by
    intro l
    induction l with
    | nil=>intro i r _;rfl
    | cons e l ih=>
      intro i r h
      rw [last]
      cases hw:W e with
      | none=>
        have e1:(match b i with | true=>(none:Option β).getD r | false=>r)=r:=by cases b i<;>rfl
        rw [e1]
        exact ih (fun j e' hj hne=>by have:=h (j+1) e' hj hne;rwa [show i+(j+1)=i+1+j by omega] at this)
      | some v=>
        have:=h 0 e rfl (by rw [hw];exact fun h=>by cases h)
        rw [Nat.add_zero] at this
        rw [this]
        exact ih (fun j e' hj hne=>by have:=h (j+1) e' hj hne;rwa [show i+(j+1)=i+1+j by omega] at this)
   exact this (fun j e' hj hne=>by have:=h (j+1) e' (by omega) hj hne;rwa [show i+(j+1)=i+1+j by omega] at this)
 | e::l,b,i,j0+1,e0,r,h0,hw,hb,h=>by
   rw [last]
   exact zih (i:=i+1) (j0:=j0) (e0:=e0) h0 hw (by rwa [show i+1+j0=i+(j0+1) by omega]) (fun j e' hj hl hne=>by have:=h (j+1) e' (by omega) hl hne;rwa [show i+(j+1)=i+1+j by omega] at this)
theorem zea:∀ {l:List En} {b b':Nat→Bool} {i:Nat} {T:Tl},(∀ j,j<l.length→b (i+j)=b' (i+j))→zaQ l b i T=zaQ l b' i T
 | [],b,b',i,T,h=>rfl
 | e::l,b,b',i,T,h=>by
   have h0:=h 0 (by simp)
   rw [Nat.add_zero] at h0
   rw [zaQ,zaQ,h0]
   exact zea (fun j hj=>by have:=h (j+1) (by simp;omega);rwa [show i+(j+1)=i+1+j by omega] at this)
theorem zfz:∀ {l:List En} {b b':Nat→Bool} {i:Nat} {M:Ml},(∀ j,j<l.length→b (i+j)=b' (i+j))→zbu l b i M=zbu l b' i M
 | [],b,b',i,M,h=>rfl
 | e::l,b,b',i,M,h=>by
   have h0:=h 0 (by simp)
   rw [Nat.add_zero] at h0
   rw [zbu,zbu,h0]
   exact zfz (fun j hj=>by have:=h (j+1) (by simp;omega);rwa [show i+(j+1)=i+1+j by omega] at this)
theorem zeM:∀ {l:List En} {b:Nat→Bool} {i:Nat} {T:Tl},(∀ j,i≤j→b j=false)→zaQ l b i T=T
 | [],b,i,T,h=>rfl
 | e::l,b,i,T,h=>by rw [zaQ,h i (Nat.le_refl _)];exact zeM (fun j hj=>h j (by omega))
theorem zgE:∀ {l:List En} {b:Nat→Bool} {i:Nat} {M:Ml},(∀ j,i≤j→b j=false)→zbu l b i M=M
 | [],b,i,M,h=>rfl
 | e::l,b,i,M,h=>by rw [zbu,h i (Nat.le_refl _)];exact zgE (fun j hj=>h j (by omega))
def En.free (id:Nat) (e:En):Bool:=(match e.dst with
 | some _=>e.val.free id
 | none=>true) && zcC id e.mem
theorem zqF {id:Nat} {e:En} {T:Tl} (h:zfD id T=true) (he:e.free id=true):zfD id (putd e.dst e.val T)=true:=by
 unfold En.free at he
 unfold putd
 cases hd:e.dst with
 | none=>exact h
 | some d=>
   rw [hd] at he
   simp only [Bool.and_eq_true] at he
   show (e.val.free id && zfD id T)=true
   rw [he.1,h];rfl
theorem zh5 {id:Nat}:∀ {E M:Ml},zcC id E=true→zcC id M=true→zcC id (E++M)=true
 | [],M,_,h=>h
 | (k,none)::E,M,he,h=>zh5 (E:=E) he h
 | (k,some (.row ..))::E,M,he,h=>zh5 (E:=E) he h
 | (k,some (.box t v))::E,M,he,h=>by
   have he':(v.free2 id && zcC id E)=true:=he
   simp only [Bool.and_eq_true] at he'
   show (v.free2 id && zcC id (E++M))=true
   rw [he'.1,zh5 he'.2 h];rfl
theorem zkb {id:Nat}:∀ {l:List En} {b:Nat→Bool} {i:Nat} {T:Tl},zfD id T=true→(∀ (j:Nat) e,l[j]? = some e→b (i+j)=true→e.free id=true)→zfD id (zaQ l b i T)=true
 | [],b,i,T,h,_=>h
 | e::l,b,i,T,h,hl=>by
   rw [zaQ]
   refine zkb ?_ (fun j e' hj hb=>hl (j+1) e' hj (by rwa [show i+(j+1)=i+1+j by omega]))
   have h0:=hl 0 e rfl
   rw [Nat.add_zero] at h0
   cases hb:b i with
   | true=>exact zqF h (h0 hb)
   | false=>exact h
theorem zkp {id:Nat}:∀ {l:List En} {b:Nat→Bool} {i:Nat} {M:Ml},zcC id M=true→(∀ (j:Nat) e,l[j]? = some e→b (i+j)=true→e.free id=true)→zcC id (zbu l b i M)=true
 | [],b,i,M,h,_=>h
 | e::l,b,i,M,h,hl=>by
   rw [zbu]
   refine zkp ?_ (fun j e' hj hb=>hl (j+1) e' hj (by rwa [show i+(j+1)=i+1+j by omega]))
   have h0:=hl 0 e rfl
   rw [Nat.add_zero] at h0
   cases hb:b i with
   | true=>
     have:=h0 hb
     unfold En.free at this
     simp only [Bool.and_eq_true] at this
     exact zh5 this.2 h
   | false=>exact h
/-! ### what must come first -/
def zvT (k:Nat) (l:List Nat):List Nat:=match elem k l with
 | true=>l
 | false=>k::l
def zpp:List Nat→List Nat→List Nat
 | [],l=>l
 | k::r,l=>zpp r (zvT k l)
theorem zti {k j:Nat} {l:List Nat} (h:j∈zvT k l):j=k∨j∈l:=by
 unfold zvT at h
 split at h
 ·exact .inr h
 ·exact List.mem_cons.1 h
theorem zma {j:Nat}:∀ {r l:List Nat},j∈zpp r l→j∈r∨j∈l
 | [],l,h=>.inr h
 | k::r,l,h=>by
   rcases zma (r:=r) h with h | h
   ·exact .inl (List.mem_cons_of_mem _ h)
   ·rcases zti h with rfl | h
    ·exact .inl List.mem_cons_self
    ·exact .inr h
def zkL:List Edge→List Nat
 | []=>[]
 | e::l=>match Region.binds .any e with
   | true=>e.on::zkL l
   | false=>zkL l
def zhw (o:Oper):List Nat:=zkL o.after.toList
theorem zjZ {k:Nat}:∀ {l:List Edge},k∈zkL l↔∃ e∈l,Region.binds .any e=true∧e.on=k
 | []=>by simp [zkL]
 | e::l=>by
   unfold zkL
   cases h:Region.binds .any e with
   | true=>
     show k∈e.on::zkL l↔_
     rw [List.mem_cons,zjZ]
     constructor
     ·rintro (rfl | ⟨e',he,hb,hk⟩)
      ·exact ⟨e,List.mem_cons_self,h,rfl⟩
      ·exact ⟨e',List.mem_cons_of_mem _ he,hb,hk⟩
     ·rintro ⟨e',he,hb,hk⟩
      rcases List.mem_cons.1 he with rfl | he
      ·exact .inl hk.symm
      ·exact .inr ⟨e',he,hb,hk⟩
   | false=>
     show k∈zkL l↔_
     rw [zjZ]
     constructor
     ·rintro ⟨e',he,hb,hk⟩;exact ⟨e',List.mem_cons_of_mem _ he,hb,hk⟩
     ·rintro ⟨e',he,hb,hk⟩
      rcases List.mem_cons.1 he with rfl | he
      ·rw [h] at hb;cases hb
      ·exact ⟨e',he,hb,hk⟩
theorem zgn {o:Oper} {k:Nat}:k∈zhw o↔∃ e∈o.after,Region.binds .any e=true∧e.on=k:=by
 unfold zhw;rw [zjZ]
 constructor
 ·rintro ⟨e,he,h⟩;exact ⟨e,Array.mem_toList_iff.1 he,h⟩
 ·rintro ⟨e,he,h⟩;exact ⟨e,Array.mem_toList_iff.2 he,h⟩
def ze4 (acc:List (List Nat)):List Oper→List (List Nat)
 | []=>acc
 | o::l=>ze4 (acc++[zpp (zhw o) (upTo acc (zhw o))]) l
where
 upTo (acc:List (List Nat)):List Nat→List Nat
  | []=>[]
  | d::r=>zpp ((nth acc d).getD []) (upTo acc r)
def zox (all:List Oper) (b:Nat→Bool):Prop:=∀ (i:Nat) o,all[i]? = some o→b i=true→∀ k∈zhw o,b k=true
def zu8 (all:List Oper) (i j:Nat):Prop:=∀ b,zox all b→(∀ o,all[i]? = some o→∀ k∈zhw o,b k=true)→b j=true
theorem zpb {acc:List (List Nat)} {j:Nat}:∀ {r:List Nat},j∈ze4.upTo acc r→∃ d∈r,∃ l,acc[d]? = some l∧j∈l
 | [],h=>by cases h
 | d::r,h=>by
   rcases zma (show j∈zpp ((nth acc d).getD []) (ze4.upTo acc r) from h) with h | h
   ·rw [zge] at h
    cases hd:acc[d]? with
    | none=>rw [hd] at h;cases h
    | some l=>rw [hd] at h;exact ⟨d,List.mem_cons_self,l,hd,h⟩
   ·obtain ⟨d',hd',h⟩:=zpb h
    exact ⟨d',List.mem_cons_of_mem _ hd',h⟩
theorem zi1 {all:List Oper}:∀ {l:List Oper} {acc:List (List Nat)},(∀ (i:Nat) o,l[i]? = some o→all[acc.length+i]? = some o)→(∀ (i:Nat) q,acc[i]? = some q→(∃ o,all[i]? = some o)∧∀ j∈q,zu8 all i j)→∀ (i:Nat) q,(ze4 acc l)[i]? = some q→∀ j∈q,zu8 all i j
 | [],acc,_,ha,i,q,hq,j,hj=>(ha i q hq).2 j hj
 | o::l,acc,hl,ha,i,q,hq,j,hj=>by
   have ho:=hl 0 o rfl
   rw [Nat.add_zero] at ho
   refine zi1 (l:=l) (acc:=acc++[zpp (zhw o) (ze4.upTo acc (zhw o))]) (fun i o' hi=>?_) (fun i q hq=>?_) i q hq j hj
   ·have:=hl (i+1) o' hi
    rw [List.length_append]
    rwa [show acc.length+(i+1)=acc.length+[zpp (zhw o) (ze4.upTo acc (zhw o))].length+i by simp;omega] at this
   ·rcases Nat.lt_or_ge i acc.length with h | h
    ·rw [List.getElem?_append_left h] at hq
     exact ha i q hq
    ·rw [List.getElem?_append_right h] at hq
     have hi:i=acc.length:=by
      have:=(List.getElem?_eq_some_iff.1 hq).1
      simp at this;omega
     subst hi
     rw [Nat.sub_self] at hq
     have hq':zpp (zhw o) (ze4.upTo acc (zhw o))=q:=by simpa using hq
     subst hq'
     refine ⟨⟨o,ho⟩,fun j hj b hd hi=>?_⟩
     rcases zma hj with hj | hj
     ·exact hi o ho j hj
     ·obtain ⟨d,hdm,l',hl',hjl⟩:=zpb hj
      have hbd:=hi o ho d hdm
      exact (ha d l' hl').2 j hjl b hd (fun o' ho' k hk=>hd d o' ho' hbd k hk)
def zpH:List Nat→List Nat→Bool
 | [],_=>false
 | k::r,l=>elem k l || zpH r l
theorem zp3 {r l:List Nat} {k:Nat} (h1:k∈r) (h2:k∈l):zpH r l=true:=by
 induction r with
 | nil=>cases h1
 | cons j r ih=>
   show (elem j l || zpH r l)=true
   rcases List.mem_cons.1 h1 with rfl | h1
   ·rw [zfl.2 h2];rfl
   ·rw [ih h1,Bool.or_true]
def zeO (ms:List Nat):Ml→List Nat
 | []=>[]
 | (k,some _)::r=>match Nat.ble 500 k && (Nat.blt k 1000 && !(elem k ms)) with
   | true=>k::zeO ms r
   | false=>zeO ms r
 | (_,none)::r=>zeO ms r
def En.news (e:En):List Nat:=match e.new with
 | some id=>id::zeO e.ms e.mem
 | none=>[]
def zlw (a:En):List Nat→Bool
 | []=>false
 | id::l=>!(a.free id) || zlw a l
theorem zms {a:En}:∀ {l:List Nat},zlw a l=false→∀ id∈l,a.free id=true
 | [],_,id,h=>by cases h
 | j::l,hf,id,h=>by
   simp only [zlw,Bool.or_eq_false_iff] at hf
   rcases List.mem_cons.1 h with rfl | h
   ·simpa using hf.1
   ·exact zms hf.2 id h
def zgS (a b:En):Bool:=(match a.dst with
 | some d=>elem d b.ts || (match b.dst with
   | some d'=>Nat.beq d d'
   | none=>false)
 | none=>false) || (zpH (keys a.mem) b.ms || (zpH (keys a.mem) (keys b.mem) || zlw a b.news))
def zbz (a b:En):Bool:=zgS a b || zgS b a
theorem zib {id:Nat}:∀ {E:Ml},zdY id E≠none→id∈keys E
 | [],h=>absurd rfl h
 | (k,v)::E,h=>by
   unfold zdY at h
   show id∈k::keys E
   cases hb:Nat.beq k id with
   | true=>have:=zbh.1 hb;subst this;exact List.mem_cons_self
   | false=>rw [hb] at h;exact List.mem_cons_of_mem _ (zib h)
theorem zqq {t:Nat} {e:En} (h:wT t e≠none):e.dst=some t:=by
 unfold wT at h
 cases hd:e.dst with
 | none=>rw [hd] at h;exact absurd rfl h
 | some d=>
   rw [hd] at h
   dsimp only at h
   cases hb:Nat.beq d t with
   | true=>have:=zbh.1 hb;subst this;rfl
   | false=>rw [hb] at h;exact absurd rfl h
theorem zme {a b:En} {t:Nat} (h:wT t a≠none) (ht:t∈b.ts):zbz a b=true:=by
 have hd:=zqq h
 unfold zbz zgS
 rw [hd]
 simp [zfl.2 ht]
theorem zkj {a b:En} {t:Nat} (h:wT t a≠none) (ht:wT t b≠none):zbz a b=true:=by
 have hd:=zqq h
 have hd2:=zqq ht
 unfold zbz zgS
 rw [hd,hd2]
 simp [zbh.2 rfl]
theorem zpO {a b:En} {id:Nat} (h:zdY id a.mem≠none) (ht:id∈b.ms):zbz a b=true:=by
 unfold zbz zgS
 rw [zp3 (zib h) ht];simp
theorem zn2 {a b:En} {id:Nat} (h:zdY id a.mem≠none) (ht:zdY id b.mem≠none):zbz a b=true:=by
 unfold zbz zgS
 rw [zp3 (zib h) (zib ht)];simp
theorem znT {a b:En} {id:Nat} (h:id∈b.news) (hf:zbz a b=false):a.free id=true:=by
 unfold zbz zgS at hf
 simp only [Bool.or_eq_false_iff] at hf
 exact zms hf.1.2.2.2 id h
theorem zgd (a b:En):zbz a b=zbz b a:=by unfold zbz;rw [Bool.or_comm]
def zt5 (ej:En) (aj:List Nat):List En→Nat→Bool
 | [],_=>true
 | ei::l,i=>(!(zbz ei ej) || elem i aj) && zt5 ej aj l (i+1)
def zlk (an:List (List Nat)) (prev:List En):List En→Nat→Bool
 | [],_=>true
 | e::l,j=>(match nth an j with
   | some a=>zt5 e a prev 0
   | none=>false) && zlk an (prev++[e]) l (j+1)
theorem zrq {ej:En} {aj:List Nat}:∀ {l:List En} {i0:Nat},zt5 ej aj l i0=true→∀ (i:Nat) ei,l[i]? = some ei→zbz ei ej=true→i0+i∈aj
 | [],i0,_,i,ei,hi,_=>by cases hi
 | e::l,i0,h,0,ei,hi,hc=>by
   have he:e=ei:=by simpa using hi
   subst he
   simp only [zt5,Bool.and_eq_true,hc,Bool.not_true,Bool.false_or] at h
   rw [Nat.add_zero];exact zfl.1 h.1
 | e::l,i0,h,i+1,ei,hi,hc=>by
   simp only [zt5,Bool.and_eq_true] at h
   have:=zrq h.2 i ei hi hc
   rwa [show i0+(i+1)=i0+1+i by omega]
theorem zly {an:List (List Nat)}:∀ {l prev:List En} {k:Nat},prev.length=k→zlk an prev l k=true→∀ (j:Nat) ej,l[j]? = some ej→∃ a,an[k+j]? = some a∧∀ (i:Nat) ei,i<k+j→(prev++l)[i]? = some ei→zbz ei ej=true→i∈a
 | [],prev,k,_,_,j,ej,hj=>by cases hj
 | e::l,prev,k,hk,h,0,ej,hj=>by
   have he:e=ej:=by simpa using hj
   subst he
   simp only [zlk,Bool.and_eq_true] at h
   have h1:=h.1
   split at h1
   ·rename_i a ha
    rw [zge] at ha
    refine ⟨a,ha,fun i ei hi hei hc=>?_⟩
    rw [Nat.add_zero] at hi
    rw [List.getElem?_append_left (by omega)] at hei
    have:=zrq h1 i ei hei hc
    rwa [Nat.zero_add] at this
   ·cases h1
 | e::l,prev,k,hk,h,j+1,ej,hj=>by
   simp only [zlk,Bool.and_eq_true] at h
   obtain ⟨a,ha,hall⟩:=zly (prev:=prev++[e]) (k:=k+1) (by simp [hk]) h.2 j ej hj
   refine ⟨a,by rwa [show k+(j+1)=k+1+j by omega],fun i ei hi hei hc=>hall i ei (by omega) ?_ hc⟩
   rw [List.append_assoc];exact hei
section
variable {P:Program} {x:Cx} {tb:Tb} {R:Cx→Tl→Ml→Prop} {n:Nat} {all:List Oper}
def OpG (P:Program) (all:List Oper) (o:Oper) (J:Act→World→Prop) (a:Act) (w:World):Prop:=
 if Region.wanted o (yielded all.toArray a.tmps)=true then o.wp P a w J (fun _ _ _=>False) else J (a.put o.dst undef) w
structure zeV (P:Program) (x:Cx) (all:List Oper) (o:Oper) (e:En) (T:Tl) (M:Ml):Prop where
 dst:e.dst=o.dst
 ok:∀ T' M',(∀ t∈e.ts,tm T' t=tm T t)→(∀ id∈e.ms,mm M' id=mm M id)→(∀ id∈e.news,fresh T' M' id=true)→∀ m a w,Rel x (tm T') (mm M') m a w→
  OpG P all o (fun a w=>∃ m,Rel x (tm (putd e.dst e.val T')) (mm (e.mem++M')) m a w) a w
 frs:∀ id∈e.news,fresh T M id=true
inductive zi3 (P:Program) (x:Cx) (all:List Oper):List Oper→List En→Tl→Ml→Prop
 | nil (T:Tl) (M:Ml):zi3 P x all [] [] T M
 | cons {o:Oper} {l:List Oper} {e:En} {lg:List En} {T:Tl} {M:Ml} (h:zeV P x all o e T M) (hc:zi3 P x all l lg (putd e.dst e.val T) (e.mem++M)):zi3 P x all (o::l) (e::lg) T M
def pre (i j:Nat):Bool:=Nat.blt j i
theorem zhr {i j:Nat}:pre i j=true↔j<i:=by unfold pre;exact iff_of_eq Nat.blt_eq
theorem zfg {i j:Nat}:pre i j=false↔¬ j<i:=by rw [← zhr,Bool.not_eq_true]
theorem zi3.len {l:List Oper} {lg:List En} {T:Tl} {M:Ml} (h:zi3 P x all l lg T M):lg.length=l.length:=by
 induction h with
 | nil=>rfl
 | cons h hc ih=>simp [ih]
theorem zi3.get {l:List Oper} {lg:List En} {T:Tl} {M:Ml} (h:zi3 P x all l lg T M):∀ (k j:Nat) o e,l[j]? = some o→lg[j]? = some e→zeV P x all o e (zaQ lg (pre (k+j)) k T) (zbu lg (pre (k+j)) k M):=by
 induction h with
 | nil T M=>intro k j o e ho;cases ho
 | @cons o0 l0 e0 lg0 T0 M0 h hc ih=>
   intro k j o e ho he
   cases j with
   | zero=>
     have e1:o0=o:=by simpa using ho
     have e2:e0=e:=by simpa using he
     subst e1;subst e2
     rw [zeM (fun j hj=>zfg.2 (by omega)),zgE (fun j hj=>zfg.2 (by omega))]
     exact h
   | succ j=>
     have:=ih (k+1) j o e (by simpa using ho) (by simpa using he)
     rw [show k+1+j=k+(j+1) by omega] at this
     rw [zaQ,zbu,zhr.2 (by omega:k<k+(j+1))]
     exact this
theorem zmM {id:Nat}:∀ {l:List En} {b:Nat→Bool} {i:Nat} {T:Tl},zfD id (zaQ l b i T)=true→zfD id T=true∧∀ (j:Nat) e,l[j]? = some e→b (i+j)=true→∀ d,e.dst=some d→e.val.free id=true
 | [],b,i,T,h=>⟨h,fun j e hj=>by cases hj⟩
 | e::l,b,i,T,h=>by
   rw [zaQ] at h
   obtain ⟨h1,h2⟩:=zmM h
   have h3:zfD id T=true∧(b i=true→∀ d,e.dst=some d→e.val.free id=true):=by
    cases hb:b i with
    | false=>rw [hb] at h1;exact ⟨h1,fun h=>by cases h⟩
    | true=>
      rw [hb] at h1
      unfold putd at h1
      cases hd:e.dst with
      | none=>rw [hd] at h1;exact ⟨h1,fun _ d hd=>by cases hd⟩
      | some d=>
        rw [hd] at h1
        have h1':(e.val.free id && zfD id T)=true:=h1
        simp only [Bool.and_eq_true] at h1'
        exact ⟨h1'.2,fun _ _ _=>h1'.1⟩
   refine ⟨h3.1,fun j e' hj hb=>?_⟩
   cases j with
   | zero=>
     have he:e=e':=by simpa using hj
     subst he
     exact h3.2 (by simpa using hb)
   | succ j=>exact h2 j e' hj (by rwa [show i+1+j=i+(j+1) by omega])
theorem zfj {id:Nat}:∀ {E M:Ml},zcC id (E++M)=true→zcC id E=true∧zcC id M=true
 | [],M,h=>⟨rfl,h⟩
 | (k,none)::E,M,h=>zfj (E:=E) h
 | (k,some (.row ..))::E,M,h=>zfj (E:=E) h
 | (k,some (.box t v))::E,M,h=>by
   have h':(v.free2 id && zcC id (E++M))=true:=h
   simp only [Bool.and_eq_true] at h'
   obtain ⟨h1,h2⟩:=zfj h'.2
   refine ⟨?_,h2⟩
   show (v.free2 id && zcC id E)=true
   rw [h'.1,h1];rfl
theorem zmu {id:Nat}:∀ {l:List En} {b:Nat→Bool} {i:Nat} {M:Ml},zcC id (zbu l b i M)=true→zcC id M=true∧∀ (j:Nat) e,l[j]? = some e→b (i+j)=true→zcC id e.mem=true
 | [],b,i,M,h=>⟨h,fun j e hj=>by cases hj⟩
 | e::l,b,i,M,h=>by
   rw [zbu] at h
   obtain ⟨h1,h2⟩:=zmu h
   have h3:zcC id M=true∧(b i=true→zcC id e.mem=true):=by
    cases hb:b i with
    | false=>rw [hb] at h1;exact ⟨h1,fun h=>by cases h⟩
    | true=>rw [hb] at h1;obtain ⟨h4,h5⟩:=zfj h1;exact ⟨h5,fun _=>h4⟩
   refine ⟨h3.1,fun j e' hj hb=>?_⟩
   cases j with
   | zero=>
     have he:e=e':=by simpa using hj
     subst he
     exact h3.2 (by simpa using hb)
   | succ j=>exact h2 j e' hj (by rwa [show i+1+j=i+(j+1) by omega])
theorem zek {o:Oper} {a:Act} {w:World} {K K':Act→World→Prop} {Q:Exit→Act→World→Prop} (h1:o.wp P a w K (fun _ _ _=>False)) (h:∀ a w,K a w→K' a w):o.wp P a w K' Q:=by
 unfold Oper.wp at h1 ⊢
 revert h1
 cases (execOp a.eval o).run P w with
 | ok nx w1=>cases nx with
   | enter f args=>
     intro h1
     refine Calls.mono h1 fun e w2 he=>?_
     cases e with
     | returned v=>exact h _ _ he
     | panicked c=>exact he.elim
     | outgrown=>obtain ⟨_,_,he⟩:=he;exact he.elim
   | value v=>exact fun h1=>h _ _ h1
   | skip=>exact fun h1=>h _ _ h1
   | defer d=>exact fun h1=>h _ _ h1
   | row r args=>exact fun h1=>Rows.mono h1 fun u w2 he=>h _ _ he
   | _=>exact fun h1=>h1
 | halt hh w1=>cases hh with
   | panic v=>exact fun h1=>h1.elim
   | _=>exact fun h1=>h1
def acB:List Oper→Nat→Bool
 | [],_=>true
 | o::l,i=>ltAll i (zhw o) && acB l (i+1)
where
 ltAll (i:Nat):List Nat→Bool
  | []=>true
  | k::r=>Nat.blt k i && ltAll i r
theorem zpo {i:Nat}:∀ {l:List Nat},acB.ltAll i l=true→∀ k∈l,k<i
 | [],_,k,hk=>by cases hk
 | j::l,h,k,hk=>by
   have h':(Nat.blt j i && acB.ltAll i l)=true:=h
   simp only [Bool.and_eq_true] at h'
   rcases List.mem_cons.1 hk with rfl | hk
   ·exact Nat.blt_eq.mp h'.1
   ·exact zpo h'.2 k hk
theorem zos:∀ {l:List Oper} {i0:Nat},acB l i0=true→∀ (i:Nat) o,l[i]? = some o→∀ k∈zhw o,k<i0+i
 | [],i0,_,i,o,ho=>by cases ho
 | o0::l,i0,h,i,o,ho=>by
   simp only [acB,Bool.and_eq_true] at h
   cases i with
   | zero=>
     have he:o0=o:=by simpa using ho
     subst he
     exact zpo h.1
   | succ i=>
     have:=zos h.2 i o (by simpa using ho)
     intro k hk
     have:=this k hk
     omega
theorem ztB {id:Nat} {ops:Array Oper} {k:List It} {T:Tl} {M:Ml} {lg:List En} (hmix:P.follows .mixedOrders=true) (hac:acB ops.toList 0=true) (hch:zi3 P x ops.toList ops.toList lg T M) (hord:zlk (ze4 [] ops.toList) [] lg 0=true)
 (h:Wc P x R k (zaQ lg (fun _=>true) 0 T) (zbu lg (fun _=>true) 0 M)):Wc P x R (.code (.region id ops true)::k) T M:=by
 intro m0 a0 w0 hr0
 show (Code.region id ops true).wp P (Ka P x R k) a0 w0
 have hlen:lg.length=ops.size:=by rw [hch.len];simp
 have hac':=zos hac
 simp only [Nat.zero_add] at hac'
 have hget:∀ (i:Nat) o,ops[i]? = some o→ops.toList[i]? = some o:=fun i o ho=>by rw [Array.getElem?_toList];exact ho
 have hget':∀ (i:Nat) o,ops.toList[i]? = some o→ops[i]? = some o:=fun i o ho=>by rw [Array.getElem?_toList] at ho;exact ho
 have han:=zi1 (all:=ops.toList) (l:=ops.toList) (acc:=[]) (fun i o ho=>by simpa using ho) (fun i q hq=>by cases hq)
 have hord':=zly (an:=ze4 [] ops.toList) (prev:=[]) (k:=0) (l:=lg) rfl hord
 simp only [Nat.zero_add,List.nil_append] at hord'
 refine wp_region_any hmix (zkd (fun listed a w=>zox ops.toList (fun j=>listed.getD j false)∧∃ m,Rel x (tm (zaQ lg (fun j=>listed.getD j false) 0 T)) (mm (zbu lg (fun j=>listed.getD j false) 0 M)) m a w) ?_ ?_ ?_ ops.size _ a0 _ (by simp) ?_ ?_)
 ·-- one operation
  intro listed i a w hsz hi hinv
  obtain ⟨hdown,m,hr⟩:=hinv
  obtain ⟨hlt,o,ho,hall⟩:=mem_ready.1 hi
  have hio:=(Array.getElem?_eq_some_iff.1 ho).1
  have hbi:listed.getD i false=false:=by
   rw [Array.getD_eq_getD_getElem?,Array.getElem?_eq_getElem (by omega)] at hlt ⊢;exact hlt
  have hdeps:∀ q∈zhw o,listed.getD q false=true:=fun q hq=>by
   obtain ⟨e,he,hb,rfl⟩:=zgn.1 hq
   exact hall e he hb
  obtain ⟨e,he⟩:∃ e,lg[i]? = some e:=⟨lg[i]'(by omega),List.getElem?_eq_getElem _⟩
  have hD:=hch.get 0 i o e (hget i o ho) he
  rw [Nat.zero_add] at hD
  have agree:∀ (j:Nat) e',lg[j]? = some e'→zbz e' e=true→listed.getD j false=pre i j:=fun j e' hj hc=>by
   rcases Nat.lt_trichotomy j i with hji | hji | hji
   ·obtain ⟨al,hal,hmem⟩:=hord' i e he
    have:=han i al hal j (hmem j e' hji hj hc) (fun j=>listed.getD j false) hdown (fun o' ho' q hq=>by
     rw [hget i o ho] at ho';cases ho';exact hdeps q hq)
    rw [zhr.2 hji];exact this
   ·subst hji
    rw [hbi,zfg.2 (by omega)]
   ·rw [zfg.2 (by omega)]
    cases hbj:listed.getD j false with
    | false=>rfl
    | true=>
      obtain ⟨al,hal,hmem⟩:=hord' j e' hj
      have:=han j al hal i (hmem i e hji he (by rw [zgd];exact hc)) (fun j=>listed.getD j false) hdown (fun o' ho' q hq=>hdown j o' ho' hbj q hq)
      rw [hbi] at this;cases this
  have hts:∀ t∈e.ts,tm (zaQ lg (fun j=>listed.getD j false) 0 T) t=tm (zaQ lg (pre i) 0 T) t:=fun t ht=>by
   rw [zdE,zdE]
   refine zco fun j e' hj hw=>?_
   rw [Nat.zero_add];exact agree j e' hj (zme hw ht)
  have hms:∀ id∈e.ms,mm (zbu lg (fun j=>listed.getD j false) 0 M) id=mm (zbu lg (pre i) 0 M) id:=fun id ht=>by
   rw [zfo,zfo]
   refine zco fun j e' hj hw=>?_
   rw [Nat.zero_add];exact agree j e' hj (zpO hw ht)
  have hfr:∀ id∈e.news,fresh (zaQ lg (fun j=>listed.getD j false) 0 T) (zbu lg (fun j=>listed.getD j false) 0 M) id=true:=fun id hid=>by
   have h1:=hD.frs id hid
   unfold fresh at h1 ⊢
   simp only [Bool.and_eq_true] at h1 ⊢
   obtain ⟨t1,t2⟩:=zmM h1.1
   obtain ⟨m1,m2⟩:=zmu h1.2.1
   have hfree:∀ (j:Nat) e',lg[j]? = some e'→listed.getD (0+j) false=true→e'.free id=true:=fun j e' hj hb=>by
    rw [Nat.zero_add] at hb
    cases hc:zbz e' e with
    | false=>exact znT hid hc
    | true=>
      have hp:=agree j e' hj hc
      rw [hb] at hp
      have t3:=t2 j e' hj (by rw [Nat.zero_add];exact hp.symm)
      have m3:=m2 j e' hj (by rw [Nat.zero_add];exact hp.symm)
      unfold En.free
      cases hd:e'.dst with
      | none=>rw [m3];rfl
      | some d=>rw [t3 d hd,m3];rfl
   exact ⟨zkb t1 hfree,zkp m1 hfree,h1.2.2⟩
  have hg:=hD.ok _ _ hts hms hfr m a w hr
  have hb':∀ j,(listed.setIfInBounds i true).getD j false=true↔(listed.getD j false=true∨j=i):=fun j=>by
   rw [zfH]
   constructor
   ·rintro (h | ⟨h,_⟩)
    ·exact .inl h
    ·exact .inr h
   ·rintro (h | h)
    ·exact .inl h
    ·exact .inr ⟨h,by omega⟩
  have hbe:∀ j,j≠i→(listed.setIfInBounds i true).getD j false=listed.getD j false:=fun j hj=>by
   rw [Bool.eq_iff_iff,hb']
   exact ⟨fun h=>h.resolve_right hj,.inl⟩
  have hbt:(listed.setIfInBounds i true).getD i false=true:=(hb' i).2 (.inr rfl)
  have hK:∀ a' w',(∃ m,Rel x (tm (putd e.dst e.val (zaQ lg (fun j=>listed.getD j false) 0 T))) (mm (e.mem++zbu lg (fun j=>listed.getD j false) 0 M)) m a' w')→
   zox ops.toList (fun j=>(listed.setIfInBounds i true).getD j false)∧∃ m,Rel x (tm (zaQ lg (fun j=>(listed.setIfInBounds i true).getD j false) 0 T)) (mm (zbu lg (fun j=>(listed.setIfInBounds i true).getD j false) 0 M)) m a' w':=by
   rintro a' w' ⟨m',hr'⟩
   refine ⟨fun j o' ho' hbj q hq=>?_,m',?_⟩
   ·rcases (hb' j).1 hbj with h | h
    ·exact (hb' q).2 (.inl (hdown j o' ho' h q hq))
    ·subst h
     rw [hget j o ho] at ho';cases ho'
     exact (hb' q).2 (.inl (hdeps q hq))
   ·have eT:tm (putd e.dst e.val (zaQ lg (fun j=>listed.getD j false) 0 T))=tm (zaQ lg (fun j=>(listed.setIfInBounds i true).getD j false) 0 T):=by
     funext t
     rw [zlx _ _ _ e rfl rfl,zdE,zdE]
     cases hw:wT t e with
     | none=>
       show last _ _ _ _ _=_
       refine zco fun j e' hj hw'=>?_
       rw [Nat.zero_add]
       refine (hbe j fun hji=>?_).symm
       subst hji
       rw [he] at hj;cases hj;exact hw' hw
     | some v=>
       show v=_
       refine (zih (j0:=i) he hw (by rw [Nat.zero_add];exact hbt) (fun j e' hij hj hw'=>?_)).symm
       rw [Nat.zero_add,hbe j (by omega),agree j e' hj (zkj hw' (by rw [hw];exact fun h=>by cases h)),zfg.2 (by omega)]
    have eM:mm (e.mem++zbu lg (fun j=>listed.getD j false) 0 M)=mm (zbu lg (fun j=>(listed.setIfInBounds i true).getD j false) 0 M):=by
     funext id
     rw [zlZ,zfo,zfo]
     cases hw:zdY id e.mem with
     | none=>
       show last _ _ _ _ _=_
       refine zco fun j e' hj hw'=>?_
       rw [Nat.zero_add]
       refine (hbe j fun hji=>?_).symm
       subst hji
       rw [he] at hj;cases hj;exact hw' hw
     | some v=>
       show v=_
       refine (zih (W:=fun e=>zdY id e.mem) (j0:=i) he hw (by rw [Nat.zero_add];exact hbt) (fun j e' hij hj hw'=>?_)).symm
       rw [Nat.zero_add,hbe j (by omega),agree j e' hj (zn2 (id:=id) hw' (by rw [hw];exact fun h=>by cases h)),zfg.2 (by omega)]
    rw [← eT,← eM];exact hr'
  unfold OpG at hg
  rw [Array.toArray_toList] at hg
  show wpOp P ops (Ka P x R k) i _ a w
  unfold wpOp
  simp only [ho]
  split
  ·rename_i hw
   rw [if_pos hw] at hg
   exact .inl (zek hg hK)
  ·rename_i hw
   rw [if_neg hw] at hg
   exact hK _ _ hg
 ·-- all are done
  rintro listed a w hsz hall ⟨_,m,hr⟩
  rw [zea (b':=fun _=>true) (fun j hj=>by rw [Nat.zero_add];exact hall j (by omega)),zfz (b':=fun _=>true) (fun j hj=>by rw [Nat.zero_add];exact hall j (by omega))] at hr
  exact h m a w hr
 ·intro i o ho e he hb
  exact hac' i o (hget i o ho) e.on (zgn.2 ⟨e,he,hb,rfl⟩)
 ·unfold left
  refine Nat.le_trans (List.length_filter_le _ _) (by simp)
 ·have hz:∀ j,(Array.replicate ops.size false).getD j false=false:=fun j=>by
   rw [Array.getD_eq_getD_getElem?,Array.getElem?_replicate];split<;>rfl
  refine ⟨fun i o ho hb=>(by
   have hb':(Array.replicate ops.size false).getD i false=true:=hb
   rw [hz] at hb';cases hb'),m0,?_⟩
  rw [zeM (fun j _=>hz j),zgE (fun j _=>hz j)]
  exact hr0.drew
end
inductive Hn:Type 1 where
 | b (c:Bool)
 | r (v:LV)
 | raw (v:LV) (E:Ml) (new:Option Nat)
inductive Gs where
 | yes
 | no
 | bad
def zgY:List Operand→List Nat
 | []=>[]
 | .tmp t::l=>t::zgY l
 | _::l=>zgY l
def lk1:LV→List Nat
 | .own i=>[i]
 | .ptr i _=>[i]
 | .ept i _ _=>[i]
 | .clo _ caps=>caps.map (·.1)
 | _=>[]
def zuM:List LV→List Nat
 | []=>[]
 | l::ls=>lk1 l++zuM ls
def lk2:LV→List Nat
 | .lagg ls=>zuM ls
 | l=>lk1 l
def lk3:List LV→List Nat
 | []=>[]
 | l::ls=>lk2 l++lk3 ls
def zbd (T:Tl):List Operand→List Nat
 | []=>[]
 | q::l=>lk2 (val T q)++zbd T l
def zp6 (all:List Oper) (o:Oper):Option Nat:=match o.guard with
 | some (j,_)=>match nth (all.map fun o=>o.dst) j with
   | some (some d)=>some d
   | _=>none
 | none=>none
def zbb (all:List Oper) (o:Oper):List Nat:=match zp6 all o with
 | some d=>d::zgY o.op.operands.toList
 | none=>zgY o.op.operands.toList
def gst (all:List Oper) (o:Oper) (T:Tl):Gs:=match o.guard with
 | none=>.yes
 | some (j,want)=>match zp6 all o with
   | some d=>match tm T d with
     | .known b=>match b,want with
       | true,true=>.yes
       | false,false=>.yes
       | true,false=>.no
       | false,true=>.no
     | .tup _=>.no
     | _=>.bad
   | none=>.bad
theorem zwd {l:LV} {id:Nat} (h:l.on1 id):id∈lk1 l:=by cases l<;>first | exact h.elim | (obtain ⟨p,hp,he⟩:=h;exact List.mem_map.2 ⟨p,hp,he⟩) | (have:_=id:=h;subst this;simp [lk1])
theorem zux {ls:List LV} {id:Nat} (h:∃ l∈ls,l.on1 id):id∈zuM ls:=by
 obtain ⟨l,hl,h⟩:=h
 induction ls with
 | nil=>cases hl
 | cons k ls ih=>
   show id∈lk1 k++zuM ls
   rcases List.mem_cons.1 hl with rfl | hl
   ·exact List.mem_append_left _ (zwd h)
   ·exact List.mem_append_right _ (ih hl)
theorem zoA {l:LV} {id:Nat} (h:l.on2 id):id∈lk2 l:=by cases l<;>first | exact zux h | exact h.elim | (obtain ⟨p,hp,he⟩:=h;exact List.mem_map.2 ⟨p,hp,he⟩) | (have:_=id:=h;subst this;simp [lk2,lk1])
theorem zrJ {l:LV} {id:Nat} (h:l.on1 id):l.on2 id:=by cases l<;>first | exact h | exact h.elim
theorem zdl {ls:List LV} {id:Nat} (h:∃ l∈ls,l.on2 id):id∈lk3 ls:=by
 obtain ⟨l,hl,h⟩:=h
 induction ls with
 | nil=>cases hl
 | cons k ls ih=>
   show id∈lk2 k++lk3 ls
   rcases List.mem_cons.1 hl with rfl | hl
   ·exact List.mem_append_left _ (zoA h)
   ·exact List.mem_append_right _ (ih hl)
theorem zdu {T:Tl} {id:Nat} {q:Operand}:∀ {l:List Operand},q∈l→(val T q).on2 id→id∈zbd T l
 | [],h,_=>by cases h
 | p::l,h,h2=>by
   show id∈lk2 (val T p)++zbd T l
   rcases List.mem_cons.1 h with rfl | h
   ·exact List.mem_append_left _ (zoA h2)
   ·exact List.mem_append_right _ (zdu h h2)
theorem zpn {t:Nat}:∀ {l:List Operand},.tmp t∈l→t∈zgY l
 | [],h=>by cases h
 | q::l,h=>by
   rcases List.mem_cons.1 h with h | h
   ·subst h;exact List.mem_cons_self
   ·have:=zpn h
    cases q<;>first | exact List.mem_cons_of_mem _ this | exact this
theorem zry {all:List Oper} {o:Oper} {t:Nat} (h:t∈zgY o.op.operands.toList):t∈zbb all o:=by
 unfold zbb;split
 ·exact List.mem_cons_of_mem _ h
 ·exact h
theorem zbZ {T T':Tl} {all:List Oper} {o:Oper} (h:∀ t∈zbb all o,tm T' t=tm T t) {q:Operand} (hq:q∈o.op.operands.toList):val T' q=val T q:=by
 cases q with
 | tmp t=>exact h t (zry (zpn hq))
 | const v=>rfl
 | global g=>rfl
 | func f=>rfl
section
variable {P:Program} {x:Cx} {tb:Tb} {R:Cx→Tl→Ml→Prop} {n:Nat} {all:List Oper} {o:Oper} {T:Tl} {M:Ml}
theorem zpF {d:Nat} {j:Nat} {want:Bool} (hg:o.guard=some (j,want)) (h:zp6 all o=some d):nth (all.map fun o=>o.dst) j=some (some d):=by
 unfold zp6 at h
 rw [hg] at h
 dsimp only at h
 split at h
 ·cases h;assumption
 ·cases h
theorem zoJ (h:gst all o T=.yes) {T':Tl} {M':Ml} (ht:∀ t∈zbb all o,tm T' t=tm T t) {m:Mp} {a:Act} {w:World} (hr:Rel x (tm T') (mm M') m a w):Region.wanted o (yielded all.toArray a.tmps)=true:=by
 unfold gst at h
 split at h
 ·rename_i hg;unfold Region.wanted;rw [hg]
 ·rename_i j want hg
  split at h
  ·rename_i d hd
   have hd':=zpF hg hd
   have htd:=ht d (by unfold zbb;rw [hd];exact List.mem_cons_self)
   split at h
   ·rename_i b hb
    have hv:=hr.tmp d
    rw [htd,hb] at hv
    have:=(zfA hr hd' (show a.tmps.getD d undef=.bool b from hv)).1 b rfl
    unfold Region.wanted;rw [hg];simp only [this]
    cases b<;>cases want<;>first | rfl | cases h
   ·cases h
   ·cases h
  ·cases h
theorem zvE (h:gst all o T=.no) {T':Tl} {M':Ml} (ht:∀ t∈zbb all o,tm T' t=tm T t) {m:Mp} {a:Act} {w:World} (hr:Rel x (tm T') (mm M') m a w):Region.wanted o (yielded all.toArray a.tmps)=false:=by
 unfold gst at h
 split at h
 ·cases h
 ·rename_i j want hg
  split at h
  ·rename_i d hd
   have hd':=zpF hg hd
   have htd:=ht d (by unfold zbb;rw [hd];exact List.mem_cons_self)
   split at h
   ·rename_i b hb
    have hv:=hr.tmp d
    rw [htd,hb] at hv
    have:=(zfA hr hd' (show a.tmps.getD d undef=.bool b from hv)).1 b rfl
    unfold Region.wanted;rw [hg];simp only [this]
    cases b<;>cases want<;>first | rfl | cases h
   ·rename_i ls hb
    have hv:=hr.tmp d
    rw [htd,hb] at hv
    obtain ⟨us,hv,_⟩:=hv
    have:=(zfA hr hd' hv).2 (fun b hh=>by cases hh)
    unfold Region.wanted;rw [hg];simp only [this];rfl
   ·cases h
  ·cases h
theorem zuI (hn:x.n=n) (hd:zaA n o.dst=true) (h:gst all o T=.no):zeV P x all o ⟨o.dst,.tup [],[],none,zbb all o,[]⟩ T M:=by
 refine ⟨rfl,fun T' M' ht hm hf m a w hr=>?_,fun id h=>(by have h:id∈([]:List Nat):=h;cases h)⟩
 unfold OpG
 rw [if_neg (by rw [zvE h ht hr];exact Bool.false_ne_true)]
 exact ⟨m,hr.putd hn hd ⟨[],rfl,rfl,fun j u l hu=>by cases hu⟩⟩
def zwR (x:Cx) (d:Option Nat) (v:LV) (E:Ml) (T':Tl) (M':Ml) (x1:Cx) (T1:Tl) (M1:Ml):Prop:=x1=x∧T1=putd d v T'∧M1=E++M'
theorem bk1 {ms:List Nat} {d:Nat} {b:Option Blk}:∀ id∈zeO ms [(d,b)],some d=some id:=fun id h=>by
 cases b with
 | none=>cases h
 | some b=>
   simp only [zeO] at h
   split at h
   ·rw [List.mem_singleton.1 h]
   ·cases h
theorem bk2 {ms:List Nat} {d i:Nat} {b:Blk}:∀ id∈zeO ms [(d,some b),(i,none)],some d=some id:=fun id h=>by
 simp only [zeO] at h
 split at h
 ·rw [List.mem_singleton.1 h]
 ·cases h
theorem zdX {v:LV} {E:Ml} {new:Option Nat} {ms:List Nat} (h:gst all o T=.yes) (hbk:new=none∨∀ id∈zeO ms E,new=some id) (hf:∀ id,new=some id→fresh T M id=true)
 (hop:∀ T' M',(∀ t∈zbb all o,tm T' t=tm T t)→(∀ id∈ms,mm M' id=mm M id)→(∀ id,new=some id→fresh T' M' id=true)→OpW P x (fun _ _ _=>False) o [.stop (zwR x o.dst v E T' M')] T' M'):zeV P x all o ⟨o.dst,v,E,new,zbb all o,ms⟩ T M:=by
 have hnews:∀ id∈En.news ⟨o.dst,v,E,new,zbb all o,ms⟩,new=some id:=fun id hid=>by
  cases new with
  | none=>have hid:id∈([]:List Nat):=hid;cases hid
  | some j=>
    have hid:id∈j::zeO ms E:=hid
    rcases List.mem_cons.1 hid with rfl | hid
    ·rfl
    ·rcases hbk with hb | hb
     ·cases hb
     ·exact hb id hid
 refine ⟨rfl,fun T' M' ht hm hf m a w hr=>?_,fun id hid=>hf id (hnews id hid)⟩
 have hf:∀ id,new=some id→fresh T' M' id=true:=fun id hid=>hf id (by subst hid;exact List.mem_cons_self)
 unfold OpG
 rw [if_pos (zoJ h ht hr)]
 refine zek (hop T' M' ht hm hf m a w hr) fun a w hk=>?_
 obtain ⟨x1,hx,T1,M1,m1,hr1,rfl,rfl,rfl⟩:=hk
 exact ⟨m1,hr1⟩
theorem zlA {k:List It} {T1:Tl} {M1:Ml} {s:Option Prop} (hn:x.n=n) (htb:zaJ P tb) (ho:opF tb n o T M=some (s,T1,M1)) (hs:∀ r,s=some r→r) (h:Wc P x R k T1 M1):OpW P x R o k T M:=fun m a w hr=>by
 obtain ⟨nx,v,w1,m1,hrun,hnx,hr1⟩:=zsE hn htb hr ho hs
 unfold Oper.wp
 rw [hrun]
 rcases hnx with rfl | ⟨rfl,rfl⟩
 ·exact h m1 _ w1 hr1
 ·exact h m1 _ w1 hr1
theorem ztZ {d:Option Nat} {u v:LV} {T T':Tl} (h:putd d u T=putd d v T):putd d u T'=putd d v T':=by
 cases d with
 | none=>rfl
 | some t=>
   have:(t,u)::T=(t,v)::T:=h
   injection this with h1 _
   injection h1 with _ h2
   subst h2;rfl
theorem ztK (all:List Oper) {T':Tl} {M':Ml} (ht:∀ t∈zbb all o,tm T' t=tm T t) (hm:∀ id∈zbd T o.op.operands.toList,mm M' id=mm M id):zu3 T T' M M' o.op.operands.toList:=
 ⟨fun q hq=>(zbZ ht hq).symm,fun q hq id hi=>(hm id (zdu hq (zrJ hi))).symm⟩
theorem zh2 {v:LV} {T1:Tl} {M1:Ml} {s:Option Prop} (hn:x.n=n) (htb:zaJ P tb) (hp:zkh o.op=true) (h:gst all o T=.yes) (ho:opF tb n o T M=some (s,T1,M1)) (hs:∀ r,s=some r→r) (hv:T1=putd o.dst v T) :
 zeV P x all o ⟨o.dst,v,[],none,zbb all o,zbd T o.op.operands.toList⟩ T M:=by
 refine zdX h (.inl rfl) (fun id h=>by cases h) fun T' M' ht hm _=>?_
 obtain ⟨l,h1,h2,h3⟩:=znR hp (ztK all ht hm) ho
 have e:putd o.dst l T'=putd o.dst v T':=ztZ (h1.symm.trans hv)
 rw [e] at h3
 exact zlA hn htb h3 hs (fun m a w hr=>⟨x,.refl x,_,_,m,hr,rfl,rfl,rfl⟩)
theorem zsf {d:Nat} {b c:Bool} (hbc:b=c) {M:Mem} {m:Mp} {a:Act} {w:World} (hr:Rel x (tm ((d,.dat (.bool b))::T)) M m a w):Rel x (tm ((d,.known c)::T)) M m a w:=by
 subst hbc
 refine ⟨fun t=>?_,hr.sz,hr.df,hr.blk,hr.inj,hr.lo,hr.s0,hr.os,hr.tape,hr.output,hr.same,hr.keep⟩
 have:=hr.tmp t
 rw [zij] at this ⊢
 unfold upd at this ⊢
 split
 ·rename_i ht;rw [if_pos ht] at this;exact zft this
 ·rename_i ht;rw [if_neg ht] at this;exact this
theorem zqK {d:Nat} {b c:Bool} {E:Ml} {new:Option Nat} {ts ms:List Nat} (hbc:b=c) (h:zeV P x all o ⟨some d,.dat (.bool b),E,new,ts,ms⟩ T M):zeV P x all o ⟨some d,.known c,E,new,ts,ms⟩ T M:=by
 refine ⟨h.dst,fun T' M' ht hm hf m a w hr=>?_,h.frs⟩
 have h1:=h.ok T' M' ht hm hf m a w hr
 have key:∀ a w,(∃ m,Rel x (tm (putd (some d) (.dat (.bool b)) T')) (mm (E++M')) m a w)→∃ m,Rel x (tm (putd (some d) (.known c) T')) (mm (E++M')) m a w:=fun a w ⟨m,hr⟩=>⟨m,zsf hbc hr⟩
 unfold OpG at h1 ⊢
 split
 ·rename_i hw;rw [if_pos hw] at h1;exact zek h1 key
 ·rename_i hw;rw [if_neg hw] at h1;exact key _ _ h1
/-! ### calls -/
theorem zmn {k:List It} {c:Call} {f:FuncId} {args:List LV} (htb:zaJ P tb) (hop:o.op=.call c) (hc:c.callee=.value (.func f)) (ha:zdQ tb T c.args.toList c.argTypes.toList=some args)
 (h:zmV P x R f args o.dst k T M):OpW P x R o k T M:=fun m a w hr=>by
 obtain ⟨⟨fn,cd,hf,hb,hname⟩,h⟩:=h
 have hc1:=h m a w (c.args.toList.map a.eval) hr (by rw [List.length_map,zie ha]) (zjD htb hr ha)
 have hrun:(execOp a.eval o).run P w=.ok (.enter f (c.args.toList.map a.eval).toArray) w:=by
  have h1:fn.name ≠ "runtime.NumGoroutine":=by simpa using hname
  have hfv:a.eval (.func f)=.func (.func f) #[] #[]:=rfl
  have hargs:c.args.map a.eval=(c.args.toList.map a.eval).toArray:=by rw [← Array.toList_map,Array.toArray_toList]
  simp only [execOp,hop,resolve,hc,hfv,Deferred.ofValue,Sem.run_bind,Sem.run_pure,Result.andThen_ok,invoke,Array.empty_append,Array.append_empty,hargs,callFunc,run_program,hf]
  simp [h1,hb]
 unfold Oper.wp
 rw [hrun]
 refine Calls.mono hc1 fun e w1 he=>?_
 cases e with
 | returned v=>exact he
 | panicked c=>exact he.elim
 | outgrown=>exact he.elim
theorem zf5 {T T':Tl}:∀ {l:List Operand} {ts:List TypeId},(∀ q∈l,val T' q=val T q)→zdQ tb T' l ts=zdQ tb T l ts
 | [],[],_=>rfl
 | [],t::ts,_=>rfl
 | p::l,[],_=>rfl
 | p::l,t::ts,h=>by
   show (zsN tb T' p t).bind (fun v=>(zdQ tb T' l ts).bind fun r=>some (v::r))=_
   unfold zsN
   rw [h p List.mem_cons_self,zf5 (fun q hq=>h q (List.mem_cons_of_mem _ hq))]
   rfl
theorem zqs {M M':Mem} {l:LV} (h:∀ id,l.on1 id→M' id=M id):l.data M'=l.data M:=by
 cases l with
 | own id=>simp only [LV.data,h id rfl]
 | _=>rfl
theorem zkM {M M':Mem}:∀ {ls:List LV},(∀ id,(∃ l∈ls,l.on1 id)→M' id=M id)→zeG M' ls=zeG M ls
 | [],_=>rfl
 | l::ls,h=>by
   rw [zeG,zeG,zqs (fun id hi=>h id ⟨l,List.mem_cons_self,hi⟩),zkM (fun id ⟨k,hk,hi⟩=>h id ⟨k,List.mem_cons_of_mem _ hk,hi⟩)]
theorem zmT {M M':Mem} {l:LV} (h:∀ id,l.on2 id→M' id=M id):l.pure M'=l.pure M:=by
 cases l with
 | lagg ls=>simp only [LV.pure,zkM (ls:=ls) h]
 | own id=>simp only [LV.pure,LV.data,h id rfl]
 | _=>rfl
theorem zkB {M M':Mem}:∀ {ls:List LV},(∀ id,(∃ l∈ls,l.on2 id)→M' id=M id)→zeU M' ls=zeU M ls
 | [],_=>rfl
 | l::ls,h=>by
   rw [zeU,zeU,zmT (fun id hi=>h id ⟨l,List.mem_cons_self,hi⟩),zkB (fun id ⟨k,hk,hi⟩=>h id ⟨k,List.mem_cons_of_mem _ hk,hi⟩)]
theorem zsp {c:Call} {f:FuncId} {args args1:List LV} {r:LV} (hn:x.n=n) (htb:zaJ P tb) (hdo:zaA n o.dst=true) (h:gst all o T=.yes) (hop:o.op=.call c) (hc:c.callee=.value (.func f)) (ha:zdQ tb T c.args.toList c.argTypes.toList=some args)
 (hp:zeU (mm M) args=some args1) (hcon:Con P f args1 r) (hpr:r.isPure=true) (hv:r.flat=true∨lk3 args=[]):zeV P x all o ⟨o.dst,r,[],none,zbb all o,lk3 args⟩ T M:=by
 refine zdX h (.inl rfl) (fun id h=>by cases h) fun T' M' ht hm _=>?_
 have hops:∀ q∈c.args.toList,q∈o.op.operands.toList:=fun q hq=>by
  rw [hop]
  simp only [Op.operands,Call.operands,Array.toList_append,List.mem_append]
  exact .inr hq
 have ha':zdQ tb T' c.args.toList c.argTypes.toList=some args:=(zf5 fun q hq=>zbZ ht (hops q hq)).trans ha
 have hp':zeU (mm M') args=some args1:=(zkB fun id hi=>hm id (zdl hi)).trans hp
 refine zmn htb hop hc ha' (zsQ hn hdo [] hcon hp' hpr (hv.imp id fun h0 id hi=>?_) (fun m a w hr=>⟨x,.refl x,_,_,m,hr,rfl,rfl,rfl⟩))
 have:=zdl hi
 rw [h0] at this;cases this
/-! ### variables -/
theorem zrL {t:TypeId} {s:Option Prop} {T1:Tl} {M1:Ml} (hop:o.op=.alloc t) (h:opF tb n o T M=some (s,T1,M1)):∃ d b,o.dst=some d∧fresh T M d=true∧s=none∧T1=(d,.ptr d 0)::T∧M1=(d,b)::M∧∀ T' M',fresh T' M' d=true→opF tb n o T' M'=some (none,(d,.ptr d 0)::T',(d,b)::M'):=by
 simp only [opF,hop] at h ⊢
 split at h
 ·rename_i y d hy hd
  split at h
  ·rename_i hf hag
   obtain ⟨h1,h2,h3,h4⟩:=zgg h
   rw [hd] at h2 h4
   refine ⟨d,_,hd,hf,h1,h2,h3,fun T' M' hf'=>?_⟩
   rw [hf',hag]
   simp only [out,hd]
   unfold zaA at h4
   simp only at h4
   rw [h4]
  ·rename_i l hf hag hz
   obtain ⟨h1,h2,h3,h4⟩:=zgg h
   rw [hd] at h2 h4
   refine ⟨d,_,hd,hf,h1,h2,h3,fun T' M' hf'=>?_⟩
   rw [hf',hag,hz]
   simp only [out,hd]
   unfold zaA at h4
   simp only at h4
   rw [h4]
  ·cases h
 ·cases h
theorem zt8 {t:TypeId} {q:Operand} {s:Option Prop} {T1:Tl} {M1:Ml} (hop:o.op=.box t q) (h:opF tb n o T M=some (s,T1,M1)):∃ d b,o.dst=some d∧fresh T M d=true∧s=none∧T1=(d,.ptr d 0)::T∧M1=(d,b)::M∧∀ T' M',val T' q=val T q→fresh T' M' d=true→opF tb n o T' M'=some (none,(d,.ptr d 0)::T',(d,b)::M'):=by
 simp only [opF,hop] at h ⊢
 split at h
 ·rename_i y d hy hd
  split at h
  ·rename_i hf
   obtain ⟨v,hv,h⟩:=Option.bind_eq_some_iff.1 h
   obtain ⟨h1,h2,h3,h4⟩:=zgg h
   rw [hd] at h2 h4
   refine ⟨d,_,hd,hf,h1,h2,h3,fun T' M' hq hf'=>?_⟩
   rw [hf',hq,hv]
   simp only [Option.bind_some,out,hd]
   unfold zaA at h4
   simp only at h4
   rw [h4]
  ·cases h
 ·cases h
theorem zsw {t:TypeId} {p q:Operand} {s:Option Prop} {T1:Tl} {M1:Ml} (hop:o.op=.store t p q) (h:opF tb n o T M=some (s,T1,M1)):∃ id off b,o.dst=none∧val T p=.ptr id off∧s=none∧T1=T∧M1=(id,b)::M∧∀ T' M',val T' p=val T p→val T' q=val T q→mm M' id=mm M id→opF tb n o T' M'=some (none,T',(id,b)::M'):=by
 simp only [opF,hop] at h ⊢
 split at h
 ·rename_i y id off hy hp hd
  split at h
  ·rename_i t1 v hm
   obtain ⟨u,hu,h⟩:=Option.bind_eq_some_iff.1 h
   cases h
   refine ⟨id,off,_,hd,hp,rfl,rfl,rfl,fun T' M' h1 h2 h3=>?_⟩
   rw [h1,hp,h2,hy,hd]
   dsimp only
   rw [h3,hm]
   simp only [hu,Option.bind_some]
  ·cases h
 ·cases h
theorem zqN {t:TypeId} {s:Option Prop} {d:Nat} {v:LV} {b:Option Blk} {id:Nat} {T1:Tl} {M1:Ml} (hn:x.n=n) (htb:zaJ P tb) (h:gst all o T=.yes) (hop:o.op=.alloc t) (ho:opF tb n o T M=some (s,(d,v)::T1,(id,b)::M1)):zeV P x all o ⟨o.dst,v,[(id,b)],some id,zbb all o,[]⟩ T M∧o.dst=some d∧T1=T∧M1=M:=by
 obtain ⟨d',b',hd,hf,h1,h2,h3,h4⟩:=zrL hop ho
 cases h1;cases h2;cases h3
 refine ⟨zdX h (.inr bk1) (fun id hid=>by cases hid;exact hf) fun T' M' ht hm hf'=>?_,hd,rfl,rfl⟩
 exact zlA hn htb (h4 T' M' (hf' _ rfl)) (fun r hr=>by cases hr) (fun m a w hr=>⟨x,.refl x,_,_,m,hr,rfl,by rw [hd];rfl,rfl⟩)
theorem zsL {t:TypeId} {q:Operand} {s:Option Prop} {d:Nat} {v:LV} {b:Option Blk} {id:Nat} {T1:Tl} {M1:Ml} (hn:x.n=n) (htb:zaJ P tb) (h:gst all o T=.yes) (hop:o.op=.box t q) (ho:opF tb n o T M=some (s,(d,v)::T1,(id,b)::M1)):zeV P x all o ⟨o.dst,v,[(id,b)],some id,zbb all o,[]⟩ T M∧o.dst=some d∧T1=T∧M1=M:=by
 obtain ⟨d',b',hd,hf,h1,h2,h3,h4⟩:=zt8 hop ho
 cases h1;cases h2;cases h3
 refine ⟨zdX h (.inr bk1) (fun id hid=>by cases hid;exact hf) fun T' M' ht hm hf'=>?_,hd,rfl,rfl⟩
 exact zlA hn htb (h4 T' M' (zbZ ht (by rw [hop];simp [Op.operands])) (hf' _ rfl)) (fun r hr=>by cases hr) (fun m a w hr=>⟨x,.refl x,_,_,m,hr,rfl,by rw [hd];rfl,rfl⟩)
theorem zqn {t:TypeId} {p q:Operand} {s:Option Prop} {b:Option Blk} {id:Nat} {T1:Tl} {M1:Ml} (hn:x.n=n) (htb:zaJ P tb) (h:gst all o T=.yes) (hop:o.op=.store t p q) (ho:opF tb n o T M=some (s,T1,(id,b)::M1)):zeV P x all o ⟨o.dst,.no,[(id,b)],none,zbb all o,zbd T o.op.operands.toList⟩ T M∧o.dst=none∧T1=T∧M1=M:=by
 obtain ⟨id',off,b',hd,hp,h1,h2,h3,h4⟩:=zsw hop ho
 cases h1;subst h2;cases h3
 refine ⟨zdX h (.inl rfl) (fun id hid=>by cases hid) fun T' M' ht hm hf'=>?_,hd,rfl,rfl⟩
 have hpm:p∈o.op.operands.toList:=by rw [hop];simp [Op.operands]
 refine zlA hn htb (h4 T' M' (zbZ ht hpm) (zbZ ht (by rw [hop];simp [Op.operands])) (hm _ (zdu hpm (by rw [hp];rfl)))) (fun r hr=>by cases hr) (fun m a w hr=>⟨x,.refl x,_,_,m,hr,rfl,by rw [hd];rfl,rfl⟩)
end
inductive zoK:Type 1 where
 | done (s:Prop) (lg:List En) (T:Tl) (M:Ml)
 | cond (b:Bool)
 | bad (o:Oper) (T:Tl) (M:Ml)
def zoK.cons (e:En):zoK→zoK
 | .done s lg T M=>.done s (e::lg) T M
 | .cond b=>.cond b
 | .bad o T M=>.bad o T M
def ziZ (all:List Oper):List Oper→List Nat
 | []=>[]
 | o::l=>match zp6 all o with
   | some d=>d::ziZ all l
   | none=>ziZ all l
def zuG {β:Type _}:Ml→Ml→(Ml→β)→β
 | [],M,k=>k M
 | p::E,M,k=>zuG E M fun M=>k (p::M)
theorem zqX {β:Type _}:∀ (E M:Ml) (k:Ml→β),zuG E M k=k (E++M)
 | [],M,k=>rfl
 | p::E,M,k=>by rw [zuG,zqX];rfl
def fin (gsl:List Nat) (d:Option Nat) (v:LV) (E:Ml) (new:Option Nat) (ts ms:List Nat) (hs:List Hn) (s:Prop) (T:Tl) (M:Ml) (k:List Hn→Prop→Tl→Ml→zoK):zoK:=zuG E M fun M=>match d with
 | none=>(k hs s T M).cons ⟨none,v,E,new,ts,ms⟩
 | some t=>match elem t gsl,v with
   | true,.dat (.bool b)=>match hs with
     | .b c::hs=>(k hs (s∧b=c) ((t,.known c)::T) M).cons ⟨some t,.known c,E,new,ts,ms⟩
     | _=>.cond b
   | _,_=>(k hs s ((t,v)::T) M).cons ⟨some t,v,E,new,ts,ms⟩
def zub (s:Prop):Option Prop→Prop
 | some q=>s∧q
 | none=>s
def zw5:List Nat→Bool
 | []=>true
 | _=>false
def zt9:Op→Bool
 | .alloc _=>false
 | .box _ _=>false
 | .store _ _ _=>false
 | op=>!zkh op
def drF (P:Program) (x:Cx) (tb:Tb) (n:Nat) (all:List Oper) (gsl:List Nat):List Oper→List Hn→Prop→Tl→Ml→zoK
 | [],hs,s,T,M=>.done s [] T M
 | o::l,hs,s,T,M=>match gst all o T,zaA n o.dst with
   | .no,true=>match o.dst with
     | some t=>(drF P x tb n all gsl l hs s ((t,.tup [])::T) M).cons ⟨some t,.tup [],[],none,zbb all o,[]⟩
     | none=>(drF P x tb n all gsl l hs s T M).cons ⟨none,.tup [],[],none,zbb all o,[]⟩
   | .yes,true=>match hs,zt9 o.op with
     | .raw v E new::hs,true=>fin gsl o.dst v E new (zbb all o) (zbd T o.op.operands.toList) hs (s∧zeV P x all o ⟨o.dst,v,E,new,zbb all o,zbd T o.op.operands.toList⟩ T M) T M (drF P x tb n all gsl l)
     | hs,_=>match zkh o.op with
       | true=>match opF tb n o T M,o.dst with
         | some (s1,(_,v)::_,_),some t=>fin gsl (some t) v [] none (zbb all o) (zbd T o.op.operands.toList) hs (zub s s1) T M (drF P x tb n all gsl l)
         | some (s1,_,_),none=>fin gsl none .no [] none (zbb all o) (zbd T o.op.operands.toList) hs (zub s s1) T M (drF P x tb n all gsl l)
         | _,_=>.bad o T M
       | false=>match o.op with
         | .alloc t=>match opF tb n o T M with
           | some (_,(_,v)::_,(id,b)::_)=>fin gsl o.dst v [(id,b)] (some id) (zbb all o) [] hs s T M (drF P x tb n all gsl l)
           | _=>.bad o T M
         | .box t q=>match opF tb n o T M with
           | some (_,(_,v)::_,(id,b)::_)=>fin gsl o.dst v [(id,b)] (some id) (zbb all o) [] hs s T M (drF P x tb n all gsl l)
           | _=>.bad o T M
         | .store t p q=>match opF tb n o T M with
           | some (_,_,(id,b)::_)=>fin gsl o.dst .no [(id,b)] none (zbb all o) (zbd T o.op.operands.toList) hs s T M (drF P x tb n all gsl l)
           | _=>match hs with
             | .raw v E new::hs=>fin gsl o.dst v E new (zbb all o) (zbd T o.op.operands.toList) hs (s∧zeV P x all o ⟨o.dst,v,E,new,zbb all o,zbd T o.op.operands.toList⟩ T M) T M (drF P x tb n all gsl l)
             | _=>.bad o T M
         | .call c=>match c.callee,zdQ tb T c.args.toList c.argTypes.toList,hs with
           | .value (.func f),some args,.r r::hs=>match zeU (mm M) args,r.isPure,r.flat || zw5 (lk3 args) with
             | some args1,true,true=>fin gsl o.dst r [] none (zbb all o) (lk3 args) hs (s∧Con P f args1 r) T M (drF P x tb n all gsl l)
             | _,_,_=>.bad o T M
           | _,_,_=>.bad o T M
         | _=>.bad o T M
   | _,_=>.bad o T M
section
variable {P:Program} {x:Cx} {tb:Tb} {R:Cx→Tl→Ml→Prop} {n:Nat} {all:List Oper} {gsl:List Nat}
theorem zlW:∀ {l:List En} {i j:Nat} {T:Tl},zaQ l (fun _=>true) i T=zaQ l (fun _=>true) j T
 | [],_,_,_=>rfl
 | e::l,i,j,T=>by rw [zaQ,zaQ];exact zlW
theorem zmN:∀ {l:List En} {i j:Nat} {M:Ml},zbu l (fun _=>true) i M=zbu l (fun _=>true) j M
 | [],_,_,_=>rfl
 | e::l,i,j,M=>by rw [zbu,zbu];exact zmN
def DOk (P:Program) (x:Cx) (all:List Oper) (l:List Oper) (lg:List En) (T:Tl) (M:Ml) (T1:Tl) (M1:Ml):Prop:=zi3 P x all l lg T M∧T1=zaQ lg (fun _=>true) 0 T∧M1=zbu lg (fun _=>true) 0 M
theorem DOk.cons {o:Oper} {l:List Oper} {e:En} {lg:List En} {T T1:Tl} {M M1:Ml} (h:zeV P x all o e T M) (hc:DOk P x all l lg (putd e.dst e.val T) (e.mem++M) T1 M1):DOk P x all (o::l) (e::lg) T M T1 M1:=by
 obtain ⟨h1,h2,h3⟩:=hc
 exact ⟨.cons h h1,by rw [h2,zaQ];exact zlW,by rw [h3,zbu];exact zmN⟩
theorem zgv {e:En} {d:zoK} {s:Prop} {lg:List En} {T:Tl} {M:Ml} (h:d.cons e=.done s lg T M):∃ lg',lg=e::lg'∧d=.done s lg' T M:=by
 cases d with
 | done s' lg' T' M'=>cases h;exact ⟨lg',rfl,rfl⟩
 | cond b=>cases h
 | bad o T M=>cases h
def KOk (P:Program) (x:Cx) (all:List Oper) (l:List Oper) (k:List Hn→Prop→Tl→Ml→zoK):Prop:=∀ hs s T M s1 lg T1 M1,k hs s T M=.done s1 lg T1 M1→s1→s∧DOk P x all l lg T M T1 M1
theorem zhZ {o:Oper} {l:List Oper} {d:Option Nat} {v:LV} {E:Ml} {new:Option Nat} {ts ms:List Nat} {hs:List Hn} {s:Prop} {T T1:Tl} {M M1:Ml} {k:List Hn→Prop→Tl→Ml→zoK} {s1:Prop} {lg:List En} (hk:KOk P x all l k)
 (h:fin gsl d v E new ts ms hs s T M k=.done s1 lg T1 M1) (hs1:s1) (hd:s→zeV P x all o ⟨d,v,E,new,ts,ms⟩ T M):s∧DOk P x all (o::l) lg T M T1 M1:=by
 unfold fin at h
 rw [zqX] at h
 split at h
 ·obtain ⟨lg',rfl,h'⟩:=zgv h
  obtain ⟨h1,h2⟩:=hk _ _ _ _ _ _ _ _ h' hs1
  exact ⟨h1,.cons (hd h1) h2⟩
 ·rename_i t
  split at h
  ·rename_i b hel
   split at h
   ·rename_i c hs'
    obtain ⟨lg',rfl,h'⟩:=zgv h
    obtain ⟨⟨h1,h1'⟩,h2⟩:=hk _ _ _ _ _ _ _ _ h' hs1
    exact ⟨h1,.cons (zqK h1' (hd h1)) h2⟩
   ·cases h
  ·obtain ⟨lg',rfl,h'⟩:=zgv h
   obtain ⟨h1,h2⟩:=hk _ _ _ _ _ _ _ _ h' hs1
   exact ⟨h1,.cons (hd h1) h2⟩
theorem zoq {s:Prop} {q:Option Prop} (h:zub s q):s∧∀ r,q=some r→r:=by
 cases q with
 | none=>exact ⟨h,fun r hr=>by cases hr⟩
 | some q=>exact ⟨h.1,fun r hr=>by cases hr;exact h.2⟩
theorem zq9 {o:Oper} {T T1:Tl} {M M1:Ml} {s:Option Prop} (hp:zkh o.op=true) (h:opF tb n o T M=some (s,T1,M1)):∃ l,T1=putd o.dst l T∧M1=M:=by
 obtain ⟨l,h1,h2,_⟩:=znR (T':=T) (M':=M) hp ⟨fun _ _=>rfl,fun _ _ _ _=>rfl⟩ h
 exact ⟨l,h1,h2⟩
theorem ziW (hn:x.n=n) (htb:zaJ P tb):∀ (l:List Oper),KOk P x all l (drF P x tb n all gsl l)
 | [],hs,s,T,M,s1,lg,T1,M1,h,hs1=>by
   rw [drF] at h
   cases h
   exact ⟨hs1,.nil T M,rfl,rfl⟩
 | o::l,hs,s,T,M,s1,lg,T1,M1,h,hs1=>by
   have ih:=ziW hn htb l
   rw [drF.eq_def] at h
   dsimp only at h
   split at h
   ·rename_i hg hdo
    have hno:=zuI (P:=P) (M:=M) hn hdo hg
    split at h
    ·rename_i t hd
     rw [hd] at hno
     obtain ⟨lg',rfl,h'⟩:=zgv h
     obtain ⟨h1,h2⟩:=ih _ _ _ _ _ _ _ _ h' hs1
     exact ⟨h1,.cons hno h2⟩
    ·rename_i hd
     rw [hd] at hno
     obtain ⟨lg',rfl,h'⟩:=zgv h
     obtain ⟨h1,h2⟩:=ih _ _ _ _ _ _ _ _ h' hs1
     exact ⟨h1,.cons hno h2⟩
   ·rename_i hg hdo
    split at h
    ·obtain ⟨⟨h1,h1'⟩,h2⟩:=zhZ ih h hs1 (fun hh=>hh.2)
     exact ⟨h1,h2⟩
    ·split at h
     ·rename_i hp
      split at h
      ·rename_i s0 t0 v T0 M0 t ho hd
       obtain ⟨l1,h1,h2⟩:=zq9 hp ho
       rw [hd] at h1
       have h1':(t0,v)::T0=(t,l1)::T:=h1
       obtain ⟨h3,h4⟩:=zhZ ih h hs1 (fun hh=>by
        have:=zh2 (all:=all) hn htb hp hg ho (zoq hh).2 (v:=v) (by rw [hd];show _=(t,v)::T;injection h1' with e1 e2;injection e1 with e3 e4;rw [e3,e2])
        rwa [hd] at this)
       exact ⟨(zoq h3).1,h4⟩
      ·rename_i s0 T0 M0 ho hd
       obtain ⟨l1,h1,h2⟩:=zq9 hp ho
       rw [hd] at h1
       obtain ⟨h3,h4⟩:=zhZ ih h hs1 (fun hh=>by
        have:=zh2 (all:=all) hn htb hp hg ho (zoq hh).2 (v:=.no) (by rw [hd];exact h1)
        rwa [hd] at this)
       exact ⟨(zoq h3).1,h4⟩
      ·cases h
     ·split at h
      ·rename_i t hop
       split at h
       ·rename_i s0 t0 v T0 id b M0 ho
        exact zhZ ih h hs1 (fun _=>(zqN hn htb hg hop ho).1)
       ·cases h
      ·rename_i t q hop
       split at h
       ·rename_i s0 t0 v T0 id b M0 ho
        exact zhZ ih h hs1 (fun _=>(zsL hn htb hg hop ho).1)
       ·cases h
      ·rename_i t p q hop
       split at h
       ·rename_i s0 T0 id b M0 ho
        exact zhZ ih h hs1 (fun _=>(zqn hn htb hg hop ho).1)
       ·split at h
        ·obtain ⟨⟨h1,h1'⟩,h2⟩:=zhZ ih h hs1 (fun hh=>hh.2)
         exact ⟨h1,h2⟩
        ·cases h
      ·rename_i c hop
       split at h
       ·rename_i f args r hs' hc ha _
        split at h
        ·rename_i args1 hpl hpr hfl
         obtain ⟨⟨h1,h1'⟩,h2⟩:=zhZ ih h hs1 (fun hh=>zsp hn htb hdo hg hop hc ha hpl hh.2 hpr (by
          rw [Bool.or_eq_true] at hfl
          refine hfl.imp id fun hh=>?_
          revert hh;cases lk3 args<;>intro hh<;>first | rfl | cases hh))
         exact ⟨h1,h2⟩
        ·cases h
       ·cases h
      ·cases h
   ·cases h
theorem zua {id:Nat} {ops:Array Oper} {k k1:List It} {T T1 T2:Tl} {M M1 M2:Ml} {s s2:Prop} {lg:List En} (hn:x.n=n) (htb:zaJ P tb) (hmix:P.follows .mixedOrders=true) (hs:List Hn) (ho:run tb n 1000 T M True k=.bad s T1 M1 (.code (.region id ops true)::k1)) (hs0:s)
 (hd:drF P x tb n ops.toList (ziZ ops.toList ops.toList) ops.toList hs True T1 M1=.done s2 lg T2 M2) (hs2:s2) (hac:acB ops.toList 0=true) (hord:zlk (ze4 [] ops.toList) [] lg 0=true) (h:Wc P x R k1 T2 M2):Wc P x R k T M:=by
 refine go hn htb ho ⟨hs0,?_⟩
 obtain ⟨_,hch,rfl,rfl⟩:=ziW hn htb ops.toList hs True T1 M1 s2 lg T2 M2 hd hs2
 exact ztB hmix hac hch hord h
end
/-! ### the same knowledge beside another memory -/
def Tr (S:Nat→Prop) (M:Mem) (m:Mp) (S1:Nat→Prop) (M1:Mem) (m1:Mp) (w:World):Prop:=∀ u c,Rf (Own S M m) w u c→Rf (Own S1 M1 m1) w u c
theorem zfU {S S1:Nat→Prop} {M M1:Mem} {m m1:Mp} {w:World} (h:∀ k,Own S1 M1 m1 k→Own S M m k):Tr S M m S1 M1 m1 w:=fun u c hr=>Rf.sub hr h
def LV.flatR1:LV→Bool
 | .dat c=>c.flat
 | .spt _ _=>false
 | _=>true
def zoC:List LV→Bool
 | []=>true
 | l::ls=>l.flatR1 && zoC ls
def LV.flatR2:LV→Bool
 | .dagg cs=>zhC cs
 | .lagg ls=>zoC ls
 | l=>l.flatR1
def zoO:List LV→Bool
 | []=>true
 | l::ls=>l.flatR2 && zoO ls
def LV.flatR:LV→Bool
 | .tup ls=>zoO ls
 | l=>l.flatR2
theorem znz {ls:List LV} (h:zoC ls=true):∀ l∈ls,l.flatR1=true:=by
 induction ls with
 | nil=>intro l hl;cases hl
 | cons k ls ih=>
   simp only [zoC,Bool.and_eq_true] at h
   intro l hl
   rcases List.mem_cons.1 hl with rfl | hl
   ·exact h.1
   ·exact ih h.2 l hl
theorem zsB {ls:List LV} (h:zoO ls=true):∀ l∈ls,l.flatR2=true:=by
 induction ls with
 | nil=>intro l hl;cases hl
 | cons k ls ih=>
   simp only [zoO,Bool.and_eq_true] at h
   intro l hl
   rcases List.mem_cons.1 hl with rfl | hl
   ·exact h.1
   ·exact ih h.2 l hl
section
variable {S S1:Nat→Prop} {M M1:Mem} {m m1:Mp} {w:World}
theorem tr1 {v:Value} {l:LV} (h:∀ id,l.on1 id→zdK M m M1 m1 id) (ht:Tr S M m S1 M1 m1 w∨l.flatR1=true) (hr:R1 S M m w v l):R1 S1 M1 m1 w v l:=by
 have one:∀ c,(Tr S M m S1 M1 m1 w∨c.flat=true)→Rf (Own S M m) w v c→Rf (Own S1 M1 m1) w v c:=fun c hc hh=>hc.elim (fun t=>t _ _ hh) (fun f=>zha f hh)
 cases l with
 | no=>trivial
 | nil0=>exact hr
 | nil c=>
   obtain ⟨h1,h2⟩:=hr
   refine ⟨h1,?_⟩
   subst h1
   cases c with
   | sl z d f xs=>
     obtain ⟨A,q,hv,_⟩:=zkz h2
     simp only [Value.slice.injEq] at hv
     have hx:xs=[]:=List.length_eq_zero_iff.1 (by omega)
     subst hx
     exact .nil _ _ z d f
   | int k n=>cases h2
   | bool b=>cases h2
   | str s=>cases h2
   | val v=>cases h2;exact .val _ rfl
 | known b=>exact hr
 | dat c=>exact one c ht hr
 | own id=>
   refine ⟨hr.1,fun n hn=>?_⟩
   obtain ⟨h0,h1,h2,h3,h4,h5⟩:=h id rfl (zeo hn)
   rw [h1,h2,h3];exact hr.2 n (h4 ▸ hn)
 | ptr id off=>
   refine ⟨hr.1,fun hs=>?_⟩
   obtain ⟨h0,h1,_⟩:=h id rfl hs
   rw [h1];exact hr.2 h0
 | ept id i off=>
   refine ⟨hr.1,fun n hn=>?_⟩
   obtain ⟨h0,h1,h2,h3,h4,h5⟩:=h id rfl (zeo hn)
   rw [h1,h2,h5];exact hr.2 n (h4 ▸ hn)
 | spt cs off=>
   rcases ht with ht | ht
   ·obtain ⟨b,o,hv,hc⟩:=hr
    refine ⟨b,o,hv,fun j c hj=>?_⟩
    obtain ⟨hb,u,hu,hru⟩:=hc j c hj
    refine ⟨fun hh=>?_,u,hu,ht _ _ hru⟩
    have h1:=ht (.slice (some ⟨b,o+j,none⟩) 1 1) (.sl 1 () (fun _=>[c]) [()]) (.row b (o+j) 1 1 1 () (fun _=>[c]) [()] (fun _ _=>u) rfl (by decide) (by decide) (by decide) (by decide) hb (fun _ _=>rfl)
     (fun i x j' q hi hj'=>by
       cases i with
       | zero=>cases j' with
         | zero=>simpa using hu
         | succ j'=>simp at hj'
       | succ i=>simp at hi)
     (fun i x j' q hi hj'=>by
       cases j' with
       | zero=>have:c=q:=by simpa using hj'
               subst this;exact hru
       | succ j'=>simp at hj'))
    obtain ⟨A,cc,hv1,hc1⟩:=zkz h1
    obtain ⟨b1,o1,hA,_,_,_,hb1,_⟩:=hc1 (by decide)
    simp only [Value.slice.injEq] at hv1
    obtain ⟨e1,_,_⟩:=hv1
    rw [← e1] at hA
    simp only [Option.some.injEq,Addr.mk.injEq] at hA
    exact hb1 (hA.1 ▸ hh)
   ·cases ht
 | fn f=>exact hr
 | clo f caps=>
   obtain ⟨us,hv,hl,hc⟩:=hr
   refine ⟨us,hv,hl,fun j u p hu hp=>⟨(hc j u p hu hp).1,fun hs=>?_⟩⟩
   obtain ⟨h0,h1,_⟩:=h p.1 ⟨p,List.mem_of_getElem? hp,rfl⟩ hs
   rw [h1];exact (hc j u p hu hp).2 h0
 | dagg cs=>exact hr
 | lagg cs=>exact hr
 | tup vs=>exact hr
theorem tr2 {v:Value} {l:LV} (h:∀ id,l.on2 id→zdK M m M1 m1 id) (ht:Tr S M m S1 M1 m1 w∨l.flatR2=true) (hr:R2 S M m w v l):R2 S1 M1 m1 w v l:=by
 cases l with
 | dagg cs=>
   obtain ⟨us,hv,hd⟩:=hr
   exact ⟨us,hv,hd.1,fun j u c hu hc=>ht.elim (fun t=>t _ _ (hd.2 j u c hu hc)) (fun f=>zha (zfx f c (List.mem_of_getElem? hc)) (hd.2 j u c hu hc))⟩
 | lagg ls=>
   obtain ⟨us,hv,hd⟩:=hr
   exact ⟨us,hv,hd.1,fun j u l hu hl=>⟨tr1 (fun id hi=>h id ⟨l,List.mem_of_getElem? hl,hi⟩) (ht.imp id fun f=>znz f l (List.mem_of_getElem? hl)) (hd.2 j u l hu hl).1,(hd.2 j u l hu hl).2⟩⟩
 | no=>trivial
 | nil0=>exact tr1 (l:=.nil0) h ht hr
 | nil c=>exact tr1 (l:=.nil c) h ht hr
 | known b=>exact tr1 (l:=.known b) h ht hr
 | dat c=>exact tr1 (l:=.dat c) h ht hr
 | own id=>exact tr1 (l:=.own id) h ht hr
 | ptr id off=>exact tr1 (l:=.ptr id off) h ht hr
 | ept id i off=>exact tr1 (l:=.ept id i off) h ht hr
 | spt cs off=>exact tr1 (l:=.spt cs off) h ht hr
 | fn f=>exact tr1 (l:=.fn f) h ht hr
 | clo f caps=>exact tr1 (l:=.clo f caps) h ht hr
 | tup ls=>exact False.elim hr
theorem tr3 {v:Value} {l:LV} (h:∀ id,l.on id→zdK M m M1 m1 id) (ht:Tr S M m S1 M1 m1 w∨l.flatR=true) (hr:R3 S M m w v l):R3 S1 M1 m1 w v l:=by
 cases l with
 | tup ls=>obtain ⟨us,hv,hl,hd⟩:=hr;exact ⟨us,hv,hl,fun j u l hu hlj=>tr2 (fun id hi=>h id ⟨l,List.mem_of_getElem? hlj,hi⟩) (ht.imp id fun f=>zsB f l (List.mem_of_getElem? hlj)) (hd j u l hu hlj)⟩
 | no=>trivial
 | nil0=>exact tr2 (l:=.nil0) h ht hr
 | nil c=>exact tr2 (l:=.nil c) h ht hr
 | known b=>exact tr2 (l:=.known b) h ht hr
 | dat c=>exact tr2 (l:=.dat c) h ht hr
 | own id=>exact tr2 (l:=.own id) h ht hr
 | ptr id off=>exact tr2 (l:=.ptr id off) h ht hr
 | ept id i off=>exact tr2 (l:=.ept id i off) h ht hr
 | spt cs off=>exact tr2 (l:=.spt cs off) h ht hr
 | fn f=>exact tr2 (l:=.fn f) h ht hr
 | clo f caps=>exact tr2 (l:=.clo f caps) h ht hr
 | dagg cs=>exact tr2 (l:=.dagg cs) h ht hr
 | lagg cs=>exact tr2 (l:=.lagg cs) h ht hr
theorem zvi {id:Nat} (h:zdK M m M1 m1 id) (hl:(M1 id).isSome=true) {e:TypeId} {z:Nat} {α:Type} {f:α→List C} {xs:List α} (ht:Tr S M m S1 M1 m1 w∨∀ y∈xs,zhC (f y)=true) (hr:zjn S M m w id e z f xs):zjn S1 M1 m1 w id e z f xs:=by
 obtain ⟨us,hu,a1,a2,a3,a4,a5,a6,a7⟩:=hr
 obtain ⟨h0,h1,h2,h3,h4,h5⟩:=h hl
 refine ⟨us,by rw [h1];exact hu,by rw [h2,h3];exact a1,by rw [h3];exact a2,by rw [h3];exact a3,a4,a5,a6,fun i y j c hi hj=>?_⟩
 obtain ⟨u,h6,h7⟩:=a7 i y j c hi hj
 exact ⟨u,by rw [h2];exact h6,ht.elim (fun t=>t _ _ h7) (fun g=>zha (zfx (g y (List.mem_of_getElem? hi)) c (List.mem_of_getElem? hj)) h7)⟩
theorem trC {us:List Value} {l:LV} (h:∀ id,l.on2 id→zdK M m M1 m1 id) (ht:Tr S M m S1 M1 m1 w∨l.flatR2=true) (hr:RC S M m w us l):RC S1 M1 m1 w us l:=by
 cases l with
 | dagg cs=>exact ⟨hr.1,fun j u c hu hc=>ht.elim (fun t=>t _ _ (hr.2 j u c hu hc)) (fun f=>zha (zfx f c (List.mem_of_getElem? hc)) (hr.2 j u c hu hc))⟩
 | lagg ls=>exact ⟨hr.1,fun j u l hu hl=>⟨tr1 (fun id hi=>h id ⟨l,List.mem_of_getElem? hl,hi⟩) (ht.imp id fun f=>znz f l (List.mem_of_getElem? hl)) (hr.2 j u l hu hl).1,(hr.2 j u l hu hl).2⟩⟩
 | tup ls=>obtain ⟨u,hu,h0,h1⟩:=hr;exact False.elim h0
 | no=>obtain ⟨u,hu,_,h1⟩:=hr;exact ⟨u,hu,trivial,h1⟩
 | nil0=>obtain ⟨u,hu,h0,h1⟩:=hr;exact ⟨u,hu,tr1 (l:=.nil0) h ht h0,h1⟩
 | nil c=>obtain ⟨u,hu,h0,h1⟩:=hr;exact ⟨u,hu,tr1 (l:=.nil c) h ht h0,h1⟩
 | known b=>obtain ⟨u,hu,h0,h1⟩:=hr;exact ⟨u,hu,tr1 (l:=.known b) h ht h0,h1⟩
 | dat c=>obtain ⟨u,hu,h0,h1⟩:=hr;exact ⟨u,hu,tr1 (l:=.dat c) h ht h0,h1⟩
 | own id=>obtain ⟨u,hu,h0,h1⟩:=hr;exact ⟨u,hu,tr1 (l:=.own id) h ht h0,h1⟩
 | ptr id off=>obtain ⟨u,hu,h0,h1⟩:=hr;exact ⟨u,hu,tr1 (l:=.ptr id off) h ht h0,h1⟩
 | ept id i off=>obtain ⟨u,hu,h0,h1⟩:=hr;exact ⟨u,hu,tr1 (l:=.ept id i off) h ht h0,h1⟩
 | spt cs off=>obtain ⟨u,hu,h0,h1⟩:=hr;exact ⟨u,hu,tr1 (l:=.spt cs off) h ht h0,h1⟩
 | fn f=>obtain ⟨u,hu,h0,h1⟩:=hr;exact ⟨u,hu,tr1 (l:=.fn f) h ht h0,h1⟩
 | clo f caps=>obtain ⟨u,hu,h0,h1⟩:=hr;exact ⟨u,hu,tr1 (l:=.clo f caps) h ht h0,h1⟩
theorem zow {id:Nat} {b:Blk} (h:zdK M m M1 m1 id) (hl:(M1 id).isSome=true) (hk:∀ i,b.on i→zdK M m M1 m1 i) (ht:Tr S M m S1 M1 m1 w) (hr:zfe S M m w id b):zfe S1 M1 m1 w id b:=by
 cases b with
 | row e z d f xs=>exact zvi h hl (.inl ht) hr
 | box t v=>
   obtain ⟨us,hu,hc⟩:=hr
   exact ⟨us,by rw [(h hl).2.1];exact hu,trC hk (.inl ht) hc⟩
end
/-! ### contracts -/
structure zfZ (S:Nat→Prop) (M:Mem) (m:Mp) (w:World):Prop where
 blk:∀ id b,M id=some b→zfe S M m w id b∧∀ i,b.on i→(M i).isSome=true
 inj:∀ i j,(M i).isSome=true→(M j).isSome=true→m.blk i=m.blk j→i=j
 out:∀ i,(M i).isSome=true→¬ S (m.blk i)
structure zwE (S:Nat→Prop) (Mi:Mem) (m:Mp) (w:World) (r:LV) (Mo:Mem) (m1:Mp) (w1:World) (v:Value):Prop where
 val:R3 S Mo m1 w1 v r
 mem:zfZ S Mo m1 w1
 new:∀ i,(Mo i).isSome=true→w.heap.size≤m1.blk i∨∃ j,(Mi j).isSome=true∧m1.blk i=m.blk j
 keep:∀ i,(Mi i).isSome=true→(Mo i).isSome=true→m1.blk i=m.blk i∧m1.off i=m.off i∧m1.cap i=m.cap i∧zJ Mo i=zJ Mi i∧zbt Mo i=zbt Mi i
 same:zfw (fun k=>∃ j,(Mi j).isSome=true∧k=m.blk j) w w1
 os:w1.os=w.os
 tape:w1.tape=w.tape
 output:w1.output=w.output
def Ct (P:Program) (f:FuncId) (args:List LV) (Mi:Ml) (Post:LV→Ml→Prop):Prop:=zgw P f∧
 ∀ (S:Nat→Prop) (w:World) (m:Mp) (vs:List Value),(∀ k,S k→k<w.heap.size)→zfZ S (mm Mi) m w→vs.length=args.length→(∀ (j:Nat) v l,vs[j]? = some v→args[j]? = some l→R2 S (mm Mi) m w v l)→
   Calls P f vs.toArray w (fun e w1=>∃ v r Mo m1,e=.returned v∧Post r Mo∧zwE S (mm Mi) m w r (mm Mo) m1 w1 v)
theorem Ct.mono {P:Program} {f:FuncId} {args:List LV} {Mi:Ml} {Post Post1:LV→Ml→Prop} (h:Ct P f args Mi Post) (hp:∀ r Mo,Post r Mo→Post1 r Mo):Ct P f args Mi Post1:=
 ⟨h.1,fun S w m vs h1 h2 h3 h4=>Calls.mono (h.2 S w m vs h1 h2 h3 h4) fun e w1 ⟨v,r,Mo,m1,he,hpo,hb⟩=>⟨v,r,Mo,m1,he,hp r Mo hpo,hb⟩⟩
theorem zfZ.lt {S:Nat→Prop} {M:Mem} {m:Mp} {w:World} (h:zfZ S M m w) {id:Nat} (hl:(M id).isSome=true):m.blk id<w.heap.size:=by
 obtain ⟨b,hb⟩:=Option.isSome_iff_exists.1 hl
 exact (h.blk id b hb).1.lt
/-! ### results -/
def LV.ren3L (ρ:Nat→Nat):List LV→List LV
 | []=>[]
 | l::ls=>l.ren2 ρ::ren3L ρ ls
def LV.ren3 (ρ:Nat→Nat):LV→LV
 | .tup ls=>.tup (LV.ren3L ρ ls)
 | l=>l.ren2 ρ
theorem znu {ρ:Nat→Nat}:∀ {ls:List LV} (j:Nat),(LV.ren3L ρ ls)[j]? = (ls[j]?).map (LV.ren2 ρ)
 | [],j=>rfl
 | l::ls,0=>rfl
 | l::ls,j+1=>by
   show (LV.ren3L ρ ls)[j]? = _
   rw [znu j];rfl
theorem znD {ρ:Nat→Nat}:∀ {ls:List LV},(LV.ren3L ρ ls).length=ls.length
 | []=>rfl
 | l::ls=>by show (LV.ren3L ρ ls).length+1=_;rw [znD];rfl
theorem Ren.r3 {ρ:Nat→Nat} {S0:Nat→Prop} {M M1:Mem} {m m1:Mp} {w:World} (h:Ren ρ M m M1 m1) {v:Value} {l:LV} (hr:R3 S0 M m w v (l.ren3 ρ)):R3 S0 M1 m1 w v l:=by
 cases l with
 | tup ls=>
   obtain ⟨us,hv,hl,hd⟩:=hr
   refine ⟨us,hv,by rw [hl,znD],fun j u l hu hlj=>h.r2 (hd j u (l.ren2 ρ) hu (by rw [znu,hlj];rfl))⟩
 | no=>trivial
 | nil0=>exact h.r2 (S0:=S0) (w:=w) (l:=.nil0) hr
 | nil c=>exact h.r2 (S0:=S0) (w:=w) (l:=.nil c) hr
 | known b=>exact h.r2 (S0:=S0) (w:=w) (l:=.known b) hr
 | dat c=>exact h.r2 (S0:=S0) (w:=w) (l:=.dat c) hr
 | own id=>exact h.r2 (S0:=S0) (w:=w) (l:=.own id) hr
 | ptr id off=>exact h.r2 (S0:=S0) (w:=w) (l:=.ptr id off) hr
 | ept id i off=>exact h.r2 (S0:=S0) (w:=w) (l:=.ept id i off) hr
 | spt cs off=>exact h.r2 (S0:=S0) (w:=w) (l:=.spt cs off) hr
 | fn f=>exact h.r2 (S0:=S0) (w:=w) (l:=.fn f) hr
 | clo f caps=>exact h.r2 (S0:=S0) (w:=w) (l:=.clo f caps) hr
 | dagg cs=>exact h.r2 (S0:=S0) (w:=w) (l:=.dagg cs) hr
 | lagg cs=>exact h.r2 (S0:=S0) (w:=w) (l:=.lagg cs) hr
def LV.nrm:LV→LV
 | .known b=>.dat (.bool b)
 | l=>l
def zna:List LV→List LV
 | []=>[]
 | l::ls=>l.nrm::zna ls
def zj7:List LV→Option (List C)
 | []=>some []
 | .dat c::ls=>(zj7 ls).map (c::·)
 | _::_=>none
def LV.nrm2:LV→LV
 | .lagg ls=>match zj7 (zna ls) with
   | some cs=>.dagg cs
   | none=>.lagg (zna ls)
 | l=>l.nrm
section
variable {S:Nat→Prop} {M:Mem} {m:Mp} {w:World}
theorem ztb {v:Value} {l:LV} (h:R1 S M m w v l):R1 S M m w v l.nrm:=by
 cases l<;>first
  | (rename_i b;have:v=.bool b:=h;subst this;exact Rf.bool b)
  | exact h
theorem zuD {us:List Value} {ls:List LV} (h:Rs S M m w us ls):Rs S M m w us (zna ls):=by
 have hl:∀ ls:List LV,(zna ls).length=ls.length:=fun ls=>by induction ls with
  | nil=>rfl
  | cons l ls ih=>show (zna ls).length+1=_;rw [ih];rfl
 have hg:∀ (ls:List LV) (j:Nat),(zna ls)[j]? = (ls[j]?).map LV.nrm:=fun ls=>by induction ls with
  | nil=>intro j;rfl
  | cons l ls ih=>intro j;cases j with
    | zero=>rfl
    | succ j=>exact ih j
 refine ⟨by rw [hl];exact h.1,fun j u l hu hlj=>?_⟩
 rw [hg] at hlj
 obtain ⟨k,hk,rfl⟩:=Option.map_eq_some_iff.1 hlj
 exact ⟨ztb (h.2 j u k hu hk).1,(h.2 j u k hu hk).2⟩
theorem zlE:∀ {ls:List LV} {cs:List C},zj7 ls=some cs→cs.length=ls.length∧∀ (j:Nat) c,cs[j]? = some c→ls[j]? = some (.dat c)
 | [],cs,h=>by cases h;exact ⟨rfl,fun j c hc=>by cases hc⟩
 | .dat c::ls,cs,h=>by
   simp only [zj7,Option.map_eq_some_iff] at h
   obtain ⟨cs',h1,rfl⟩:=h
   obtain ⟨h2,h3⟩:=zlE h1
   refine ⟨by simp [h2],fun j c' hc=>?_⟩
   cases j with
   | zero=>have:c=c':=by simpa using hc
           subst this;rfl
   | succ j=>exact h3 j c' (by simpa using hc)
 | .no::ls,cs,h=>by cases h
 | .nil0::ls,cs,h=>by cases h
 | .nil _::ls,cs,h=>by cases h
 | .known _::ls,cs,h=>by cases h
 | .dagg _::ls,cs,h=>by cases h
 | .lagg _::ls,cs,h=>by cases h
 | .own _::ls,cs,h=>by cases h
 | .ptr _ _::ls,cs,h=>by cases h
 | .ept _ _ _::ls,cs,h=>by cases h
 | .spt _ _::ls,cs,h=>by cases h
 | .fn _::ls,cs,h=>by cases h
 | .clo _ _::ls,cs,h=>by cases h
 | .tup _::ls,cs,h=>by cases h
theorem zt6 {v:Value} {l:LV} (h:R2 S M m w v l):R2 S M m w v l.nrm2:=by
 cases l with
 | lagg ls=>
   obtain ⟨us,hv,hd⟩:=h
   have hd':=zuD hd
   show R2 S M m w v (match zj7 (zna ls) with | some cs=>.dagg cs | none=>.lagg (zna ls))
   cases ha:zj7 (zna ls) with
   | none=>exact ⟨us,hv,hd'⟩
   | some cs=>
     obtain ⟨h1,h2⟩:=zlE ha
     refine ⟨us,hv,by rw [hd'.1,h1],fun j u c hu hc=>?_⟩
     exact (hd'.2 j u _ hu (h2 j c hc)).1
 | known b=>exact ztb (l:=.known b) h
 | dagg cs=>exact h
 | tup ls=>exact h
 | no=>exact h
 | nil0=>exact h
 | nil c=>exact h
 | dat c=>exact h
 | own id=>exact h
 | ptr id off=>exact h
 | ept id i off=>exact h
 | spt cs off=>exact h
 | fn f=>exact h
 | clo f caps=>exact h
end
def ztU (tb:Tb) (M:Mem) (T:Tl):List (ResultVar×TypeId)→Option (List LV)
 | []=>some []
 | q::l=>(tb (tyR q)).bind fun y=>(zuK M T y q.1).bind fun v=>(ztU tb M T l).bind fun rs=>some (v.nrm2::rs)
def zq2 (M:Ml):List Nat→Bool
 | []=>true
 | i::r=>(match zdM none M i with
   | some _=>true
   | none=>false) && zq2 M r
def zig (M0:Ml):Ml→Bool
 | []=>true
 | (_,none)::r=>zig M0 r
 | (_,some (.row ..))::r=>zig M0 r
 | (_,some (.box _ v))::r=>zq2 M0 (lk2 v) && zig M0 r
def zdD (M:Ml):Bool:=zig M M
theorem zpX {M:Ml}:∀ {l:List Nat},zq2 M l=true→∀ i∈l,(mm M i).isSome=true
 | [],_,i,hi=>by cases hi
 | j::l,h,i,hi=>by
   simp only [zq2,Bool.and_eq_true] at h
   rcases List.mem_cons.1 hi with rfl | hi
   ·have h1:=h.1
    unfold mm
    split at h1
    ·rename_i hb;rw [hb];rfl
    ·cases h1
   ·exact zpX h.2 i hi
theorem zgX {M0:Ml}:∀ {M:Ml},zig M0 M=true→∀ id b,mm M id=some b→∀ i,b.on i→(mm M0 i).isSome=true
 | [],_,id,b,hb=>by cases hb
 | (k,none)::r,h,id,b,hb=>by
   rw [zI] at hb;unfold upd at hb
   split at hb
   ·cases hb
   ·exact zgX (M:=r) h id b hb
 | (k,some (.row e z d f xs))::r,h,id,b,hb=>by
   rw [zI] at hb;unfold upd at hb
   split at hb
   ·cases hb;exact fun i hi=>hi.elim
   ·exact zgX (M:=r) h id b hb
 | (k,some (.box t v))::r,h,id,b,hb=>by
   simp only [zig,Bool.and_eq_true] at h
   rw [zI] at hb;unfold upd at hb
   split at hb
   ·cases hb;exact fun i hi=>zpX h.1 i (zoA hi)
   ·exact zgX (M:=r) h.2 id b hb
theorem zfv {M:Ml} (h:zdD M=true):∀ id b,mm M id=some b→∀ i,b.on i→(mm M i).isSome=true:=zgX h
def zsx (tb:Tb) (rs:List (ResultVar×TypeId)) (Mi:Ml) (Post:LV→Ml→Prop) (_:Cx) (T:Tl) (M:Ml):Prop:=
 ∃ ls r Mo ρ,ztU tb (mm M) T rs=some ls∧zdW ls=LV.ren3 (rn ρ) r∧LeM (rn ρ) M Mo∧zhF (rn ρ) (zS Mo)=true∧zdD Mo=true∧fixed (rn ρ) (zS Mi)=true∧Post r Mo
where
 fixed (ρ:Nat→Nat):List Nat→Bool
  | []=>true
  | k::r=>Nat.beq (ρ k) k && fixed ρ r
theorem zl9 {ρ:Nat→Nat}:∀ {l:List Nat},zsx.fixed ρ l=true→∀ k∈l,ρ k=k
 | [],_,k,hk=>by cases hk
 | j::l,h,k,hk=>by
   have h':(Nat.beq (ρ j) j && zsx.fixed ρ l)=true:=h
   simp only [Bool.and_eq_true] at h'
   rcases List.mem_cons.1 hk with rfl | hk
   ·exact zbh.1 h'.1
   ·exact zl9 h'.2 k hk
def zrM:Ml→Bool
 | []=>true
 | (k,_)::r=>Nat.ble 1000 k && zrM r
theorem zbW {id:Nat}:∀ {M:Ml},(mm M id).isSome=true→id∈zS M
 | [],h=>by cases h
 | (k,v)::M,h=>by
   rw [zI] at h;unfold upd at h
   show id∈k::zS M
   split at h
   ·rename_i e;subst e;exact List.mem_cons_self
   ·exact List.mem_cons_of_mem _ (zbW h)
theorem zlp:∀ {M:Ml},zrM M=true→∀ i∈zS M,1000≤i
 | [],_,i,hi=>by cases hi
 | (k,v)::M,h,i,hi=>by
   simp only [zrM,Bool.and_eq_true] at h
   rcases List.mem_cons.1 (show i∈k::zS M from hi) with rfl | hi
   ·exact Nat.le_of_ble_eq_true h.1
   ·exact zlp h.2 i hi
section
variable {P:Program} {x:Cx} {tb:Tb} {T:Tl} {M:Ml} {m:Mp} {a:Act} {w:World}
theorem zoM (htb:zaJ P tb) (h:Rel x (tm T) (mm M) m a w):∀ (rs:List (ResultVar×TypeId)) (ls:List LV),ztU tb (mm M) T rs=some ls→
 ∃ vs:List Value,((rs.map (·.1)).mapM (zss P a.tmps)).run P w=.ok vs w∧ls.length=vs.length∧∀ (j:Nat) v l,vs[j]? = some v→ls[j]? = some l→R2 x.S0 (mm M) m w v l
 | [],ls,hr=>by cases hr;exact ⟨[],rfl,rfl,fun j q l hq=>by cases hq⟩
 | q::rs,ls,hr=>by
   simp only [ztU] at hr
   obtain ⟨y,hy,hr⟩:=Option.bind_eq_some_iff.1 hr
   obtain ⟨v,hv,hr⟩:=Option.bind_eq_some_iff.1 hr
   obtain ⟨rs',hrs,hr⟩:=Option.bind_eq_some_iff.1 hr
   cases hr
   obtain ⟨vs,h1,h2,h3⟩:=zoM htb h rs rs' hrs
   obtain ⟨u,hu,hur⟩:=zq5 htb h hy hv
   refine ⟨u::vs,?_,by simp [h2],fun j v' l hv' hl=>?_⟩
   ·rw [List.map_cons,List.mapM_cons]
    simp only [Sem.run_bind,hu,Result.andThen_ok,h1,Sem.run_pure]
   ·cases j with
    | zero=>
      have e1:u=v':=by simpa using hv'
      have e2:v.nrm2=l:=by simpa using hl
      subst e1;subst e2
      exact zt6 hur
    | succ j=>exact h3 j v' l (by simpa using hv') (by simpa using hl)
theorem zuF {f:FuncId} {fn:Func} {c:Code} {args:List LV} {rs:List (ResultVar×TypeId)} {Mi:Ml} {Post:LV→Ml→Prop} (htb:zaJ P tb) (hf:P.funcs[f]? = some fn) (hb:fn.body=some c) (hname:(fn.name == "runtime.NumGoroutine")=false)
 (hres:fn.results=(rs.map (·.1)).toArray) (hn:args.length≤fn.ntmps) (hbig:zrM Mi=true)
 (h:∀ x:Cx,x.n=fn.ntmps→(∀ i,x.lent i↔(mm Mi i).isSome=true)→Wc P x (zsx tb rs Mi Post) [.code c] (zhh 0 args) Mi):Ct P f args Mi Post:=by
 refine ⟨⟨fn,c,hf,hb,hname⟩,fun S w m vs hS hM hl hvs=>?_⟩
 let x:Cx:=⟨S,fun k=>∃ j,(mm Mi j).isSome=true∧k=m.blk j,w,fn.ntmps,fun i=>(mm Mi i).isSome=true,m,zJ (mm Mi),zbt (mm Mi),fun i hi=>zlp hbig i (zbW hi),S,fun k=>∃ j,(mm Mi j).isSome=true∧k=m.blk j,w,fun _ h=>h,fun _ h=>.inl h,.refl _ _,rfl,rfl,rfl⟩
 have hent:Rel x (tm (zhh 0 args)) (mm Mi) m {tmps:=vs.toArray++Array.replicate (fn.ntmps-vs.toArray.size) undef,defers:=[]} w:=by
  refine ⟨fun t=>?_,by show (vs.toArray++Array.replicate (fn.ntmps-vs.toArray.size) undef).size=fn.ntmps;simp;omega,rfl,fun id b hb=>?_,hM.inj,fun i hi=>⟨.inr ⟨i,hi,rfl⟩,hM.out i hi⟩,hS,rfl,rfl,rfl,zfw.refl _ _,fun i _ _=>⟨rfl,rfl,rfl,rfl,rfl⟩⟩
  ·unfold tm
   rw [zgI,if_pos (Nat.zero_le _),Nat.sub_zero]
   by_cases ht:t<args.length
   ·have htv:t<vs.length:=by omega
    have hg:(vs.toArray++Array.replicate (fn.ntmps-vs.toArray.size) undef).getD t undef=vs[t]:=by
     rw [Array.getD_eq_getD_getElem?,Array.getElem?_append_left (by simpa using htv)]
     simp [htv]
    rw [List.getElem?_eq_getElem ht]
    show R3 S (mm Mi) m w ((vs.toArray++Array.replicate (fn.ntmps-vs.toArray.size) undef).getD t undef) args[t]
    rw [hg]
    exact zeE (hvs t _ _ (List.getElem?_eq_getElem htv) (List.getElem?_eq_getElem ht))
   ·rw [List.getElem?_eq_none (by omega)];trivial
  ·exact (hM.blk id b hb).1
 refine calls_of_wp hf hb (wp_mono (h x rfl (fun i=>Iff.rfl) m _ w hent) ?_)
 have key:∀ a w1,zhJ x (zsx tb rs Mi Post) a w1→a.defers=[]∧∃ v,(results fn a.tmps).run P w1=.ok v w1∧∃ v' r Mo m1,Ending.returned v=.returned v'∧Post r Mo∧zwE S (mm Mi) m w r (mm Mo) m1 w1 v':=by
  rintro a w1 ⟨x1,hx,T,M,m0,hr1,ls,r,Mo,ρ,hls,heq,hle,hinj,hro,hfix,hpost⟩
  have hr:=hx.rel (x:=x) ⟨rfl,rfl,rfl⟩ hS hr1
  obtain ⟨vs1,h0,h1,h2⟩:=zoM htb hr rs ls hls
  have hval:R3 S (mm M) m0 w1 (zri vs1) (zdW ls):=zlL h1 h2
  rw [heq] at hval
  have hren:Ren (rn ρ) (mm M) m0 (mm Mo) ⟨fun i=>m0.blk (rn ρ i),fun i=>m0.off (rn ρ i),fun i=>m0.cap (rn ρ i)⟩:=by
   refine ⟨fun id hid=>?_,fun _=>rfl,fun _=>rfl,fun _=>rfl⟩
   obtain ⟨b,hb⟩:=Option.isSome_iff_exists.1 hid
   obtain ⟨h1,_⟩:=zbv hle id b hb
   refine ⟨by rw [h1];rfl,?_,?_⟩
   ·unfold zJ;rw [hb,h1];cases b<;>rfl
   ·unfold zbt;rw [hb,h1];cases b<;>rfl
  refine ⟨hr.df,_,zqv hres h0,_,r,Mo,⟨fun i=>m0.blk (rn ρ i),fun i=>m0.off (rn ρ i),fun i=>m0.cap (rn ρ i)⟩,rfl,hpost,hren.r3 hval,⟨fun id b hb=>?_,fun i j hi hj hij=>?_,fun i hi=>?_⟩,fun i hi=>?_,fun i hi hi2=>?_,hr.same,hr.os,hr.tape,hr.output⟩
  ·refine ⟨?_,zfv hro id b hb⟩
   obtain ⟨h1,_⟩:=zbv hle id _ hb
   have hbk:=hr.blk _ _ h1
   cases b with
   | row e z d f xs=>
     obtain ⟨us,hu,a1,a2,a3,a4,a5,a6,a7⟩:=hbk
     refine ⟨us,hu,a1,a2,a3,a4,a5,a6,fun i y j c hi hj=>?_⟩
     obtain ⟨u,h3,h4⟩:=a7 i y j c hi hj
     exact ⟨u,h3,h4.sub fun k hk=>hren.own hk⟩
   | box t v=>
     obtain ⟨us,hu,hc⟩:=hbk
     exact ⟨us,hu,hren.rc hc⟩
  ·obtain ⟨bi,hbi⟩:=Option.isSome_iff_exists.1 hi
   obtain ⟨bj,hbj⟩:=Option.isSome_iff_exists.1 hj
   obtain ⟨h1,k1⟩:=zbv hle i bi hbi
   obtain ⟨h2,k2⟩:=zbv hle j bj hbj
   exact zgx hinj i k1 j k2 (hr.inj _ _ (by rw [h1];rfl) (by rw [h2];rfl) hij)
  ·obtain ⟨bi,hbi⟩:=Option.isSome_iff_exists.1 hi
   obtain ⟨h1,_⟩:=zbv hle i bi hbi
   exact (hr.lo _ (by rw [h1];rfl)).2
  ·obtain ⟨bi,hbi⟩:=Option.isSome_iff_exists.1 hi
   obtain ⟨h1,_⟩:=zbv hle i bi hbi
   exact (hr.lo _ (by rw [h1];rfl)).1.imp id (fun ⟨j,h3,h4⟩=>⟨j,h3,h4⟩)
  ·obtain ⟨h3,h4,h5⟩:=hren.live i hi2
   have hri:rn ρ i=i:=zl9 hfix i (zbW hi)
   rw [hri] at h3 h4 h5
   obtain ⟨k1,k2,k3,k4,k5⟩:=hr.keep i hi h3
   exact ⟨by show m0.blk (rn ρ i)=_;rw [hri];exact k1,by show m0.off (rn ρ i)=_;rw [hri];exact k2,by show m0.cap (rn ρ i)=_;rw [hri];exact k3,h4.trans k4,h5.trans k5⟩
 intro e a w1 he
 rcases Ka.bad he with rfl | ⟨i,rfl⟩ | rfl
 ·exact key a w1 he
 ·exact he.elim
 ·exact key a w1 he
end
def zc4 (M:Mem):List Bool→List LV→Option (List LV)
 | [],[]=>some []
 | true::fl,a::zas=>(zc4 M fl zas).bind fun r=>some (a::r)
 | false::fl,a::zas=>(a.pure M).bind fun l=>(zc4 M fl zas).bind fun r=>some (l::r)
 | _,_=>none
def zg7:List Bool→List LV→List Nat
 | false::fl,a::zas=>lk2 a++zg7 fl zas
 | true::fl,_::zas=>zg7 fl zas
 | _,_=>[]
theorem zjQ {M:Mem}:∀ {fl:List Bool} {zas ls:List LV},zc4 M fl zas=some ls→ls.length=zas.length∧∀ (j:Nat) a,zas[j]? = some a→∃ l,ls[j]? = some l∧(a=l∨(a.pure M=some l∧∀ id,a.on2 id→id∈zg7 fl zas))
 | [],[],ls,h=>by cases h;exact ⟨rfl,fun j a ha=>by cases ha⟩
 | true::fl,b::zas,ls,h=>by
   simp only [zc4] at h
   obtain ⟨r,hr,h⟩:=Option.bind_eq_some_iff.1 h
   cases h
   obtain ⟨h1,h2⟩:=zjQ hr
   refine ⟨by simp [h1],fun j a ha=>?_⟩
   cases j with
   | zero=>have:b=a:=by simpa using ha
           subst this;exact ⟨b,rfl,.inl rfl⟩
   | succ j=>exact h2 j a (by simpa using ha)
 | false::fl,b::zas,ls,h=>by
   simp only [zc4] at h
   obtain ⟨l,hl,h⟩:=Option.bind_eq_some_iff.1 h
   obtain ⟨r,hr,h⟩:=Option.bind_eq_some_iff.1 h
   cases h
   obtain ⟨h1,h2⟩:=zjQ hr
   refine ⟨by simp [h1],fun j a ha=>?_⟩
   cases j with
   | zero=>have:b=a:=by simpa using ha
           subst this;exact ⟨l,rfl,.inr ⟨hl,fun id hi=>List.mem_append_left _ (zoA hi)⟩⟩
   | succ j=>
     obtain ⟨l',h3,h4⟩:=h2 j a (by simpa using ha)
     exact ⟨l',h3,h4.imp id fun ⟨h5,h6⟩=>⟨h5,fun id hi=>List.mem_append_right _ (h6 id hi)⟩⟩
 | [],_::_,ls,h=>by cases h
 | true::_,[],ls,h=>by cases h
 | false::_,[],ls,h=>by cases h
theorem zfF {M:Ml} {id:Nat}:∀ {vw:List Nat},mm (dropM vw M) id=if id∈vw then none else mm M id
 | []=>by simp [dropM]
 | k::vw=>by
   show mm ((k,none)::dropM vw M) id=_
   rw [zI];unfold upd
   by_cases h:id=k
   ·subst h;simp
   ·rw [if_neg h,zfF];simp [h]
theorem zfE {id:Nat} {b:Blk}:∀ {E:Ml},mm E id=some b→zdY id E=some (some b)
 | [],h=>by cases h
 | (k,v)::E,h=>by
   rw [zI] at h;unfold upd at h
   unfold zdY
   by_cases he:id=k
   ·subst he;rw [if_pos rfl] at h;rw [zbh.2 rfl,h]
   ·rw [if_neg he] at h;rw [zin.2 (fun e=>he e.symm)];exact zfE h
theorem zmE {id:Nat} {v:Option Blk}:∀ {E:Ml},zdY id E=some v→mm E id=v
 | [],h=>by cases h
 | (k,u)::E,h=>by
   unfold zdY at h
   rw [zI];unfold upd
   cases hb:Nat.beq k id with
   | true=>rw [hb] at h;cases h;rw [if_pos (zbh.1 hb).symm]
   | false=>rw [hb] at h;rw [if_neg (fun e=>(zin.1 hb) e.symm)];exact zmE h
def zf2 (T:Tl) (M:Ml) (Mi:Ml):Ml→Bool
 | []=>true
 | (id,_)::r=>(zht id (zS Mi) || (zfD id T && (zcC id M && (match mm M id with
   | some _=>false
   | none=>true)))) && zf2 T M Mi r
theorem zmf {T:Tl} {M Mi:Ml}:∀ {Mo:Ml},zf2 T M Mi Mo=true→∀ id,(mm Mo id).isSome=true→id∈zS Mi∨((∀ t,¬ (tm T t).on id)∧(∀ i b,mm M i=some b→¬ b.on id)∧mm M id=none)
 | [],_,id,h=>by cases h
 | (k,v)::r,h,id,hi=>by
   simp only [zf2,Bool.and_eq_true,Bool.or_eq_true] at h
   rw [zI] at hi;unfold upd at hi
   split at hi
   ·rename_i e;subst e
    rcases h.1 with h1 | ⟨h1,h2,h3⟩
    ·exact .inl (zhO.1 h1)
    ·refine .inr ⟨zlV h1,zmU h2,?_⟩
     split at h3
     ·cases h3
     ·assumption
   ·exact zmf h.2 id hi
theorem zph (l:LV):l.ren1 (rn [])=l:=by
 cases l with
 | clo f caps=>
   show LV.clo f (caps.map fun p=>(rn [] p.1,p.2))=_
   congr 1
   exact List.map_id' caps
 | _=>rfl
theorem zpj:∀ ls:List LV,LV.renL (rn []) ls=ls
 | []=>rfl
 | l::ls=>by rw [LV.renL,zph,zpj]
theorem zkE (b:Blk):b.ren (rn [])=b:=by
 cases b with
 | row e z d f xs=>rfl
 | box t v=>
   show Blk.box t (v.ren2 (rn []))=_
   congr 1
   cases v with
   | lagg ls=>show LV.lagg _=_;rw [zpj]
   | clo f caps=>exact zph (.clo f caps)
   | _=>rfl
def zoi (r:LV) (Mo:Ml):Prop:=r.flatR=true∧(∀ id (e:TypeId) (z:Nat) (α:Type) (d:α) (f:α→List C) (xs:List α),mm Mo id=some (.row e z d f xs)→∀ y∈xs,zhC (f y)=true)∧∀ id (t:TypeId) (v:LV),mm Mo id=some (.box t v)→v.flatR2=true
section
variable {P:Program} {x:Cx} {tb:Tb} {R:Cx→Tl→Ml→Prop} {n:Nat}
theorem zvc {f:FuncId} {args zas:List LV} {Mi:Ml} {Post:LV→Ml→Prop} {dst:Option Nat} {k:List It} {T:Tl} {M:Ml} (hn:x.n=n) (hd:zaA n dst=true) (fl:List Bool) (hc:Ct P f args Mi Post) (ha:zc4 (mm M) fl zas=some args)
 (hsub:LeM (rn []) M Mi) (hro:zdD Mi=true) (hdj:∀ id∈zg7 fl zas,id∉zS Mi) (hv:zg7 fl zas=[]∨∀ r Mo,Post r Mo→zoi r Mo)
 (hnew:∀ r Mo,Post r Mo→zf2 T M Mi Mo=true∧∀ id,(mm Mo id).isSome=true→(mm Mi id).isSome=true∨¬ x.lent id)
 (honr:∀ r Mo,Post r Mo→∀ id,r.on id→(mm Mo id).isSome=true) (hkl:∀ id∈zS Mi,(mm Mi id).isSome=true)
 (h:∀ r Mo,Post r Mo→Wc P x R k (Ab.putd dst r T) (Mo++dropM (zS Mi) M)):zmV P x R f zas dst k T M:=by
 refine ⟨hc.1,fun m a w vs hr hl hvs=>?_⟩
 obtain ⟨h1,h2⟩:=zjQ ha
 have hrn:∀ i,rn [] i=i:=fun i=>rfl
 have hMi:∀ id b,mm Mi id=some b→mm M id=some b:=fun id b hb=>by
  obtain ⟨h3,_⟩:=zbv hsub id b hb
  rw [hrn] at h3
  rwa [zkE] at h3
 have hMl:∀ id,(mm Mi id).isSome=true→(mm M id).isSome=true:=fun id hi=>by
  obtain ⟨b,hb⟩:=Option.isSome_iff_exists.1 hi
  rw [hMi id b hb];rfl
 let S:Nat→Prop:=fun k=>x.S0 k∨∃ id,(mm M id).isSome=true∧m.blk id=k∧id∉zS Mi∧id∉zg7 fl zas
 have hSown:∀ k,Own S (mm Mi) m k→Own x.S0 (mm M) m k:=fun k hk=>by
  rcases hk with (hk | ⟨id,hi,hb,_⟩) | ⟨id,hi,hb⟩
  ·exact .inl hk
  ·exact .inr ⟨id,hi,hb⟩
  ·exact .inr ⟨id,hMl id hi,hb⟩
 have hlive0:∀ id,zdK (mm M) m (mm Mi) m id:=fun id hi=>by
  obtain ⟨b,hb⟩:=Option.isSome_iff_exists.1 hi
  have:=hMi id b hb
  exact ⟨hMl id hi,rfl,rfl,rfl,by unfold zJ;rw [hb,this],by unfold zbt;rw [hb,this]⟩
 have hmem:zfZ S (mm Mi) m w:=by
  refine ⟨fun id b hb=>?_,fun i j hi hj=>hr.inj i j (hMl i hi) (hMl j hj),fun i hi hS=>?_⟩
  ·exact ⟨zow (hlive0 id) (by rw [hb];rfl) (fun i _=>hlive0 i) (zfU hSown) (hr.blk id _ (hMi id _ hb)),zfv hro id b hb⟩
  ·rcases hS with hS | ⟨id,hid,hb,hno,_⟩
   ·exact (hr.lo i (hMl i hi)).2 hS
   ·have:=hr.inj _ _ hid (hMl i hi) hb
    subst this
    exact hno (zbW hi)
 have hcall:=hc.2 S w m vs (fun k hk=>by
  rcases hk with hk | ⟨id,hid,hb,_⟩
  ·exact Nat.lt_of_lt_of_le (hr.s0 k hk) hr.same.size
  ·rw [← hb];exact hr.live_lt hid) hmem (by rw [hl,h1]) (fun j v l hvj hlj=>by
  have hlt:=(List.getElem?_eq_some_iff.1 hvj).1
  rw [hl] at hlt
  have haj:=List.getElem?_eq_getElem hlt
  obtain ⟨l',hl',hor⟩:=h2 j _ haj
  rw [hlj] at hl';cases hl'
  have hra:=hvs j v _ hvj haj
  rcases hor with he | ⟨hp,hin⟩
  ·rw [he] at hra
   exact tr2 (fun id _=>hlive0 id) (.inl (zfU hSown)) hra
  ·have hp1:=zjv (x:=x) (S:=Own S (mm Mi) m) hSown hr.blk hra hp (fun id hi hlive hS=>by
    rcases hS with (hS | ⟨id',hid',hb',_,hno⟩) | ⟨id',hid',hb'⟩
    ·exact (hr.lo id hlive).2 hS
    ·have:=hr.inj _ _ hid' hlive hb'
     subst this
     exact hno (hin _ hi)
    ·have:=hr.inj _ _ (hMl _ hid') hlive hb'
     subst this
     exact hdj _ (hin _ hi) (zbW hid')) m
   have hpp:l.isPure2=true:=by
    revert hp
    generalize zas[j]=b
    intro hp
    cases b<;>simp only [LV.pure] at hp<;>first
     | (cases hp;rfl)
     | (obtain ⟨c,_,hp⟩:=Option.bind_eq_some_iff.1 hp;cases hp;rfl)
   exact zpe hpp (.inl fun k hk=>hk) hp1)
 refine Calls.mono hcall fun e w1 he=>?_
 obtain ⟨v,r,Mo,m1,rfl,hpo,hb⟩:=he
 obtain ⟨hno,hnl⟩:=hnew r Mo hpo
 have hno':=zmf hno
 -- the memory then
 let m':Mp:=⟨fun i=>if (mm Mo i).isSome=true then m1.blk i else m.blk i,fun i=>if (mm Mo i).isSome=true then m1.off i else m.off i,fun i=>if (mm Mo i).isSome=true then m1.cap i else m.cap i⟩
 have hM1:∀ id,mm (Mo++dropM (zS Mi) M) id=(zdY id Mo).getD (if id∈zS Mi then none else mm M id):=fun id=>by rw [zlZ,zfF]
 have hcases:∀ id b,mm (Mo++dropM (zS Mi) M) id=some b→mm Mo id=some b∨(mm Mo id=none∧id∉zS Mi∧mm M id=some b):=fun id b hb'=>by
  rw [hM1] at hb'
  cases hf:zdY id Mo with
  | some q=>
    rw [hf] at hb'
    have:q=some b:=hb'
    subst this
    exact .inl (zmE hf)
  | none=>
    rw [hf] at hb'
    have hb'':(if id∈zS Mi then none else mm M id)=some b:=hb'
    split at hb''
    ·cases hb''
    ·rename_i hk
     refine .inr ⟨?_,hk,hb''⟩
     cases hmo:mm Mo id with
     | none=>rfl
     | some b'=>rw [zfE hmo] at hf;cases hf
 have hinMo:∀ id b,mm Mo id=some b→mm (Mo++dropM (zS Mi) M) id=some b:=fun id b hb'=>by rw [hM1,zfE hb'];rfl
 have hin:∀ id,(mm Mo id).isSome=true→m'.blk id=m1.blk id∧m'.off id=m1.off id∧m'.cap id=m1.cap id:=fun id hi=>⟨if_pos hi,if_pos hi,if_pos hi⟩
 have hout:∀ id,mm Mo id=none→m'.blk id=m.blk id∧m'.off id=m.off id∧m'.cap id=m.cap id:=fun id hi=>by
  have:¬ (mm Mo id).isSome=true:=by rw [hi];exact Bool.false_ne_true
  exact ⟨if_neg this,if_neg this,if_neg this⟩
 have hnewb:∀ id,(mm Mo id).isSome=true→w.heap.size≤m1.blk id∨∃ j,(mm Mi j).isSome=true∧m1.blk id=m.blk j:=hb.new
 have hown:∀ k,Own x.S0 (mm (Mo++dropM (zS Mi) M)) m' k→k<w.heap.size→Own x.S0 (mm M) m k:=fun k hk hlt=>by
  rcases hk with hk | ⟨id,hi,hbk⟩
  ·exact .inl hk
  ·obtain ⟨b,hb'⟩:=Option.isSome_iff_exists.1 hi
   rcases hcases id b hb' with h3 | ⟨h3,h4,h5⟩
   ·have hi':(mm Mo id).isSome=true:=by rw [h3];rfl
    rw [(hin id hi').1] at hbk
    rcases hnewb id hi' with h6 | ⟨j,hj,h6⟩
    ·omega
    ·exact .inr ⟨j,hMl j hj,by rw [← h6];exact hbk⟩
   ·rw [(hout id h3).1] at hbk
    exact .inr ⟨id,by rw [h5];rfl,hbk⟩
 have hlentown:∀ k,(∃ j,(mm Mi j).isSome=true∧k=m.blk j)→Own x.S0 (mm M) m k:=fun k ⟨j,hj,e⟩=>.inr ⟨j,hMl j hj,e.symm⟩
 have hmv:Mv x.S0 (mm M) m w (mm (Mo++dropM (zS Mi) M)) m' w1:=⟨⟨hb.same.size,fun k hk hO=>hb.same.at_ k hk (fun hl=>hO (hlentown k hl))⟩,hown⟩
 have hkeep:∀ id,((mm M id).isSome=true∨¬ ((∀ t,¬ (tm T t).on id)∧(∀ i b,mm M i=some b→¬ b.on id)))→zdK (mm M) m (mm (Mo++dropM (zS Mi) M)) m' id:=fun id hor hl=>by
  obtain ⟨b,hb'⟩:=Option.isSome_iff_exists.1 hl
  rcases hcases id b hb' with h3 | ⟨h3,h4,h5⟩
  ·have hi':(mm Mo id).isSome=true:=by rw [h3];rfl
   have hk:id∈zS Mi:=by
    rcases hno' id hi' with hk | ⟨f1,f2,f3⟩
    ·exact hk
    ·rcases hor with hor | hor
     ·rw [f3] at hor;cases hor
     ·exact absurd ⟨f1,f2⟩ hor
   have hmi:=hkl id hk
   obtain ⟨k1,k2,k3,k4,k5⟩:=hb.keep id hmi hi'
   obtain ⟨bi,hbi⟩:=Option.isSome_iff_exists.1 hmi
   obtain ⟨g1,g2,g3⟩:=hin id hi'
   refine ⟨hMl id hmi,g1.trans k1,g2.trans k2,g3.trans k3,?_,?_⟩
   ·have e1:zJ (mm (Mo++dropM (zS Mi) M)) id=zJ (mm Mo) id:=by unfold zJ;rw [hb',h3]
    have e2:zJ (mm M) id=zJ (mm Mi) id:=by unfold zJ;rw [hMi id bi hbi,hbi]
    rw [e1,e2];exact k4
   ·have e1:zbt (mm (Mo++dropM (zS Mi) M)) id=zbt (mm Mo) id:=by unfold zbt;rw [hb',h3]
    have e2:zbt (mm M) id=zbt (mm Mi) id:=by unfold zbt;rw [hMi id bi hbi,hbi]
    rw [e1,e2];exact k5
  ·obtain ⟨g1,g2,g3⟩:=hout id h3
   exact ⟨by rw [h5];rfl,g1,g2,g3,by unfold zJ;rw [hb',h5],by unfold zbt;rw [hb',h5]⟩
 have hkT:∀ t id,(tm T t).on id→zdK (mm M) m (mm (Mo++dropM (zS Mi) M)) m' id:=fun t id hi=>hkeep id (.inr fun ⟨h3,_⟩=>h3 t hi)
 have hkM:∀ i b id,mm M i=some b→b.on id→zdK (mm M) m (mm (Mo++dropM (zS Mi) M)) m' id:=fun i b id hb' hi=>hkeep id (.inr fun ⟨_,h3⟩=>h3 i b hb' hi)
 have hback:∀ k,Own x.S0 (mm (Mo++dropM (zS Mi) M)) m' k→zg7 fl zas=[]→Own S (mm Mo) m1 k:=fun k hk h0=>by
  rcases hk with hk | ⟨id,hi,hbk⟩
  ·exact .inl (.inl hk)
  ·obtain ⟨b,hb'⟩:=Option.isSome_iff_exists.1 hi
   rcases hcases id b hb' with h3 | ⟨h3,h4,h5⟩
   ·have hi':(mm Mo id).isSome=true:=by rw [h3];rfl
    exact .inr ⟨id,hi',by rw [← (hin id hi').1];exact hbk⟩
   ·refine .inl (.inr ⟨id,by rw [h5];rfl,by rw [← (hout id h3).1];exact hbk,h4,by rw [h0];exact List.not_mem_nil⟩)
 have hr1:Rel x (tm T) (mm (Mo++dropM (zS Mi) M)) m' a w1:=by
  refine ⟨fun t=>hmv.r3 (fun id hi=>hkT t id hi) (hr.tmp t),hr.sz,hr.df,fun id b hb'=>?_,fun i j hi hj hij=>?_,fun i hi=>?_,hr.s0,hb.os.trans hr.os,hb.tape.trans hr.tape,hb.output.trans hr.output,⟨Nat.le_trans hr.same.size hb.same.size,fun k hk hO=>?_⟩,fun i hl' hi=>?_⟩
  ·rcases hcases id b hb' with h3 | ⟨h3,h4,h5⟩
   ·obtain ⟨hba,hcl⟩:=hb.mem.blk id b h3
    have hi':(mm Mo id).isSome=true:=by rw [h3];rfl
    obtain ⟨g1,g2,g3⟩:=hin id hi'
    cases b with
    | box ty v=>
      obtain ⟨us,hu,hc⟩:=hba
      refine ⟨us,by rw [g1];exact hu,trC (fun i hi hl=>?_) ?_ hc⟩
      ·have hmo:=hcl i hi
       obtain ⟨bi,hbi⟩:=Option.isSome_iff_exists.1 hmo
       obtain ⟨e1,e2,e3⟩:=hin i hmo
       exact ⟨hmo,e1,e2,e3,by unfold zJ;rw [hinMo i bi hbi,hbi],by unfold zbt;rw [hinMo i bi hbi,hbi]⟩
      ·rcases hv with h0 | h0
       ·exact .inl (zfU fun k hk=>hback k hk h0)
       ·exact .inr ((h0 r Mo hpo).2.2 id ty v h3)
    | row e z d f xs=>
    obtain ⟨us,hu,a1,a2,a3,a4,a5,a6,a7⟩:=hba
    refine ⟨us,by rw [g1];exact hu,by rw [g2,g3];exact a1,by rw [g3];exact a2,by rw [g3];exact a3,a4,a5,a6,fun i y j c hi hj=>?_⟩
    obtain ⟨u,h6,h7⟩:=a7 i y j c hi hj
    refine ⟨u,by rw [g2];exact h6,?_⟩
    rcases hv with h0 | h0
    ·exact Rf.sub h7 fun k hk=>hback k hk h0
    ·exact zha (zfx ((h0 r Mo hpo).2.1 id e z _ d f xs h3 y (List.mem_of_getElem? hi)) c (List.mem_of_getElem? hj)) h7
   ·obtain ⟨g1,g2,g3⟩:=hout id h3
    refine hmv.blk g1 g2 g3 (hb.same.at_ _ (hr.live_lt (by rw [h5];rfl)) (fun ⟨j,hj,e⟩=>?_)) (fun i hi=>hkM id b i h5 hi) (hr.blk id b h5)
    have:=hr.inj _ _ (by rw [h5];rfl) (hMl j hj) e
    subst this
    exact h4 (zbW hj)
  ·obtain ⟨bi,hbi⟩:=Option.isSome_iff_exists.1 hi
   obtain ⟨bj,hbj⟩:=Option.isSome_iff_exists.1 hj
   have cross:∀ p q bp,mm Mo p=some bp→mm Mo q=none→q∉zS Mi→(mm M q).isSome=true→m1.blk p=m.blk q→False:=fun p q bp h3 h4 h5 h6 h7=>by
    rcases hnewb p (by rw [h3];rfl) with h8 | ⟨j,hj,h8⟩
    ·have:=hr.live_lt h6;omega
    ·have:=hr.inj _ _ (hMl j hj) h6 (h8.symm.trans h7)
     subst this
     exact h5 (zbW hj)
   rcases hcases i bi hbi with h3 | ⟨h3,h4,h5⟩<;>rcases hcases j bj hbj with g3 | ⟨g3,g4,g5⟩
   ·have hi':(mm Mo i).isSome=true:=by rw [h3];rfl
    have hj':(mm Mo j).isSome=true:=by rw [g3];rfl
    rw [(hin i hi').1,(hin j hj').1] at hij
    exact hb.mem.inj i j hi' hj' hij
   ·rw [(hin i (by rw [h3];rfl)).1,(hout j g3).1] at hij
    exact (cross i j bi h3 g3 g4 (by rw [g5];rfl) hij).elim
   ·rw [(hout i h3).1,(hin j (by rw [g3];rfl)).1] at hij
    exact (cross j i bj g3 h3 h4 (by rw [h5];rfl) hij.symm).elim
   ·rw [(hout i h3).1,(hout j g3).1] at hij
    exact hr.inj i j (by rw [h5];rfl) (by rw [g5];rfl) hij
  ·obtain ⟨bi,hbi⟩:=Option.isSome_iff_exists.1 hi
   rcases hcases i bi hbi with h3 | ⟨h3,h4,h5⟩
   ·have hi':(mm Mo i).isSome=true:=by rw [h3];rfl
    rw [(hin i hi').1]
    refine ⟨?_,fun hS=>hb.mem.out i hi' (.inl hS)⟩
    rcases hnewb i hi' with h6 | ⟨j,hj,h6⟩
    ·exact .inl (Nat.le_trans hr.same.size h6)
    ·rw [h6];exact (hr.lo j (hMl j hj)).1
   ·rw [(hout i h3).1];exact hr.lo i (by rw [h5];rfl)
  ·rw [hb.same.at_ k (Nat.lt_of_lt_of_le hk hr.same.size) (fun ⟨j,hj,e⟩=>?_)]
   ·exact hr.same.at_ k hk hO
   ·rcases (hr.lo j (hMl j hj)).1 with h3 | h3
    ·omega
    ·exact hO (e ▸ h3)
  ·have hlive:(mm M i).isSome=true∨(mm Mo i).isSome=true:=by
    obtain ⟨bi,hbi⟩:=Option.isSome_iff_exists.1 hi
    rcases hcases i bi hbi with h3 | ⟨_,_,h5⟩
    ·exact .inr (by rw [h3];rfl)
    ·exact .inl (by rw [h5];rfl)
   have hM':(mm M i).isSome=true:=by
    rcases hlive with h3 | h3
    ·exact h3
    ·rcases hnl i h3 with h4 | h4
     ·exact hMl i h4
     ·exact absurd hl' h4
   obtain ⟨h0,k1,k2,k3,k4,k5⟩:=hkeep i (.inl hM') hi
   obtain ⟨q1,q2,q3,q4,q5⟩:=hr.keep i hl' h0
   exact ⟨k1.trans q1,k2.trans q2,k3.trans q3,k4.trans q4,k5.trans q5⟩
 refine h r Mo hpo m' _ w1 (hr1.putd hn hd ?_)
 refine tr3 (fun id hi hl=>?_) ?_ hb.val
 ·have hmo:=honr r Mo hpo id hi
  obtain ⟨b,hb'⟩:=Option.isSome_iff_exists.1 hmo
  obtain ⟨g1,g2,g3⟩:=hin id hmo
  exact ⟨hmo,g1,g2,g3,by unfold zJ;rw [hinMo id b hb',hb'],by unfold zbt;rw [hinMo id b hb',hb']⟩
 ·rcases hv with h0 | h0
  ·exact .inl (zfU fun k hk=>hback k hk h0)
  ·exact .inr (h0 r Mo hpo).1
end
section
variable {P:Program} {x:Cx} {tb:Tb} {R:Cx→Tl→Ml→Prop} {n:Nat} {all:List Oper} {o:Oper} {T:Tl} {M:Ml}
theorem zgQ {k:List It} (d1:Nat) (h:OpW P x R o k T ((d1,none)::M)):OpW P x R o k T M:=fun m a w hr=>h m a w (hr.dropM [d1])
theorem zn3 {v:LV} (h:ze3 v=[]) {M M':Mem}:∀ {ls:List LV} {cs:List C},(∀ l∈ls,l∈v.cells)→zeG M ls=some cs→zeG M' ls=some cs
 | [],cs,_,hd=>hd
 | l::ls,cs,hl,hd=>by
   simp only [zeG] at hd ⊢
   obtain ⟨c,hc,hd⟩:=Option.bind_eq_some_iff.1 hd
   obtain ⟨cs',hcs,hd⟩:=Option.bind_eq_some_iff.1 hd
   have h1:l.data M'=some c:=by
    cases l with
    | own id=>exact (zo6 h (hl _ List.mem_cons_self) (rfl:LV.on1 id (.own id)) hc).elim
    | _=>exact hc
   rw [h1,zn3 h (fun k hk=>hl k (List.mem_cons_of_mem _ hk)) hcs]
   exact hd
theorem znX {T':Tl} {M M':Mem} {y:Ty}:∀ {l:List (Nat×Operand)} {k:Nat} {cont:List (List C)},(∀ q∈l,val T' q.2=val T q.2)→bsF T M y k l=some cont→bsF T' M' y k l=some cont
 | [],k,cont,_,h=>h
 | (i,q)::r,k,cont,hq,h=>by
   simp only [bsF] at h ⊢
   rw [hq (i,q) List.mem_cons_self]
   split at h
   ·obtain ⟨v,hv,h⟩:=Option.bind_eq_some_iff.1 h
    rw [hv]
    simp only [Option.bind_some]
    split at h
    ·rename_i hid
     obtain ⟨cs,hcs,h⟩:=Option.bind_eq_some_iff.1 h
     obtain ⟨zd9,hrest,h⟩:=Option.bind_eq_some_iff.1 h
     rw [zn3 hid (fun l hl=>hl) hcs,znX (fun q hq'=>hq q (List.mem_cons_of_mem _ hq')) hrest]
     exact h
    ·cases h
   ·cases h
theorem zs9 {t e:TypeId} {y:Ty} {d1 len:Nat} {parts:Array (Nat×Operand)} {cont:List (List C)} {α:Type} {d:α} (f:α→List C) (ys:List α) (hn:x.n=n) (htb:zaJ P tb) (h:gst all o T=.yes) (hdo:zaA n o.dst=true) (hop:o.op=.buildSlice t len parts)
 (hs:zfn tb t=some (e,y)) (hb:bsF T (mm M) y 0 parts.toList=some cont) (hlen:Nat.beq parts.toList.length len=true) (hsm:Nat.ble (len*y.size) 16777216=true) (hd:o.dst=some d1) (hf:fresh T M d1=true) (hys:cont=ys.map f) :
 zeV P x all o ⟨o.dst,.own d1,[(d1,some (.row e y.size d f ys))],some d1,zbb all o,zbd T o.op.operands.toList⟩ T M:=by
 refine zdX h (.inr bk1) (fun id hid=>by cases hid;exact hf) fun T' M' ht hm hf'=>zgQ d1 ?_
 refine zrE (d:=d) f ys hn htb hdo hop hs (znX (fun q hq=>zbZ ht ?_) hb) hlen hsm hd (hf' _ rfl) (by rw [zI,zac]) hys (fun m a w hr=>⟨x,.refl x,(d1,.own d1)::T',(d1,some (.row e y.size d f ys))::M',m,?_,rfl,by rw [hd];rfl,rfl⟩)
 ·rw [hop]
  simp only [Op.operands,Array.toList_map]
  exact List.mem_map.2 ⟨q,hq,rfl⟩
 ·have:mm ((d1,some (.row e y.size d f ys))::M')=mm ((d1,some (.row e y.size d f ys))::(d1,none)::M'):=by
   funext i
   simp only [zI]
   by_cases hi:i=d1
   ·subst hi;rw [zac,zac]
   ·rw [zaZ _ _ hi,zaZ _ _ hi,zaZ _ _ hi]
  rw [this];exact hr
theorem zgA {t e:TypeId} {y:Ty} {d1 len z:Nat} {parts:Array (Nat×Operand)} {cont:List (List C)} {α:Type} {d:α} (f:α→List C) (ys:List α) (hn:x.n=n) (htb:zaJ P tb) (h:gst all o T=.yes) (hdo:zaA n o.dst=true) (hop:o.op=.buildSlice t len parts)
 (hs:zfn tb t=some (e,y)) (hz:y.size=z) (hb:bsF T (mm M) y 0 parts.toList=some cont) (hlen:Nat.beq parts.toList.length len=true) (hsm:Nat.ble (len*y.size) 16777216=true) (hd:o.dst=some d1) (hf:fresh T M d1=true) (hys:cont=ys.map f) :
 zeV P x all o ⟨o.dst,.own d1,[(d1,some (.row e z d f ys))],some d1,zbb all o,zbd T o.op.operands.toList⟩ T M:=by
 subst hz
 exact zs9 f ys hn htb h hdo hop hs hb hlen hsm hd hf hys
theorem zf3 {M M':Mem} {v:LV} {z:Nat} {cont:List (List C)} (h:∀ id,v.on1 id→M' id=M id) (hc:zfG M v=some (z,cont)):zfG M' v=some (z,cont):=by
 cases v with
 | own id=>simp only [zfG,h id rfl] at hc ⊢;exact hc
 | dat c=>cases c<;>exact hc
 | nil c=>cases c<;>exact hc
 | _=>exact hc
theorem zes {t e:TypeId} {y:Ty} {v:LV} {id d1 z:Nat} {α:Type} {d:α} {f:α→List C} {xs:List α} {cont:List (List C)} (ys:List α) (hn:x.n=n) (htb:zaJ P tb) (h:gst all o T=.yes) (hi:ziV n o T t (.own id) v) (hm:mm M id=some (.row e z d f xs))
 (hs:zfn tb t=some (e,y)) (hz:Nat.beq y.size z=true) (hv:zfG (mm M) v=some (z,cont)) (hys:cont=ys.map f) (hd:o.dst=some d1) (hf:fresh T M d1=true) (hby:(xs.length+ys.length)*y.bytes≤140737488355328) :
 zeV P x all o ⟨o.dst,.own d1,[(d1,some (.row e z d f (xs++ys))),(id,none)],some d1,zbb all o,zbd T o.op.operands.toList⟩ T M:=by
 refine zdX h (.inr bk2) (fun id hid=>by cases hid;exact hf) fun T' M' ht hM hf'=>zgQ d1 ?_
 obtain ⟨hdo,c,p,q,hop,hc,ha,hty,hp,hq⟩:=hi
 have hops:∀ r∈c.args.toList,r∈o.op.operands.toList:=fun r hr=>by
  rw [hop]
  simp only [Op.operands,Call.operands,Array.toList_append,List.mem_append]
  exact .inr hr
 have hpm:p∈o.op.operands.toList:=hops p (by rw [ha];simp)
 have hqm:q∈o.op.operands.toList:=hops q (by rw [ha];simp)
 have same:∀ r∈o.op.operands.toList,∀ i,(val T r).on2 i→mm ((d1,none)::M') i=mm M i:=fun r hr i hi=>by
  have hne:i≠d1:=fun e=>by
   subst e
   refine zic (zde hf) r ?_
   revert hi
   cases val T r<;>intro hi<;>first | exact hi | exact hi.elim
  rw [zI,zaZ _ _ hne]
  exact hM i (zdu hr hi)
 refine zra (d:=d) ys hn htb ⟨hdo,c,p,q,hop,hc,ha,hty,(zbZ ht hpm).trans hp,(zbZ ht hqm).trans hq⟩ rfl ((same p hpm id (by rw [hp];rfl)).trans hm) hs hz (zf3 (fun i hi=>same q hqm i (by
  rw [hq]
  revert hi
  cases v<;>intro hi<;>first | exact hi | exact hi.elim)) hv) hys hd (hf' _ rfl) (by rw [zI,zac]) hby (fun m a w hr=>⟨x,.refl x,(d1,.own d1)::T',(d1,some (.row e z d f (xs++ys)))::(id,none)::M',m,?_,rfl,by rw [hd];rfl,rfl⟩)
 have:mm ((d1,some (.row e z d f (xs++ys)))::(id,none)::M')=mm ((d1,some (.row e z d f (xs++ys)))::(id,none)::(d1,none)::M'):=by
  funext i
  simp only [zI]
  by_cases hi:i=d1
  ·subst hi;rw [zac,zac]
  ·rw [zaZ _ _ hi,zaZ _ _ hi]
   by_cases hi2:i=id
   ·subst hi2;rw [zac,zac]
   ·rw [zaZ _ _ hi2,zaZ _ _ hi2,zaZ _ _ hi]
 rw [this];exact hr
end
structure zkH (P:Program) (k:TypeId) {K:Type} [DecidableEq K] (enc:K→Value):Prop where
 chk:∀ b x w,(Instr.checkKey b 10000 k (enc x)).run P w=.ok () w
 eq:∀ x y w,(Op.equal k (enc x) (enc y)).run P w=.ok (decide (x=y)) w
 desc:∃ d,P.underlying k=some d∧∀ x y,Instr.sameNow d (enc x) (enc y)=none
 bits:∀ x,Instr.sameBits 10000 (enc x) (enc x)=true
section
variable {P:Program} {k:TypeId} {K:Type} [DecidableEq K] {enc:K→Value}
abbrev zcX (K:Type):=List (K×Int×Nat)
def ent (enc:K→Value) (e:K×Int×Nat):MapEntry:=⟨enc e.1,.int .i64 e.2.1,e.2.2⟩
def zgz (enc:K→Value) (l:zcX K) (c:Nat):Obj:=.map (l.map (ent enc)).toArray c
def ziB (x:K):zcX K→Nat→Option (Nat×Value)
 | [],_=>none
 | e::l,i=>if x=e.1 then some (i,.int .i64 e.2.1) else ziB x l (i+1)
def zb7 (x:K):zcX K→Int
 | []=>0
 | e::l=>if x=e.1 then e.2.1 else zb7 x l
def zaz (x:K) (c:Nat):zcX K→Nat
 | []=>c
 | e::l=>if x=e.1 then e.2.2 else zaz x c l
def zeT (x:K):zcX K→Bool
 | []=>false
 | e::l=>if x=e.1 then true else zeT x l
def zeg (x:K) (c:Nat):zcX K→zcX K
 | []=>[(x,0,c)]
 | e::l=>if x=e.1 then e::l else e::zeg x c l
def zfd (x:K) (v:Int):zcX K→zcX K
 | []=>[]
 | e::l=>if x=e.1 then (e.1,v,e.2.2)::l else e::zfd x v l
def zgj (x:K) (c:Nat) (l:zcX K):Nat:=if zeT x l then c else c+1
structure zkP (l:zcX K) (c:Nat):Prop where
 keys:(l.map (·.1)).Nodup
 stamps:(l.map (·.2.2)).Nodup
 born:∀ e∈l,e.2.2<c
theorem zpB {x:K}:∀ {l:zcX K},zeT x l=true↔x∈l.map (·.1)
 | []=>by simp [zeT]
 | e::l=>by
   simp only [zeT,List.map_cons,List.mem_cons]
   split
   ·rename_i h;simp [h]
   ·rename_i h;rw [zpB];simp [h]
theorem zmP {x:K} {c:Nat}:∀ {l:zcX K},zeT x l=true→zeg x c l=l
 | [],h=>by cases h
 | e::l,h=>by
   simp only [zeT] at h
   simp only [zeg]
   split
   ·rfl
   ·rename_i hx;rw [if_neg hx] at h;rw [zmP h]
theorem zmQ {x:K} {c:Nat}:∀ {l:zcX K},zeT x l=false→zeg x c l=l++[(x,0,c)]
 | [],h=>rfl
 | e::l,h=>by
   simp only [zeT] at h
   simp only [zeg]
   split
   ·rename_i hx;rw [if_pos hx] at h;cases h
   ·rename_i hx;rw [if_neg hx] at h;rw [zmQ h];rfl
theorem zj2 {x:K} {c:Nat} {l:zcX K} (h:zkP l c):zkP (zeg x c l) (zgj x c l):=by
 unfold zgj
 cases hm:zeT x l with
 | true=>rw [zmP hm];simpa using h
 | false=>
   rw [zmQ hm]
   have hx:x∉l.map (·.1):=fun hh=>by rw [zpB.2 hh] at hm;cases hm
   refine ⟨?_,?_,?_⟩
   ·rw [List.map_append,List.nodup_append]
    refine ⟨h.keys,by simp,fun a ha b hb=>?_⟩
    simp only [List.map_cons,List.map_nil,List.mem_singleton] at hb
    subst hb
    exact fun e=>hx (e ▸ ha)
   ·rw [List.map_append,List.nodup_append]
    refine ⟨h.stamps,by simp,fun a ha b hb=>?_⟩
    simp only [List.map_cons,List.map_nil,List.mem_singleton] at hb
    subst hb
    obtain ⟨e,he,rfl⟩:=List.mem_map.1 ha
    have:=h.born e he
    omega
   ·intro e he
    rcases List.mem_append.1 he with he | he
    ·have:=h.born e he;simp;omega
    ·simp only [List.mem_singleton] at he;subst he;simp
theorem znE {x:K} {v:Int}:∀ (l:zcX K),(zfd x v l).map (·.1)=l.map (·.1)∧(zfd x v l).map (·.2.2)=l.map (·.2.2)
 | []=>⟨rfl,rfl⟩
 | e::l=>by
   simp only [zfd]
   split
   ·exact ⟨rfl,rfl⟩
   ·obtain ⟨h1,h2⟩:=znE (x:=x) (v:=v) l
    exact ⟨by simp [h1],by simp [h2]⟩
theorem znt {x:K} {v:Int} {c:Nat} {l:zcX K} (h:zkP l c):zkP (zfd x v l) c:=by
 obtain ⟨h1,h2⟩:=znE (x:=x) (v:=v) l
 refine ⟨h1 ▸ h.keys,h2 ▸ h.stamps,fun e he=>?_⟩
 have:e.2.2∈(zfd x v l).map (·.2.2):=List.mem_map.2 ⟨e,he,rfl⟩
 rw [h2] at this
 obtain ⟨e1,he1,h3⟩:=List.mem_map.1 this
 have h4:=h.born e1 he1
 exact h3 ▸ h4
theorem zjz {x y:K} {c:Nat}:∀ (l:zcX K),zb7 y (zeg x c l)=zb7 y l
 | []=>by simp [zeg,zb7]
 | e::l=>by
   simp only [zeg]
   split
   ·rfl
   ·simp only [zb7];rw [zjz l]
theorem zlU {x y:K} {v:Int}:∀ {l:zcX K},zeT x l=true→zb7 y (zfd x v l)=if y=x then v else zb7 y l
 | [],h=>by cases h
 | e::l,h=>by
   simp only [zeT] at h
   simp only [zfd]
   by_cases hx:x=e.1
   ·rw [if_pos hx]
    simp only [zb7]
    by_cases hy:y=e.1
    ·rw [if_pos hy,if_pos (hy.trans hx.symm)]
    ·rw [if_neg hy,if_neg (fun q=>hy (q.trans hx)),if_neg hy]
   ·rw [if_neg hx] at h ⊢
    simp only [zb7]
    by_cases hy:y=e.1
    ·rw [if_pos hy,if_neg (fun q=>hx (q.symm.trans hy)),if_pos hy]
    ·rw [if_neg hy,zlU h,if_neg hy]
theorem zji {x:K} {c:Nat}:∀ (l:zcX K),zeT x (zeg x c l)=true
 | []=>by simp [zeg,zeT]
 | e::l=>by
   simp only [zeg]
   by_cases hx:x=e.1
   ·rw [if_pos hx];simp [zeT,hx]
   ·rw [if_neg hx];simp only [zeT];rw [if_neg hx];exact zji l
theorem zlM {x:K} {c c1:Nat}:∀ (l:zcX K),zaz x c1 (zeg x c l)=zaz x c l
 | []=>by simp [zeg,zaz]
 | e::l=>by
   simp only [zeg]
   by_cases hx:x=e.1
   ·rw [if_pos hx];simp only [zaz,if_pos hx]
   ·rw [if_neg hx];simp only [zaz,if_neg hx];exact zlM l
theorem zs7 {l:zcX K} (h:(l.map (·.1)).Nodup):(∀ e∈l,e.2.1=0)↔∀ x,zb7 x l=0:=by
 induction l with
 | nil=>simp [zb7]
 | cons e l ih=>
   rw [List.map_cons,List.nodup_cons] at h
   constructor
   ·intro hz x
    simp only [zb7]
    split
    ·exact hz e List.mem_cons_self
    ·exact (ih h.2).1 (fun e' he'=>hz e' (List.mem_cons_of_mem _ he')) x
   ·intro hv
    have h0:e.2.1=0:=by have:=hv e.1;simpa [zb7] using this
    refine fun e' he'=>(List.mem_cons.1 he').elim (fun q=>q ▸ h0) ((ih h.2).2 (fun x=>?_) e')
    by_cases hx:x=e.1
    ·subst hx
     have:∀ l:zcX K,e.1∉l.map (·.1)→zb7 e.1 l=0:=fun l=>by
      induction l with
      | nil=>intro _;rfl
      | cons a l ih2=>
        intro hn
        simp only [List.map_cons,List.mem_cons,not_or] at hn
        simp only [zb7];rw [if_neg hn.1];exact ih2 hn.2
     exact this l h.1
    ·have:=hv x
     simp only [zb7] at this
     rwa [if_neg hx] at this
theorem zke {x:K}:∀ (l:zcX K) (i:Nat),(ziB x l i=none∧zeT x l=false∧zb7 x l=0)∨∃ j e,ziB x l i=some (i+j,.int .i64 e.2.1)∧l[j]? = some e∧e.1=x∧zb7 x l=e.2.1∧zeT x l=true∧∀ c,zaz x c l=e.2.2
 | [],i=>.inl ⟨rfl,rfl,rfl⟩
 | e::l,i=>by
   by_cases hx:x=e.1
   ·exact .inr ⟨0,e,by simp [ziB,hx],rfl,hx.symm,by simp [zb7,hx],by simp [zeT,hx],fun c=>by simp [zaz,hx]⟩
   ·rcases zke (x:=x) l (i+1) with ⟨h1,h2,h3⟩ | ⟨j,e',h1,h2,h3,h4,h5,h6⟩
    ·exact .inl ⟨by simp [ziB,hx,h1],by simp [zeT,hx,h2],by simp [zb7,hx,h3]⟩
    ·exact .inr ⟨j+1,e',by simp only [ziB,if_neg hx,h1];congr 2;omega,by simpa using h2,h3,by simp [zb7,hx,h4],by simp [zeT,hx,h5],fun c=>by simp [zaz,hx,h6]⟩
theorem zhH (hk:zkH P k enc) (x:K) (w:World):∀ (l:zcX K) (i:Nat),(Instr.findAsking k (enc x) (l.map (ent enc)) i).run P w=.ok (ziB x l i) w
 | [],i=>rfl
 | e::l,i=>by
   simp only [List.map_cons,Instr.findAsking,Sem.run_bind]
   rw [show (ent enc e).key=enc e.1 from rfl,hk.eq,Result.andThen_ok]
   by_cases hx:x=e.1
   ·simp [ziB,hx,ent]
   ·simp only [decide_eq_false hx,ziB,if_neg hx]
    exact zhH hk x w l (i+1)
theorem znx (hk:zkH P k enc) (x:K) (w:World) (l:zcX K):(Instr.findKey k (enc x) (l.map (ent enc))).run P w=.ok (ziB x l 0) w:=by
 obtain ⟨d,hd,hn⟩:=hk.desc
 simp only [Instr.findKey,Sem.run_bind,run_underlying hd,Result.andThen_ok]
 cases l with
 | nil=>rfl
 | cons e l=>
   have h1:Instr.findNow d (enc x) ((e::l).map (ent enc)) 0=none:=by
    simp only [List.map_cons,Instr.findNow]
    rw [show (ent enc e).key=enc e.1 from rfl,hn]
   rw [h1]
   exact zhH hk x w (e::l) 0
variable {t e:TypeId} {w:World} {b c:Nat} {l:zcX K}
theorem znV (hk:zkH P k enc) (ht:P.underlying t=some (.map k e)) (hz:(zeroValue e).run P w=.ok (.int .i64 0) w) (hb:w.heap[b]? = some (zgz enc l c)) (x:K) :
 (Instr.lookup t (.map (some b)) (enc x) false).run P w=.ok (.int .i64 (zb7 x l)) w:=by
 simp only [Instr.lookup,Sem.run_bind,run_underlying ht,Result.andThen_ok,MapKept.run_getObj_map (show w.heap[b]? = some (.map _ _) from hb),Sem.run_pure,hk.chk,znx hk]
 rcases zke (x:=x) l 0 with ⟨h1,_,h3⟩ | ⟨j,e',h1,_,_,h4,_⟩
 ·rw [h1,h3];simp [hz]
 ·rw [h1,h4];simp
theorem zo9 {α:Type} (l:List α) (i:Nat) (f:α→α) (h:∀ x,l[i]? = some x→f x=x):l.toArray.modify i f=l.toArray:=by
 rw [List.modify_toArray]
 congr 1
 apply List.ext_getElem?
 intro j
 rw [List.getElem?_modify]
 cases hj:l[j]? with
 | none=>rfl
 | some x=>
   by_cases hij:i=j
   ·subst hij;simp [h x hj]
   ·simp [hij]
theorem zsV (hk:zkH P k enc) (ht:P.underlying t=some (.map k e)) (hz:(zeroValue e).run P w=.ok (.int .i64 0) w) (hb:w.heap[b]? = some (zgz enc l c)) (x:K) :
 (Instr.mapEntry t (.map (some b)) (enc x)).run P w=.ok (.tuple #[.int .i64 (zb7 x l),.int .i64 (zaz x c l)]) (w.putObj b (zgz enc (zeg x c l) (zgj x c l))):=by
 simp only [Instr.mapEntry,Sem.run_bind,run_underlying ht,Result.andThen_ok,MapKept.run_getObj_map (show w.heap[b]? = some (.map _ _) from hb),hk.chk,znx hk]
 rcases zke (x:=x) l 0 with ⟨h1,h2,h3⟩ | ⟨j,e',h1,h2,h3,h4,h5,h6⟩
 ·rw [h1]
  have hs:zaz x c l=c:=by
   clear h1 h3 hb
   induction l with
   | nil=>rfl
   | cons a l ih=>
     simp only [zeT] at h2
     split at h2
     ·cases h2
     ·rename_i hx;simp only [zaz,if_neg hx];exact ih h2
  simp only [Sem.run_bind,hz,Result.andThen_ok,MapKept.run_setObj_map _ (show w.heap[b]? = some (.map _ _) from hb),Sem.run_pure]
  rw [h3,hs,zmQ h2,zgj,h2]
  simp [World.putObj,zgz,ent,goInt]
 ·rw [h1]
  have hj:((l.map (ent enc)).toArray)[0+j]? = some (ent enc e'):=by simp [h2]
  have hkey:(ent enc e').key=enc x:=by rw [ent,h3]
  simp only [Instr.keyThatStays,hj,Option.map_some,Option.getD_some,hkey,hk.bits,if_true,Sem.run_bind,Sem.run_pure,Result.andThen_ok,MapKept.run_setObj_map _ (show w.heap[b]? = some (.map _ _) from hb)]
  rw [zo9 _ _ _ (fun y hy=>by
   rw [Nat.zero_add,List.getElem?_map,h2] at hy
   cases hy
   rw [ent,h3]),zmP h5,zgj,h5,h4,h6]
  simp [World.putObj,zgz,ent,goInt]
theorem ziv {x:K}:∀ (l:zcX K),zeT x l=true→(l.map (·.2.2)).Nodup→∀ c,∃ j e,l.findIdx? (fun e=>((e.2.2:Nat):Int) == ((zaz x c l:Nat):Int))=some j∧l[j]? = some e∧e.1=x
 | [],h,_,_=>by cases h
 | a::l,h,hn,c=>by
   rw [List.map_cons,List.nodup_cons] at hn
   simp only [zeT] at h
   rw [List.findIdx?_cons]
   by_cases hx:x=a.1
   ·refine ⟨0,a,?_,rfl,hx.symm⟩
    simp [zaz,hx]
   ·rw [if_neg hx] at h
    obtain ⟨j,e,h1,h2,h3⟩:=ziv l h hn.2 c
    refine ⟨j+1,e,?_,by simpa using h2,h3⟩
    have hne:¬ ((a.2.2:Nat):Int)=((zaz x c l:Nat):Int):=fun q=>by
     have hm:zaz x c l∈l.map (·.2.2):=by
      clear h1 h2 h3 hn
      induction l with
      | nil=>cases h
      | cons b l ih=>
        simp only [zeT] at h
        simp only [zaz]
        split
        ·simp
        ·rename_i hb;rw [if_neg hb] at h;exact List.mem_cons_of_mem _ (ih h (by
          simp only [zaz,if_neg hb] at q;exact q))
     exact hn.1 (by rw [show a.2.2=zaz x c l by omega];exact hm)
    simp only [zaz,if_neg hx]
    rw [if_neg (by simpa using hne),h1];rfl
theorem zmb {x:K} {v:Int}:∀ (l:zcX K) (j:Nat) (e:K×Int×Nat),(l.map (·.1)).Nodup→l[j]? = some e→e.1=x→l.modify j (fun e=>(e.1,v,e.2.2))=zfd x v l
 | [],j,e,_,h,_=>by simp at h
 | a::l,0,e,hn,h,hx=>by
   have:a=e:=by simpa using h
   subst this
   simp [zfd,hx]
 | a::l,j+1,e,hn,h,hx=>by
   rw [List.map_cons,List.nodup_cons] at hn
   have hj:l[j]? = some e:=by simpa using h
   have hne:¬ x=a.1:=fun q=>hn.1 (by rw [← q,← hx];exact List.mem_map.2 ⟨e,List.mem_of_getElem? hj,rfl⟩)
   simp only [List.modify_succ_cons,zfd,if_neg hne]
   rw [zmb l j e hn.2 hj hx]
theorem zqT (hg:zkP l c) (hb:w.heap[b]? = some (zgz enc l c)) {x:K} (hx:zeT x l=true) (s:Nat) (hs:s=zaz x c l) (v:Int) :
 (Instr.entryStore t (.map (some b)) (.int .i64 s) (.int .i64 v)).run P w=.ok () (w.putObj b (zgz enc (zfd x v l) c)):=by
 obtain ⟨j,e',h1,h2,h3⟩:=ziv (x:=x) l hx hg.stamps c
 have h4:(l.map (ent enc)).toArray.findIdx? (fun e=>(e.born:Int) == ((s:Nat):Int))=some j:=by
  rw [List.findIdx?_toArray,List.findIdx?_map,hs]
  exact h1
 have h5:((l.map (ent enc)).toArray.modify j fun e=>{e with val:=.int .i64 v})=((zfd x v l).map (ent enc)).toArray:=by
  rw [List.modify_toArray,← zmb l j e' hg.keys h2 h3]
  congr 1
  apply List.ext_getElem?
  intro i
  rw [List.getElem?_modify,List.getElem?_map,List.getElem?_map,List.getElem?_modify]
  cases l[i]? with
  | none=>rfl
  | some y=>by_cases hij:j=i<;>simp [hij,ent]
 simp only [Instr.entryStore,Sem.run_bind,MapKept.run_getObj_map (show w.heap[b]? = some (.map _ _) from hb),Result.andThen_ok]
 simp only [asInt,asIntOf,Sem.run_bind,Sem.run_pure,Result.andThen_ok]
 rw [h4]
 show (setObj b (Obj.map ((l.map (ent enc)).toArray.modify j fun e=>{e with val:=.int .i64 v}) c)).run P w=_
 rw [h5]
 simp only [MapKept.run_setObj_map _ (show w.heap[b]? = some (.map _ _) from hb)]
 rfl
end
end Go.Proofs.YtjmefaihkblliaaGreat.Ab

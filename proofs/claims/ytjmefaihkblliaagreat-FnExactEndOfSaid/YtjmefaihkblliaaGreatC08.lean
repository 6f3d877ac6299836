/- Texts of one claim, joined: E67, E68, E69, E70, E71, BrEndOf, EqE, EqP, ToE, ToP, SzE, SzP. Conditions: zas each says. -/
import Derived.Test.YtjmefaihkblliaaGreatC02
import Derived.Test.YtjmefaihkblliaaGreatC04
import Derived.Test.YtjmefaihkblliaaGreatC07
namespace Go.Proofs.YtjmefaihkblliaaGreat.Ab
open Go.RowKit
set_option linter.unusedVariables false
set_option linter.unusedSimpArgs false
set_option maxRecDepth 100000
structure zeK where
 owner:Int
 wait:Value
def dYM:zeK:=⟨0,zle⟩
def cYM (c:zeK):List C:=[.int .i64 c.owner,.val c.wait]
structure CpY (Pv:Nat→Obj→Prop) (tg:Nat→Nat) (ms:List zal) (xs:List zeK):Prop where
 len:xs.length=ms.length
 q:∀ k<ms.length,(xs.getD k dYM).owner=(ms.getD k zj).owner∧Qv Pv (fun b=>tg b=4*k+3) 3 1 iC (ms.getD k zj).wait (xs.getD k dYM).wait
def mXc (e:zz) (xs:List zcW):Ml:=[(1000,some (.row 172 5 zd zH e.gs)),(1001,some (.row 191 5 dXC cXC xs))]
def mXm (e:zz) (xs:List zeK):Ml:=[(1000,some (.row 172 5 zd zH e.gs)),(1002,some (.row 193 2 dYM cYM xs))]
section
variable {Pv Pv':Nat→Obj→Prop} {tg tg':Nat→Nat} {cs:List zY} {ms:List zal} {i:Nat} {xs:List zcW} {ys:List zeK}
theorem CpC.up (h:CpC Pv tg cs i xs) (h1:∀ b o,Pv b o→Pv' b o):CpC Pv' tg cs i xs:=
 ⟨h.le,h.len,fun k hk=>(h.q k hk).mono fun b o _ hp=>⟨h1 b o hp,by omega⟩⟩
theorem CpY.up (h:CpY Pv tg ms ys) (h1:∀ b o,Pv b o→Pv' b o):CpY Pv' tg ms ys:=
 ⟨h.len,fun k hk=>⟨(h.q k hk).1,(h.q k hk).2.mono fun b o hg hp=>⟨h1 b o hp,hg⟩⟩⟩
def zs2 (Pv Pv':Nat→Obj→Prop) (tg tg':Nat→Nat) (c0:Nat):Prop:=∀ c,c≠c0→∀ {e':TypeId} {z':Nat} {β:Type} {f':β→List C} {zs:List β} {u:Value},Qv Pv (fun b=>tg b=c) e' z' f' zs u→Qv Pv' (fun b=>tg' b=c) e' z' f' zs u
theorem CpC.sends (h:CpC Pv tg cs cs.length xs) {k:Nat} (hk:k<cs.length) {l:List zo} {v:Value} (h1:Qv Pv' (fun b=>tg' b=4*k+1) 197 3 z5 l v) (h2:zs2 Pv Pv' tg tg' (4*k+1)):CpC Pv' tg' (cs.set k {cs.getD k zg with sends:=l}) (cs.set k {cs.getD k zg with sends:=l}).length (xs.set k {xs.getD k dXC with sends:=v}):=by
 have hl:=h.len
 refine ⟨Nat.le_refl _,by rw [List.length_set,List.length_set];exact hl,fun j hj=>?_⟩
 rw [List.length_set] at hj
 obtain ⟨q1,q2,q3,q4,q5⟩:=h.q j hj
 by_cases hjk:j=k
 ·subst hjk
  rw [zF (by omega),zF (by omega)]
  exact ⟨q1,q2,h2 _ (by omega) q3,h1,h2 _ (by omega) q5⟩
 ·rw [z4 (fun h=>hjk h.symm),z4 (fun h=>hjk h.symm)]
  exact ⟨q1,q2,h2 _ (by omega) q3,h2 _ (by omega) q4,h2 _ (by omega) q5⟩
theorem CpC.recvs (h:CpC Pv tg cs cs.length xs) {k:Nat} (hk:k<cs.length) {l:List zo} {v:Value} (h1:Qv Pv' (fun b=>tg' b=4*k+2) 197 3 z5 l v) (h2:zs2 Pv Pv' tg tg' (4*k+2)):CpC Pv' tg' (cs.set k {cs.getD k zg with recvs:=l}) (cs.set k {cs.getD k zg with recvs:=l}).length (xs.set k {xs.getD k dXC with recvs:=v}):=by
 have hl:=h.len
 refine ⟨Nat.le_refl _,by rw [List.length_set,List.length_set];exact hl,fun j hj=>?_⟩
 rw [List.length_set] at hj
 obtain ⟨q1,q2,q3,q4,q5⟩:=h.q j hj
 by_cases hjk:j=k
 ·subst hjk
  rw [zF (by omega),zF (by omega)]
  exact ⟨q1,q2,h2 _ (by omega) q3,h2 _ (by omega) q4,h1⟩
 ·rw [z4 (fun h=>hjk h.symm),z4 (fun h=>hjk h.symm)]
  exact ⟨q1,q2,h2 _ (by omega) q3,h2 _ (by omega) q4,h2 _ (by omega) q5⟩
theorem CpY.wait (h:CpY Pv tg ms ys) {k:Nat} (hk:k<ms.length) {l:List Int} {v:Value} (h1:Qv Pv' (fun b=>tg' b=4*k+3) 3 1 iC l v) (h2:zs2 Pv Pv' tg tg' (4*k+3)):CpY Pv' tg' (ms.set k {ms.getD k zj with wait:=l}) (ys.set k {ys.getD k dYM with wait:=v}):=by
 have hl:=h.len
 refine ⟨by rw [List.length_set,List.length_set];exact hl,fun j hj=>?_⟩
 rw [List.length_set] at hj
 obtain ⟨q1,q2⟩:=h.q j hj
 by_cases hjk:j=k
 ·subst hjk
  rw [zF (by omega),zF (by omega)]
  exact ⟨q1,h1⟩
 ·rw [z4 (fun h=>hjk h.symm),z4 (fun h=>hjk h.symm)]
  exact ⟨q1,h2 _ (by omega) q2⟩
end
theorem zlT:∀ (l:List zr) (e:zz),(l.foldl zbD e).gs=e.gs
 | [],e=>rfl
 | a::l,e=>(zlT l _).trans (zp8 e a)
set_option maxHeartbeats 16000000 in
theorem zfO (c2:C) (p:zn) (e:zz) (n:Int) (hL:zp e 1099511620000) (h:Inv p e (fun _=>False)) (hnr:0≤n∧n<e.gs.length) (hs:(e.gs.getD n.toNat zd).state=1) (hwc:zgG p e n) (hmf:∀ i,i<(zw p (e.gs.getD n.toNat zd) n).length→((zw p (e.gs.getD n.toNat zd) n).getD i zq).mutex=false) (xcs:List zcW) (tg:Nat→Nat) :
 CtG Tryz.prog 256 [.dagg (zQ p),hEc c2,.dat (.int .i64 n)] (mXc e xcs) (fun Pi=>CpC Pi tg e.chans e.chans.length xcs) (fun r Mo Po=>r=.tup []∧∃ xcs' tg',Mo=mXc (waitE p e n) xcs'∧CpC Po tg' (waitE p e n).chans (waitE p e n).chans.length xcs'):=by
 have ha:=h.alive hnr (.inl hs)
 have hgl:=hL.gor hnr
 have hJ0:=h.wait0 hnr hs hwc
 have hl4:=zef (n:=n) h.prog (ha.head (.inl hs))
 have hpl:Con Tryz.prog 195 [.dagg (zQ p),.dagg (zH ((e.gs.set n.toNat {e.gs.getD n.toNat zd with state:=2}).getD n.toNat zd)),.dat (.int .i64 n)] (.dat (zau (zw p (e.gs.getD n.toNat zd) n))):=by
  rw [zF (by omega)]
  exact zd8 p {e.gs.getD n.toNat zd with state:=2} n h.prog ((ha.state 2).head (.inr rfl))
 have hln:(e.gs.set n.toNat {e.gs.getD n.toNat zd with state:=2}).length=e.gs.length:=List.length_set
 have hL0:zp (zaP (zw p (e.gs.getD n.toNat zd) n) (setG e n {e.gs.getD n.toNat zd with state:=2}) 0) (1099511620001+0):=(hL.le (by omega)).setG ⟨by show (e.gs.getD n.toNat zd).regs.length≤_;omega,by show (e.gs.getD n.toNat zd).trace.length≤_;omega⟩
 have hE1:waitE p e n=zaP (zw p (e.gs.getD n.toNat zd) n) (setG e n {e.gs.getD n.toNat zd with state:=2}) (zw p (e.gs.getD n.toNat zd) n).length:=by
  unfold waitE zaP;rw [List.take_length]
 rw [hE1]
 have hgs:∀ i,(zaP (zw p (e.gs.getD n.toNat zd) n) (setG e n {e.gs.getD n.toNat zd with state:=2}) i).gs=(setG e n {e.gs.getD n.toNat zd with state:=2}).gs:=fun i=>by
  unfold zaP
  exact zlT _ _
 refine zgs (rs:=[]) za Tryz.func256 rfl rfl rfl (Nat.le_of_ble_eq_true rfl) rfl fun ho hm x Pi hn hlent hPi hpre=>?_
 have hcp0:CpC (z7 x) tg e.chans e.chans.length xcs:=hpre.up hPi
 refine zaI hn za {e.gs.getD n.toNat zd with state:=2} rfl ?_ rfl rfl rfl rfl rfl rfl (Nat.le_of_ble_eq_true rfl) rfl ?_;(first | (exact qS) | decide | (simp only [List.length_replicate,List.length_set];decide))
 generalize hll:zw p (e.gs.getD n.toNat zd) n=l at *
 refine qD hn za zu [.r (.dat (zau l))] rfl rfl ?_ ?_
 ·(try refine qM ?_);repeat' (first | exact trivial | assumption | assumption | omega | exact qV | refine And.intro ?_ ?_)
  all_goals (rw [List.length_set];omega)
 refine zcB hn za rfl ?_ (fun (y:Nat×List zcW×(Nat→Nat)) wT wM=>((22,.dat (.int .i64 (y.1:Nat)))::wT,(1001,some (.row 191 5 dXC cXC y.2.1))::wM)) (fun y x=>y.1≤l.length∧zjh p n l (setG e n {e.gs.getD n.toNat zd with state:=2}) y.1∧zp (zaP l (setG e n {e.gs.getD n.toNat zd with state:=2}) y.1) (1099511620001+y.1)∧CpC (z7 x) y.2.2 (zaP l (setG e n {e.gs.getD n.toNat zd with state:=2}) y.1).chans (zaP l (setG e n {e.gs.getD n.toNat zd with state:=2}) y.1).chans.length y.2.1) (fun y=>l.length-y.1) (0,xcs,tg) ⟨Nat.zero_le _,hJ0,hL0,hcp0⟩ (zt [] ?_ ?_ rfl) ?_
 ·exact qS
 ·exact qL
 ·exact qL
 generalize he1:setG e n {e.gs.getD n.toNat zd with state:=2}=e1 at *
 rintro ⟨i,xs,tg1⟩ x1 hx1 ⟨hi,hJ,hLi,hcp⟩
 dsimp only at hi hJ hLi hcp
 have hcp:CpC (z7 x1) tg1 (zaP l e1 i).chans (zaP l e1 i).chans.length xs:=hcp
 have hn1:=hx1.n.trans hn
 have hn:=hn1
 have hlx:xs.length=(zaP l e1 i).chans.length:=hcp.len
 refine ze hn za rfl qS ?_ ?_<;>intro hc<;>first | (replace hc:=qC2 hc;try exact qX) | exact qF2 hc | skip
 ·have hlt:i<l.length:=by omega
  have hmi:=hmf i hlt
  obtain ⟨hxg,hcan⟩:=hJ.here hlt
  have hnx:=zeW (e:=e1) hlt
  have hJn:=hJ.next hlt
  have hLn:zp (zaP l e1 (i+1)) (1099511620001+(i+1)):=by rw [hnx];exact (hLi.add _)
  rw [hnx] at hLn
  have hinv:=hJ.inv
  generalize hei:zaP l e1 i=ei at *
  unfold zeD at hcan
  rw [if_neg (by rw [hmi];decide)] at hcan
  obtain ⟨hob,_,_,_⟩:=hcan
  have hcl:=hLi.chan hob
  have hlc:=hcl.2.1
  have hlr:=hcl.2.2
  refine ze hn za rfl qS ?_ ?_<;>intro hc<;>first | (replace hc:=qC2 hc;try exact qX) | exact qF2 hc | skip
  ·exact absurd (hmi.symm.trans hc) Bool.false_ne_true
  refine ze hn za rfl qS ?_ ?_<;>intro hc<;>first | (replace hc:=qC2 hc;try exact qX) | exact qF2 hc | skip
  ·have hadd:zbD ei (l.getD i zq)=setC ei (l.getD i zq).obj {ei.chans.getD (l.getD i zq).obj.toNat zg with sends:=(ei.chans.getD (l.getD i zq).obj.toNat zg).sends++[(l.getD i zq).w]}:=by unfold zbD;rw [if_neg (by rw [hmi];decide),if_pos hc]
   refine zew (Y:=Value) zle hn za zu rfl ?_ 14 rfl rfl [.raw (.own 78) [(78,some (.row 197 3 zi z5 [(l.getD i zq).w]))] (some 78)] (fun _=>rfl) ?_ (fun v=>.dat (.val v)) rfl (fun v=>[.raw .no [(1001,some (.row 191 5 dXC cXC (xs.set (l.getD i zq).obj.toNat {xs.getD (l.getD i zq).obj.toNat dXC with sends:=v})))] none]) (fun _ _=>rfl) ?_ ?_ ?_ ?_ (fun v x4=>Sib x1 x4∧∃ tg',CpC (z7 x4) tg' (zbD ei (l.getD i zq)).chans (zbD ei (l.getD i zq)).chans.length (xs.set (l.getD i zq).obj.toNat {xs.getD (l.getD i zq).obj.toNat dXC with sends:=v})) (fun _ _ h=>h.1) ?_ ?_
   ·exact qS
   ·intro x4 hx4
    have hn:=hx4.n.trans hn1
    (try refine qM ?_);repeat' (first | exact trivial | assumption | assumption | omega | exact qV | refine And.intro ?_ ?_)
   ·intro v x4 hx4
    have hn4:=hx4.n.trans hn1
    (try refine qM ?_);repeat' (first | exact trivial | assumption | assumption | omega | exact qV | refine And.intro ?_ ?_)
    exact zab _ hn4 za rfl ⟨_,_,rfl,rfl,rfl⟩ rfl rfl rfl rfl rfl (Nat.le_of_ble_eq_true rfl) rfl rfl
   ·kernel_rfl
   ·intro v;kernel_rfl
   ·((intro _;repeat' (first | exact trivial | exact rfl | refine And.intro ?_ ?_)))
   ·refine zqJ [(l.getD i zq).w] hn1 za ⟨rfl,_,_,_,rfl,rfl,rfl,rfl,rfl,rfl⟩ (hcp.q (l.getD i zq).obj.toNat (by omega)).sends rfl rfl (by decide) rfl rfl (by simp) rfl (fun _=>⟨rfl,rfl⟩) (by simp only [List.length_cons,List.length_nil];show _*24≤_;omega) _ ?_
    intro x4 v tg' hx4 h1 h2
    refine ⟨hx4,tg',?_⟩
    rw [hadd]
    exact hcp.sends (by omega) h1 h2
   ·rintro v x4 ⟨hx4,tg',hq⟩
    have hn4:=hx4.n.trans hn1
    refine zx hn4 za rfl ?_ ⟨(i+1,_,tg'),⟨hlt,hJn,by rw [hnx];exact hLn,by rw [hnx];exact hq⟩,by show _-(i+1)<_-i;omega,?_⟩
    ·exact qS
    ·refine zt [] ?_ ?_ rfl
     ·exact qL
     ·exact qL
  ·have hadd:zbD ei (l.getD i zq)=setC ei (l.getD i zq).obj {ei.chans.getD (l.getD i zq).obj.toNat zg with recvs:=(ei.chans.getD (l.getD i zq).obj.toNat zg).recvs++[(l.getD i zq).w]}:=by unfold zbD;rw [if_neg (by rw [hmi];decide),if_neg (by rw [hc];decide)]
   refine zew (Y:=Value) zle hn za zu rfl ?_ 14 rfl rfl [.raw (.own 39) [(39,some (.row 197 3 zi z5 [(l.getD i zq).w]))] (some 39)] (fun _=>rfl) ?_ (fun v=>.dat (.val v)) rfl (fun v=>[.raw .no [(1001,some (.row 191 5 dXC cXC (xs.set (l.getD i zq).obj.toNat {xs.getD (l.getD i zq).obj.toNat dXC with recvs:=v})))] none]) (fun _ _=>rfl) ?_ ?_ ?_ ?_ (fun v x4=>Sib x1 x4∧∃ tg',CpC (z7 x4) tg' (zbD ei (l.getD i zq)).chans (zbD ei (l.getD i zq)).chans.length (xs.set (l.getD i zq).obj.toNat {xs.getD (l.getD i zq).obj.toNat dXC with recvs:=v})) (fun _ _ h=>h.1) ?_ ?_
   ·exact qS
   ·intro x4 hx4
    have hn:=hx4.n.trans hn1
    (try refine qM ?_);repeat' (first | exact trivial | assumption | assumption | omega | exact qV | refine And.intro ?_ ?_)
   ·intro v x4 hx4
    have hn4:=hx4.n.trans hn1
    (try refine qM ?_);repeat' (first | exact trivial | assumption | assumption | omega | exact qV | refine And.intro ?_ ?_)
    exact zab _ hn4 za rfl ⟨_,_,rfl,rfl,rfl⟩ rfl rfl rfl rfl rfl (Nat.le_of_ble_eq_true rfl) rfl rfl
   ·kernel_rfl
   ·intro v;kernel_rfl
   ·((intro _;repeat' (first | exact trivial | exact rfl | refine And.intro ?_ ?_)))
   ·refine zqJ [(l.getD i zq).w] hn1 za ⟨rfl,_,_,_,rfl,rfl,rfl,rfl,rfl,rfl⟩ (hcp.q (l.getD i zq).obj.toNat (by omega)).recvs rfl rfl (by decide) rfl rfl (by simp) rfl (fun _=>⟨rfl,rfl⟩) (by simp only [List.length_cons,List.length_nil];show _*24≤_;omega) _ ?_
    intro x4 v tg' hx4 h1 h2
    refine ⟨hx4,tg',?_⟩
    rw [hadd]
    exact hcp.recvs (by omega) h1 h2
   ·rintro v x4 ⟨hx4,tg',hq⟩
    have hn4:=hx4.n.trans hn1
    refine zx hn4 za rfl ?_ ⟨(i+1,_,tg'),⟨hlt,hJn,by rw [hnx];exact hLn,by rw [hnx];exact hq⟩,by show _-(i+1)<_-i;omega,?_⟩
    ·exact qS
    ·refine zt [] ?_ ?_ rfl
     ·exact qL
     ·exact qL
 have hie:i=l.length:=by omega
 subst hie
 refine zf hn1 za rfl ?_ ⟨_,.tup [],mXc (zaP l e1 l.length) xs,[],z7 x1,rfl,rfl,⟨?_,rfl,trivial⟩,rfl,rfl,rfl,fun _ _ h=>h,rfl,xs,tg1,rfl,hcp⟩
 ·exact qS
 ·exact congrArg (fun q=>some (Blk.row 172 5 zd zH q)) (by rw [hgs,← he1];rfl)
set_option maxHeartbeats 16000000 in
theorem zlI (c2:C) (p:zn) (e:zz) (n:Int) (hL:zp e 1099511620000) (h:Inv p e (fun _=>False)) (hnr:0≤n∧n<e.gs.length) (hs:(e.gs.getD n.toNat zd).state=1) (hwc:zgG p e n) (hmf:∀ i,i<(zw p (e.gs.getD n.toNat zd) n).length→((zw p (e.gs.getD n.toNat zd) n).getD i zq).mutex=true) (xcs:List zeK) (tg:Nat→Nat) :
 CtG Tryz.prog 256 [.dagg (zQ p),hEm c2,.dat (.int .i64 n)] (mXm e xcs) (fun Pi=>CpY Pi tg e.mus xcs) (fun r Mo Po=>r=.tup []∧∃ xcs' tg',Mo=mXm (waitE p e n) xcs'∧CpY Po tg' (waitE p e n).mus xcs'):=by
 have ha:=h.alive hnr (.inl hs)
 have hgl:=hL.gor hnr
 have hJ0:=h.wait0 hnr hs hwc
 have hl4:=zef (n:=n) h.prog (ha.head (.inl hs))
 have hpl:Con Tryz.prog 195 [.dagg (zQ p),.dagg (zH ((e.gs.set n.toNat {e.gs.getD n.toNat zd with state:=2}).getD n.toNat zd)),.dat (.int .i64 n)] (.dat (zau (zw p (e.gs.getD n.toNat zd) n))):=by
  rw [zF (by omega)]
  exact zd8 p {e.gs.getD n.toNat zd with state:=2} n h.prog ((ha.state 2).head (.inr rfl))
 have hln:(e.gs.set n.toNat {e.gs.getD n.toNat zd with state:=2}).length=e.gs.length:=List.length_set
 have hL0:zp (zaP (zw p (e.gs.getD n.toNat zd) n) (setG e n {e.gs.getD n.toNat zd with state:=2}) 0) (1099511620001+0):=(hL.le (by omega)).setG ⟨by show (e.gs.getD n.toNat zd).regs.length≤_;omega,by show (e.gs.getD n.toNat zd).trace.length≤_;omega⟩
 have hE1:waitE p e n=zaP (zw p (e.gs.getD n.toNat zd) n) (setG e n {e.gs.getD n.toNat zd with state:=2}) (zw p (e.gs.getD n.toNat zd) n).length:=by
  unfold waitE zaP;rw [List.take_length]
 rw [hE1]
 have hgs:∀ i,(zaP (zw p (e.gs.getD n.toNat zd) n) (setG e n {e.gs.getD n.toNat zd with state:=2}) i).gs=(setG e n {e.gs.getD n.toNat zd with state:=2}).gs:=fun i=>by
  unfold zaP
  exact zlT _ _
 refine zgs (rs:=[]) za Tryz.func256 rfl rfl rfl (Nat.le_of_ble_eq_true rfl) rfl fun ho hm x Pi hn hlent hPi hpre=>?_
 have hcp0:CpY (z7 x) tg e.mus xcs:=hpre.up hPi
 refine zaI hn za {e.gs.getD n.toNat zd with state:=2} rfl ?_ rfl rfl rfl rfl rfl rfl (Nat.le_of_ble_eq_true rfl) rfl ?_;(first | (exact qS) | decide | (simp only [List.length_replicate,List.length_set];decide))
 generalize hll:zw p (e.gs.getD n.toNat zd) n=l at *
 refine qD hn za zu [.r (.dat (zau l))] rfl rfl ?_ ?_
 ·(try refine qM ?_);repeat' (first | exact trivial | assumption | assumption | omega | exact qV | refine And.intro ?_ ?_)
  all_goals (rw [List.length_set];omega)
 refine zcB hn za rfl ?_ (fun (y:Nat×List zeK×(Nat→Nat)) wT wM=>((22,.dat (.int .i64 (y.1:Nat)))::wT,(1002,some (.row 193 2 dYM cYM y.2.1))::wM)) (fun y x=>y.1≤l.length∧zjh p n l (setG e n {e.gs.getD n.toNat zd with state:=2}) y.1∧zp (zaP l (setG e n {e.gs.getD n.toNat zd with state:=2}) y.1) (1099511620001+y.1)∧CpY (z7 x) y.2.2 (zaP l (setG e n {e.gs.getD n.toNat zd with state:=2}) y.1).mus y.2.1) (fun y=>l.length-y.1) (0,xcs,tg) ⟨Nat.zero_le _,hJ0,hL0,hcp0⟩ (zt [] ?_ ?_ rfl) ?_
 ·exact qS
 ·exact qL
 ·exact qL
 generalize he1:setG e n {e.gs.getD n.toNat zd with state:=2}=e1 at *
 rintro ⟨i,xs,tg1⟩ x1 hx1 ⟨hi,hJ,hLi,hcp⟩
 dsimp only at hi hJ hLi hcp
 have hcp:CpY (z7 x1) tg1 (zaP l e1 i).mus xs:=hcp
 have hn1:=hx1.n.trans hn
 have hn:=hn1
 have hlx:xs.length=(zaP l e1 i).mus.length:=hcp.len
 refine ze hn za rfl qS ?_ ?_<;>intro hc<;>first | (replace hc:=qC2 hc;try exact qX) | exact qF2 hc | skip
 ·have hlt:i<l.length:=by omega
  have hmi:=hmf i hlt
  obtain ⟨hxg,hcan⟩:=hJ.here hlt
  have hnx:=zeW (e:=e1) hlt
  have hJn:=hJ.next hlt
  have hLn:zp (zaP l e1 (i+1)) (1099511620001+(i+1)):=by rw [hnx];exact (hLi.add _)
  rw [hnx] at hLn
  have hinv:=hJ.inv
  generalize hei:zaP l e1 i=ei at *
  unfold zeD at hcan
  rw [if_pos hmi] at hcan
  obtain ⟨hob,⟨hg0,hnw,hno,hn1'⟩,_⟩:=hcan
  have hml:=hLi.mut hob
  refine ze hn za rfl qS ?_ ?_<;>intro hc<;>first | (replace hc:=qC2 hc;try exact qX) | exact qF2 hc | skip
  rotate_left
  ·exact absurd (hc.symm.trans hmi) Bool.false_ne_true
  have hadd:zbD ei (l.getD i zq)=setMu ei (l.getD i zq).obj {ei.mus.getD (l.getD i zq).obj.toNat zj with wait:=(ei.mus.getD (l.getD i zq).obj.toNat zj).wait++[n]}:=by unfold zbD;rw [if_pos hmi,hxg]
  refine zew (Y:=Value) zle hn za zu rfl ?_ 13 rfl rfl [.raw (.own 58) [(58,some (.row 3 1 (0:Int) iC [n]))] (some 58)] (fun _=>rfl) ?_ (fun v=>.dat (.val v)) rfl (fun v=>[.raw .no [(1002,some (.row 193 2 dYM cYM (xs.set (l.getD i zq).obj.toNat {xs.getD (l.getD i zq).obj.toNat dYM with wait:=v})))] none]) (fun _ _=>rfl) ?_ ?_ ?_ ?_ (fun v x4=>Sib x1 x4∧∃ tg',CpY (z7 x4) tg' (zbD ei (l.getD i zq)).mus (xs.set (l.getD i zq).obj.toNat {xs.getD (l.getD i zq).obj.toNat dYM with wait:=v})) (fun _ _ h=>h.1) ?_ ?_
  ·exact qS
  ·intro x4 hx4
   have hn:=hx4.n.trans hn1
   (try refine qM ?_);repeat' (first | exact trivial | assumption | assumption | omega | exact qV | refine And.intro ?_ ?_)
  ·intro v x4 hx4
   have hn4:=hx4.n.trans hn1
   (try refine qM ?_);repeat' (first | exact trivial | assumption | assumption | omega | exact qV | refine And.intro ?_ ?_)
   exact zab _ hn4 za rfl ⟨_,_,rfl,rfl,rfl⟩ rfl rfl rfl rfl rfl (Nat.le_of_ble_eq_true rfl) rfl rfl
  ·kernel_rfl
  ·intro v;kernel_rfl
  ·((intro _;repeat' (first | exact trivial | exact rfl | refine And.intro ?_ ?_)))
  ·refine zqJ [n] hn1 za ⟨rfl,_,_,_,rfl,rfl,rfl,rfl,rfl,rfl⟩ (hcp.q (l.getD i zq).obj.toNat (by omega)).2 rfl rfl (by decide) rfl rfl (by simp) rfl (fun _=>⟨rfl,rfl⟩) (by simp only [List.length_cons,List.length_nil];show _*8≤_;omega) _ ?_
   intro x4 v tg' hx4 h1 h2
   refine ⟨hx4,tg',?_⟩
   rw [hadd]
   exact hcp.wait (by omega) h1 h2
  ·rintro v x4 ⟨hx4,tg',hq⟩
   have hn4:=hx4.n.trans hn1
   refine zx hn4 za rfl ?_ ⟨(i+1,_,tg'),⟨hlt,hJn,by rw [hnx];exact hLn,by rw [hnx];exact hq⟩,by show _-(i+1)<_-i;omega,?_⟩
   ·exact qS
   ·refine zt [] ?_ ?_ rfl
    ·exact qL
    ·exact qL
 have hie:i=l.length:=by omega
 subst hie
 refine zf hn1 za rfl ?_ ⟨_,.tup [],mXm (zaP l e1 l.length) xs,[],z7 x1,rfl,rfl,⟨?_,rfl,trivial⟩,rfl,rfl,rfl,fun _ _ h=>h,rfl,xs,tg1,rfl,hcp⟩
 ·exact qS
 ·exact congrArg (fun q=>some (Blk.row 172 5 zd zH q)) (by rw [hgs,← he1];rfl)
open Go.RowKit
set_option linter.unusedVariables false
set_option linter.unusedSimpArgs false
set_option maxRecDepth 100000
def gR (e:zz):Option Blk:=some (.row 172 5 zd zH e.gs)
def cR (l:List zY):Option Blk:=some (.row 191 5 zg zae l)
def mR (l:List zal):Option Blk:=some (.row 193 2 zj zO l)
def xR (l:List zcW):Option Blk:=some (.row 191 5 dXC cXC l)
def xmR (l:List zdt):Option Blk:=some (.row 193 2 dXM cXM l)
def yR (l:List zeK):Option Blk:=some (.row 193 2 dYM cYM l)
theorem zga {α:Type} {l:List α} {i:Nat} {y d:α} (h:l[i]? = some y):i<l.length∧l.getD i d=y:=by
 refine ⟨(List.getElem?_eq_some_iff.1 h).1,?_⟩
 rw [List.getD_eq_getElem?_getD,h];rfl
section
variable {S:Nat→Prop} {r:LV} {m1:Mp} {Po:Nat→Obj→Prop} {w1:World} {v:Value} {tg:Nat→Nat}
theorem Ot.thawC {Mo:Ml} (h:Ot S r (mm Mo) m1 Po w1 v) {id:Nat} {cs:List zY} {xs:List zcW} (hM:mm Mo id=xR xs) (hc:CpC Po tg cs cs.length xs):Ot S r (mm ((id,cR cs)::Mo)) m1 (fun b o=>Po b o∧¬ (tg b % 4≠3)) w1 v:=by
 refine h.recode (fun b=>tg b % 4≠3) zg zae cs hM hc.len.symm (fun _ _=>rfl) fun W hW i y y' j c' h1 h2 h3=>?_
 obtain ⟨hi1,hy⟩:=zga (d:=dXC) h1
 obtain ⟨hi2,hy'⟩:=zga (d:=zg) h2
 obtain ⟨q1,q2,q3,q4,q5⟩:=hc.q i hi2
 rw [hy,hy'] at q1 q2 q3 q4 q5
 have hP:∀ g:Nat→Prop,(∀ b,g b→tg b % 4≠3)→∀ b o,g b→Po b o→w1.heap[b]? = some o∧¬ W b:=fun g hg b o hb hp=>hW b o hp (hg b hb)
 rcases j with _ | _ | _ | _ | _ | j
 ·exact ⟨_,rfl,fun u hu=>by cases h3;rw [← q1];exact hu⟩
 ·refine ⟨_,rfl,fun u hu=>?_⟩
  cases h3;rw [zed hu];exact q3.rf (0:Int) (hP _ fun b hb=>by omega) (by decide) (fun _ _=>rfl)
 ·refine ⟨_,rfl,fun u hu=>?_⟩
  cases h3;rw [zed hu];exact q4.rf zi (hP _ fun b hb=>by omega) (by decide) (fun _ _=>rfl)
 ·refine ⟨_,rfl,fun u hu=>?_⟩
  cases h3;rw [zed hu];exact q5.rf zi (hP _ fun b hb=>by omega) (by decide) (fun _ _=>rfl)
 ·exact ⟨_,rfl,fun u hu=>by cases h3;rw [← q2];exact hu⟩
 ·cases h3
theorem Ot.thawM {Mo:Ml} (h:Ot S r (mm Mo) m1 Po w1 v) {id:Nat} {ms:List zal} {xs:List zdt} (hM:mm Mo id=xmR xs) (hc:CpM Po tg ms ms.length xs):Ot S r (mm ((id,mR ms)::Mo)) m1 (fun b o=>Po b o∧¬ (tg b % 4=3)) w1 v:=by
 refine h.recode (fun b=>tg b % 4=3) zj zO ms hM hc.len.symm (fun _ _=>rfl) fun W hW i y y' j c' h1 h2 h3=>?_
 obtain ⟨hi1,hy⟩:=zga (d:=dXM) h1
 obtain ⟨hi2,hy'⟩:=zga (d:=zj) h2
 obtain ⟨q1,v',q2,q3⟩:=hc.q i hi2
 rw [hy,hy'] at q1
 rw [hy] at q2
 rw [hy'] at q3
 rcases j with _ | _ | j
 ·exact ⟨_,rfl,fun u hu=>by cases h3;rw [← q1];exact hu⟩
 ·refine ⟨_,rfl,fun u hu=>?_⟩
  cases h3
  rw [q2] at hu
  rw [zed hu];exact q3.rf (0:Int) (fun b o hb hp=>hW b o hp (by omega)) (by decide) (fun _ _=>rfl)
 ·cases h3
theorem Ot.thawY {Mo:Ml} (h:Ot S r (mm Mo) m1 Po w1 v) {id:Nat} {ms:List zal} {xs:List zeK} (hM:mm Mo id=yR xs) (hc:CpY Po tg ms xs):Ot S r (mm ((id,mR ms)::Mo)) m1 (fun b o=>Po b o∧¬ (tg b % 4=3)) w1 v:=by
 refine h.recode (fun b=>tg b % 4=3) zj zO ms hM hc.len.symm (fun _ _=>rfl) fun W hW i y y' j c' h1 h2 h3=>?_
 obtain ⟨hi1,hy⟩:=zga (d:=dYM) h1
 obtain ⟨hi2,hy'⟩:=zga (d:=zj) h2
 obtain ⟨q1,q3⟩:=hc.q i hi2
 rw [hy,hy'] at q1
 rw [hy,hy'] at q3
 rcases j with _ | _ | j
 ·exact ⟨_,rfl,fun u hu=>by cases h3;rw [← q1];exact hu⟩
 ·refine ⟨_,rfl,fun u hu=>?_⟩
  cases h3
  rw [zed hu];exact q3.rf (0:Int) (fun b o hb hp=>hW b o hp (by omega)) (by decide) (fun _ _=>rfl)
 ·cases h3
def yOf (xs:List zdt):List zeK:=xs.map fun m=>⟨m.owner,match m.wait with | .inl v=>v | .inr _=>zle⟩
theorem CpM.y {Pv:Nat→Obj→Prop} {ms:List zal} {xs:List zdt} (h:CpM Pv tg ms ms.length xs):CpY Pv tg ms (yOf xs):=by
 refine ⟨by rw [yOf,List.length_map];exact h.len,fun k hk=>?_⟩
 obtain ⟨q1,v',q2,q3⟩:=h.q k hk
 have hl:k<xs.length:=by rw [h.len];exact hk
 have he:(yOf xs).getD k dYM=⟨(xs.getD k dXM).owner,v'⟩:=by
  rw [yOf,List.getD_eq_getElem?_getD,List.getElem?_map,List.getElem?_eq_getElem hl]
  show zeK.mk (xs[k]).owner _=_
  have:xs[k]=xs.getD k dXM:=by rw [List.getD_eq_getElem?_getD,List.getElem?_eq_getElem hl];rfl
  rw [this,q2]
 rw [he]
 exact ⟨q1,q3⟩
theorem Ot.toY {Mo:Ml} (h:Ot S r (mm Mo) m1 Po w1 v) {id:Nat} {ms:List zal} {xs:List zdt} (hM:mm Mo id=xmR xs) (hc:CpM Po tg ms ms.length xs):Ot S r (mm ((id,yR (yOf xs))::Mo)) m1 (fun b o=>Po b o∧¬ False) w1 v:=by
 have hY:=hc.y
 refine h.recode (fun _=>False) dYM cYM (yOf xs) hM (by rw [hY.len,hc.len]) (fun _ _=>rfl) fun W hW i y y' j c' h1 h2 h3=>?_
 obtain ⟨hi1,hy⟩:=zga (d:=dXM) h1
 obtain ⟨hi2,hy'⟩:=zga (d:=dYM) h2
 obtain ⟨q1,v',q2,q3⟩:=hc.q i (by rw [← hc.len];exact hi1)
 rw [hy] at q2
 have he:y'=⟨y.owner,v'⟩:=by
  rw [yOf,List.getElem?_map,h1] at h2
  cases h2
  show zeK.mk y.owner (match y.wait with | .inl v=>v | .inr _=>zle)=_
  rw [q2]
 subst he
 rcases j with _ | _ | j
 ·exact ⟨_,rfl,fun u hu=>by cases h3;exact hu⟩
 ·refine ⟨_,rfl,fun u hu=>?_⟩
  cases h3
  rw [q2] at hu
  exact hu
 ·cases h3
theorem Ot.pv_sub {M:Mem} {Po':Nat→Obj→Prop} (h:Ot S r M m1 Po w1 v) (he:∀ b o,Po b o↔Po' b o):Ot S r M m1 Po' w1 v:=by
 have:Po=Po':=funext fun b=>funext fun o=>propext (he b o)
 rwa [← this]
theorem CpC.w {Pv Pv':Nat→Obj→Prop} {cs:List zY} {i:Nat} {xs:List zcW} (h:CpC Pv tg cs i xs) (h1:∀ b o,Pv b o→tg b % 4≠3→Pv' b o):CpC Pv' tg cs i xs:=
 ⟨h.le,h.len,fun k hk=>(h.q k hk).mono fun b o hg hp=>⟨h1 b o hp (by omega),by omega⟩⟩
theorem CpM.w {Pv Pv':Nat→Obj→Prop} {ms:List zal} {i:Nat} {xs:List zdt} (h:CpM Pv tg ms i xs) (h1:∀ b o,Pv b o→tg b % 4=3→Pv' b o):CpM Pv' tg ms i xs:=
 ⟨h.le,h.len,fun k hk=>(h.q k hk).mono fun b o hg hp=>⟨h1 b o hp (by omega),hg⟩,h.r⟩
def m3 (a b c:Option Blk):Ml:=[(501,a),(502,b),(503,c)]
theorem zwl {a b c a':Option Blk}:mm ((502,a')::m3 a b c)=mm (m3 a a' c):=by
 funext i;simp only [m3,zI];unfold upd
 by_cases h1:i=501<;>by_cases h2:i=502<;>simp_all
theorem zv6 {a b c a':Option Blk}:mm ((503,a')::m3 a b c)=mm (m3 a b a'):=by
 funext i;simp only [m3,zI];unfold upd
 by_cases h1:i=501<;>by_cases h2:i=502<;>by_cases h3:i=503<;>simp_all
theorem zwz {a b c:Option Blk} (h1:∀ x,a=some x→∀ j,¬ x.on j) (h2:∀ x,b=some x→∀ j,¬ x.on j) (h3:∀ x,c=some x→∀ j,¬ x.on j):∀ i x,mm (m3 a b c) i=some x→∀ j,¬ x.on j:=fun i x h=>by
 simp only [m3,zI] at h;unfold upd at h
 split at h
 ·exact h1 x h
 ·split at h
  ·exact h2 x h
  ·split at h
   ·exact h3 x h
   ·cases h
end
theorem ztz {e:TypeId} {z:Nat} {α:Type} {d:α} {f:α→List C} {xs:List α}:∀ x,some (Blk.row e z d f xs)=some x→∀ j,¬ x.on j:=fun x h j=>by cases h;exact fun h=>h
theorem zt2:∀ x:Blk,none=some x→∀ j,¬ x.on j:=fun x h=>by cases h
def zcp (e:zz) (lc lm:LV) (b c:Option Blk) (Po:Nat→Obj→Prop) (S:Nat→Prop) (m1:Mp) (w1:World) (v:Value):Prop:=Ot S (.lagg [.own 501,lc,lm]) (mm (m3 (gR e) b c)) m1 Po w1 v
section
variable {e:zz} {lc lm:LV} {b c:Option Blk} {Po:Nat→Obj→Prop} {S:Nat→Prop} {m1:Mp} {w1:World} {v:Value} {tg:Nat→Nat}
theorem zcp.get (xcs:List zcW) (xms:List zdt) {lc lm:LV} {Mc Mm:Ml} {r:LV} {Mo:Ml} (hp:zsJ e r Mo Po xcs xms tg lc lm Mc Mm) (h:Ot S r (mm Mo) m1 Po w1 v):∃ b c,zcp e lc lm b c Po S m1 w1 v∧mm Mo=mm (m3 (gR e) b c)∧((∃ xs,lc=.own 502∧b=xR xs∧CpC Po tg e.chans e.chans.length xs)∨(e.chans=[]∧lc=lnC∧b=none))∧((∃ xs,lm=.own 503∧c=xmR xs∧CpM Po tg e.mus e.mus.length xs)∨(e.mus=[]∧lm=lnM∧c=none)):=by
 obtain ⟨hc,hm,rfl,rfl,sc,sm⟩:=hp
 have key:∃ b c,mm ((501,some (Blk.row 172 5 zd zH e.gs))::(Mc++Mm))=mm (m3 (gR e) b c)∧((∃ xs,lc=.own 502∧b=xR xs∧CpC Po tg e.chans e.chans.length xs)∨(e.chans=[]∧lc=lnC∧b=none))∧((∃ xs,lm=.own 503∧c=xmR xs∧CpM Po tg e.mus e.mus.length xs)∨(e.mus=[]∧lm=lnM∧c=none)):=by
  rcases sc with ⟨rfl,rfl⟩ | ⟨h1,rfl,rfl⟩<;>rcases sm with ⟨rfl,rfl⟩ | ⟨h2,rfl,rfl⟩
  ·exact ⟨_,_,rfl,.inl ⟨_,rfl,rfl,hc⟩,.inl ⟨_,rfl,rfl,hm⟩⟩
  ·exact ⟨_,none,by
     funext i;simp only [m3,gR,xR,zI,List.append_nil];unfold upd;repeat' split
     all_goals rfl,.inl ⟨_,rfl,rfl,hc⟩,.inr ⟨h2,rfl,rfl⟩⟩
  ·exact ⟨none,_,by
     funext i;simp only [m3,gR,xmR,zI,List.nil_append];unfold upd
     by_cases h1:i=501<;>by_cases h2:i=502<;>by_cases h3:i=503<;>simp_all
     all_goals rfl,.inr ⟨h1,rfl,rfl⟩,.inl ⟨_,rfl,rfl,hm⟩⟩
  ·exact ⟨none,none,by
     funext i;simp only [m3,gR,zI,List.nil_append];unfold upd;repeat' split
     all_goals rfl,.inr ⟨h1,rfl,rfl⟩,.inr ⟨h2,rfl,rfl⟩⟩
 obtain ⟨b,c,hb,h1,h2⟩:=key
 exact ⟨b,c,by unfold zcp;rw [← hb];exact h,hb,h1,h2⟩
theorem ods {a b c:LV} (h1:a.ownDat=true) (h2:b.ownDat=true) (h3:c.ownDat=true):∀ l∈[a,b,c],l.ownDat=true:=fun l hl=>by
 simp only [List.mem_cons,List.not_mem_nil,or_false] at hl
 rcases hl with rfl | rfl | rfl<;>assumption
def AtC (e:zz) (Po:Nat→Obj→Prop) (tg:Nat→Nat) (lc:LV) (b:Option Blk):Prop:=(∃ xs,lc=.own 502∧b=xR xs∧CpC Po tg e.chans e.chans.length xs)∨(e.chans=[]∧lc=lnC∧b=none)
def AtM (e:zz) (Po:Nat→Obj→Prop) (tg:Nat→Nat) (lm:LV) (c:Option Blk):Prop:=(∃ xs,lm=.own 503∧c=xmR xs∧CpM Po tg e.mus e.mus.length xs)∨(e.mus=[]∧lm=lnM∧c=none)
theorem zcp.rowC (h:zcp e lc lm b c Po S m1 w1 v) (hc:AtC e Po tg lc b):∃ b',zcp e lc lm b' c (fun b o=>Po b o∧tg b % 4=3) S m1 w1 v∧((lc=.own 502∧b'=cR e.chans)∨(e.chans=[]∧lc=lnC∧b'=none))∧(b'=none↔b=none):=by
 rcases hc with ⟨xs,rfl,rfl,hc⟩ | ⟨hz,rfl,rfl⟩
 ·have:=Ot.thawC h (id:=502) rfl hc
  rw [zwl] at this
  exact ⟨_,this.pv_sub fun b o=>by constructor<;>(rintro ⟨h1,h2⟩;exact ⟨h1,by omega⟩),.inl ⟨rfl,rfl⟩,by constructor<;>(intro h;cases h)⟩
 ·exact ⟨none,(Ot.thaw (fun b=>tg b % 4≠3) h).pv_sub fun b o=>by constructor<;>(rintro ⟨h1,h2⟩;exact ⟨h1,by omega⟩),.inr ⟨hz,rfl,rfl⟩,Iff.rfl⟩
theorem zcp.rowM (h:zcp e lc lm b c Po S m1 w1 v) (hc:AtM e Po tg lm c):∃ c',zcp e lc lm b c' (fun b o=>Po b o∧tg b % 4≠3) S m1 w1 v∧((lm=.own 503∧c'=mR e.mus)∨(e.mus=[]∧lm=lnM∧c'=none))∧(c'=none↔c=none):=by
 rcases hc with ⟨xs,rfl,rfl,hc⟩ | ⟨hz,rfl,rfl⟩
 ·have:=Ot.thawM h (id:=503) rfl hc
  rw [zv6] at this
  exact ⟨_,this,.inl ⟨rfl,rfl⟩,by constructor<;>(intro h;cases h)⟩
 ·exact ⟨none,Ot.thaw (fun b=>tg b % 4=3) h,.inr ⟨hz,rfl,rfl⟩,Iff.rfl⟩
theorem zwk (hb:b=none∨(∃ xs,b=xR xs)∨(∃ l,b=cR l)) (hc:c=none∨(∃ xs,c=xmR xs)∨(∃ l,c=mR l)∨(∃ l,c=yR l)):∀ i x,mm (m3 (gR e) b c) i=some x→∀ j,¬ x.on j:=
 zwz ztz (by rcases hb with rfl | ⟨_,rfl⟩ | ⟨_,rfl⟩<;>first | exact zt2 | exact ztz) (by rcases hc with rfl | ⟨_,rfl⟩ | ⟨_,rfl⟩ | ⟨_,rfl⟩<;>first | exact zt2 | exact ztz)
theorem zcp.datC (h:zcp e lc lm b c Po S m1 w1 v) (hc:(lc=.own 502∧b=cR e.chans)∨(e.chans=[]∧lc=lnC∧b=none)) (hm:lm=.own 503∨lm=lnM∨∃ q,lm=.dat q) (hmc:c=none∨(∃ xs,c=xmR xs)∨(∃ l,c=mR l)∨(∃ l,c=yR l)):zcp e (.dat (zy e.chans)) lm.dn none c Po S m1 w1 v:=by
 rcases hc with ⟨rfl,rfl⟩ | ⟨hz,rfl,rfl⟩
 ·have:=Ot.frz (id:=502) h rfl (ods rfl rfl (by rcases hm with rfl | rfl | ⟨q,rfl⟩<;>rfl)) (zwk (.inr (.inr ⟨_,rfl⟩)) hmc)
  rw [zwl] at this
  rcases hm with rfl | rfl | ⟨q,rfl⟩<;>exact this
 ·have:=Ot.dn h
  rw [hz]
  exact this
theorem zcp.datM (h:zcp e lc lm b c Po S m1 w1 v) (hc:(lm=.own 503∧c=mR e.mus)∨(e.mus=[]∧lm=lnM∧c=none)) (hm:lc=.own 502∨lc=lnC∨∃ q,lc=.dat q) (hmc:b=none∨(∃ xs,b=xR xs)∨(∃ l,b=cR l)):zcp e lc.dn (.dat (zm e.mus)) b none Po S m1 w1 v:=by
 rcases hc with ⟨rfl,rfl⟩ | ⟨hz,rfl,rfl⟩
 ·have:=Ot.frz (id:=503) h rfl (ods rfl (by rcases hm with rfl | rfl | ⟨q,rfl⟩<;>rfl) rfl) (zwk hmc (.inr (.inr (.inl ⟨_,rfl⟩))))
  rw [zv6] at this
  rcases hm with rfl | rfl | ⟨q,rfl⟩<;>exact this
 ·have:=Ot.dn h
  rw [hz]
  exact this
theorem zjK {a b c b' c':Option Blk} (h1:b'=none∨zJ (mm [(502,b')]) 502=zJ (mm [(502,b)]) 502∧zbt (mm [(502,b')]) 502=zbt (mm [(502,b)]) 502∧b.isSome=true) (h2:c'=none∨zJ (mm [(503,c')]) 503=zJ (mm [(503,c)]) 503∧zbt (mm [(503,c')]) 503=zbt (mm [(503,c)]) 503∧c.isSome=true) (i:Nat) (hi:(mm (m3 a b' c') i).isSome=true):(mm (m3 a b c) i).isSome=true∧zJ (mm (m3 a b' c')) i=zJ (mm (m3 a b c)) i∧zbt (mm (m3 a b' c')) i=zbt (mm (m3 a b c)) i:=by
 unfold zJ zbt at *
 simp only [m3,zI] at *
 unfold upd at *
 by_cases e1:i=501
 ·subst e1;simp_all
 ·by_cases e2:i=502
  ·subst e2;simp_all
   rcases h1 with h1 | h1
   ·subst h1;cases hi
   ·exact ⟨h1.2.2,h1.1,h1.2.1⟩
  ·by_cases e3:i=503
   ·subst e3;simp_all
    rcases h2 with h2 | h2
    ·subst h2;cases hi
    ·exact ⟨h2.2.2,h2.1,h2.2.1⟩
   ·simp_all
theorem zwt {a:Option Blk}:mm (m3 a none none)=mm [(501,a)]:=by
 funext i;simp only [m3,zI];unfold upd;repeat' split
 all_goals rfl
theorem zuz {a b:Option Blk}:mm (m3 a b none)=mm [(501,a),(502,b)]:=by
 funext i;simp only [m3,zI];unfold upd;repeat' split
 all_goals rfl
theorem zud {a c:Option Blk}:mm (m3 a none c)=mm [(501,a),(503,c)]:=by
 funext i;simp only [m3,zI];unfold upd
 by_cases h1:i=501<;>by_cases h2:i=502<;>by_cases h3:i=503<;>simp_all
 all_goals rfl
theorem zwW (h:AtM e Po tg lm c):lm=.own 503∨lm=lnM∨∃ q,lm=.dat q:=h.elim (fun ⟨_,h,_⟩=>.inl h) fun h=>.inr (.inl h.2.1)
theorem zwM (h:AtC e Po tg lc b):lc=.own 502∨lc=lnC∨∃ q,lc=.dat q:=h.elim (fun ⟨_,h,_⟩=>.inl h) fun h=>.inr (.inl h.2.1)
theorem zwC (h:AtM e Po tg lm c):c=none∨(∃ xs,c=xmR xs)∨(∃ l,c=mR l)∨(∃ l,c=yR l):=h.elim (fun ⟨xs,_,h,_⟩=>.inr (.inl ⟨xs,h⟩)) fun h=>.inl h.2.2
theorem zxb (h:AtC e Po tg lc b):b=none∨(∃ xs,b=xR xs)∨(∃ l,b=cR l):=h.elim (fun ⟨xs,_,h,_⟩=>.inr (.inl ⟨xs,h⟩)) fun h=>.inl h.2.2
theorem AtM.w {Po':Nat→Obj→Prop} (h:AtM e Po tg lm c) (h1:∀ b o,Po b o→tg b % 4=3→Po' b o):AtM e Po' tg lm c:=h.imp (fun ⟨xs,e1,e2,e3⟩=>⟨xs,e1,e2,e3.w h1⟩) id
theorem AtC.w {Po':Nat→Obj→Prop} (h:AtC e Po tg lc b) (h1:∀ b o,Po b o→tg b % 4≠3→Po' b o):AtC e Po' tg lc b:=h.imp (fun ⟨xs,e1,e2,e3⟩=>⟨xs,e1,e2,e3.w h1⟩) id
theorem zcp.noC (h:zcp e lc lm b c Po S m1 w1 v) (hc:AtC e Po tg lc b) (hm:AtM e Po tg lm c):zcp e (.dat (zy e.chans)) lm.dn none c (fun b o=>Po b o∧tg b % 4=3) S m1 w1 v∧(lm.dn=.dat (zm e.mus)∧c=none∨lm.dn=lm∧AtM e (fun b o=>Po b o∧tg b % 4=3) tg lm c):=by
 obtain ⟨b',h1,hc1,_⟩:=h.rowC hc
 refine ⟨h1.datC hc1 (zwW hm) (zwC hm),?_⟩
 have hm1:=hm.w (Po':=fun b o=>Po b o∧tg b % 4=3) fun b o h1 h2=>⟨h1,h2⟩
 rcases hm1 with ⟨xs,rfl,rfl,h3⟩ | ⟨hz,rfl,rfl⟩
 ·exact .inr ⟨rfl,.inl ⟨xs,rfl,rfl,h3⟩⟩
 ·exact .inl ⟨by rw [hz];rfl,rfl⟩
theorem zcp.noM (h:zcp e lc lm b c Po S m1 w1 v) (hc:AtC e Po tg lc b) (hm:AtM e Po tg lm c):zcp e lc.dn (.dat (zm e.mus)) b none (fun b o=>Po b o∧tg b % 4≠3) S m1 w1 v∧(lc.dn=.dat (zy e.chans)∧b=none∨lc.dn=lc∧AtC e (fun b o=>Po b o∧tg b % 4≠3) tg lc b):=by
 obtain ⟨c',h1,hm1,_⟩:=h.rowM hm
 refine ⟨h1.datM hm1 (zwM hc) (zxb hc),?_⟩
 have hc1:=hc.w (Po':=fun b o=>Po b o∧tg b % 4≠3) fun b o h1 h2=>⟨h1,h2⟩
 rcases hc1 with ⟨xs,rfl,rfl,h3⟩ | ⟨hz,rfl,rfl⟩
 ·exact .inr ⟨rfl,.inl ⟨xs,rfl,rfl,h3⟩⟩
 ·exact .inl ⟨by rw [hz];rfl,rfl⟩
end
theorem zcK (e:zz) (hL:zp e 1099511627776) (hg0:0<e.gs.length):CtG Tryz.prog 154 [.dagg (zad e)] [] zip (fun r Mo Po=>r=.lagg [.own 501,.dat (zy e.chans),.dat (zm e.mus)]∧Mo=[(501,gR e)]):=by
 refine zfC (zcV e hL hg0) ?_
 rintro S r Mo m1 Po w1 v ho ⟨xcs,xms,tg,lc,lm,Mc,Mm,hp⟩
 obtain ⟨b,c,h,hmm,hc,hm⟩:=zcp.get (tg:=tg) _ _ hp ho
 obtain ⟨h1,h2⟩:=h.noC hc hm
 have hfin:∃ Po',(∀ b o,Po' b o→Po b o)∧zcp e (.dat (zy e.chans)) (.dat (zm e.mus)) none none Po' S m1 w1 v:=by
  rcases h2 with ⟨h2,rfl⟩ | ⟨h2,h3⟩
  ·rw [h2] at h1;exact ⟨_,fun b o h=>h.1,h1⟩
  ·rw [h2] at h1
   obtain ⟨c',h4,h5,_⟩:=h1.rowM h3
   exact ⟨_,fun b o h=>h.1.1,h4.datM h5 (.inr (.inr ⟨_,rfl⟩)) (.inl rfl)⟩
 obtain ⟨Po',hs,hf⟩:=hfin
 unfold zcp at hf
 refine ⟨_,[(501,gR e)],Po',⟨rfl,rfl⟩,by rw [← zwt];exact hf,hs,fun i hi=>?_⟩
 rw [← zwt] at hi ⊢
 rw [hmm]
 exact zjK (.inl rfl) (.inl rfl) i hi
theorem zhb (e:zz) (hL:zp e 1099511627776) (hg0:0<e.gs.length) (hz:e.chans≠[]):CtG Tryz.prog 154 [.dagg (zad e)] [] zip (fun r Mo Po=>r=.lagg [.own 501,.own 502,.dat (zm e.mus)]∧Mo=[(501,gR e),(502,cR e.chans)]):=by
 refine zfC (zcV e hL hg0) ?_
 rintro S r Mo m1 Po w1 v ho ⟨xcs,xms,tg,lc,lm,Mc,Mm,hp⟩
 obtain ⟨b,c,h,hmm,hc,hm⟩:=zcp.get (tg:=tg) _ _ hp ho
 obtain ⟨h1,h2⟩:=h.noM hc hm
 rcases hc with ⟨xs,rfl,rfl,h3⟩ | ⟨h3,_⟩
 ·obtain ⟨b',h4,h5,_⟩:=zcp.rowC (tg:=tg) h1 (.inl ⟨xs,rfl,rfl,h3.w fun b o h1 h2=>⟨h1,h2⟩⟩)
  rcases h5 with ⟨_,rfl⟩ | ⟨h5,_⟩
  ·unfold zcp at h4
   refine ⟨_,[(501,gR e),(502,cR e.chans)],fun b o=>(Po b o∧tg b % 4≠3)∧tg b % 4=3,⟨rfl,rfl⟩,by rw [← zuz];exact h4,fun b o h=>h.1.1,fun i hi=>?_⟩
   rw [← zuz] at hi ⊢
   rw [hmm]
   exact zjK (b:=xR xs) (b':=cR e.chans) (.inr ⟨congrArg some h3.len.symm,rfl,rfl⟩) (.inl rfl) i hi
  ·exact absurd h5 hz
 ·exact absurd h3 hz
theorem zl7 (e:zz) (hL:zp e 1099511627776) (hg0:0<e.gs.length) (hz:e.mus≠[]):CtG Tryz.prog 154 [.dagg (zad e)] [] zip (fun r Mo Po=>r=.lagg [.own 501,.dat (zy e.chans),.own 503]∧Mo=[(501,gR e),(503,mR e.mus)]):=by
 refine zfC (zcV e hL hg0) ?_
 rintro S r Mo m1 Po w1 v ho ⟨xcs,xms,tg,lc,lm,Mc,Mm,hp⟩
 obtain ⟨b,c,h,hmm,hc,hm⟩:=zcp.get (tg:=tg) _ _ hp ho
 obtain ⟨h1,h2⟩:=h.noC hc hm
 rcases hm with ⟨xs,rfl,rfl,h3⟩ | ⟨h3,_⟩
 ·obtain ⟨b',h4,h5,_⟩:=zcp.rowM (tg:=tg) h1 (.inl ⟨xs,rfl,rfl,h3.w fun b o h1 h2=>⟨h1,h2⟩⟩)
  rcases h5 with ⟨_,rfl⟩ | ⟨h5,_⟩
  ·unfold zcp at h4
   refine ⟨_,[(501,gR e),(503,mR e.mus)],fun b o=>(Po b o∧tg b % 4=3)∧tg b % 4≠3,⟨rfl,rfl⟩,by rw [← zud];exact h4,fun b o h=>h.1.1,fun i hi=>?_⟩
   rw [← zud] at hi ⊢
   rw [hmm]
   exact zjK (c:=xmR xs) (c':=mR e.mus) (.inl rfl) (.inr ⟨congrArg some h3.len.symm,rfl,rfl⟩) i hi
  ·exact absurd h5 hz
 ·exact absurd h3 hz
theorem ziM (e:zz) (hL:zp e 1099511627776) (hg0:0<e.gs.length) (hz:e.chans≠[]):CtG Tryz.prog 154 [.dagg (zad e)] [] zip (fun r Mo Po=>∃ xs tg,r=.lagg [.own 501,.own 502,.dat (zm e.mus)]∧Mo=[(501,gR e),(502,xR xs)]∧CpC Po tg e.chans e.chans.length xs):=by
 refine zfC (zcV e hL hg0) ?_
 rintro S r Mo m1 Po w1 v ho ⟨xcs,xms,tg,lc,lm,Mc,Mm,hp⟩
 obtain ⟨b,c,h,hmm,hc,hm⟩:=zcp.get (tg:=tg) _ _ hp ho
 obtain ⟨h1,h2⟩:=h.noM hc hm
 rcases hc with ⟨xs,rfl,rfl,h3⟩ | ⟨h3,_⟩
 ·unfold zcp at h1
  refine ⟨_,[(501,gR e),(502,xR xs)],fun b o=>Po b o∧tg b % 4≠3,⟨xs,tg,rfl,rfl,h3.w fun b o h1 h2=>⟨h1,h2⟩⟩,by rw [← zuz];exact h1,fun b o h=>h.1,fun i hi=>?_⟩
  rw [← zuz] at hi ⊢
  rw [hmm]
  exact zjK (b:=xR xs) (b':=xR xs) (.inr ⟨rfl,rfl,rfl⟩) (.inl rfl) i hi
 ·exact absurd h3 hz
theorem zqm (e:zz) (hL:zp e 1099511627776) (hg0:0<e.gs.length) (hz:e.mus≠[]):CtG Tryz.prog 154 [.dagg (zad e)] [] zip (fun r Mo Po=>∃ ys tg,r=.lagg [.own 501,.dat (zy e.chans),.own 503]∧Mo=[(501,gR e),(503,yR ys)]∧CpY Po tg e.mus ys):=by
 refine zfC (zcV e hL hg0) ?_
 rintro S r Mo m1 Po w1 v ho ⟨xcs,xms,tg,lc,lm,Mc,Mm,hp⟩
 obtain ⟨b,c,h,hmm,hc,hm⟩:=zcp.get (tg:=tg) _ _ hp ho
 obtain ⟨h1,h2⟩:=h.noC hc hm
 rcases hm with ⟨xs,rfl,rfl,h3⟩ | ⟨h3,_⟩
 ·have h4:=h3.w (Pv':=fun b o=>Po b o∧tg b % 4=3) fun b o h1 h2=>⟨h1,h2⟩
  have h5:=Ot.toY h1 (id:=503) rfl h4
  rw [zv6] at h5
  refine ⟨_,[(501,gR e),(503,yR (yOf xs))],fun b o=>(Po b o∧tg b % 4=3)∧¬ False,⟨_,tg,rfl,rfl,h4.y.up fun b o h=>⟨h,id⟩⟩,by rw [← zud];exact h5,fun b o h=>h.1.1,fun i hi=>?_⟩
  rw [← zud] at hi ⊢
  rw [hmm]
  exact zjK (c:=xmR xs) (c':=yR (yOf xs)) (.inl rfl) (.inr ⟨congrArg some (h4.y.len.trans h3.len.symm),rfl,rfl⟩) i hi
 ·exact absurd h3 hz
theorem zf7 {Pre:(Nat→Obj→Prop)→Prop} {args:List LV} {Mi:Ml} {e1:zz} (h:CtG Tryz.prog 256 args Mi Pre (fun r Mo Po=>r=.tup []∧∃ xcs' tg',Mo=mXc e1 xcs'∧CpC Po tg' e1.chans e1.chans.length xcs')):CtG Tryz.prog 256 args Mi Pre (fun r Mo Po=>r=.tup []∧Mo=mEc e1):=by
 refine zfC h ?_
 rintro S r Mo m1 Po w1 v ho ⟨rfl,xs,tg',rfl,hc⟩
 have h1:=Ot.thawC ho (id:=1001) rfl hc
 have he:mm ((1001,cR e1.chans)::mXc e1 xs)=mm (mEc e1):=by
  funext i;simp only [mXc,mEc,cR,zI];unfold upd
  by_cases h1:i=1000<;>by_cases h2:i=1001<;>simp_all
 rw [he] at h1
 refine ⟨_,_,_,⟨rfl,rfl⟩,h1,fun b o h=>h.1,fun i hi=>?_⟩
 simp only [mXc,mEc,zI] at hi ⊢
 unfold zJ zbt
 unfold upd at hi ⊢
 by_cases h1:i=1000
 ·subst h1;exact ⟨rfl,rfl,rfl⟩
 ·by_cases h2:i=1001
  ·subst h2
   exact ⟨rfl,by show some _=some _;rw [hc.len],rfl⟩
  ·simp_all
theorem zne {Pre:(Nat→Obj→Prop)→Prop} {args:List LV} {Mi:Ml} {e1:zz} (h:CtG Tryz.prog 256 args Mi Pre (fun r Mo Po=>r=.tup []∧∃ xcs' tg',Mo=mXm e1 xcs'∧CpY Po tg' e1.mus xcs')):CtG Tryz.prog 256 args Mi Pre (fun r Mo Po=>r=.tup []∧Mo=mEm e1):=by
 refine zfC h ?_
 rintro S r Mo m1 Po w1 v ho ⟨rfl,xs,tg',rfl,hc⟩
 have h1:=Ot.thawY ho (id:=1002) rfl hc
 have he:mm ((1002,mR e1.mus)::mXm e1 xs)=mm (mEm e1):=by
  funext i;simp only [mXm,mEm,mR,zI];unfold upd
  by_cases h1:i=1000<;>by_cases h2:i=1002<;>simp_all
 rw [he] at h1
 refine ⟨_,_,_,⟨rfl,rfl⟩,h1,fun b o h=>h.1,fun i hi=>?_⟩
 simp only [mXm,mEm,zI] at hi ⊢
 unfold zJ zbt
 unfold upd at hi ⊢
 by_cases h1:i=1000
 ·subst h1;exact ⟨rfl,rfl,rfl⟩
 ·by_cases h2:i=1002
  ·subst h2
   exact ⟨rfl,by show some _=some _;rw [hc.len],rfl⟩
  ·simp_all
open Go.RowKit
set_option linter.unusedVariables false
set_option linter.unusedSimpArgs false
set_option maxRecDepth 100000
section
variable {P:Program}
theorem zlO {f:FuncId} {args args1:List LV} {Mi:Ml} {Pre:(Nat→Obj→Prop)→Prop} {r:LV} (hc:Con P f args1 r) (hr:∀ {S1:Nat→Prop} {M1:Mem} {m m1:Mp} {w:World} {v:Value},R3 (fun _=>False) M0 m w v r→R3 S1 M1 m1 w v r) (hl1:args1.length=args.length)
 (ha:∀ S Pi w m,(∀ b o,Pi b o→w.heap[b]? = some o∧¬ S b)→zfZ (zd2 S Pi) (mm Mi) m w→Pre Pi→∀ (j:Nat) v l l1,args[j]? = some l→args1[j]? = some l1→R2 (zd2 S Pi) (mm Mi) m w v l→R2 (fun _=>False) M0 m w v l1):CtG P f args Mi Pre (fun r' Mo Po=>r'=r∧Mo=Mi∧Pre Po):=by
 refine ⟨hc.1,fun S Pi w m vs hS hPi hM hl hvs hpre=>Calls.mono (hc.2 (fun _=>False) w m vs (fun k h=>h.elim) (by rw [hl,hl1]) fun j v l hv hlj=>?_) ?_⟩
 ·have hlt:=(List.getElem?_eq_some_iff.1 hv).1
  rw [hl] at hlt
  have haj:=List.getElem?_eq_getElem hlt
  exact ha S Pi w m hPi hM hpre j v _ l haj hlj (hvs j v _ hv haj)
 rintro en w1 ⟨v,rfl,hv,hbel⟩
 have hsame:∀ k,k<w.heap.size→w1.heap[k]? = w.heap[k]?:=hbel.block
 have hmv:Mv (zd2 S Pi) (mm Mi) m w (mm Mi) m w1:=⟨⟨hbel.size,fun k hk _=>hsame k hk⟩,fun k hk _=>hk⟩
 have hk:∀ id,zdK (mm Mi) m (mm Mi) m id:=fun id hs=>⟨hs,rfl,rfl,rfl,rfl,rfl⟩
 refine ⟨v,r,Mi,m,Pi,rfl,⟨rfl,rfl,hpre⟩,hr hv,⟨fun id b hb=>⟨hmv.blk rfl rfl rfl (hsame _ (hM.lt (by rw [hb];rfl))) (fun i _=>hk i) (hM.blk id b hb).1,(hM.blk id b hb).2⟩,hM.inj,hM.out⟩,fun b o hp=>⟨?_,.inr (.inr ⟨o,hp⟩),(hPi b o hp).2⟩,fun i hi=>.inr (.inl ⟨i,hi,rfl⟩),fun i _ _=>⟨rfl,rfl,rfl,rfl,rfl⟩,⟨hbel.size,fun k hk _=>hsame k hk⟩,hbel.os,hbel.tape,hbel.output⟩
 rw [hsame b (Array.getElem?_eq_some_iff.1 (hPi b o hp).1).1]
 exact (hPi b o hp).1
theorem zkv {b:Bool} {S1:Nat→Prop} {M1:Mem} {m m1:Mp} {w:World} {v:Value} (h:R3 (fun _=>False) M0 m w v (.dat (.bool b))):R3 S1 M1 m1 w v (.dat (.bool b)):=by
 have h:v=.bool b:=zft h
 subst h;exact Rf.bool b
theorem zst {α:Type} {d:α} {f:α→List C} {z:Nat} {S1:Nat→Prop} {M1:Mem} {m m1:Mp} {w:World} {v:Value} (h:R3 (fun _=>False) M0 m w v (.dat (.sl z d f ([]:List α)))):R3 S1 M1 m1 w v (.dat (.sl z d f ([]:List α))):=by
 have h:Rf (Own (fun _=>False) M0 m) w v (.sl z d f []):=h
 show Rf _ w v (.sl z d f [])
 cases h with
 | nil A c z d f=>exact .nil A c z d f
 | row b o c z n d f xs us hn hne=>exact absurd hne (Nat.lt_irrefl 0)
theorem zok {e:zz} {xs:List zcW} {tg:Nat→Nat} {cs2:List C}:∀ S Pi w m,(∀ b o,Pi b o→w.heap[b]? = some o∧¬ S b)→zfZ (zd2 S Pi) (mm (mXc e xs)) m w→CpC Pi tg e.chans e.chans.length xs→∀ (j:Nat) v l l1,[hEc (zm e.mus),.dagg cs2][j]? = some l→[LV.dagg (zad e),.dagg cs2][j]? = some l1→R2 (zd2 S Pi) (mm (mXc e xs)) m w v l→R2 (fun _=>False) M0 m w v l1:=by
 intro S Pi w m hPi hM hc j v l l1 hl hl1 hr
 have hno:∀ k,¬ Own (fun _=>False) M0 m k:=fun k h=>h.elim id fun ⟨_,h,_⟩=>by cases h
 rcases j with _ | _ | j
 ·cases hl;cases hl1
  obtain ⟨us,rfl,hus,hd⟩:=hr
  refine ⟨us,rfl,hus,fun j u c hu hcj=>?_⟩
  rcases j with _ | _ | _ | j
  ·cases hcj
   have h1:=(hd 0 u (.own 1000) hu rfl).1.2 e.gs.length rfl
   rw [h1]
   exact zqp (hM.blk 1000 _ rfl).1 (hno _) fun k hk=>absurd hk (hno k)
  ·cases hcj
   have h1:=(hd 1 u (.own 1001) hu rfl).1.2 xs.length rfl
   rw [h1]
   have hrow:zjn (fun _=>False) M0 m w 1001 191 5 zae e.chans:=by
    refine zjn.recode (hM.blk 1001 _ rfl).1 hc.len.symm (fun _ _=>rfl) fun i y y' j c' h1 h2 h3=>?_
    obtain ⟨hi1,hy⟩:=zga (d:=dXC) h1
    obtain ⟨hi2,hy'⟩:=zga (d:=zg) h2
    obtain ⟨q1,q2,q3,q4,q5⟩:=hc.q i hi2
    rw [hy,hy'] at q1 q2 q3 q4 q5
    have hP:∀ g:Nat→Prop,∀ b o,g b→Pi b o→w.heap[b]? = some o∧¬ Own (fun _=>False) M0 m b:=fun g b o hb hp=>⟨(hPi b o hp).1,hno b⟩
    rcases j with _ | _ | _ | _ | _ | j
    ·exact ⟨_,rfl,fun u hu=>by cases h3;rw [← q1];exact hu.sub fun k hk=>absurd hk (hno k)⟩
    ·refine ⟨_,rfl,fun u hu=>?_⟩
     cases h3;rw [zed hu];exact q3.rf (0:Int) (hP _) (by decide) (fun _ _=>rfl)
    ·refine ⟨_,rfl,fun u hu=>?_⟩
     cases h3;rw [zed hu];exact q4.rf zi (hP _) (by decide) (fun _ _=>rfl)
    ·refine ⟨_,rfl,fun u hu=>?_⟩
     cases h3;rw [zed hu];exact q5.rf zi (hP _) (by decide) (fun _ _=>rfl)
    ·exact ⟨_,rfl,fun u hu=>by cases h3;rw [← q2];exact hu.sub fun k hk=>absurd hk (hno k)⟩
    ·cases h3
   have:=zqp (S1:=Own (fun _=>False) M0 m) (d:=zg) hrow (hno _) fun k hk=>absurd hk (hno k)
   rw [← hc.len] at this
   exact this
  ·cases hcj
   exact (hd 2 u (.dat (zm e.mus)) hu rfl).1.sub fun k hk=>absurd hk (hno k)
  ·cases hcj
 ·cases hl;cases hl1
  obtain ⟨us,rfl,hus,hd⟩:=hr
  exact ⟨us,rfl,hus,fun j u c hu hcj=>(hd j u c hu hcj).sub fun k hk=>absurd hk (hno k)⟩
 ·cases hl
end
theorem zj0 {p:zn} {e:zz} (h:Inv p e (fun _=>False)) {n:Int} (hnr:0≤n∧n<e.gs.length) (hs:(e.gs.getD n.toNat zd).state=1) (hwc:zgG p e n) (hmf:∀ i,i<(zw p (e.gs.getD n.toNat zd) n).length→((zw p (e.gs.getD n.toNat zd) n).getD i zq).mutex=false) (hz:e.chans=[]):zw p (e.gs.getD n.toNat zd) n=[]:=by
 have hJ:=h.wait0 hnr hs hwc
 by_cases hl:0<(zw p (e.gs.getD n.toNat zd) n).length
 ·obtain ⟨_,hcan⟩:=hJ.here hl
  unfold zeD at hcan
  rw [if_neg (by rw [hmf 0 hl];decide)] at hcan
  have h1:=hcan.1
  have h2:(zaP (zw p (e.gs.getD n.toNat zd) n) (setG e n {e.gs.getD n.toNat zd with state:=2}) 0).chans=[]:=hz
  rw [h2] at h1
  simp only [List.length_nil] at h1
  omega
 ·exact List.length_eq_zero_iff.1 (by omega)
set_option maxHeartbeats 16000000 in
theorem zf9 (c1 c2:C) (p:zn) (e:zz) (n:Int) (hL:zp e 1099511620000) (h:Inv p e (fun _=>False)) (hnr:0≤n∧n<e.gs.length) (hs:(e.gs.getD n.toNat zd).state=1) (hpl0:zw p (e.gs.getD n.toNat zd) n=[]):Ct Tryz.prog 256 [.dagg (zQ p),hEg c1 c2,.dat (.int .i64 n)] (mEg e) (zag (.tup []) (mEg (waitE p e n))):=by
 have ha:=h.alive hnr (.inl hs)
 have hpl:Con Tryz.prog 195 [.dagg (zQ p),.dagg (zH ((e.gs.set n.toNat {e.gs.getD n.toNat zd with state:=2}).getD n.toNat zd)),.dat (.int .i64 n)] (.dat (zau ([]:List zr))):=by
  rw [zF (by omega),← hpl0]
  exact zd8 p {e.gs.getD n.toNat zd with state:=2} n h.prog ((ha.state 2).head (.inr rfl))
 have hln:(e.gs.set n.toNat {e.gs.getD n.toNat zd with state:=2}).length=e.gs.length:=List.length_set
 have hE1:waitE p e n=setG e n {e.gs.getD n.toNat zd with state:=2}:=by
  unfold waitE;rw [hpl0];rfl
 rw [hE1]
 refine zD (rs:=[]) za Tryz.func256 rfl rfl rfl (Nat.le_of_ble_eq_true rfl) rfl fun ho hm x hn hlent=>?_
 refine zaI hn za {e.gs.getD n.toNat zd with state:=2} rfl ?_ rfl rfl rfl rfl rfl rfl (Nat.le_of_ble_eq_true rfl) rfl ?_;(first | (exact qS) | decide | (simp only [List.length_replicate,List.length_set];decide))
 refine qD hn za zu [.r (.dat (zau ([]:List zr)))] rfl rfl ?_ ?_
 ·(try refine qM ?_);repeat' (first | exact trivial | assumption | assumption | omega | exact qV | refine And.intro ?_ ?_)
  all_goals (rw [List.length_set];omega)
 refine zM hn za rfl ?_ (fun (i:Nat) wT wM=>((22,.dat (.int .i64 i))::wT,wM)) (fun i=>i=0) (fun i=>0) 0 rfl (zt [] ?_ ?_ rfl) ?_
 ·exact qS
 ·exact qL
 ·exact qL
 rintro i rfl
 refine ze hn za rfl qS ?_ ?_<;>intro hc<;>first | (replace hc:=qC2 hc;try exact qX) | exact qF2 hc | skip
 ·exfalso;simp at hc
 refine zf hn za rfl ?_ ⟨_,.tup [],mEg (setG e n {e.gs.getD n.toNat zd with state:=2}),[],rfl,rfl,⟨rfl,trivial⟩,rfl,rfl,rfl,rfl,rfl⟩
 exact qS
set_option maxHeartbeats 16000000 in
theorem zj3 (p:zn) (e:zz) (n c:Int) (hL:zp e 1099511610000) (h:Inv p e (fun _=>False)) (hnr:0≤n∧n<e.gs.length) (hs:(e.gs.getD n.toNat zd).state=1) (hop:(zb p (e.gs.getD n.toNat zd)).op=11) (hl0:zX e (p.sels.getD (zb p (e.gs.getD n.toNat zd)).a.toNat zh).cases=[]) (hel:(p.sels.getD (zb p (e.gs.getD n.toNat zd)).a.toNat zh).els=-1) (hwc:zgG p e n) (hmf:∀ i,i<(zw p (e.gs.getD n.toNat zd) n).length→((zw p (e.gs.getD n.toNat zd) n).getD i zq).mutex=false) (xs:List zcW) (tg:Nat→Nat) :
 CtG Tryz.prog 254 [.dagg (zQ p),hEc (zm e.mus),.dat (.int .i64 n),.dat (.int .i64 c)] (mXc e xs) (fun Pi=>CpC Pi tg e.chans e.chans.length xs) (fun r Mo Po=>r=.dat (.int .i64 (-3))∧Mo=mEc (waitE p e n)):=by
 have ha:=h.alive hnr (.inl hs)
 have hgh:=ha.head (.inl hs)
 have hi:=zaT h.prog ha.pc
 obtain ⟨hsel,h4,h5⟩:=hi.sel hop
 have hin:=hi.ins
 rw [zap] at hin
 have hia:0≤(zb p (e.gs.getD n.toNat zd)).a∧(zb p (e.gs.getD n.toNat zd)).a<p.sels.length:=by omega
 have hgl:=hL.gor hnr
 have hat0:=con_at_impl.instr p (e.gs.getD n.toNat zd) hgh
 have hrc:=zio e (p.sels.getD (zb p (e.gs.getD n.toNat zd)).a.toNat zh) (by omega)
 rw [hl0] at hrc
 have hrx:=zlO (Mi:=mXc e xs) (args:=[hEc (zm e.mus),.dagg (zey (p.sels.getD (zb p (e.gs.getD n.toNat zd)).a.toNat zh))]) hrc zst rfl (zok (tg:=tg))
 refine zgs (rs:=[(.tmp 8,3)]) za Tryz.func254 rfl rfl rfl (Nat.le_of_ble_eq_true rfl) rfl fun ho hm x Pi hn hlent hPi hpre=>?_
 have hcp:CpC (z7 x) tg e.chans e.chans.length xs:=hpre.up hPi
 refine qK hn za rfl rfl (by assumption) ?_
 refine zdU hn za rfl ?_ rfl (zh6 hn rfl rfl rfl rfl (i:=1) rfl zrk ?_)
 ·exact qS
 refine zbQ hn za [true,false] (z7 _) (fun _ _ h=>h) ?_ hrx rfl ?_ rfl rfl (by repeat' (first | exact trivial | refine And.intro rfl ?_)) rfl rfl (fun i hi=>zaL rfl hi) ?_
 ·exact hcp
 ·exact qS
 rintro r Mo Po ⟨rfl,rfl,hcp1⟩
 refine ⟨rfl,fun id hi=>.inl hi,fun id hi=>hi.elim,fun x1 hx1 _ hPo _=>?_⟩
 have hcp2:CpC (z7 x1) tg e.chans e.chans.length xs:=hcp1.up hPo
 have hn:=hx1.n.trans hn
 refine ze hn za rfl qS ?_ ?_<;>intro hc<;>first | (replace hc:=qC2 hc;try exact qX) | exact qF2 hc | skip
 ·exfalso;simp at hc
 refine ze hn za rfl qS ?_ ?_<;>intro hc<;>first | (replace hc:=qC2 hc;try exact qX) | exact qF2 hc | skip
 refine zbQ hn za [false,true,false] (z7 _) (fun _ _ h=>h) ?_ (zf7 (zfO (zm e.mus) p e n (hL.le (by omega)) h hnr hs hwc hmf xs tg)) rfl ?_ rfl rfl (by repeat' (first | exact trivial | refine And.intro rfl ?_)) rfl rfl (fun i hi=>zaL rfl hi) ?_
 ·exact hcp2
 ·exact qS
 rintro r Mo Po ⟨rfl,rfl⟩
 refine ⟨rfl,fun id hi=>.inl (zaX rfl rfl hi),fun id hi=>zbS rfl rfl hi,fun x2 hx2 _ hPo2 _=>?_⟩
 have hn:=hx2.n.trans hn
 refine zf hn za rfl ?_ ⟨_,.dat (.int .i64 (-3)),mEc (waitE p e n),[],fun _ _=>False,rfl,rfl,⟨rfl,rfl,trivial⟩,rfl,rfl,rfl,fun _ _ h=>h.elim,rfl,rfl⟩
 exact qS
set_option maxHeartbeats 16000000 in
theorem zkT (p:zn) (e:zz) (n c:Int) (hL:zp e 1099511610000) (h:Inv p e (fun _=>False)) (hnr:0≤n∧n<e.gs.length) (hs:(e.gs.getD n.toNat zd).state=1) (hop:(zb p (e.gs.getD n.toNat zd)).op=11) (hl0:zX e (p.sels.getD (zb p (e.gs.getD n.toNat zd)).a.toNat zh).cases=[]) (hel:(p.sels.getD (zb p (e.gs.getD n.toNat zd)).a.toNat zh).els=-1) (hpl0:zw p (e.gs.getD n.toNat zd) n=[]):Ct Tryz.prog 254 [.dagg (zQ p),hEg (zy e.chans) (zm e.mus),.dat (.int .i64 n),.dat (.int .i64 c)] (mEg e) (zag (.dat (.int .i64 (-3))) (mEg (waitE p e n))):=by
 have ha:=h.alive hnr (.inl hs)
 have hgh:=ha.head (.inl hs)
 have hi:=zaT h.prog ha.pc
 obtain ⟨hsel,h4,h5⟩:=hi.sel hop
 have hin:=hi.ins
 rw [zap] at hin
 have hia:0≤(zb p (e.gs.getD n.toNat zd)).a∧(zb p (e.gs.getD n.toNat zd)).a<p.sels.length:=by omega
 have hat0:=con_at_impl.instr p (e.gs.getD n.toNat zd) hgh
 have hrc:=zee e (p.sels.getD (zb p (e.gs.getD n.toNat zd)).a.toNat zh) (by omega)
 rw [hl0] at hrc
 refine zD (rs:=[(.tmp 8,3)]) za Tryz.func254 rfl rfl rfl (Nat.le_of_ble_eq_true rfl) rfl fun ho hm x hn hlent=>?_
 refine qK hn za rfl rfl (by (first | exact con_at_impl.instr _ _ (by assumption) | assumption)) ?_
 refine zdU hn za rfl ?_ rfl (zh6 hn rfl rfl rfl rfl (i:=1) rfl zrk ?_)
 ·exact qS
 refine zlm hn za [false,false] hrc rfl ?_ rfl rfl (fun _=>rfl) rfl rfl ?_
 ·exact qS
 refine ze hn za rfl qS ?_ ?_<;>intro hc<;>first | (replace hc:=qC2 hc;try exact qX) | exact qF2 hc | skip
 ·exfalso;simp at hc
 refine ze hn za rfl qS ?_ ?_<;>intro hc<;>first | (replace hc:=qC2 hc;try exact qX) | exact qF2 hc | skip
 refine zbB hn za [false,true,false] (zf9 (zy e.chans) (zm e.mus) p e n (hL.le (by omega)) h hnr hs hpl0) rfl ?_ rfl rfl (by repeat' (first | exact trivial | refine And.intro rfl ?_)) rfl (fun i hi=>(by cases hi)) (.inl rfl) (fun i hi=>zaL rfl hi) ?_;exact qS;rintro r Mo ⟨rfl,rfl⟩;refine ⟨rfl,fun id hi=>.inl (zaX rfl rfl hi),fun id hi=>zbS rfl rfl hi,?_⟩
 refine zf hn za rfl ?_ ⟨_,.dat (.int .i64 (-3)),mEg (waitE p e n),[],rfl,rfl,⟨rfl,trivial⟩,rfl,rfl,rfl,rfl,rfl⟩
 exact qS
set_option maxHeartbeats 16000000 in
theorem zk8 (c1:C) (p:zn) (e:zz) (n:Int) (i:zaD) (hL:zp e 1099511620000) (h:Inv p e (fun _=>False)) (hnr:0≤n∧n<e.gs.length) (hs:(e.gs.getD n.toNat zd).state=1) (hk:0≤i.a∧i.a<e.mus.length) (hop:i.op=12) (how:¬ ((e.mus.getD i.a.toNat zj).owner=n∨(e.mus.getD i.a.toNat zj).owner=-1)) (hwc:zgG p e n) (hmf:∀ i,i<(zw p (e.gs.getD n.toNat zd) n).length→((zw p (e.gs.getD n.toNat zd) n).getD i zq).mutex=true) (ys:List zeK) (tg:Nat→Nat) :
 CtG Tryz.prog 258 [.dagg (zQ p),hEm c1,.dat (.int .i64 n),.dagg (zc7 i)] (mXm e ys) (fun Pi=>CpY Pi tg e.mus ys) (fun r Mo Po=>r=.tup []∧Mo=mEm (waitE p e n)):=by
 refine zgs (rs:=[]) za Tryz.func258 rfl rfl rfl (Nat.le_of_ble_eq_true rfl) rfl fun ho hm x Pi hn hlent hPi hpre=>?_
 have hcp:CpY (z7 x) tg e.mus ys:=hpre.up hPi
 have hyl:=hcp.len
 have hown:=(hcp.q i.a.toNat (by omega)).1
 refine ze hn za rfl qS ?_ ?_<;>intro hc<;>first | (replace hc:=qC2 hc;try exact qX) | exact qF2 hc | skip
 refine ze hn za rfl qS ?_ ?_<;>intro hc<;>first | (replace hc:=qC2 hc;try exact qX) | exact qF2 hc | skip
 refine ze hn za rfl qS ?_ ?_<;>intro hc<;>first | (replace hc:=qC2 hc;try exact qX) | exact qF2 hc | skip
 refine zbQ hn za [false,true,false] (z7 _) (fun _ _ h=>h) ?_ (zne (zlI c1 p e n hL h hnr hs hwc hmf ys tg)) rfl ?_ rfl rfl (by repeat' (first | exact trivial | refine And.intro rfl ?_)) rfl rfl (fun i hi=>zaL rfl hi) ?_
 ·exact hcp
 ·exact qS
 rintro r Mo Po ⟨rfl,rfl⟩
 refine ⟨rfl,fun id hi=>.inl (zaX rfl rfl hi),fun id hi=>zbS rfl rfl hi,fun x2 hx2 _ hPo2 _=>?_⟩
 have hn:=hx2.n.trans hn
 refine zf hn za rfl ?_ ⟨_,.tup [],mEm (waitE p e n),[],fun _ _=>False,rfl,rfl,⟨rfl,rfl,trivial⟩,rfl,rfl,rfl,fun _ _ h=>h.elim,rfl,rfl⟩
 exact qS
open Go.RowKit
set_option linter.unusedVariables false
set_option linter.unusedSimpArgs false
set_option maxRecDepth 100000
section
variable {P:Program} {x:Cx} {R:Cx→Tl→Ml→Prop} {k:List It}
theorem zdc (ρ:List (Nat×Nat)) {d:Nat} {l l1:LV} {T0:Tl} {m0 m1 M0:Ml} (ht:LeT (rn ρ) ((d,l)::T0) ((d,l1)::T0)) (hm:LeM (rn ρ) (m0++M0) (m1++M0)) (hi:zhF (rn ρ) (zS (m1++M0))=true) (hbig:∀ i,x.lent i→rn ρ i=i) (h:Wc P x R k ((d,l1)::T0) (m1++M0)):Wc P x R k ((d,l)::T0) (m0++M0):=zsH (zqQ ρ ht hm hi hbig) h
end
theorem zbY {Mo:Ml} {ls:List LV} (h1:zjm Mo=true) (h2:zla (lk3 [LV.lagg ls]) (zS Mo)=true) {id:Nat} (h:(LV.lagg ls).on id):(mm Mo id).isSome=true:=zbS h1 h2 ⟨_,List.mem_singleton.2 rfl,h⟩
theorem zl2 {e E:zz} {k:Int} (h:E.mus=e.mus):LV.pure3 (mm (mEc E)) (.tup [hEc (zm e.mus),.dat (.int .i64 k)])=some (.tup [.dagg (zad E),.dat (.int .i64 k)]):=by rw [← h];rfl
theorem zto {e E:zz} {k:Int} (h:E.chans=e.chans):LV.pure3 (mm (mEm E)) (.tup [hEm (zy e.chans),.dat (.int .i64 k)])=some (.tup [.dagg (zad E),.dat (.int .i64 k)]):=by rw [← h];rfl
theorem zmc {e E:zz} {k:Int} (h:E.chans=e.chans) (h2:E.mus=e.mus):LV.pure3 (mm (mEg E)) (.tup [hEg (zy e.chans) (zm e.mus),.dat (.int .i64 k)])=some (.tup [.dagg (zad E),.dat (.int .i64 k)]):=by rw [← h,← h2];rfl
section
variable {p:zn} {e:zz} {n:Int}
theorem zhG (x:zaj):(throughE p e n x).mus=e.mus:=by
 unfold throughE sendE recvE wakeIf
 simp only
 repeat' split
 all_goals rfl
theorem znQ (ch:Int):∀ (l:List zo) (e:zz),(l.foldl (fun e w=>zaV p e ch w 0 false) e).mus=e.mus
 | [],e=>rfl
 | w::l,e=>(znQ ch l _).trans rfl
theorem zr5 (ch:Int):(closeE p e n ch).mus=e.mus:=by
 unfold closeE
 simp only
 repeat' split
 ·rfl
 ·rfl
 ·rw [znQ];rfl
theorem zr7 {a:zr} (h:a.mutex=false):(zbD e a).mus=e.mus:=by
 unfold zbD
 rw [if_neg (by rw [h];decide)]
 split<;>rfl
theorem zpt {a:zr} (h:a.mutex=true):(zbD e a).chans=e.chans:=by
 unfold zbD
 rw [if_pos h];rfl
theorem zo7:∀ (l:List zr) (e:zz),(∀ a∈l,a.mutex=false)→(l.foldl zbD e).mus=e.mus
 | [],e,_=>rfl
 | a::l,e,h=>(zo7 l _ fun b hb=>h b (List.mem_cons_of_mem _ hb)).trans (zr7 (h a List.mem_cons_self))
theorem zlN:∀ (l:List zr) (e:zz),(∀ a∈l,a.mutex=true)→(l.foldl zbD e).chans=e.chans
 | [],e,_=>rfl
 | a::l,e,h=>(zlN l _ fun b hb=>h b (List.mem_cons_of_mem _ hb)).trans (zpt (h a List.mem_cons_self))
theorem zqt (k:Int):(lockE e n k).chans=e.chans:=by
 unfold lockE;split<;>rfl
theorem zoT (k:Int):(unlockE e n k).chans=e.chans:=by
 unfold unlockE
 repeat' split
 all_goals rfl
theorem zg8 {g:zW} {a:zr} (h:a∈zw p g n):(a.mutex=true↔(zb p g).op=12):=by
 unfold zw at h
 split at h
 ·rename_i hc;rw [List.mem_singleton.1 h];constructor<;>intro h1<;>first | cases h1 | omega
 ·split at h
  ·rename_i hc;rw [List.mem_singleton.1 h];constructor<;>intro h1<;>first | cases h1 | omega
  ·split at h
   ·rename_i hc
    obtain ⟨k,_,hk⟩:=zcm.1 h
    unfold zcJ at hk
    split at hk
    ·cases hk
    ·rw [List.mem_singleton.1 hk];constructor<;>intro h1<;>first | cases h1 | omega
   ·split at h
    ·rename_i hc;rw [List.mem_singleton.1 h];exact ⟨fun _=>hc,fun _=>rfl⟩
    ·cases h
theorem zmm (h:(zb p (e.gs.getD n.toNat zd)).op≠12):(waitE p e n).mus=e.mus:=zo7 _ _ fun a ha=>by
 cases hm:a.mutex with
 | false=>rfl
 | true=>exact absurd ((zg8 ha).1 hm) h
theorem zqB (h:(zb p (e.gs.getD n.toNat zd)).op=12):(waitE p e n).chans=e.chans:=zlN _ _ fun a ha=>(zg8 ha).2 h
theorem zgr (h:(zb p (e.gs.getD n.toNat zd)).op≠12):∀ i,i<(zw p (e.gs.getD n.toNat zd) n).length→((zw p (e.gs.getD n.toNat zd) n).getD i zq).mutex=false:=fun i hi=>by
 cases hm:((zw p (e.gs.getD n.toNat zd) n).getD i zq).mutex with
 | false=>rfl
 | true=>exact absurd ((zg8 (za6 hi)).1 hm) h
theorem zte (h:(zb p (e.gs.getD n.toNat zd)).op=12):∀ i,i<(zw p (e.gs.getD n.toNat zd) n).length→((zw p (e.gs.getD n.toNat zd) n).getD i zq).mutex=true:=fun i hi=>(zg8 (za6 hi)).2 h
theorem zl0 {cs:List zaj} (h:¬ 0<(zX e cs).length):zX e cs=[]∧∀ k<cs.length,zP e (cs.getD k zE)=false:=by
 have h0:zX e cs=[]:=List.length_eq_zero_iff.1 (by omega)
 refine ⟨h0,fun k hk=>?_⟩
 cases hc:zP e (cs.getD k zE) with
 | false=>rfl
 | true=>
  have:(k:Int)∈zX e cs:=zcm.2 ⟨k,hk,by unfold zcP;rw [if_pos hc];exact List.mem_singleton.2 rfl⟩
  rw [h0] at this;cases this
end
set_option maxHeartbeats 16000000 in
theorem znh (c1 c2:C) (p:zn) (e:zz) (n ch:Int) (h1:(e.gs.getD n.toNat zd).regs.length≤1099511620000) (h2:(e.gs.getD n.toNat zd).trace.length≤1099511620000) (hnr:0≤n∧n<e.gs.length) (hk:ch<0):Ct Tryz.prog 257 [.dagg (zQ p),hEg c1 c2,.dat (.int .i64 n),.dat (.int .i64 ch)] (mEg e) (zag (.tup []) (mEg (closeE p e n ch))):=by
 have hov:=zbO (e.gs.getD n.toNat zd) 2 (by omega) (by omega)
 have hce:closeE p e n ch=setG e n (over (e.gs.getD n.toNat zd) 2):=by unfold closeE;simp only;rw [if_pos hk]
 rw [hce]
 refine zD (rs:=[]) za Tryz.func257 rfl rfl rfl (Nat.le_of_ble_eq_true rfl) rfl fun ho hm x hn hlent=>?_
 refine ze hn za rfl qS ?_ ?_<;>intro hc<;>first | (replace hc:=qC2 hc;try exact qX) | exact qF2 hc | skip
 refine qD hn za zu [.r (.dagg (zH (over (e.gs.getD n.toNat zd) 2))),.raw .no [(1000,some (.row 172 5 zd zH (e.gs.set n.toNat (over (e.gs.getD n.toNat zd) 2))))] none] rfl rfl ?_ ?_
 ·(try refine qM ?_);repeat' (first | exact trivial | assumption | assumption | omega | exact qV | refine And.intro ?_ ?_)
  exact zab _ hn za rfl ⟨_,_,rfl,rfl,rfl⟩ rfl rfl rfl rfl rfl (Nat.le_of_ble_eq_true rfl) rfl rfl
 refine zf hn za rfl ?_ ⟨_,.tup [],mEg (setG e n (over (e.gs.getD n.toNat zd) 2)),[],rfl,rfl,⟨rfl,trivial⟩,rfl,rfl,rfl,rfl,rfl⟩
 exact qS
section
set_option maxHeartbeats 16000000 in
theorem zuQ (p:zn) (e:zz) (n c:Int) (hL:zp e 1099511600000) (hok:zay p e=true) (hnr:0≤n∧n<e.gs.length) (hs:(e.gs.getD n.toNat zd).state=1) (hop:(zb p (e.gs.getD n.toNat zd)).op=11) (hl0:0<(zX e (p.sels.getD (zb p (e.gs.getD n.toNat zd)).a.toNat zh).cases).length):Ct Tryz.prog 218 [.dagg (zQ p),.dagg (zad e),.dat (.int .i64 n),.dat (.int .i64 c)] [] (fun r Mo=>LV.pure3 (mm Mo) r=some (.tup [.dagg (zad (doE p e n c).1),.dat (.int .i64 (doE p e n c).2)])):=by
 have h:=zaM.1 hok
 have ha:=h.alive hnr (.inl hs)
 have hgh:=ha.head (.inl hs)
 have hi:=zaT h.prog ha.pc
 have hin:=hi.ins
 rw [zap] at hin
 have hgl:=hL.gor hnr
 have hpc:=zaq h.prog ha
 have hlast:=hi.last
 have hcl:=h.cl
 have hml:=h.ml
 have hg0:0<e.gs.length:=by omega
 have hat0:=con_at_impl.instr p (e.gs.getD n.toNat zd) hgh
 obtain ⟨hsel,h4,h5⟩:=hi.sel hop
 have hia:0≤(zb p (e.gs.getD n.toNat zd)).a∧(zb p (e.gs.getD n.toNat zd)).a<p.sels.length:=by omega
 have hz:e.chans≠[]:=fun hz=>by
  have hm:=za6 (d:=(0:Int)) hl0
  obtain ⟨k,hk,hk2⟩:=zcm.1 hm
  unfold zcP at hk2
  split at hk2
  ·rename_i hcr
   rw [zP,Bool.and_eq_true,decide_eq_true_eq,hz] at hcr
   have:=hcr.1
   simp only [List.length_nil] at this
   omega
  ·cases hk2
 have hmus:(chooseE p e n c).1.mus=e.mus:=by
  unfold chooseE;simp only;rw [if_pos hl0];exact zhG _
 have hdo:doE p e n c=((chooseE p e n c).1,(chooseE p e n c).2):=by
  unfold doE;simp only;rw [if_pos hop]
 rw [hdo]
 refine zD (rs:=[(.cell 8 45,45),(.tmp 9,3)]) za Tryz.func218 rfl rfl rfl (Nat.le_of_ble_eq_true rfl) rfl fun ho hm x hn hlent=>?_
 refine zbQ hn za [false] (fun _ _=>False) (fun _ _ h=>h.elim) (fun _ _ h=>h) (zhb e (hL.le (by omega)) hg0 hz) rfl ?_ rfl rfl trivial rfl rfl (fun i hi=>by cases hi) ?_;exact qS;rintro r Mo Po ⟨rfl,rfl⟩;refine ⟨rfl,fun id hi=>.inr fun hl=>absurd ((hlent id).1 hl) Bool.false_ne_true,fun id hi=>zbY rfl rfl hi,fun x1 hx1 _ hPo _=>?_⟩;have hn:=hx1.n.trans hn;refine zdc [(1000,501),(1001,502)] (l1:=(hEc (zm e.mus))) (m1:=(mEc e)) ?_ ?_ rfl (fun i hi=>by rw [hx1.lent] at hi;exact absurd ((hlent i).1 hi) Bool.false_ne_true) ?_;exact qL;exact qL
 refine qK hn za rfl rfl (by (first | exact zC _ _ | exact con_at_impl.instr _ _ (by assumption) | assumption)) ?_
 refine ze hn za rfl qS ?_ ?_<;>intro hc<;>first | (replace hc:=qC2 hc;try exact qX) | exact qF2 hc | skip
 refine zbB hn za [false,true,false,false] (zkX p e n c (hL.le (by omega)) h hnr hs hop hl0) rfl ?_ rfl rfl (by repeat' (first | exact trivial | refine And.intro rfl ?_)) rfl (fun i hi=>(by cases hi)) (.inl rfl) (fun i hi=>zaL rfl hi) ?_;exact qS;rintro r Mo ⟨rfl,rfl⟩;refine ⟨rfl,fun id hi=>.inl (zaX rfl rfl hi),fun id hi=>hi.elim,?_⟩
 refine zf hn za rfl ?_ ⟨_,.tup [hEc (zm e.mus),.dat (.int .i64 (chooseE p e n c).2)],mEc (chooseE p e n c).1,[],rfl,rfl,⟨rfl,rfl,trivial⟩,rfl,rfl,rfl,zl2 hmus⟩
 exact qS
set_option maxHeartbeats 16000000 in
theorem zuT (p:zn) (e:zz) (n c:Int) (hL:zp e 1099511600000) (hok:zay p e=true) (hnr:0≤n∧n<e.gs.length) (hs:(e.gs.getD n.toNat zd).state=1) (hop:(zb p (e.gs.getD n.toNat zd)).op=11) (hl0:¬ 0<(zX e (p.sels.getD (zb p (e.gs.getD n.toNat zd)).a.toNat zh).cases).length) (hel:¬ (p.sels.getD (zb p (e.gs.getD n.toNat zd)).a.toNat zh).els<0):Ct Tryz.prog 218 [.dagg (zQ p),.dagg (zad e),.dat (.int .i64 n),.dat (.int .i64 c)] [] (fun r Mo=>LV.pure3 (mm Mo) r=some (.tup [.dagg (zad (doE p e n c).1),.dat (.int .i64 (doE p e n c).2)])):=by
 have h:=zaM.1 hok
 have ha:=h.alive hnr (.inl hs)
 have hgh:=ha.head (.inl hs)
 have hi:=zaT h.prog ha.pc
 have hin:=hi.ins
 rw [zap] at hin
 have hgl:=hL.gor hnr
 have hpc:=zaq h.prog ha
 have hlast:=hi.last
 have hcl:=h.cl
 have hml:=h.ml
 have hg0:0<e.gs.length:=by omega
 have hat0:=con_at_impl.instr p (e.gs.getD n.toNat zd) hgh
 obtain ⟨hsel,h4,h5⟩:=hi.sel hop
 have hia:0≤(zb p (e.gs.getD n.toNat zd)).a∧(zb p (e.gs.getD n.toNat zd)).a<p.sels.length:=by omega
 have hmus:(chooseE p e n c).1.mus=e.mus∧(chooseE p e n c).1.chans=e.chans:=by
  unfold chooseE;simp only;rw [if_neg hl0,if_neg hel];exact ⟨rfl,rfl⟩
 have hdo:doE p e n c=((chooseE p e n c).1,(chooseE p e n c).2):=by
  unfold doE;simp only;rw [if_pos hop]
 rw [hdo]
 refine zD (rs:=[(.cell 8 45,45),(.tmp 9,3)]) za Tryz.func218 rfl rfl rfl (Nat.le_of_ble_eq_true rfl) rfl fun ho hm x hn hlent=>?_
 refine zbQ hn za [false] (fun _ _=>False) (fun _ _ h=>h.elim) (fun _ _ h=>h) (zcK e (hL.le (by omega)) hg0) rfl ?_ rfl rfl trivial rfl rfl (fun i hi=>by cases hi) ?_;exact qS;rintro r Mo Po ⟨rfl,rfl⟩;refine ⟨rfl,fun id hi=>.inr fun hl=>absurd ((hlent id).1 hl) Bool.false_ne_true,fun id hi=>zbY rfl rfl hi,fun x1 hx1 _ hPo _=>?_⟩;have hn:=hx1.n.trans hn;refine zdc [(1000,501)] (l1:=(hEg (zy e.chans) (zm e.mus))) (m1:=(mEg e)) ?_ ?_ rfl (fun i hi=>by rw [hx1.lent] at hi;exact absurd ((hlent i).1 hi) Bool.false_ne_true) ?_;exact qL;exact qL
 refine qK hn za rfl rfl (by (first | exact zC _ _ | exact con_at_impl.instr _ _ (by assumption) | assumption)) ?_
 refine ze hn za rfl qS ?_ ?_<;>intro hc<;>first | (replace hc:=qC2 hc;try exact qX) | exact qF2 hc | skip
 refine zbB hn za [false,true,false,false] (zkY p e n c (hL.le (by omega)) h hnr hs hop hl0 hel) rfl ?_ rfl rfl (by repeat' (first | exact trivial | refine And.intro rfl ?_)) rfl (fun i hi=>(by cases hi)) (.inl rfl) (fun i hi=>zaL rfl hi) ?_;exact qS;rintro r Mo ⟨rfl,rfl⟩;refine ⟨rfl,fun id hi=>.inl (zaX rfl rfl hi),fun id hi=>hi.elim,?_⟩
 refine zf hn za rfl ?_ ⟨_,.tup [hEg (zy e.chans) (zm e.mus),.dat (.int .i64 (chooseE p e n c).2)],mEg (chooseE p e n c).1,[],rfl,rfl,⟨rfl,trivial⟩,rfl,rfl,rfl,zmc hmus.2 hmus.1⟩
 exact qS
set_option maxHeartbeats 16000000 in
theorem zuV (p:zn) (e:zz) (n c:Int) (hL:zp e 1099511600000) (hok:zay p e=true) (hnr:0≤n∧n<e.gs.length) (hs:(e.gs.getD n.toNat zd).state=1) (hop:(zb p (e.gs.getD n.toNat zd)).op=11) (hl0:¬ 0<(zX e (p.sels.getD (zb p (e.gs.getD n.toNat zd)).a.toNat zh).cases).length) (hel:(p.sels.getD (zb p (e.gs.getD n.toNat zd)).a.toNat zh).els<0) (hz:e.chans≠[]):Ct Tryz.prog 218 [.dagg (zQ p),.dagg (zad e),.dat (.int .i64 n),.dat (.int .i64 c)] [] (fun r Mo=>LV.pure3 (mm Mo) r=some (.tup [.dagg (zad (doE p e n c).1),.dat (.int .i64 (doE p e n c).2)])):=by
 have h:=zaM.1 hok
 have ha:=h.alive hnr (.inl hs)
 have hgh:=ha.head (.inl hs)
 have hi:=zaT h.prog ha.pc
 have hin:=hi.ins
 rw [zap] at hin
 have hgl:=hL.gor hnr
 have hpc:=zaq h.prog ha
 have hlast:=hi.last
 have hcl:=h.cl
 have hml:=h.ml
 have hg0:0<e.gs.length:=by omega
 have hat0:=con_at_impl.instr p (e.gs.getD n.toNat zd) hgh
 obtain ⟨hsel,h4,h5⟩:=hi.sel hop
 have hia:0≤(zb p (e.gs.getD n.toNat zd)).a∧(zb p (e.gs.getD n.toNat zd)).a<p.sels.length:=by omega
 obtain ⟨hl1,hl2⟩:=zl0 hl0
 have hwc:=h.waitS hnr hs hop hel hl2
 have hels:(p.sels.getD (zb p (e.gs.getD n.toNat zd)).a.toNat zh).els=-1:=by omega
 have hdo:doE p e n c=((waitE p e n),(-3)):=by
  unfold doE;simp only;rw [if_pos hop];unfold chooseE;simp only;rw [if_neg hl0,if_pos hel]
 rw [hdo]
 refine zD (rs:=[(.cell 8 45,45),(.tmp 9,3)]) za Tryz.func218 rfl rfl rfl (Nat.le_of_ble_eq_true rfl) rfl fun ho hm x hn hlent=>?_
 refine zbQ hn za [false] (fun _ _=>False) (fun _ _ h=>h.elim) (fun _ _ h=>h) (ziM e (hL.le (by omega)) hg0 hz) rfl ?_ rfl rfl trivial rfl rfl (fun i hi=>by cases hi) ?_
 ·exact qS
 rintro r Mo Po ⟨xs,tg,rfl,rfl,hcp0⟩
 refine ⟨rfl,fun id hi=>.inr fun hl=>absurd ((hlent id).1 hl) Bool.false_ne_true,fun id hi=>zbY rfl rfl hi,fun x1 hx1 _ hPo _=>?_⟩
 have hn:=hx1.n.trans hn
 have hcp:CpC (z7 x1) tg e.chans e.chans.length xs:=hcp0.up hPo
 refine zdc [(1000,501),(1001,502)] (l1:=(hEc (zm e.mus))) (m1:=(mXc e xs)) ?_ ?_ rfl (fun i hi=>by rw [hx1.lent] at hi;exact absurd ((hlent i).1 hi) Bool.false_ne_true) ?_
 ·exact qL
 ·exact qL
 refine qK hn za rfl rfl (by (first | exact zC _ _ | exact con_at_impl.instr _ _ (by assumption) | assumption)) ?_
 refine ze hn za rfl qS ?_ ?_<;>intro hc<;>first | (replace hc:=qC2 hc;try exact qX) | exact qF2 hc | skip
 refine zbQ hn za [false,true,false,false] (z7 _) (fun _ _ h=>h) ?_ (zj3 p e n c (hL.le (by omega)) h hnr hs hop hl1 hels hwc (zgr (by omega)) xs tg) rfl ?_ rfl rfl (by repeat' (first | exact trivial | refine And.intro rfl ?_)) rfl rfl (fun i hi=>zaL rfl hi) ?_
 ·exact hcp
 ·exact qS
 rintro r Mo Po ⟨rfl,rfl⟩
 refine ⟨rfl,fun id hi=>.inl (zaX rfl rfl hi),fun id hi=>hi.elim,fun x2 hx2 _ hPo2 _=>?_⟩
 have hn:=hx2.n.trans hn
 refine zf hn za rfl ?_ ⟨_,.tup [hEc (zm e.mus),.dat (.int .i64 (-3))],mEc (waitE p e n),[],rfl,rfl,⟨rfl,rfl,trivial⟩,rfl,rfl,rfl,zl2 (zmm (by omega))⟩
 exact qS
set_option maxHeartbeats 16000000 in
theorem zuW (p:zn) (e:zz) (n c:Int) (hL:zp e 1099511600000) (hok:zay p e=true) (hnr:0≤n∧n<e.gs.length) (hs:(e.gs.getD n.toNat zd).state=1) (hop:(zb p (e.gs.getD n.toNat zd)).op=11) (hl0:¬ 0<(zX e (p.sels.getD (zb p (e.gs.getD n.toNat zd)).a.toNat zh).cases).length) (hel:(p.sels.getD (zb p (e.gs.getD n.toNat zd)).a.toNat zh).els<0) (hz:e.chans=[]):Ct Tryz.prog 218 [.dagg (zQ p),.dagg (zad e),.dat (.int .i64 n),.dat (.int .i64 c)] [] (fun r Mo=>LV.pure3 (mm Mo) r=some (.tup [.dagg (zad (doE p e n c).1),.dat (.int .i64 (doE p e n c).2)])):=by
 have h:=zaM.1 hok
 have ha:=h.alive hnr (.inl hs)
 have hgh:=ha.head (.inl hs)
 have hi:=zaT h.prog ha.pc
 have hin:=hi.ins
 rw [zap] at hin
 have hgl:=hL.gor hnr
 have hpc:=zaq h.prog ha
 have hlast:=hi.last
 have hcl:=h.cl
 have hml:=h.ml
 have hg0:0<e.gs.length:=by omega
 have hat0:=con_at_impl.instr p (e.gs.getD n.toNat zd) hgh
 obtain ⟨hsel,h4,h5⟩:=hi.sel hop
 have hia:0≤(zb p (e.gs.getD n.toNat zd)).a∧(zb p (e.gs.getD n.toNat zd)).a<p.sels.length:=by omega
 obtain ⟨hl1,hl2⟩:=zl0 hl0
 have hwc:=h.waitS hnr hs hop hel hl2
 have hels:(p.sels.getD (zb p (e.gs.getD n.toNat zd)).a.toNat zh).els=-1:=by omega
 have hpl0:=zj0 h hnr hs hwc (zgr (by omega)) hz
 have hwe:(waitE p e n).mus=e.mus∧(waitE p e n).chans=e.chans:=by unfold waitE;rw [hpl0];exact ⟨rfl,rfl⟩
 have hdo:doE p e n c=((waitE p e n),(-3)):=by
  unfold doE;simp only;rw [if_pos hop];unfold chooseE;simp only;rw [if_neg hl0,if_pos hel]
 rw [hdo]
 refine zD (rs:=[(.cell 8 45,45),(.tmp 9,3)]) za Tryz.func218 rfl rfl rfl (Nat.le_of_ble_eq_true rfl) rfl fun ho hm x hn hlent=>?_
 refine zbQ hn za [false] (fun _ _=>False) (fun _ _ h=>h.elim) (fun _ _ h=>h) (zcK e (hL.le (by omega)) hg0) rfl ?_ rfl rfl trivial rfl rfl (fun i hi=>by cases hi) ?_;exact qS;rintro r Mo Po ⟨rfl,rfl⟩;refine ⟨rfl,fun id hi=>.inr fun hl=>absurd ((hlent id).1 hl) Bool.false_ne_true,fun id hi=>zbY rfl rfl hi,fun x1 hx1 _ hPo _=>?_⟩;have hn:=hx1.n.trans hn;refine zdc [(1000,501)] (l1:=(hEg (zy e.chans) (zm e.mus))) (m1:=(mEg e)) ?_ ?_ rfl (fun i hi=>by rw [hx1.lent] at hi;exact absurd ((hlent i).1 hi) Bool.false_ne_true) ?_;exact qL;exact qL
 refine qK hn za rfl rfl (by (first | exact zC _ _ | exact con_at_impl.instr _ _ (by assumption) | assumption)) ?_
 refine ze hn za rfl qS ?_ ?_<;>intro hc<;>first | (replace hc:=qC2 hc;try exact qX) | exact qF2 hc | skip
 refine zbB hn za [false,true,false,false] (zkT p e n c (hL.le (by omega)) h hnr hs hop hl1 hels hpl0) rfl ?_ rfl rfl (by repeat' (first | exact trivial | refine And.intro rfl ?_)) rfl (fun i hi=>(by cases hi)) (.inl rfl) (fun i hi=>zaL rfl hi) ?_;exact qS;rintro r Mo ⟨rfl,rfl⟩;refine ⟨rfl,fun id hi=>.inl (zaX rfl rfl hi),fun id hi=>hi.elim,?_⟩
 refine zf hn za rfl ?_ ⟨_,.tup [hEg (zy e.chans) (zm e.mus),.dat (.int .i64 (-3))],mEg (waitE p e n),[],rfl,rfl,⟨rfl,trivial⟩,rfl,rfl,rfl,zmc hwe.2 hwe.1⟩
 exact qS
set_option maxHeartbeats 16000000 in
theorem zwI (p:zn) (e:zz) (n c:Int) (hL:zp e 1099511600000) (hok:zay p e=true) (hnr:0≤n∧n<e.gs.length) (hs:(e.gs.getD n.toNat zd).state=1) (hop:(zb p (e.gs.getD n.toNat zd)).op=8) (hcr:zP e ⟨decide ((zb p (e.gs.getD n.toNat zd)).op=8),(zb p (e.gs.getD n.toNat zd)).a,(zb p (e.gs.getD n.toNat zd)).b,(zb p (e.gs.getD n.toNat zd)).c,(e.gs.getD n.toNat zd).pc+1⟩=true):Ct Tryz.prog 218 [.dagg (zQ p),.dagg (zad e),.dat (.int .i64 n),.dat (.int .i64 c)] [] (fun r Mo=>LV.pure3 (mm Mo) r=some (.tup [.dagg (zad (doE p e n c).1),.dat (.int .i64 (doE p e n c).2)])):=by
 have h:=zaM.1 hok
 have ha:=h.alive hnr (.inl hs)
 have hgh:=ha.head (.inl hs)
 have hi:=zaT h.prog ha.pc
 have hin:=hi.ins
 rw [zap] at hin
 have hgl:=hL.gor hnr
 have hpc:=zaq h.prog ha
 have hlast:=hi.last
 have hcl:=h.cl
 have hml:=h.ml
 have hg0:0<e.gs.length:=by omega
 have hat0:=con_at_impl.instr p (e.gs.getD n.toNat zd) hgh
 have hcrc:=zC e ⟨decide ((zb p (e.gs.getD n.toNat zd)).op=8),(zb p (e.gs.getD n.toNat zd)).a,(zb p (e.gs.getD n.toNat zd)).b,(zb p (e.gs.getD n.toNat zd)).c,(e.gs.getD n.toNat zd).pc+1⟩
 have hz:e.chans≠[]:=fun hz=>by
  have hcr:=hcr
  rw [zP,Bool.and_eq_true,decide_eq_true_eq,hz] at hcr
  have:=hcr.1
  simp only [List.length_nil] at this
  omega
 rw [hcr] at hcrc
 have hdo:doE p e n c=((throughE p e n ⟨decide ((zb p (e.gs.getD n.toNat zd)).op=8),(zb p (e.gs.getD n.toNat zd)).a,(zb p (e.gs.getD n.toNat zd)).b,(zb p (e.gs.getD n.toNat zd)).c,(e.gs.getD n.toNat zd).pc+1⟩),(-2)):=by
  unfold doE;simp only;rw [if_neg (by omega),if_pos (.inl hop),if_pos hcr]
 rw [hdo]
 refine zD (rs:=[(.cell 8 45,45),(.tmp 9,3)]) za Tryz.func218 rfl rfl rfl (Nat.le_of_ble_eq_true rfl) rfl fun ho hm x hn hlent=>?_
 refine zbQ hn za [false] (fun _ _=>False) (fun _ _ h=>h.elim) (fun _ _ h=>h) (zhb e (hL.le (by omega)) hg0 hz) rfl ?_ rfl rfl trivial rfl rfl (fun i hi=>by cases hi) ?_;exact qS;rintro r Mo Po ⟨rfl,rfl⟩;refine ⟨rfl,fun id hi=>.inr fun hl=>absurd ((hlent id).1 hl) Bool.false_ne_true,fun id hi=>zbY rfl rfl hi,fun x1 hx1 _ hPo _=>?_⟩;have hn:=hx1.n.trans hn;refine zdc [(1000,501),(1001,502)] (l1:=(hEc (zm e.mus))) (m1:=(mEc e)) ?_ ?_ rfl (fun i hi=>by rw [hx1.lent] at hi;exact absurd ((hlent i).1 hi) Bool.false_ne_true) ?_;exact qL;exact qL
 refine qK hn za rfl rfl (by (first | exact zC _ _ | exact con_at_impl.instr _ _ (by assumption) | assumption)) ?_
 repeat (refine ze hn za rfl qS ?_ ?_<;>intro hc<;>first | (replace hc:=qC2 hc;try exact qX) | exact qF2 hc | skip)
 refine zbs hn za rfl ?_ rfl [] ⟨_,.dat (.bool true),rfl,hcrc,rfl,.inl rfl,?_⟩
 ·exact qS
 refine ze hn za rfl qS ?_ ?_<;>intro hc<;>first | (replace hc:=qC2 hc;try exact qX) | exact qF2 hc | skip
 all_goals (try (exfalso;simp at hc;done))
 refine zbB hn za [false,true,false,false] (zfb (zm e.mus) p e n ⟨decide ((zb p (e.gs.getD n.toNat zd)).op=8),(zb p (e.gs.getD n.toNat zd)).a,(zb p (e.gs.getD n.toNat zd)).b,(zb p (e.gs.getD n.toNat zd)).c,(e.gs.getD n.toNat zd).pc+1⟩ (hL.le (by omega)) h hnr hs hcr) rfl ?_ rfl rfl (by repeat' (first | exact trivial | refine And.intro rfl ?_)) rfl (fun i hi=>(by cases hi)) (.inl rfl) (fun i hi=>zaL rfl hi) ?_;exact qS;rintro r Mo ⟨rfl,rfl⟩;refine ⟨rfl,fun id hi=>.inl (zaX rfl rfl hi),fun id hi=>zbS rfl rfl hi,?_⟩
 refine zf hn za rfl ?_ ⟨_,.tup [hEc (zm e.mus),.dat (.int .i64 (-2))],mEc (throughE p e n ⟨decide ((zb p (e.gs.getD n.toNat zd)).op=8),(zb p (e.gs.getD n.toNat zd)).a,(zb p (e.gs.getD n.toNat zd)).b,(zb p (e.gs.getD n.toNat zd)).c,(e.gs.getD n.toNat zd).pc+1⟩),[],rfl,rfl,⟨rfl,rfl,trivial⟩,rfl,rfl,rfl,zl2 (zhG _)⟩
 exact qS
set_option maxHeartbeats 16000000 in
theorem zws (p:zn) (e:zz) (n c:Int) (hL:zp e 1099511600000) (hok:zay p e=true) (hnr:0≤n∧n<e.gs.length) (hs:(e.gs.getD n.toNat zd).state=1) (hop:(zb p (e.gs.getD n.toNat zd)).op=8) (hcr:zP e ⟨decide ((zb p (e.gs.getD n.toNat zd)).op=8),(zb p (e.gs.getD n.toNat zd)).a,(zb p (e.gs.getD n.toNat zd)).b,(zb p (e.gs.getD n.toNat zd)).c,(e.gs.getD n.toNat zd).pc+1⟩=false) (hz:e.chans≠[]):Ct Tryz.prog 218 [.dagg (zQ p),.dagg (zad e),.dat (.int .i64 n),.dat (.int .i64 c)] [] (fun r Mo=>LV.pure3 (mm Mo) r=some (.tup [.dagg (zad (doE p e n c).1),.dat (.int .i64 (doE p e n c).2)])):=by
 have h:=zaM.1 hok
 have ha:=h.alive hnr (.inl hs)
 have hgh:=ha.head (.inl hs)
 have hi:=zaT h.prog ha.pc
 have hin:=hi.ins
 rw [zap] at hin
 have hgl:=hL.gor hnr
 have hpc:=zaq h.prog ha
 have hlast:=hi.last
 have hcl:=h.cl
 have hml:=h.ml
 have hg0:0<e.gs.length:=by omega
 have hat0:=con_at_impl.instr p (e.gs.getD n.toNat zd) hgh
 have hcrc:=zC e ⟨decide ((zb p (e.gs.getD n.toNat zd)).op=8),(zb p (e.gs.getD n.toNat zd)).a,(zb p (e.gs.getD n.toNat zd)).b,(zb p (e.gs.getD n.toNat zd)).c,(e.gs.getD n.toNat zd).pc+1⟩
 rw [hcr] at hcrc
 have hwc:=h.wait1 hnr hs (.inl hop) hcr
 have hdo:doE p e n c=((waitE p e n),(-2)):=by
  unfold doE;simp only;rw [if_neg (by omega),if_pos (.inl hop),if_neg (by rw [hcr];decide)]
 rw [hdo]
 refine zD (rs:=[(.cell 8 45,45),(.tmp 9,3)]) za Tryz.func218 rfl rfl rfl (Nat.le_of_ble_eq_true rfl) rfl fun ho hm x hn hlent=>?_
 refine zbQ hn za [false] (fun _ _=>False) (fun _ _ h=>h.elim) (fun _ _ h=>h) (ziM e (hL.le (by omega)) hg0 hz) rfl ?_ rfl rfl trivial rfl rfl (fun i hi=>by cases hi) ?_
 ·exact qS
 rintro r Mo Po ⟨xs,tg,rfl,rfl,hcp0⟩
 refine ⟨rfl,fun id hi=>.inr fun hl=>absurd ((hlent id).1 hl) Bool.false_ne_true,fun id hi=>zbY rfl rfl hi,fun x1 hx1 _ hPo _=>?_⟩
 have hn:=hx1.n.trans hn
 have hcp:CpC (z7 x1) tg e.chans e.chans.length xs:=hcp0.up hPo
 refine zdc [(1000,501),(1001,502)] (l1:=(hEc (zm e.mus))) (m1:=(mXc e xs)) ?_ ?_ rfl (fun i hi=>by rw [hx1.lent] at hi;exact absurd ((hlent i).1 hi) Bool.false_ne_true) ?_
 ·exact qL
 ·exact qL
 refine qK hn za rfl rfl (by (first | exact zC _ _ | exact con_at_impl.instr _ _ (by assumption) | assumption)) ?_
 repeat (refine ze hn za rfl qS ?_ ?_<;>intro hc<;>first | (replace hc:=qC2 hc;try exact qX) | exact qF2 hc | skip)
 refine zbQ hn za [true,false] (z7 _) (fun _ _ h=>h) ?_ (zlO (Mi:=mXc e xs) (args:=[hEc (zm e.mus),.dagg (zkw ⟨decide ((zb p (e.gs.getD n.toNat zd)).op=8),(zb p (e.gs.getD n.toNat zd)).a,(zb p (e.gs.getD n.toNat zd)).b,(zb p (e.gs.getD n.toNat zd)).c,(e.gs.getD n.toNat zd).pc+1⟩)]) hcrc zkv rfl (zok (tg:=tg))) rfl ?_ rfl rfl (by repeat' (first | exact trivial | refine And.intro rfl ?_)) rfl rfl (fun i hi=>zaL rfl hi) ?_
 ·exact hcp
 ·exact qS
 rintro r Mo Po ⟨rfl,rfl,hcp1⟩
 refine ⟨rfl,fun id hi=>.inl hi,fun id hi=>hi.elim,fun x2 hx2 _ hPo2 _=>?_⟩
 have hcp2:CpC (z7 x2) tg e.chans e.chans.length xs:=hcp1.up hPo2
 have hn:=hx2.n.trans hn
 refine ze hn za rfl qS ?_ ?_<;>intro hc<;>first | (replace hc:=qC2 hc;try exact qX) | exact qF2 hc | skip
 all_goals (try (exfalso;simp at hc;done))
 refine zbQ hn za [false,true,false] (z7 _) (fun _ _ h=>h) ?_ (zf7 (zfO (zm e.mus) p e n (hL.le (by omega)) h hnr hs hwc (zgr (by omega)) xs tg)) rfl ?_ rfl rfl (by repeat' (first | exact trivial | refine And.intro rfl ?_)) rfl rfl (fun i hi=>zaL rfl hi) ?_
 ·exact hcp2
 ·exact qS
 rintro r Mo Po ⟨rfl,rfl⟩
 refine ⟨rfl,fun id hi=>.inl (zaX rfl rfl hi),fun id hi=>zbS rfl rfl hi,fun x3 hx3 _ _ _=>?_⟩
 have hn:=hx3.n.trans hn
 refine zf hn za rfl ?_ ⟨_,.tup [hEc (zm e.mus),.dat (.int .i64 (-2))],mEc (waitE p e n),[],rfl,rfl,⟨rfl,rfl,trivial⟩,rfl,rfl,rfl,zl2 (zmm (by omega))⟩
 exact qS
set_option maxHeartbeats 16000000 in
theorem zwo (p:zn) (e:zz) (n c:Int) (hL:zp e 1099511600000) (hok:zay p e=true) (hnr:0≤n∧n<e.gs.length) (hs:(e.gs.getD n.toNat zd).state=1) (hop:(zb p (e.gs.getD n.toNat zd)).op=8) (hcr:zP e ⟨decide ((zb p (e.gs.getD n.toNat zd)).op=8),(zb p (e.gs.getD n.toNat zd)).a,(zb p (e.gs.getD n.toNat zd)).b,(zb p (e.gs.getD n.toNat zd)).c,(e.gs.getD n.toNat zd).pc+1⟩=false) (hz:e.chans=[]):Ct Tryz.prog 218 [.dagg (zQ p),.dagg (zad e),.dat (.int .i64 n),.dat (.int .i64 c)] [] (fun r Mo=>LV.pure3 (mm Mo) r=some (.tup [.dagg (zad (doE p e n c).1),.dat (.int .i64 (doE p e n c).2)])):=by
 have h:=zaM.1 hok
 have ha:=h.alive hnr (.inl hs)
 have hgh:=ha.head (.inl hs)
 have hi:=zaT h.prog ha.pc
 have hin:=hi.ins
 rw [zap] at hin
 have hgl:=hL.gor hnr
 have hpc:=zaq h.prog ha
 have hlast:=hi.last
 have hcl:=h.cl
 have hml:=h.ml
 have hg0:0<e.gs.length:=by omega
 have hat0:=con_at_impl.instr p (e.gs.getD n.toNat zd) hgh
 have hcrc:=zC e ⟨decide ((zb p (e.gs.getD n.toNat zd)).op=8),(zb p (e.gs.getD n.toNat zd)).a,(zb p (e.gs.getD n.toNat zd)).b,(zb p (e.gs.getD n.toNat zd)).c,(e.gs.getD n.toNat zd).pc+1⟩
 rw [hcr] at hcrc
 have hwc:=h.wait1 hnr hs (.inl hop) hcr
 have hpl0:=zj0 h hnr hs hwc (zgr (by omega)) hz
 have hwe:(waitE p e n).mus=e.mus∧(waitE p e n).chans=e.chans:=by unfold waitE;rw [hpl0];exact ⟨rfl,rfl⟩
 have hdo:doE p e n c=((waitE p e n),(-2)):=by
  unfold doE;simp only;rw [if_neg (by omega),if_pos (.inl hop),if_neg (by rw [hcr];decide)]
 rw [hdo]
 refine zD (rs:=[(.cell 8 45,45),(.tmp 9,3)]) za Tryz.func218 rfl rfl rfl (Nat.le_of_ble_eq_true rfl) rfl fun ho hm x hn hlent=>?_
 refine zbQ hn za [false] (fun _ _=>False) (fun _ _ h=>h.elim) (fun _ _ h=>h) (zcK e (hL.le (by omega)) hg0) rfl ?_ rfl rfl trivial rfl rfl (fun i hi=>by cases hi) ?_;exact qS;rintro r Mo Po ⟨rfl,rfl⟩;refine ⟨rfl,fun id hi=>.inr fun hl=>absurd ((hlent id).1 hl) Bool.false_ne_true,fun id hi=>zbY rfl rfl hi,fun x1 hx1 _ hPo _=>?_⟩;have hn:=hx1.n.trans hn;refine zdc [(1000,501)] (l1:=(hEg (zy e.chans) (zm e.mus))) (m1:=(mEg e)) ?_ ?_ rfl (fun i hi=>by rw [hx1.lent] at hi;exact absurd ((hlent i).1 hi) Bool.false_ne_true) ?_;exact qL;exact qL
 refine qK hn za rfl rfl (by (first | exact zC _ _ | exact con_at_impl.instr _ _ (by assumption) | assumption)) ?_
 repeat (refine ze hn za rfl qS ?_ ?_<;>intro hc<;>first | (replace hc:=qC2 hc;try exact qX) | exact qF2 hc | skip)
 refine zbs hn za rfl ?_ rfl [] ⟨_,.dat (.bool false),rfl,hcrc,rfl,.inl rfl,?_⟩
 ·exact qS
 refine ze hn za rfl qS ?_ ?_<;>intro hc<;>first | (replace hc:=qC2 hc;try exact qX) | exact qF2 hc | skip
 all_goals (try (exfalso;simp at hc;done))
 refine zbB hn za [false,true,false] (zf9 (zy e.chans) (zm e.mus) p e n (hL.le (by omega)) h hnr hs hpl0) rfl ?_ rfl rfl (by repeat' (first | exact trivial | refine And.intro rfl ?_)) rfl (fun i hi=>(by cases hi)) (.inl rfl) (fun i hi=>zaL rfl hi) ?_;exact qS;rintro r Mo ⟨rfl,rfl⟩;refine ⟨rfl,fun id hi=>.inl (zaX rfl rfl hi),fun id hi=>zbS rfl rfl hi,?_⟩
 refine zf hn za rfl ?_ ⟨_,.tup [hEg (zy e.chans) (zm e.mus),.dat (.int .i64 (-2))],mEg (waitE p e n),[],rfl,rfl,⟨rfl,trivial⟩,rfl,rfl,rfl,zmc hwe.2 hwe.1⟩
 exact qS
set_option maxHeartbeats 16000000 in
theorem zwf (p:zn) (e:zz) (n c:Int) (hL:zp e 1099511600000) (hok:zay p e=true) (hnr:0≤n∧n<e.gs.length) (hs:(e.gs.getD n.toNat zd).state=1) (hop:(zb p (e.gs.getD n.toNat zd)).op=9) (hcr:zP e ⟨decide ((zb p (e.gs.getD n.toNat zd)).op=8),(zb p (e.gs.getD n.toNat zd)).a,(zb p (e.gs.getD n.toNat zd)).b,(zb p (e.gs.getD n.toNat zd)).c,(e.gs.getD n.toNat zd).pc+1⟩=true):Ct Tryz.prog 218 [.dagg (zQ p),.dagg (zad e),.dat (.int .i64 n),.dat (.int .i64 c)] [] (fun r Mo=>LV.pure3 (mm Mo) r=some (.tup [.dagg (zad (doE p e n c).1),.dat (.int .i64 (doE p e n c).2)])):=by
 have h:=zaM.1 hok
 have ha:=h.alive hnr (.inl hs)
 have hgh:=ha.head (.inl hs)
 have hi:=zaT h.prog ha.pc
 have hin:=hi.ins
 rw [zap] at hin
 have hgl:=hL.gor hnr
 have hpc:=zaq h.prog ha
 have hlast:=hi.last
 have hcl:=h.cl
 have hml:=h.ml
 have hg0:0<e.gs.length:=by omega
 have hat0:=con_at_impl.instr p (e.gs.getD n.toNat zd) hgh
 have hcrc:=zC e ⟨decide ((zb p (e.gs.getD n.toNat zd)).op=8),(zb p (e.gs.getD n.toNat zd)).a,(zb p (e.gs.getD n.toNat zd)).b,(zb p (e.gs.getD n.toNat zd)).c,(e.gs.getD n.toNat zd).pc+1⟩
 have hz:e.chans≠[]:=fun hz=>by
  have hcr:=hcr
  rw [zP,Bool.and_eq_true,decide_eq_true_eq,hz] at hcr
  have:=hcr.1
  simp only [List.length_nil] at this
  omega
 rw [hcr] at hcrc
 have hdo:doE p e n c=((throughE p e n ⟨decide ((zb p (e.gs.getD n.toNat zd)).op=8),(zb p (e.gs.getD n.toNat zd)).a,(zb p (e.gs.getD n.toNat zd)).b,(zb p (e.gs.getD n.toNat zd)).c,(e.gs.getD n.toNat zd).pc+1⟩),(-2)):=by
  unfold doE;simp only;rw [if_neg (by omega),if_pos (.inr hop),if_pos hcr]
 rw [hdo]
 refine zD (rs:=[(.cell 8 45,45),(.tmp 9,3)]) za Tryz.func218 rfl rfl rfl (Nat.le_of_ble_eq_true rfl) rfl fun ho hm x hn hlent=>?_
 refine zbQ hn za [false] (fun _ _=>False) (fun _ _ h=>h.elim) (fun _ _ h=>h) (zhb e (hL.le (by omega)) hg0 hz) rfl ?_ rfl rfl trivial rfl rfl (fun i hi=>by cases hi) ?_;exact qS;rintro r Mo Po ⟨rfl,rfl⟩;refine ⟨rfl,fun id hi=>.inr fun hl=>absurd ((hlent id).1 hl) Bool.false_ne_true,fun id hi=>zbY rfl rfl hi,fun x1 hx1 _ hPo _=>?_⟩;have hn:=hx1.n.trans hn;refine zdc [(1000,501),(1001,502)] (l1:=(hEc (zm e.mus))) (m1:=(mEc e)) ?_ ?_ rfl (fun i hi=>by rw [hx1.lent] at hi;exact absurd ((hlent i).1 hi) Bool.false_ne_true) ?_;exact qL;exact qL
 refine qK hn za rfl rfl (by (first | exact zC _ _ | exact con_at_impl.instr _ _ (by assumption) | assumption)) ?_
 repeat (refine ze hn za rfl qS ?_ ?_<;>intro hc<;>first | (replace hc:=qC2 hc;try exact qX) | exact qF2 hc | skip)
 refine zbs hn za rfl ?_ rfl [] ⟨_,.dat (.bool true),rfl,hcrc,rfl,.inl rfl,?_⟩
 ·exact qS
 refine ze hn za rfl qS ?_ ?_<;>intro hc<;>first | (replace hc:=qC2 hc;try exact qX) | exact qF2 hc | skip
 all_goals (try (exfalso;simp at hc;done))
 refine zbB hn za [false,true,false,false] (zfb (zm e.mus) p e n ⟨decide ((zb p (e.gs.getD n.toNat zd)).op=8),(zb p (e.gs.getD n.toNat zd)).a,(zb p (e.gs.getD n.toNat zd)).b,(zb p (e.gs.getD n.toNat zd)).c,(e.gs.getD n.toNat zd).pc+1⟩ (hL.le (by omega)) h hnr hs hcr) rfl ?_ rfl rfl (by repeat' (first | exact trivial | refine And.intro rfl ?_)) rfl (fun i hi=>(by cases hi)) (.inl rfl) (fun i hi=>zaL rfl hi) ?_;exact qS;rintro r Mo ⟨rfl,rfl⟩;refine ⟨rfl,fun id hi=>.inl (zaX rfl rfl hi),fun id hi=>zbS rfl rfl hi,?_⟩
 refine zf hn za rfl ?_ ⟨_,.tup [hEc (zm e.mus),.dat (.int .i64 (-2))],mEc (throughE p e n ⟨decide ((zb p (e.gs.getD n.toNat zd)).op=8),(zb p (e.gs.getD n.toNat zd)).a,(zb p (e.gs.getD n.toNat zd)).b,(zb p (e.gs.getD n.toNat zd)).c,(e.gs.getD n.toNat zd).pc+1⟩),[],rfl,rfl,⟨rfl,rfl,trivial⟩,rfl,rfl,rfl,zl2 (zhG _)⟩
 exact qS
set_option maxHeartbeats 16000000 in
theorem zwm (p:zn) (e:zz) (n c:Int) (hL:zp e 1099511600000) (hok:zay p e=true) (hnr:0≤n∧n<e.gs.length) (hs:(e.gs.getD n.toNat zd).state=1) (hop:(zb p (e.gs.getD n.toNat zd)).op=9) (hcr:zP e ⟨decide ((zb p (e.gs.getD n.toNat zd)).op=8),(zb p (e.gs.getD n.toNat zd)).a,(zb p (e.gs.getD n.toNat zd)).b,(zb p (e.gs.getD n.toNat zd)).c,(e.gs.getD n.toNat zd).pc+1⟩=false) (hz:e.chans≠[]):Ct Tryz.prog 218 [.dagg (zQ p),.dagg (zad e),.dat (.int .i64 n),.dat (.int .i64 c)] [] (fun r Mo=>LV.pure3 (mm Mo) r=some (.tup [.dagg (zad (doE p e n c).1),.dat (.int .i64 (doE p e n c).2)])):=by
 have h:=zaM.1 hok
 have ha:=h.alive hnr (.inl hs)
 have hgh:=ha.head (.inl hs)
 have hi:=zaT h.prog ha.pc
 have hin:=hi.ins
 rw [zap] at hin
 have hgl:=hL.gor hnr
 have hpc:=zaq h.prog ha
 have hlast:=hi.last
 have hcl:=h.cl
 have hml:=h.ml
 have hg0:0<e.gs.length:=by omega
 have hat0:=con_at_impl.instr p (e.gs.getD n.toNat zd) hgh
 have hcrc:=zC e ⟨decide ((zb p (e.gs.getD n.toNat zd)).op=8),(zb p (e.gs.getD n.toNat zd)).a,(zb p (e.gs.getD n.toNat zd)).b,(zb p (e.gs.getD n.toNat zd)).c,(e.gs.getD n.toNat zd).pc+1⟩
 rw [hcr] at hcrc
 have hwc:=h.wait1 hnr hs (.inr hop) hcr
 have hdo:doE p e n c=((waitE p e n),(-2)):=by
  unfold doE;simp only;rw [if_neg (by omega),if_pos (.inr hop),if_neg (by rw [hcr];decide)]
 rw [hdo]
 refine zD (rs:=[(.cell 8 45,45),(.tmp 9,3)]) za Tryz.func218 rfl rfl rfl (Nat.le_of_ble_eq_true rfl) rfl fun ho hm x hn hlent=>?_
 refine zbQ hn za [false] (fun _ _=>False) (fun _ _ h=>h.elim) (fun _ _ h=>h) (ziM e (hL.le (by omega)) hg0 hz) rfl ?_ rfl rfl trivial rfl rfl (fun i hi=>by cases hi) ?_
 ·exact qS
 rintro r Mo Po ⟨xs,tg,rfl,rfl,hcp0⟩
 refine ⟨rfl,fun id hi=>.inr fun hl=>absurd ((hlent id).1 hl) Bool.false_ne_true,fun id hi=>zbY rfl rfl hi,fun x1 hx1 _ hPo _=>?_⟩
 have hn:=hx1.n.trans hn
 have hcp:CpC (z7 x1) tg e.chans e.chans.length xs:=hcp0.up hPo
 refine zdc [(1000,501),(1001,502)] (l1:=(hEc (zm e.mus))) (m1:=(mXc e xs)) ?_ ?_ rfl (fun i hi=>by rw [hx1.lent] at hi;exact absurd ((hlent i).1 hi) Bool.false_ne_true) ?_
 ·exact qL
 ·exact qL
 refine qK hn za rfl rfl (by (first | exact zC _ _ | exact con_at_impl.instr _ _ (by assumption) | assumption)) ?_
 repeat (refine ze hn za rfl qS ?_ ?_<;>intro hc<;>first | (replace hc:=qC2 hc;try exact qX) | exact qF2 hc | skip)
 refine zbQ hn za [true,false] (z7 _) (fun _ _ h=>h) ?_ (zlO (Mi:=mXc e xs) (args:=[hEc (zm e.mus),.dagg (zkw ⟨decide ((zb p (e.gs.getD n.toNat zd)).op=8),(zb p (e.gs.getD n.toNat zd)).a,(zb p (e.gs.getD n.toNat zd)).b,(zb p (e.gs.getD n.toNat zd)).c,(e.gs.getD n.toNat zd).pc+1⟩)]) hcrc zkv rfl (zok (tg:=tg))) rfl ?_ rfl rfl (by repeat' (first | exact trivial | refine And.intro rfl ?_)) rfl rfl (fun i hi=>zaL rfl hi) ?_
 ·exact hcp
 ·exact qS
 rintro r Mo Po ⟨rfl,rfl,hcp1⟩
 refine ⟨rfl,fun id hi=>.inl hi,fun id hi=>hi.elim,fun x2 hx2 _ hPo2 _=>?_⟩
 have hcp2:CpC (z7 x2) tg e.chans e.chans.length xs:=hcp1.up hPo2
 have hn:=hx2.n.trans hn
 refine ze hn za rfl qS ?_ ?_<;>intro hc<;>first | (replace hc:=qC2 hc;try exact qX) | exact qF2 hc | skip
 all_goals (try (exfalso;simp at hc;done))
 refine zbQ hn za [false,true,false] (z7 _) (fun _ _ h=>h) ?_ (zf7 (zfO (zm e.mus) p e n (hL.le (by omega)) h hnr hs hwc (zgr (by omega)) xs tg)) rfl ?_ rfl rfl (by repeat' (first | exact trivial | refine And.intro rfl ?_)) rfl rfl (fun i hi=>zaL rfl hi) ?_
 ·exact hcp2
 ·exact qS
 rintro r Mo Po ⟨rfl,rfl⟩
 refine ⟨rfl,fun id hi=>.inl (zaX rfl rfl hi),fun id hi=>zbS rfl rfl hi,fun x3 hx3 _ _ _=>?_⟩
 have hn:=hx3.n.trans hn
 refine zf hn za rfl ?_ ⟨_,.tup [hEc (zm e.mus),.dat (.int .i64 (-2))],mEc (waitE p e n),[],rfl,rfl,⟨rfl,rfl,trivial⟩,rfl,rfl,rfl,zl2 (zmm (by omega))⟩
 exact qS
set_option maxHeartbeats 16000000 in
theorem zwF (p:zn) (e:zz) (n c:Int) (hL:zp e 1099511600000) (hok:zay p e=true) (hnr:0≤n∧n<e.gs.length) (hs:(e.gs.getD n.toNat zd).state=1) (hop:(zb p (e.gs.getD n.toNat zd)).op=9) (hcr:zP e ⟨decide ((zb p (e.gs.getD n.toNat zd)).op=8),(zb p (e.gs.getD n.toNat zd)).a,(zb p (e.gs.getD n.toNat zd)).b,(zb p (e.gs.getD n.toNat zd)).c,(e.gs.getD n.toNat zd).pc+1⟩=false) (hz:e.chans=[]):Ct Tryz.prog 218 [.dagg (zQ p),.dagg (zad e),.dat (.int .i64 n),.dat (.int .i64 c)] [] (fun r Mo=>LV.pure3 (mm Mo) r=some (.tup [.dagg (zad (doE p e n c).1),.dat (.int .i64 (doE p e n c).2)])):=by
 have h:=zaM.1 hok
 have ha:=h.alive hnr (.inl hs)
 have hgh:=ha.head (.inl hs)
 have hi:=zaT h.prog ha.pc
 have hin:=hi.ins
 rw [zap] at hin
 have hgl:=hL.gor hnr
 have hpc:=zaq h.prog ha
 have hlast:=hi.last
 have hcl:=h.cl
 have hml:=h.ml
 have hg0:0<e.gs.length:=by omega
 have hat0:=con_at_impl.instr p (e.gs.getD n.toNat zd) hgh
 have hcrc:=zC e ⟨decide ((zb p (e.gs.getD n.toNat zd)).op=8),(zb p (e.gs.getD n.toNat zd)).a,(zb p (e.gs.getD n.toNat zd)).b,(zb p (e.gs.getD n.toNat zd)).c,(e.gs.getD n.toNat zd).pc+1⟩
 rw [hcr] at hcrc
 have hwc:=h.wait1 hnr hs (.inr hop) hcr
 have hpl0:=zj0 h hnr hs hwc (zgr (by omega)) hz
 have hwe:(waitE p e n).mus=e.mus∧(waitE p e n).chans=e.chans:=by unfold waitE;rw [hpl0];exact ⟨rfl,rfl⟩
 have hdo:doE p e n c=((waitE p e n),(-2)):=by
  unfold doE;simp only;rw [if_neg (by omega),if_pos (.inr hop),if_neg (by rw [hcr];decide)]
 rw [hdo]
 refine zD (rs:=[(.cell 8 45,45),(.tmp 9,3)]) za Tryz.func218 rfl rfl rfl (Nat.le_of_ble_eq_true rfl) rfl fun ho hm x hn hlent=>?_
 refine zbQ hn za [false] (fun _ _=>False) (fun _ _ h=>h.elim) (fun _ _ h=>h) (zcK e (hL.le (by omega)) hg0) rfl ?_ rfl rfl trivial rfl rfl (fun i hi=>by cases hi) ?_;exact qS;rintro r Mo Po ⟨rfl,rfl⟩;refine ⟨rfl,fun id hi=>.inr fun hl=>absurd ((hlent id).1 hl) Bool.false_ne_true,fun id hi=>zbY rfl rfl hi,fun x1 hx1 _ hPo _=>?_⟩;have hn:=hx1.n.trans hn;refine zdc [(1000,501)] (l1:=(hEg (zy e.chans) (zm e.mus))) (m1:=(mEg e)) ?_ ?_ rfl (fun i hi=>by rw [hx1.lent] at hi;exact absurd ((hlent i).1 hi) Bool.false_ne_true) ?_;exact qL;exact qL
 refine qK hn za rfl rfl (by (first | exact zC _ _ | exact con_at_impl.instr _ _ (by assumption) | assumption)) ?_
 repeat (refine ze hn za rfl qS ?_ ?_<;>intro hc<;>first | (replace hc:=qC2 hc;try exact qX) | exact qF2 hc | skip)
 refine zbs hn za rfl ?_ rfl [] ⟨_,.dat (.bool false),rfl,hcrc,rfl,.inl rfl,?_⟩
 ·exact qS
 refine ze hn za rfl qS ?_ ?_<;>intro hc<;>first | (replace hc:=qC2 hc;try exact qX) | exact qF2 hc | skip
 all_goals (try (exfalso;simp at hc;done))
 refine zbB hn za [false,true,false] (zf9 (zy e.chans) (zm e.mus) p e n (hL.le (by omega)) h hnr hs hpl0) rfl ?_ rfl rfl (by repeat' (first | exact trivial | refine And.intro rfl ?_)) rfl (fun i hi=>(by cases hi)) (.inl rfl) (fun i hi=>zaL rfl hi) ?_;exact qS;rintro r Mo ⟨rfl,rfl⟩;refine ⟨rfl,fun id hi=>.inl (zaX rfl rfl hi),fun id hi=>zbS rfl rfl hi,?_⟩
 refine zf hn za rfl ?_ ⟨_,.tup [hEg (zy e.chans) (zm e.mus),.dat (.int .i64 (-2))],mEg (waitE p e n),[],rfl,rfl,⟨rfl,trivial⟩,rfl,rfl,rfl,zmc hwe.2 hwe.1⟩
 exact qS
set_option maxHeartbeats 16000000 in
theorem zxm (p:zn) (e:zz) (n c:Int) (hL:zp e 1099511600000) (hok:zay p e=true) (hnr:0≤n∧n<e.gs.length) (hs:(e.gs.getD n.toNat zd).state=1) (hop:(zb p (e.gs.getD n.toNat zd)).op=10) (hz:e.chans≠[]):Ct Tryz.prog 218 [.dagg (zQ p),.dagg (zad e),.dat (.int .i64 n),.dat (.int .i64 c)] [] (fun r Mo=>LV.pure3 (mm Mo) r=some (.tup [.dagg (zad (doE p e n c).1),.dat (.int .i64 (doE p e n c).2)])):=by
 have h:=zaM.1 hok
 have ha:=h.alive hnr (.inl hs)
 have hgh:=ha.head (.inl hs)
 have hi:=zaT h.prog ha.pc
 have hin:=hi.ins
 rw [zap] at hin
 have hgl:=hL.gor hnr
 have hpc:=zaq h.prog ha
 have hlast:=hi.last
 have hcl:=h.cl
 have hml:=h.ml
 have hg0:0<e.gs.length:=by omega
 have hat0:=con_at_impl.instr p (e.gs.getD n.toNat zd) hgh
 have hdo:doE p e n c=((closeE p e n (zb p (e.gs.getD n.toNat zd)).a),(-2)):=by
  unfold doE;simp only;rw [if_neg (by omega),if_neg (by omega),if_pos hop]
 rw [hdo]
 refine zD (rs:=[(.cell 8 45,45),(.tmp 9,3)]) za Tryz.func218 rfl rfl rfl (Nat.le_of_ble_eq_true rfl) rfl fun ho hm x hn hlent=>?_
 refine zbQ hn za [false] (fun _ _=>False) (fun _ _ h=>h.elim) (fun _ _ h=>h) (zhb e (hL.le (by omega)) hg0 hz) rfl ?_ rfl rfl trivial rfl rfl (fun i hi=>by cases hi) ?_;exact qS;rintro r Mo Po ⟨rfl,rfl⟩;refine ⟨rfl,fun id hi=>.inr fun hl=>absurd ((hlent id).1 hl) Bool.false_ne_true,fun id hi=>zbY rfl rfl hi,fun x1 hx1 _ hPo _=>?_⟩;have hn:=hx1.n.trans hn;refine zdc [(1000,501),(1001,502)] (l1:=(hEc (zm e.mus))) (m1:=(mEc e)) ?_ ?_ rfl (fun i hi=>by rw [hx1.lent] at hi;exact absurd ((hlent i).1 hi) Bool.false_ne_true) ?_;exact qL;exact qL
 refine qK hn za rfl rfl (by (first | exact zC _ _ | exact con_at_impl.instr _ _ (by assumption) | assumption)) ?_
 repeat (refine ze hn za rfl qS ?_ ?_<;>intro hc<;>first | (replace hc:=qC2 hc;try exact qX) | exact qF2 hc | skip)
 refine zbB hn za [false,true,false,false] (zo2 (zm e.mus) p e n (zb p (e.gs.getD n.toNat zd)).a (hL.le (by omega)) hok hnr hs (by omega) (hlast (by omega) (by omega))) rfl ?_ rfl rfl (by repeat' (first | exact trivial | refine And.intro rfl ?_)) rfl (fun i hi=>(by cases hi)) (.inl rfl) (fun i hi=>zaL rfl hi) ?_;exact qS;rintro r Mo ⟨rfl,rfl⟩;refine ⟨rfl,fun id hi=>.inl (zaX rfl rfl hi),fun id hi=>zbS rfl rfl hi,?_⟩
 refine zf hn za rfl ?_ ⟨_,.tup [hEc (zm e.mus),.dat (.int .i64 (-2))],mEc (closeE p e n (zb p (e.gs.getD n.toNat zd)).a),[],rfl,rfl,⟨rfl,rfl,trivial⟩,rfl,rfl,rfl,zl2 (zr5 _)⟩
 exact qS
set_option maxHeartbeats 16000000 in
theorem zwu (p:zn) (e:zz) (n c:Int) (hL:zp e 1099511600000) (hok:zay p e=true) (hnr:0≤n∧n<e.gs.length) (hs:(e.gs.getD n.toNat zd).state=1) (hop:(zb p (e.gs.getD n.toNat zd)).op=10) (hz:e.chans=[]):Ct Tryz.prog 218 [.dagg (zQ p),.dagg (zad e),.dat (.int .i64 n),.dat (.int .i64 c)] [] (fun r Mo=>LV.pure3 (mm Mo) r=some (.tup [.dagg (zad (doE p e n c).1),.dat (.int .i64 (doE p e n c).2)])):=by
 have h:=zaM.1 hok
 have ha:=h.alive hnr (.inl hs)
 have hgh:=ha.head (.inl hs)
 have hi:=zaT h.prog ha.pc
 have hin:=hi.ins
 rw [zap] at hin
 have hgl:=hL.gor hnr
 have hpc:=zaq h.prog ha
 have hlast:=hi.last
 have hcl:=h.cl
 have hml:=h.ml
 have hg0:0<e.gs.length:=by omega
 have hat0:=con_at_impl.instr p (e.gs.getD n.toNat zd) hgh
 have hz0:e.chans.length=0:=by rw [hz];rfl
 have ha0:(zb p (e.gs.getD n.toNat zd)).a<0:=by omega
 have hce:closeE p e n (zb p (e.gs.getD n.toNat zd)).a=setG e n (over (e.gs.getD n.toNat zd) 2):=by unfold closeE;simp only;rw [if_pos ha0]
 have hdo:doE p e n c=((closeE p e n (zb p (e.gs.getD n.toNat zd)).a),(-2)):=by
  unfold doE;simp only;rw [if_neg (by omega),if_neg (by omega),if_pos hop]
 rw [hdo]
 refine zD (rs:=[(.cell 8 45,45),(.tmp 9,3)]) za Tryz.func218 rfl rfl rfl (Nat.le_of_ble_eq_true rfl) rfl fun ho hm x hn hlent=>?_
 refine zbQ hn za [false] (fun _ _=>False) (fun _ _ h=>h.elim) (fun _ _ h=>h) (zcK e (hL.le (by omega)) hg0) rfl ?_ rfl rfl trivial rfl rfl (fun i hi=>by cases hi) ?_;exact qS;rintro r Mo Po ⟨rfl,rfl⟩;refine ⟨rfl,fun id hi=>.inr fun hl=>absurd ((hlent id).1 hl) Bool.false_ne_true,fun id hi=>zbY rfl rfl hi,fun x1 hx1 _ hPo _=>?_⟩;have hn:=hx1.n.trans hn;refine zdc [(1000,501)] (l1:=(hEg (zy e.chans) (zm e.mus))) (m1:=(mEg e)) ?_ ?_ rfl (fun i hi=>by rw [hx1.lent] at hi;exact absurd ((hlent i).1 hi) Bool.false_ne_true) ?_;exact qL;exact qL
 refine qK hn za rfl rfl (by (first | exact zC _ _ | exact con_at_impl.instr _ _ (by assumption) | assumption)) ?_
 repeat (refine ze hn za rfl qS ?_ ?_<;>intro hc<;>first | (replace hc:=qC2 hc;try exact qX) | exact qF2 hc | skip)
 refine zbB hn za [false,true,false,false] (znh (zy e.chans) (zm e.mus) p e n (zb p (e.gs.getD n.toNat zd)).a (by omega) (by omega) hnr ha0) rfl ?_ rfl rfl (by repeat' (first | exact trivial | refine And.intro rfl ?_)) rfl (fun i hi=>(by cases hi)) (.inl rfl) (fun i hi=>zaL rfl hi) ?_;exact qS;rintro r Mo ⟨rfl,rfl⟩;refine ⟨rfl,fun id hi=>.inl (zaX rfl rfl hi),fun id hi=>zbS rfl rfl hi,?_⟩
 refine zf hn za rfl ?_ ⟨_,.tup [hEg (zy e.chans) (zm e.mus),.dat (.int .i64 (-2))],mEg (closeE p e n (zb p (e.gs.getD n.toNat zd)).a),[],rfl,rfl,⟨rfl,trivial⟩,rfl,rfl,rfl,zmc (by rw [hce];rfl) (by rw [hce];rfl)⟩
 exact qS
set_option maxHeartbeats 16000000 in
theorem zxd (p:zn) (e:zz) (n c:Int) (hL:zp e 1099511600000) (hok:zay p e=true) (hnr:0≤n∧n<e.gs.length) (hs:(e.gs.getD n.toNat zd).state=1) (hop:(zb p (e.gs.getD n.toNat zd)).op=12) (how:((e.mus.getD (zb p (e.gs.getD n.toNat zd)).a.toNat zj).owner=n∨(e.mus.getD (zb p (e.gs.getD n.toNat zd)).a.toNat zj).owner=-1)):Ct Tryz.prog 218 [.dagg (zQ p),.dagg (zad e),.dat (.int .i64 n),.dat (.int .i64 c)] [] (fun r Mo=>LV.pure3 (mm Mo) r=some (.tup [.dagg (zad (doE p e n c).1),.dat (.int .i64 (doE p e n c).2)])):=by
 have h:=zaM.1 hok
 have ha:=h.alive hnr (.inl hs)
 have hgh:=ha.head (.inl hs)
 have hi:=zaT h.prog ha.pc
 have hin:=hi.ins
 rw [zap] at hin
 have hgl:=hL.gor hnr
 have hpc:=zaq h.prog ha
 have hlast:=hi.last
 have hcl:=h.cl
 have hml:=h.ml
 have hg0:0<e.gs.length:=by omega
 have hat0:=con_at_impl.instr p (e.gs.getD n.toNat zd) hgh
 have hz:e.mus≠[]:=fun hz=>by
  rw [hz] at hml
  simp only [List.length_nil] at hml
  omega
 have hdo:doE p e n c=((lockE e n (zb p (e.gs.getD n.toNat zd)).a),(-2)):=by
  unfold doE;simp only;rw [if_neg (by omega),if_neg (by omega),if_neg (by omega),if_pos hop,if_pos how]
 rw [hdo]
 refine zD (rs:=[(.cell 8 45,45),(.tmp 9,3)]) za Tryz.func218 rfl rfl rfl (Nat.le_of_ble_eq_true rfl) rfl fun ho hm x hn hlent=>?_
 refine zbQ hn za [false] (fun _ _=>False) (fun _ _ h=>h.elim) (fun _ _ h=>h) (zl7 e (hL.le (by omega)) hg0 hz) rfl ?_ rfl rfl trivial rfl rfl (fun i hi=>by cases hi) ?_;exact qS;rintro r Mo Po ⟨rfl,rfl⟩;refine ⟨rfl,fun id hi=>.inr fun hl=>absurd ((hlent id).1 hl) Bool.false_ne_true,fun id hi=>zbY rfl rfl hi,fun x1 hx1 _ hPo _=>?_⟩;have hn:=hx1.n.trans hn;refine zdc [(1000,501),(1002,503)] (l1:=(hEm (zy e.chans))) (m1:=(mEm e)) ?_ ?_ rfl (fun i hi=>by rw [hx1.lent] at hi;exact absurd ((hlent i).1 hi) Bool.false_ne_true) ?_;exact qL;exact qL
 refine qK hn za rfl rfl (by (first | exact zC _ _ | exact con_at_impl.instr _ _ (by assumption) | assumption)) ?_
 repeat (refine ze hn za rfl qS ?_ ?_<;>intro hc<;>first | (replace hc:=qC2 hc;try exact qX) | exact qF2 hc | skip)
 refine zbB hn za [false,true,false,false] (zmo (zy e.chans) p e n (zb p (e.gs.getD n.toNat zd)) (hL.le (by omega)) h hnr hs (by omega) hop how) rfl ?_ rfl rfl (by repeat' (first | exact trivial | refine And.intro rfl ?_)) rfl (fun i hi=>(by cases hi)) (.inl rfl) (fun i hi=>zaL rfl hi) ?_;exact qS;rintro r Mo ⟨rfl,rfl⟩;refine ⟨rfl,fun id hi=>.inl (zaX rfl rfl hi),fun id hi=>zbS rfl rfl hi,?_⟩
 refine zf hn za rfl ?_ ⟨_,.tup [hEm (zy e.chans),.dat (.int .i64 (-2))],mEm (lockE e n (zb p (e.gs.getD n.toNat zd)).a),[],rfl,rfl,⟨rfl,rfl,trivial⟩,rfl,rfl,rfl,zto (zqt _)⟩
 exact qS
set_option maxHeartbeats 16000000 in
theorem zw6 (p:zn) (e:zz) (n c:Int) (hL:zp e 1099511600000) (hok:zay p e=true) (hnr:0≤n∧n<e.gs.length) (hs:(e.gs.getD n.toNat zd).state=1) (hop:(zb p (e.gs.getD n.toNat zd)).op=12) (how:¬ ((e.mus.getD (zb p (e.gs.getD n.toNat zd)).a.toNat zj).owner=n∨(e.mus.getD (zb p (e.gs.getD n.toNat zd)).a.toNat zj).owner=-1)):Ct Tryz.prog 218 [.dagg (zQ p),.dagg (zad e),.dat (.int .i64 n),.dat (.int .i64 c)] [] (fun r Mo=>LV.pure3 (mm Mo) r=some (.tup [.dagg (zad (doE p e n c).1),.dat (.int .i64 (doE p e n c).2)])):=by
 have h:=zaM.1 hok
 have ha:=h.alive hnr (.inl hs)
 have hgh:=ha.head (.inl hs)
 have hi:=zaT h.prog ha.pc
 have hin:=hi.ins
 rw [zap] at hin
 have hgl:=hL.gor hnr
 have hpc:=zaq h.prog ha
 have hlast:=hi.last
 have hcl:=h.cl
 have hml:=h.ml
 have hg0:0<e.gs.length:=by omega
 have hat0:=con_at_impl.instr p (e.gs.getD n.toNat zd) hgh
 have hz:e.mus≠[]:=fun hz=>by
  rw [hz] at hml
  simp only [List.length_nil] at hml
  omega
 have hwc:=h.waitL hnr hs hop (fun h=>how (.inl h)) (fun h=>how (.inr h))
 have hdo:doE p e n c=((waitE p e n),(-2)):=by
  unfold doE;simp only;rw [if_neg (by omega),if_neg (by omega),if_neg (by omega),if_pos hop,if_neg how]
 rw [hdo]
 refine zD (rs:=[(.cell 8 45,45),(.tmp 9,3)]) za Tryz.func218 rfl rfl rfl (Nat.le_of_ble_eq_true rfl) rfl fun ho hm x hn hlent=>?_
 refine zbQ hn za [false] (fun _ _=>False) (fun _ _ h=>h.elim) (fun _ _ h=>h) (zqm e (hL.le (by omega)) hg0 hz) rfl ?_ rfl rfl trivial rfl rfl (fun i hi=>by cases hi) ?_
 ·exact qS
 rintro r Mo Po ⟨xs,tg,rfl,rfl,hcp0⟩
 refine ⟨rfl,fun id hi=>.inr fun hl=>absurd ((hlent id).1 hl) Bool.false_ne_true,fun id hi=>zbY rfl rfl hi,fun x1 hx1 _ hPo _=>?_⟩
 have hn:=hx1.n.trans hn
 have hcp:CpY (z7 x1) tg e.mus xs:=hcp0.up hPo
 refine zdc [(1000,501),(1002,503)] (l1:=(hEm (zy e.chans))) (m1:=(mXm e xs)) ?_ ?_ rfl (fun i hi=>by rw [hx1.lent] at hi;exact absurd ((hlent i).1 hi) Bool.false_ne_true) ?_
 ·exact qL
 ·exact qL
 refine qK hn za rfl rfl (by (first | exact zC _ _ | exact con_at_impl.instr _ _ (by assumption) | assumption)) ?_
 repeat (refine ze hn za rfl qS ?_ ?_<;>intro hc<;>first | (replace hc:=qC2 hc;try exact qX) | exact qF2 hc | skip)
 refine zbQ hn za [false,true,false,false] (z7 _) (fun _ _ h=>h) ?_ (zk8 (zy e.chans) p e n (zb p (e.gs.getD n.toNat zd)) (hL.le (by omega)) h hnr hs (by omega) hop how hwc (zte hop) xs tg) rfl ?_ rfl rfl (by repeat' (first | exact trivial | refine And.intro rfl ?_)) rfl rfl (fun i hi=>zaL rfl hi) ?_
 ·exact hcp
 ·exact qS
 rintro r Mo Po ⟨rfl,rfl⟩
 refine ⟨rfl,fun id hi=>.inl (zaX rfl rfl hi),fun id hi=>zbS rfl rfl hi,fun x2 hx2 _ _ _=>?_⟩
 have hn:=hx2.n.trans hn
 refine zf hn za rfl ?_ ⟨_,.tup [hEm (zy e.chans),.dat (.int .i64 (-2))],mEm (waitE p e n),[],rfl,rfl,⟨rfl,rfl,trivial⟩,rfl,rfl,rfl,zto (zqB hop)⟩
 exact qS
set_option maxHeartbeats 16000000 in
theorem zxf (p:zn) (e:zz) (n c:Int) (hL:zp e 1099511600000) (hok:zay p e=true) (hnr:0≤n∧n<e.gs.length) (hs:(e.gs.getD n.toNat zd).state=1) (hop:(zb p (e.gs.getD n.toNat zd)).op=13):Ct Tryz.prog 218 [.dagg (zQ p),.dagg (zad e),.dat (.int .i64 n),.dat (.int .i64 c)] [] (fun r Mo=>LV.pure3 (mm Mo) r=some (.tup [.dagg (zad (doE p e n c).1),.dat (.int .i64 (doE p e n c).2)])):=by
 have h:=zaM.1 hok
 have ha:=h.alive hnr (.inl hs)
 have hgh:=ha.head (.inl hs)
 have hi:=zaT h.prog ha.pc
 have hin:=hi.ins
 rw [zap] at hin
 have hgl:=hL.gor hnr
 have hpc:=zaq h.prog ha
 have hlast:=hi.last
 have hcl:=h.cl
 have hml:=h.ml
 have hg0:0<e.gs.length:=by omega
 have hat0:=con_at_impl.instr p (e.gs.getD n.toNat zd) hgh
 have hz:e.mus≠[]:=fun hz=>by
  rw [hz] at hml
  simp only [List.length_nil] at hml
  omega
 have hdo:doE p e n c=((unlockE e n (zb p (e.gs.getD n.toNat zd)).a),(-2)):=by
  unfold doE;simp only;rw [if_neg (by omega),if_neg (by omega),if_neg (by omega),if_neg (by omega),if_pos hop]
 rw [hdo]
 refine zD (rs:=[(.cell 8 45,45),(.tmp 9,3)]) za Tryz.func218 rfl rfl rfl (Nat.le_of_ble_eq_true rfl) rfl fun ho hm x hn hlent=>?_
 refine zbQ hn za [false] (fun _ _=>False) (fun _ _ h=>h.elim) (fun _ _ h=>h) (zl7 e (hL.le (by omega)) hg0 hz) rfl ?_ rfl rfl trivial rfl rfl (fun i hi=>by cases hi) ?_;exact qS;rintro r Mo Po ⟨rfl,rfl⟩;refine ⟨rfl,fun id hi=>.inr fun hl=>absurd ((hlent id).1 hl) Bool.false_ne_true,fun id hi=>zbY rfl rfl hi,fun x1 hx1 _ hPo _=>?_⟩;have hn:=hx1.n.trans hn;refine zdc [(1000,501),(1002,503)] (l1:=(hEm (zy e.chans))) (m1:=(mEm e)) ?_ ?_ rfl (fun i hi=>by rw [hx1.lent] at hi;exact absurd ((hlent i).1 hi) Bool.false_ne_true) ?_;exact qL;exact qL
 refine qK hn za rfl rfl (by (first | exact zC _ _ | exact con_at_impl.instr _ _ (by assumption) | assumption)) ?_
 repeat (refine ze hn za rfl qS ?_ ?_<;>intro hc<;>first | (replace hc:=qC2 hc;try exact qX) | exact qF2 hc | skip)
 refine zbB hn za [false,true,false,false] (zlP (zy e.chans) p e n (zb p (e.gs.getD n.toNat zd)) (hL.le (by omega)) h hnr hs (by omega) hop) rfl ?_ rfl rfl (by repeat' (first | exact trivial | refine And.intro rfl ?_)) rfl (fun i hi=>(by cases hi)) (.inl rfl) (fun i hi=>zaL rfl hi) ?_;exact qS;rintro r Mo ⟨rfl,rfl⟩;refine ⟨rfl,fun id hi=>.inl (zaX rfl rfl hi),fun id hi=>zbS rfl rfl hi,?_⟩
 refine zf hn za rfl ?_ ⟨_,.tup [hEm (zy e.chans),.dat (.int .i64 (-2))],mEm (unlockE e n (zb p (e.gs.getD n.toNat zd)).a),[],rfl,rfl,⟨rfl,rfl,trivial⟩,rfl,rfl,rfl,zto (zoT _)⟩
 exact qS
set_option maxHeartbeats 16000000 in
theorem zwL (p:zn) (e:zz) (n c:Int) (hL:zp e 1099511600000) (hok:zay p e=true) (hnr:0≤n∧n<e.gs.length) (hs:(e.gs.getD n.toNat zd).state=1) (hop:(zb p (e.gs.getD n.toNat zd)).op=14) (h10:e.gs.length=10):Ct Tryz.prog 218 [.dagg (zQ p),.dagg (zad e),.dat (.int .i64 n),.dat (.int .i64 c)] [] (fun r Mo=>LV.pure3 (mm Mo) r=some (.tup [.dagg (zad (doE p e n c).1),.dat (.int .i64 (doE p e n c).2)])):=by
 have h:=zaM.1 hok
 have ha:=h.alive hnr (.inl hs)
 have hgh:=ha.head (.inl hs)
 have hi:=zaT h.prog ha.pc
 have hin:=hi.ins
 rw [zap] at hin
 have hgl:=hL.gor hnr
 have hpc:=zaq h.prog ha
 have hlast:=hi.last
 have hcl:=h.cl
 have hml:=h.ml
 have hg0:0<e.gs.length:=by omega
 have hat0:=con_at_impl.instr p (e.gs.getD n.toNat zd) hgh
 have hov:=zbO (e.gs.getD n.toNat zd) 5 (by omega) (by omega)
 have hdo:doE p e n c=((setG e n (over (e.gs.getD n.toNat zd) 5)),(-2)):=by
  unfold doE;simp only;rw [if_neg (by omega),if_neg (by omega),if_neg (by omega),if_neg (by omega),if_neg (by omega),if_pos hop];unfold spawnE;simp only;rw [if_pos h10]
 rw [hdo]
 refine zD (rs:=[(.cell 8 45,45),(.tmp 9,3)]) za Tryz.func218 rfl rfl rfl (Nat.le_of_ble_eq_true rfl) rfl fun ho hm x hn hlent=>?_
 refine zbQ hn za [false] (fun _ _=>False) (fun _ _ h=>h.elim) (fun _ _ h=>h) (zcK e (hL.le (by omega)) hg0) rfl ?_ rfl rfl trivial rfl rfl (fun i hi=>by cases hi) ?_;exact qS;rintro r Mo Po ⟨rfl,rfl⟩;refine ⟨rfl,fun id hi=>.inr fun hl=>absurd ((hlent id).1 hl) Bool.false_ne_true,fun id hi=>zbY rfl rfl hi,fun x1 hx1 _ hPo _=>?_⟩;have hn:=hx1.n.trans hn;refine zdc [(1000,501)] (l1:=(hEg (zy e.chans) (zm e.mus))) (m1:=(mEg e)) ?_ ?_ rfl (fun i hi=>by rw [hx1.lent] at hi;exact absurd ((hlent i).1 hi) Bool.false_ne_true) ?_;exact qL;exact qL
 refine qK hn za rfl rfl (by (first | exact zC _ _ | exact con_at_impl.instr _ _ (by assumption) | assumption)) ?_
 repeat (refine ze hn za rfl qS ?_ ?_<;>intro hc<;>first | (replace hc:=qC2 hc;try exact qX) | exact qF2 hc | skip)
 refine qD hn za zu [.r (.dagg (zH (over (e.gs.getD n.toNat zd) 5))),.raw .no [(1000,some (.row 172 5 zd zH (e.gs.set n.toNat (over (e.gs.getD n.toNat zd) 5))))] none] rfl rfl ?_ ?_
 ·(try refine qM ?_);repeat' (first | exact trivial | (first | exact zC _ _ | exact con_at_impl.instr _ _ (by assumption) | assumption) | assumption | omega | exact qV | refine And.intro ?_ ?_)
  exact zab _ hn za rfl ⟨_,_,rfl,rfl,rfl⟩ rfl rfl rfl rfl rfl (Nat.le_of_ble_eq_true rfl) rfl rfl
 refine zf hn za rfl ?_ ⟨_,.tup [hEg (zy e.chans) (zm e.mus),.dat (.int .i64 (-2))],mEg (setG e n (over (e.gs.getD n.toNat zd) 5)),[],rfl,rfl,⟨rfl,trivial⟩,rfl,rfl,rfl,zmc rfl rfl⟩
 exact qS
set_option maxHeartbeats 16000000 in
theorem zxg (p:zn) (e:zz) (n c:Int) (hL:zp e 1099511600000) (hok:zay p e=true) (hnr:0≤n∧n<e.gs.length) (hs:(e.gs.getD n.toNat zd).state=1) (hop:(zb p (e.gs.getD n.toNat zd)).op=14) (h10:e.gs.length≠10):Ct Tryz.prog 218 [.dagg (zQ p),.dagg (zad e),.dat (.int .i64 n),.dat (.int .i64 c)] [] (fun r Mo=>LV.pure3 (mm Mo) r=some (.tup [.dagg (zad (doE p e n c).1),.dat (.int .i64 (doE p e n c).2)])):=by
 have h:=zaM.1 hok
 have ha:=h.alive hnr (.inl hs)
 have hgh:=ha.head (.inl hs)
 have hi:=zaT h.prog ha.pc
 have hin:=hi.ins
 rw [zap] at hin
 have hgl:=hL.gor hnr
 have hpc:=zaq h.prog ha
 have hlast:=hi.last
 have hcl:=h.cl
 have hml:=h.ml
 have hg0:0<e.gs.length:=by omega
 have hat0:=con_at_impl.instr p (e.gs.getD n.toNat zd) hgh
 have hdo:doE p e n c=({(zbk e n ⟨7,(zb p (e.gs.getD n.toNat zd)).a,e.gs.length,false⟩) with gs:=(zbk e n ⟨7,(zb p (e.gs.getD n.toNat zd)).a,e.gs.length,false⟩).gs++[(za5 (zb p (e.gs.getD n.toNat zd)).a (regOf (e.gs.getD n.toNat zd) (zb p (e.gs.getD n.toNat zd)).b))]},-2):=by
  unfold doE;simp only;rw [if_neg (by omega),if_neg (by omega),if_neg (by omega),if_neg (by omega),if_neg (by omega),if_pos hop];unfold spawnE;simp only;rw [if_neg h10];rfl
 rw [hdo]
 have hrg:=zgK (e.gs.getD n.toNat zd) (zb p (e.gs.getD n.toNat zd)).b
 have hgn:=zhp (zb p (e.gs.getD n.toNat zd)).a (regOf (e.gs.getD n.toNat zd) (zb p (e.gs.getD n.toNat zd)).b)
 have hgn10:e.gs.length≤10:=h.len.2
 refine zD (rs:=[(.cell 8 45,45),(.tmp 9,3)]) za Tryz.func218 rfl rfl rfl (Nat.le_of_ble_eq_true rfl) rfl fun ho hm x hn hlent=>?_
 refine zbQ hn za [false] (fun _ _=>False) (fun _ _ h=>h.elim) (fun _ _ h=>h) (zcK e (hL.le (by omega)) hg0) rfl ?_ rfl rfl trivial rfl rfl (fun i hi=>by cases hi) ?_;exact qS;rintro r Mo Po ⟨rfl,rfl⟩;refine ⟨rfl,fun id hi=>.inr fun hl=>absurd ((hlent id).1 hl) Bool.false_ne_true,fun id hi=>zbY rfl rfl hi,fun x1 hx1 _ hPo _=>?_⟩;have hn:=hx1.n.trans hn;refine zdc [(1000,501)] (l1:=(hEg (zy e.chans) (zm e.mus))) (m1:=(mEg e)) ?_ ?_ rfl (fun i hi=>by rw [hx1.lent] at hi;exact absurd ((hlent i).1 hi) Bool.false_ne_true) ?_;exact qL;exact qL
 refine qK hn za rfl rfl (by (first | exact zC _ _ | exact con_at_impl.instr _ _ (by assumption) | assumption)) ?_
 repeat (refine ze hn za rfl qS ?_ ?_<;>intro hc<;>first | (replace hc:=qC2 hc;try exact qX) | exact qF2 hc | skip)
 refine zbB hn za [true,false,false] (zit (zy e.chans) (zm e.mus) e n ⟨7,(zb p (e.gs.getD n.toNat zd)).a,e.gs.length,false⟩ hnr (by omega) (by omega) (by omega)) rfl ?_ rfl rfl (by repeat' (first | exact trivial | refine And.intro rfl ?_)) rfl (fun i hi=>(by cases hi)) (.inl rfl) (fun i hi=>zaL rfl hi) ?_;exact qS;rintro r Mo ⟨rfl,rfl⟩;refine ⟨rfl,fun id hi=>.inl (zaX rfl rfl hi),fun id hi=>zbS rfl rfl hi,?_⟩
 have hln:(zbk e n ⟨7,(zb p (e.gs.getD n.toNat zd)).a,e.gs.length,false⟩).gs.length=e.gs.length:=List.length_set
 refine qD hn za zu [.r (.dat (.int .i64 (regOf (e.gs.getD n.toNat zd) (zb p (e.gs.getD n.toNat zd)).b))),.r (.dagg (zH (za5 (zb p (e.gs.getD n.toNat zd)).a (regOf (e.gs.getD n.toNat zd) (zb p (e.gs.getD n.toNat zd)).b)))),.raw (.own 109) [(109,some (.row 172 5 zd zH [(za5 (zb p (e.gs.getD n.toNat zd)).a (regOf (e.gs.getD n.toNat zd) (zb p (e.gs.getD n.toNat zd)).b))]))] (some 109),.raw (.own 110) [(110,some (.row 172 5 zd zH ((zbk e n ⟨7,(zb p (e.gs.getD n.toNat zd)).a,e.gs.length,false⟩).gs++[(za5 (zb p (e.gs.getD n.toNat zd)).a (regOf (e.gs.getD n.toNat zd) (zb p (e.gs.getD n.toNat zd)).b))]))),(1000,none)] (some 110)] rfl rfl ?_ ?_
 ·(try refine qM ?_);repeat' (first | exact trivial | (first | exact zC _ _ | exact con_at_impl.instr _ _ (by assumption) | assumption) | assumption | omega | exact qV | refine And.intro ?_ ?_)
 refine zf hn za rfl ?_ ⟨_,.tup [.lagg [.own 110,.dat (zy e.chans),.dat (zm e.mus)],.dat (.int .i64 (-2))],[(110,some (.row 172 5 zd zH ((zbk e n ⟨7,(zb p (e.gs.getD n.toNat zd)).a,e.gs.length,false⟩).gs++[(za5 (zb p (e.gs.getD n.toNat zd)).a (regOf (e.gs.getD n.toNat zd) (zb p (e.gs.getD n.toNat zd)).b))])))],[],rfl,rfl,⟨rfl,trivial⟩,rfl,rfl,rfl,rfl⟩
 exact qS
set_option maxHeartbeats 16000000 in
theorem zxo (p:zn) (e:zz) (n c:Int) (hL:zp e 1099511600000) (hok:zay p e=true) (hnr:0≤n∧n<e.gs.length) (hs:(e.gs.getD n.toNat zd).state=1) (hop:(zb p (e.gs.getD n.toNat zd)).op=15):Ct Tryz.prog 218 [.dagg (zQ p),.dagg (zad e),.dat (.int .i64 n),.dat (.int .i64 c)] [] (fun r Mo=>LV.pure3 (mm Mo) r=some (.tup [.dagg (zad (doE p e n c).1),.dat (.int .i64 (doE p e n c).2)])):=by
 have h:=zaM.1 hok
 have ha:=h.alive hnr (.inl hs)
 have hgh:=ha.head (.inl hs)
 have hi:=zaT h.prog ha.pc
 have hin:=hi.ins
 rw [zap] at hin
 have hgl:=hL.gor hnr
 have hpc:=zaq h.prog ha
 have hlast:=hi.last
 have hcl:=h.cl
 have hml:=h.ml
 have hg0:0<e.gs.length:=by omega
 have hat0:=con_at_impl.instr p (e.gs.getD n.toNat zd) hgh
 have hrg:=zgK (e.gs.getD n.toNat zd) (zb p (e.gs.getD n.toNat zd)).a
 have hdo:doE p e n c=((zbk e n ⟨8,0,regOf (e.gs.getD n.toNat zd) (zb p (e.gs.getD n.toNat zd)).a,false⟩),(-2)):=by
  unfold doE;simp only;rw [if_neg (by omega),if_neg (by omega),if_neg (by omega),if_neg (by omega),if_neg (by omega),if_neg (by omega)]
 rw [hdo]
 refine zD (rs:=[(.cell 8 45,45),(.tmp 9,3)]) za Tryz.func218 rfl rfl rfl (Nat.le_of_ble_eq_true rfl) rfl fun ho hm x hn hlent=>?_
 refine zbQ hn za [false] (fun _ _=>False) (fun _ _ h=>h.elim) (fun _ _ h=>h) (zcK e (hL.le (by omega)) hg0) rfl ?_ rfl rfl trivial rfl rfl (fun i hi=>by cases hi) ?_;exact qS;rintro r Mo Po ⟨rfl,rfl⟩;refine ⟨rfl,fun id hi=>.inr fun hl=>absurd ((hlent id).1 hl) Bool.false_ne_true,fun id hi=>zbY rfl rfl hi,fun x1 hx1 _ hPo _=>?_⟩;have hn:=hx1.n.trans hn;refine zdc [(1000,501)] (l1:=(hEg (zy e.chans) (zm e.mus))) (m1:=(mEg e)) ?_ ?_ rfl (fun i hi=>by rw [hx1.lent] at hi;exact absurd ((hlent i).1 hi) Bool.false_ne_true) ?_;exact qL;exact qL
 refine qK hn za rfl rfl (by (first | exact zC _ _ | exact con_at_impl.instr _ _ (by assumption) | assumption)) ?_
 repeat (refine ze hn za rfl qS ?_ ?_<;>intro hc<;>first | (replace hc:=qC2 hc;try exact qX) | exact qF2 hc | skip)
 refine qD hn za zu [.r (.dat (.int .i64 (regOf (e.gs.getD n.toNat zd) (zb p (e.gs.getD n.toNat zd)).a))),.raw (.tup []) (mEg (zbk e n ⟨8,0,regOf (e.gs.getD n.toNat zd) (zb p (e.gs.getD n.toNat zd)).a,false⟩)++[(1000,none)]) none] rfl rfl ?_ ?_
 ·(try refine qM ?_);repeat' (first | exact trivial | (first | exact zC _ _ | exact con_at_impl.instr _ _ (by assumption) | assumption) | assumption | omega | exact qV | refine And.intro ?_ ?_)
  exact zp2 [true,false,false] (zit (zy e.chans) (zm e.mus) e n ⟨8,0,regOf (e.gs.getD n.toNat zd) (zb p (e.gs.getD n.toNat zd)).a,false⟩ hnr (by omega) (by omega) (by omega)) (fun i h=>zbS rfl rfl h) (fun i hi=>zaL rfl hi) hn za rfl rfl rfl rfl rfl rfl rfl rfl (by repeat' (first | exact trivial | refine And.intro rfl ?_)) rfl rfl rfl rfl (fun id hi=>.inl (zaL rfl (zex rfl id hi))) rfl rfl
 refine zf hn za rfl ?_ ⟨_,.tup [hEg (zy e.chans) (zm e.mus),.dat (.int .i64 (-2))],mEg (zbk e n ⟨8,0,regOf (e.gs.getD n.toNat zd) (zb p (e.gs.getD n.toNat zd)).a,false⟩),[],rfl,rfl,⟨rfl,trivial⟩,rfl,rfl,rfl,zmc rfl rfl⟩
 exact qS
theorem zjq (p:zn) (e:zz) (n c:Int) (hL:zp e 1099511600000) (hok:zay p e=true) (hnr:0≤n∧n<e.gs.length) (hs:(e.gs.getD n.toNat zd).state=1) (hsh:zbr (zb p (e.gs.getD n.toNat zd)).op=true):Con Tryz.prog 218 [.dagg (zQ p),.dagg (zad e),.dat (.int .i64 n),.dat (.int .i64 c)] (.tup [.dagg (zad (doE p e n c).1),.dat (.int .i64 (doE p e n c).2)]):=by
 refine zmW ?_ fun r Mo h=>h
 rw [zbr,decide_eq_true_eq] at hsh
 by_cases h11:(zb p (e.gs.getD n.toNat zd)).op=11
 ·by_cases hl0:0<(zX e (p.sels.getD (zb p (e.gs.getD n.toNat zd)).a.toNat zh).cases).length
  ·exact zuQ p e n c hL hok hnr hs h11 hl0
  ·by_cases hel:(p.sels.getD (zb p (e.gs.getD n.toNat zd)).a.toNat zh).els<0
   ·by_cases hz:e.chans=[]
    ·exact zuW p e n c hL hok hnr hs h11 hl0 hel hz
    ·exact zuV p e n c hL hok hnr hs h11 hl0 hel hz
   ·exact zuT p e n c hL hok hnr hs h11 hl0 hel
 by_cases h8:(zb p (e.gs.getD n.toNat zd)).op=8
 ·cases hcr:zP e ⟨decide ((zb p (e.gs.getD n.toNat zd)).op=8),(zb p (e.gs.getD n.toNat zd)).a,(zb p (e.gs.getD n.toNat zd)).b,(zb p (e.gs.getD n.toNat zd)).c,(e.gs.getD n.toNat zd).pc+1⟩ with
  | true=>exact zwI p e n c hL hok hnr hs h8 hcr
  | false=>
   by_cases hz:e.chans=[]
   ·exact zwo p e n c hL hok hnr hs h8 hcr hz
   ·exact zws p e n c hL hok hnr hs h8 hcr hz
 by_cases h9:(zb p (e.gs.getD n.toNat zd)).op=9
 ·cases hcr:zP e ⟨decide ((zb p (e.gs.getD n.toNat zd)).op=8),(zb p (e.gs.getD n.toNat zd)).a,(zb p (e.gs.getD n.toNat zd)).b,(zb p (e.gs.getD n.toNat zd)).c,(e.gs.getD n.toNat zd).pc+1⟩ with
  | true=>exact zwf p e n c hL hok hnr hs h9 hcr
  | false=>
   by_cases hz:e.chans=[]
   ·exact zwF p e n c hL hok hnr hs h9 hcr hz
   ·exact zwm p e n c hL hok hnr hs h9 hcr hz
 by_cases h10:(zb p (e.gs.getD n.toNat zd)).op=10
 ·by_cases hz:e.chans=[]
  ·exact zwu p e n c hL hok hnr hs h10 hz
  ·exact zxm p e n c hL hok hnr hs h10 hz
 by_cases h12:(zb p (e.gs.getD n.toNat zd)).op=12
 ·by_cases how:((e.mus.getD (zb p (e.gs.getD n.toNat zd)).a.toNat zj).owner=n∨(e.mus.getD (zb p (e.gs.getD n.toNat zd)).a.toNat zj).owner=-1)
  ·exact zxd p e n c hL hok hnr hs h12 how
  ·exact zw6 p e n c hL hok hnr hs h12 how
 by_cases h13:(zb p (e.gs.getD n.toNat zd)).op=13
 ·exact zxf p e n c hL hok hnr hs h13
 by_cases h14:(zb p (e.gs.getD n.toNat zd)).op=14
 ·by_cases h10:e.gs.length=10
  ·exact zwL p e n c hL hok hnr hs h14 h10
  ·exact zxg p e n c hL hok hnr hs h14 h10
 exact zxo p e n c hL hok hnr hs (by omega)
end
open Go.RowKit
set_option linter.unusedVariables false
set_option linter.unusedSimpArgs false
set_option maxRecDepth 100000
theorem zse {P:Program} {f:FuncId} {args:List LV} {Post:LV→Ml→(Nat→Obj→Prop)→Prop} (h:CtG P f args [] zip Post):Ct P f args [] (fun r Mo=>∃ Po,Post r Mo Po):=by
 refine ⟨h.1,fun S w m vs hS hM hl hvs=>Calls.mono (h.2 S (fun _ _=>False) w m vs hS (fun b o h=>h.elim) zim hl (fun j v l hv hlj=>(Mws.of (M:=mm []) (m:=m) (w:=w) (S1:=S) fun k hk=>zd2.no (fun b o h=>h) hk).r2 (hvs j v l hv hlj)) fun b o h=>h) ?_⟩
 rintro e w1 ⟨v,r,Mo,m1,Po,he,hp,hb⟩
 have hs:∀ k,S k→zd2 S Po k:=fun k hk=>.inl hk
 refine ⟨v,r,Mo,m1,he,⟨Po,hp⟩,(Mws.of hs).r3 hb.val,⟨fun id b hb'=>⟨(Mws.of hs).blk rfl (hb.mem.blk id b hb').1,(hb.mem.blk id b hb').2⟩,hb.mem.inj,fun i hi hw=>hb.mem.out i hi (hs _ hw)⟩,fun i hi=>?_,hb.keep,⟨hb.same.size,fun k hk hn=>hb.same.at_ k hk fun hh=>?_⟩,hb.os,hb.tape,hb.output⟩
 ·rcases hb.new i hi with h | ⟨j,h,_⟩ | ⟨o,h⟩
  ·exact .inl h
  ·cases h
  ·exact h.elim
 ·rcases hh with hh | ⟨o,h⟩
  ·exact hn hh
  ·exact h.elim
theorem zku (e:zz) (hL:zp e 1099511627776) (hg0:0<e.gs.length):Con Tryz.prog 154 [.dagg (zad e)] (.dagg (zad e)):=zmW (zse (zcK e hL hg0)) fun r Mo ⟨Po,h⟩=>by
 obtain ⟨rfl,rfl⟩:=h
 rfl
section
set_option maxHeartbeats 16000000 in
theorem zoS (p:zn) (e:zz) (k:zbR) (hL:zp e 1099511600000) (hok:zay p e=true) (hlen:0<(inState e 1).length):Ct Tryz.prog 155 [.dagg (zQ p),.dagg (zad e),.dagg (zpK k)] [] (fun r Mo=>LV.pure3 (mm Mo) r=some (.tup [.dagg (zad (zbT p e (zcl e k) k.c).1),.dagg (zdA (zbT p e (zcl e k) k.c).2)])):=by
 have h:=zaM.1 hok
 have hgs:=h.len
 obtain ⟨hnr,hs⟩:=zmi k hlen
 have hrd:=zfI e (by omega)
 have hmod:=zg5 (c:=k.g) hlen
 have hil:=zcb (zf1 e.gs 1) e.gs.length
 have hil:(inState e 1).length≤10:=by unfold inState;omega
 have hmo:=zfs k.g (inState e 1).length (by omega)
 have hN:(inState e 1).getD (zV k.g (inState e 1).length).toNat 0=zcl e k:=rfl
 have ha:=h.alive hnr (.inl hs)
 have hgh:=ha.head (.inl hs)
 have hgl:=hL.gor hnr
 have hpc:=zaq h.prog ha
 have hat0:=con_at_impl.instr p (e.gs.getD (zcl e k).toNat zd) hgh
 have hob:=zmS (zb p (e.gs.getD (zcl e k).toNat zd))
 have hshc:=zaN (zb p (e.gs.getD (zcl e k).toNat zd)).op
 rw [← hN] at hnr hs ha hgh hgl hpc hat0 hob hshc ⊢
 have hg0:0<e.gs.length:=by omega
 by_cases hsh:zbr (zb p (e.gs.getD ((inState e 1).getD (zV k.g (inState e 1).length).toNat 0).toNat zd)).op=true
 ·have hE:zbT p e ((inState e 1).getD (zV k.g (inState e 1).length).toNat 0) k.c=((doE p e ((inState e 1).getD (zV k.g (inState e 1).length).toNat 0) k.c).1,⟨((inState e 1).getD (zV k.g (inState e 1).length).toNat 0),(zb p (e.gs.getD ((inState e 1).getD (zV k.g (inState e 1).length).toNat 0).toNat zd)).op,zdz (zb p (e.gs.getD ((inState e 1).getD (zV k.g (inState e 1).length).toNat 0).toNat zd)),(doE p e ((inState e 1).getD (zV k.g (inState e 1).length).toNat 0) k.c).2⟩):=by unfold zbT;simp only;rw [if_pos hsh]
  rw [hE]
  rw [hsh] at hshc
  have hds:=zjq p e ((inState e 1).getD (zV k.g (inState e 1).length).toNat 0) k.c hL hok hnr hs hsh
  refine zD (rs:=[(.cell 6 45,45),(.cell 7 144,144)]) za Tryz.func155 rfl rfl rfl (Nat.le_of_ble_eq_true rfl) rfl fun ho hm x hn hlent=>?_
  refine qK hn za rfl rfl (by (first | exact zaN _ | exact con_at_impl.instr _ _ (by assumption) | assumption)) ?_
  refine qK hn za rfl rfl (by (first | exact zaN _ | exact con_at_impl.instr _ _ (by assumption) | assumption)) ?_
  refine qD hn za zu [.r (.dagg (zc7 (zb p (e.gs.getD ((inState e 1).getD (zV k.g (inState e 1).length).toNat 0).toNat zd))))] rfl rfl ?_ ?_
  ·(try refine qM ?_);repeat' (first | exact trivial | (first | exact zaN _ | exact con_at_impl.instr _ _ (by assumption) | assumption) | assumption | omega | exact qV | refine And.intro ?_ ?_)
  refine qD hn za zu [.r (.dat (.int .i64 (zdz (zb p (e.gs.getD ((inState e 1).getD (zV k.g (inState e 1).length).toNat 0).toNat zd)))))] rfl rfl ?_ ?_
  ·(try refine qM ?_);repeat' (first | exact trivial | (first | exact zaN _ | exact con_at_impl.instr _ _ (by assumption) | assumption) | assumption | omega | exact qV | refine And.intro ?_ ?_)
  refine zbs hn za rfl ?_ rfl [] ⟨_,.dat (.bool true),rfl,hshc,rfl,.inl rfl,?_⟩
  ·exact qS
  refine ze hn za rfl qS ?_ ?_<;>intro hc<;>first | (replace hc:=qC2 hc;try exact qX) | exact qF2 hc | skip
  all_goals (try (exfalso;simp at hc;done))
  refine zbs hn za rfl ?_ rfl [] ⟨_,.tup [.dagg (zad (doE p e ((inState e 1).getD (zV k.g (inState e 1).length).toNat 0) k.c).1),.dat (.int .i64 (doE p e ((inState e 1).getD (zV k.g (inState e 1).length).toNat 0) k.c).2)],rfl,hds,rfl,.inr (fun id hi=>zdl hi),?_⟩
  ·exact qS
  refine qD hn za zu [] rfl rfl ?_ ?_
  ·(try refine qM ?_);repeat' (first | exact trivial | (first | exact zaN _ | exact con_at_impl.instr _ _ (by assumption) | assumption) | assumption | omega | exact qV | refine And.intro ?_ ?_)
  refine zf hn za rfl ?_ ⟨_,.tup [.dagg (zad (doE p e ((inState e 1).getD (zV k.g (inState e 1).length).toNat 0) k.c).1),.dagg (zdA ⟨((inState e 1).getD (zV k.g (inState e 1).length).toNat 0),(zb p (e.gs.getD ((inState e 1).getD (zV k.g (inState e 1).length).toNat 0).toNat zd)).op,zdz (zb p (e.gs.getD ((inState e 1).getD (zV k.g (inState e 1).length).toNat 0).toNat zd)),(doE p e ((inState e 1).getD (zV k.g (inState e 1).length).toNat 0) k.c).2⟩)],[],[],rfl,rfl,trivial,rfl,rfl,rfl,rfl⟩
  exact qS
 ·have hE:zbT p e ((inState e 1).getD (zV k.g (inState e 1).length).toNat 0) k.c=(setG e ((inState e 1).getD (zV k.g (inState e 1).length).toNat 0) (zcN p (e.gs.getD ((inState e 1).getD (zV k.g (inState e 1).length).toNat 0).toNat zd)),⟨((inState e 1).getD (zV k.g (inState e 1).length).toNat 0),(zb p (e.gs.getD ((inState e 1).getD (zV k.g (inState e 1).length).toNat 0).toNat zd)).op,zdz (zb p (e.gs.getD ((inState e 1).getD (zV k.g (inState e 1).length).toNat 0).toNat zd)),-2⟩):=by unfold zbT;simp only;rw [if_neg hsh]
  rw [hE]
  have hsh0:zbr (zb p (e.gs.getD ((inState e 1).getD (zV k.g (inState e 1).length).toNat 0).toNat zd)).op=false:=by simpa only [Bool.not_eq_true] using hsh
  rw [hsh0] at hshc
  rw [zbr,decide_eq_true_eq] at hsh
  have hin:=(zaT h.prog ha.pc).ins
  rw [zap] at hin
  have hsl:=ziY p (e.gs.getD ((inState e 1).getD (zV k.g (inState e 1).length).toNat 0).toNat zd) h.prog hgh (by omega) (by omega) (by omega)
  refine zD (rs:=[(.cell 6 45,45),(.cell 7 144,144)]) za Tryz.func155 rfl rfl rfl (Nat.le_of_ble_eq_true rfl) rfl fun ho hm x hn hlent=>?_
  refine qK hn za rfl rfl (by (first | exact zaN _ | exact con_at_impl.instr _ _ (by assumption) | assumption)) ?_
  refine qK hn za rfl rfl (by (first | exact zaN _ | exact con_at_impl.instr _ _ (by assumption) | assumption)) ?_
  refine qD hn za zu [.r (.dagg (zc7 (zb p (e.gs.getD ((inState e 1).getD (zV k.g (inState e 1).length).toNat 0).toNat zd))))] rfl rfl ?_ ?_
  ·(try refine qM ?_);repeat' (first | exact trivial | (first | exact zaN _ | exact con_at_impl.instr _ _ (by assumption) | assumption) | assumption | omega | exact qV | refine And.intro ?_ ?_)
  refine qD hn za zu [.r (.dat (.int .i64 (zdz (zb p (e.gs.getD ((inState e 1).getD (zV k.g (inState e 1).length).toNat 0).toNat zd)))))] rfl rfl ?_ ?_
  ·(try refine qM ?_);repeat' (first | exact trivial | (first | exact zaN _ | exact con_at_impl.instr _ _ (by assumption) | assumption) | assumption | omega | exact qV | refine And.intro ?_ ?_)
  refine zbs hn za rfl ?_ rfl [] ⟨_,.dat (.bool false),rfl,hshc,rfl,.inl rfl,?_⟩
  ·exact qS
  refine ze hn za rfl qS ?_ ?_<;>intro hc<;>first | (replace hc:=qC2 hc;try exact qX) | exact qF2 hc | skip
  all_goals (try (exfalso;simp at hc;done))
  refine zbQ hn za [false] (fun _ _=>False) (fun _ _ h=>h.elim) (fun _ _ h=>h) (zcK e (hL.le (by omega)) hg0) rfl ?_ rfl rfl trivial rfl rfl (fun i hi=>by cases hi) ?_;exact qS;rintro r Mo Po ⟨rfl,rfl⟩;refine ⟨rfl,fun id hi=>.inr fun hl=>absurd ((hlent id).1 hl) Bool.false_ne_true,fun id hi=>zbY rfl rfl hi,fun x1 hx1 _ hPo _=>?_⟩;have hn:=hx1.n.trans hn;refine zdc [(1000,501)] (l1:=(hEg (zy e.chans) (zm e.mus))) (m1:=(mEg e)) ?_ ?_ rfl (fun i hi=>by rw [hx1.lent] at hi;exact absurd ((hlent i).1 hi) Bool.false_ne_true) ?_;exact qL;exact qL
  refine qD hn za zu [.r (.dagg (zH (zcN p (e.gs.getD ((inState e 1).getD (zV k.g (inState e 1).length).toNat 0).toNat zd)))),.raw .no [(1000,some (.row 172 5 zd zH (e.gs.set ((inState e 1).getD (zV k.g (inState e 1).length).toNat 0).toNat (zcN p (e.gs.getD ((inState e 1).getD (zV k.g (inState e 1).length).toNat 0).toNat zd)))))] none] rfl rfl ?_ ?_
  ·(try refine qM ?_);repeat' (first | exact trivial | (first | exact zaN _ | exact con_at_impl.instr _ _ (by assumption) | assumption) | assumption | omega | exact qV | refine And.intro ?_ ?_)
   exact zab _ hn za rfl ⟨_,_,rfl,rfl,rfl⟩ rfl rfl rfl rfl rfl (Nat.le_of_ble_eq_true rfl) rfl rfl
  refine qD hn za zu [] rfl rfl ?_ ?_
  ·(try refine qM ?_);repeat' (first | exact trivial | (first | exact zaN _ | exact con_at_impl.instr _ _ (by assumption) | assumption) | assumption | omega | exact qV | refine And.intro ?_ ?_)
  refine zf hn za rfl ?_ ⟨_,.tup [hEg (zy e.chans) (zm e.mus),.dagg (zdA ⟨((inState e 1).getD (zV k.g (inState e 1).length).toNat 0),(zb p (e.gs.getD ((inState e 1).getD (zV k.g (inState e 1).length).toNat 0).toNat zd)).op,zdz (zb p (e.gs.getD ((inState e 1).getD (zV k.g (inState e 1).length).toNat 0).toNat zd)),-2⟩)],mEg (setG e ((inState e 1).getD (zV k.g (inState e 1).length).toNat 0) (zcN p (e.gs.getD ((inState e 1).getD (zV k.g (inState e 1).length).toNat 0).toNat zd))),[],rfl,rfl,⟨rfl,trivial⟩,rfl,rfl,rfl,rfl⟩
  exact qS
theorem zm5 (p:zn) (e:zz) (k:zbR) (hL:zp e 1099511600000) (hok:zay p e=true) (hlen:0<(inState e 1).length):Con Tryz.prog 155 [.dagg (zQ p),.dagg (zad e),.dagg (zpK k)] (.tup [.dagg (zad (zbT p e (zcl e k) k.c).1),.dagg (zdA (zbT p e (zcl e k) k.c).2)]):=zmW (zoS p e k hL hok hlen) fun r Mo h=>h
end
set_option maxHeartbeats 8000000 in
theorem zml (p:zn) (e:zz) (l:List zbR) (hs:(zeu e).length≤1048576) (hL:zp e 1000000000) (hl:l.length≤1000000000):Con Tryz.prog 86 [.dagg (zQ p),.dagg (zad e),.dat (zcz l)] (zth (zcR p e l)):=by
 have hek:=zhI p e hs
 refine zk (rs:=[(.cell 6 45,45),(.tmp 7,80)]) za Tryz.func86 rfl rfl rfl (Nat.le_of_ble_eq_true rfl) fun ho x hn=>?_
 refine qK hn za rfl rfl (by assumption) ?_
 refine ze hn za rfl qS ?_ ?_<;>intro hc<;>first | (replace hc:=qC2 hc;try exact qX) | exact qF2 hc | skip
 ·rw [show zcR p e l=(zoo,[]) by unfold zcR;rw [if_neg (by rw [hc];decide)]]
  repeat' (first | (refine ze hn za rfl qS ?_ ?_<;>intro hc<;>first | (replace hc:=qC2 hc;try exact qX) | exact qF2 hc | skip) | refine zf hn za rfl qS ⟨_,rfl,?_⟩ | refine qK hn za rfl rfl (by assumption) ?_)
  all_goals rfl
 have hok:=hc
 have hlen0:=(zaM.1 hok).len
 have hcp:=zku e (hL.le (by omega)) (by omega)
 rw [show zcR p e l=zev p e [] l by unfold zcR;rw [if_pos hok]]
 refine qK hn za rfl rfl (by assumption) ?_
 refine zT hn za ziE zdA ([]:List zeY) rfl ?_ rfl rfl rfl rfl rfl rfl rfl rfl rfl ?_;exact qS
 refine zM hn za rfl ?_ (fun (y:Nat×zz×List zeY) wT wM=>((23,.dat (.int .i64 y.1))::(8,.own 100)::(20,.no)::wT,(100,some (.row 144 4 ziE zdA y.2.2))::(4,some (.box 45 (.dagg (zad y.2.1))))::(20,none)::wM)) (zt1 p e l 1000000000) (fun y=>l.length-y.1) (0,e,[]) ⟨Nat.zero_le _,hok,hL,Nat.le_refl _,rfl⟩ (zt [(100,20),(20,999)] ?_ ?_ rfl) ?_
 ·exact qS
 ·exact qL
 ·exact qL
 rintro ⟨i,ei,ds⟩ ⟨hi,hoki,hLi,hdl,heq⟩
 dsimp only at hi hoki hLi hdl heq
 refine ze hn za rfl qS ?_ ?_<;>intro hc<;>first | (replace hc:=qC2 hc;try exact qX) | exact qF2 hc | skip
 ·have hlt:i<l.length:=by omega
  have hd:l.drop i=l.getD i zfh::l.drop (i+1):=by
   rw [List.drop_eq_getElem_cons hlt,List.getD_eq_getElem?_getD,List.getElem?_eq_getElem hlt];rfl
  have hgs:=(zaM.1 hoki).len
  have hrd:=zfI ei (by omega)
  refine qK hn za rfl rfl (by assumption) ?_
  refine ze hn za rfl qS ?_ ?_<;>intro hc<;>first | (replace hc:=qC2 hc;try exact qX) | exact qF2 hc | skip
  ·have hm:zff p ei (l.getD i zfh)=(zoo,ziE,false):=by unfold zff;rw [if_neg (by omega)]
   rw [hd,zev,hm,if_neg (by decide)] at heq
   rw [← heq]
   refine zf hn za rfl qS ⟨_,rfl,?_⟩
   rfl
  ·have hrl:0<(inState ei 1).length:=by omega
   have hm:zff p ei (l.getD i zfh)=((zbT p ei (zcl ei (l.getD i zfh)) (l.getD i zfh).c).1,(zbT p ei (zcl ei (l.getD i zfh)) (l.getD i zfh).c).2,true):=by unfold zff;rw [if_pos ⟨hoki,hrl⟩]
   have hst:=zm5 p ei (l.getD i zfh) (hLi.le (by omega)) hoki hrl
   rcases hm2:zbT p ei (zcl ei (l.getD i zfh)) (l.getD i zfh).c with ⟨e',d⟩
   rw [hm2] at hst hm
   rw [hd,zev,hm,if_pos rfl] at heq
   dsimp only at heq
   obtain ⟨hok',hL'⟩:=zl1 hm hLi
   refine zbs hn za rfl ?_ rfl [] ⟨_,.tup [.dagg (zad e'),.dagg (zdA d)],rfl,hst,rfl,.inr (fun id hi=>zdl hi),?_⟩
   ·exact qS
   refine zT hn za ziE zdA [d] rfl ?_ rfl rfl rfl rfl rfl rfl rfl rfl rfl ?_;exact qS
   refine zas hn za [d] rfl ?_ rfl rfl rfl rfl rfl rfl rfl rfl ?_ ?_;exact qS
   ·show (ds.length+1)*32≤_;omega
   refine zx hn za rfl ?_ ⟨(i+1,e',ds++[d]),⟨hlt,hok',hL'.le (by show 1000000000+100*i+100≤1000000000+100*(i+1);omega),by show (ds++[d]).length≤i+1;rw [List.length_append,List.length_singleton];omega,heq⟩,by show l.length-(i+1)<l.length-i;omega,?_⟩
   ·exact qS
   ·refine zt [(100,42),(42,999)] ?_ ?_ rfl
    ·exact qL
    ·exact qL
 have hie:i=l.length:=by omega
 subst hie
 rw [List.drop_length] at heq
 have heq:(ei,ds)=zev p e [] l:=heq
 rw [← heq]
 refine zf hn za rfl qS ⟨_,rfl,?_⟩
 rfl
set_option maxHeartbeats 4000000 in
theorem zkS (p:zn) (e:zz) (hs:(zeu e).length≤1048576) (hgs:e.gs.length≤1048576):Con Tryz.prog 88 [.dagg (zQ p),.dagg (zad e)] (.dat (.int .i64 (zgV p e))):=by
 have hek:=zhI p e hs
 have hr:=zfI e hgs
 have ha:=zkU e hgs
 refine zk (rs:=[(.tmp 4,3)]) za Tryz.func88 rfl rfl rfl (Nat.le_of_ble_eq_true rfl) fun ho x hn=>?_
 repeat' (first | (refine ze hn za rfl qS ?_ ?_<;>intro hc<;>first | (replace hc:=qC2 hc;try exact qX) | exact qF2 hc | skip) | refine zf hn za rfl qS ⟨_,rfl,?_⟩ | refine qK hn za rfl rfl (by assumption) ?_)
 all_goals (refine congrArg (fun i=>LV.dat (.int .i64 i)) (Eq.symm ?_);unfold zgV)
 ·rw [if_neg (by rw [hc];decide)]
 all_goals (rw [if_pos (by assumption)])
 ·rw [if_pos (by omega)]
 ·rw [if_neg (by omega),if_pos (by omega)]
 ·rw [if_neg (by omega),if_neg (by omega)]
/-! ### the end of a run -/
theorem zqa {α:Type} {Q:α→Prop} {l:List α} {d:α} (hd:Q d) (h:∀ x∈l,Q x) (k:Nat):Q (l.getD k d):=by
 by_cases hk:k<l.length
 ·exact h _ (za6 hk)
 ·rw [zgl (by omega)];exact hd
theorem zmv {α:Type} {f:Nat→List α} (h:∀ k,f k=[]) (n:Nat):zL f n=[]:=by
 refine List.eq_nil_iff_forall_not_mem.2 fun y hy=>?_
 obtain ⟨k,_,hk⟩:=zcm.1 hy
 rw [h k] at hk;cases hk
def zxc (c:zY):Prop:=c.buf=[]∧c.sends=[]∧c.recvs=[]
theorem znk (l:List Int) (k:Nat):zxc ((l.map zch).getD k zg):=zqa ⟨rfl,rfl,rfl⟩ (fun x hx=>by obtain ⟨c,_,rfl⟩:=List.mem_map.1 hx;exact ⟨rfl,rfl,rfl⟩) k
theorem zny (n k:Nat):((List.replicate n zbj).getD k zj).wait=[]:=zqa (Q:=fun m=>zal.wait m=[]) rfl (fun x hx=>by rw [(List.mem_replicate.1 hx).2];rfl) k
theorem znP (p:zn):zeu (zbe p)=[]:=by
 unfold zbe
 split
 ·unfold zeu
  rw [zmv (f:=zdy _) (fun k=>by
   obtain ⟨_,h1,h2⟩:=znk p.caps k
   unfold zdy;dsimp only;rw [h1,h2];rfl),zmv (f:=zfR _) (fun k=>by unfold zfR;dsimp only;rw [zny];rfl)]
  rfl
 ·rfl
theorem ziL (p:zn):zp (zbe p) 1000:=by
 unfold zbe
 split
 ·rename_i hok
  rw [zaa,Bool.and_eq_true,zdZ,decide_eq_true_eq] at hok
  obtain ⟨h1,-⟩:=hok
  refine ⟨by show 1≤1000;omega,by show (p.caps.map zch).length≤1000;rw [List.length_map];omega,by show (List.replicate p.mus.toNat zbj).length≤1000;rw [List.length_replicate];omega,fun i hi=>?_,fun i hi=>?_,fun i hi=>?_⟩
  ·have hi:i<1:=hi
   have:i=0:=by omega
   subst this
   exact ⟨by show (za5 0 0).regs.length≤1000;decide,by show (za5 0 0).trace.length≤1000;decide⟩
  ·obtain ⟨h2,h3,h4⟩:=znk p.caps i
   refine ⟨?_,?_,?_⟩
   ·show ((p.caps.map zch).getD i zg).buf.length≤1000;rw [h2];decide
   ·show ((p.caps.map zch).getD i zg).sends.length≤1000;rw [h3];decide
   ·show ((p.caps.map zch).getD i zg).recvs.length≤1000;rw [h4];decide
  ·show ((List.replicate p.mus.toNat zbj).getD i zj).wait.length≤1000;rw [zny];decide
 ·exact ⟨Nat.zero_le _,Nat.zero_le _,Nat.zero_le _,fun i hi=>absurd hi (Nat.not_lt_zero i),fun i hi=>absurd hi (Nat.not_lt_zero i),fun i hi=>absurd hi (Nat.not_lt_zero i)⟩
theorem zn0 {p:zn} {N:Nat}:∀ {l:List zbR} {e:zz} {ds:List zeY} {m:Nat},zay p e=true→zp e m→zay p (zev p e ds l).1=true∧zp (zev p e ds l).1 (m+100*l.length)
 | [],e,ds,m,h,hL=>⟨h,hL.le (by simp)⟩
 | k::l,e,ds,m,h,hL=>by
  rw [zev]
  split
  ·rename_i hc
   rcases hm:zff p e k with ⟨e',d,ok⟩
   rw [hm] at hc
   have hc:ok=true:=hc
   subst hc
   obtain ⟨h1,h2⟩:=zl1 hm hL
   obtain ⟨h3,h4⟩:=zn0 (l:=l) (ds:=ds++[d]) (N:=N) h1 h2
   exact ⟨h3,h4.le (by rw [List.length_cons];omega)⟩
  ·exact ⟨h,hL.le (by omega)⟩
def zjW (p:zn) (l:List zbR):Int:=zgV p (zcR p (zbe p) l).1
theorem zjE (p:zn) (l:List zbR):(zeu (zcR p (zbe p) l).1).length≤1048576∧(zcR p (zbe p) l).1.gs.length≤1048576:=by
 unfold zcR
 split
 ·rename_i hok
  obtain ⟨h1,h2⟩:=zn0 (N:=0) (l:=l) (ds:=[]) hok (ziL p)
  have:=zus h1
  have:=(zaM.1 h1).len
  constructor<;>omega
 ·exact ⟨by decide,by decide⟩
set_option maxHeartbeats 4000000 in
theorem zmJ (p:zn) (l:List zbR) (hl:l.length≤1000000000):Con Tryz.prog 25 [.dagg (zQ p),.dat (zcz l)] (.dat (.int .i64 (zjW p l))):=by
 have hn:=zkR p
 have hs:=zmD p (zbe p) l (by rw [znP];decide) ((ziL p).le (by omega)) hl
 obtain ⟨h1,h2⟩:=zjE p l
 have ht:=zk2 p (zcR p (zbe p) l).1 h1 h2
 have he:zjW p l=zgV p (zcR p (zbe p) l).1:=rfl
 rw [he]
 rcases hm:zcR p (zbe p) l with ⟨e',ds⟩
 rw [hm] at hs ht
 refine zk (rs:=[(.tmp 4,3)]) za Tryz.func25 rfl rfl rfl (Nat.le_of_ble_eq_true rfl) fun ho x hn=>?_
 refine qD hn za zu [.r (.dagg (zad (zbe p))),.r (.tup [.dagg (zad e'),.dat (zcU ds)])] rfl rfl ?_ ?_
 ·(try refine qM ?_);repeat' (first | exact trivial | assumption | assumption | omega | exact qV | refine And.intro ?_ ?_)
 refine qK hn za rfl rfl (by assumption) ?_
 refine zf hn za rfl qS ⟨_,rfl,?_⟩
 rfl
set_option maxHeartbeats 4000000 in
theorem zmw (p:zn) (l:List zbR) (hl:l.length≤1000000000):Con Tryz.prog 27 [.dagg (zQ p),.dat (zcz l)] (.dat (.int .i64 (zjW p l))):=by
 have hn:=zk6 p
 have hs:=zml p (zbe p) l (by rw [znP];decide) ((ziL p).le (by omega)) hl
 obtain ⟨h1,h2⟩:=zjE p l
 have ht:=zkS p (zcR p (zbe p) l).1 h1 h2
 have he:zjW p l=zgV p (zcR p (zbe p) l).1:=rfl
 rw [he]
 rcases hm:zcR p (zbe p) l with ⟨e',ds⟩
 rw [hm] at hs ht
 refine zk (rs:=[(.tmp 4,3)]) za Tryz.func27 rfl rfl rfl (Nat.le_of_ble_eq_true rfl) fun ho x hn=>?_
 refine qD hn za zu [.r (.dagg (zad (zbe p))),.r (.tup [.dagg (zad e'),.dat (zcU ds)])] rfl rfl ?_ ?_
 ·(try refine qM ?_);repeat' (first | exact trivial | assumption | assumption | omega | exact qV | refine And.intro ?_ ?_)
 refine qK hn za rfl rfl (by assumption) ?_
 refine zf hn za rfl qS ⟨_,rfl,?_⟩
 rfl
end Go.Proofs.YtjmefaihkblliaaGreat.Ab
namespace Go.Proofs.YtjmefaihkblliaaGreat.Wd
open Go.RowKit
open Go.Proofs.YtjmefaihkblliaaGreat.Ab (zaj zax zaD zcZ zn zo zY zal zbl zW zz zbR)
set_option linter.unusedVariables false
set_option linter.unusedSimpArgs false
theorem zrt {P:Program} {f:FuncId} {args:List Ab.LV} {n:Int} (h:Ab.Con P f args (.dat (.int .i64 n))) {w:World} {vs:List Value} (hl:vs.length=args.length) (hvs:∀ (j:Nat) v l,vs[j]? = some v→args[j]? = some l→Ab.R2 (fun _=>False) Ab.M0 ⟨fun _=>0,fun _=>0,fun _=>0⟩ w v l):Calls P f vs.toArray w fun e w'=>e=.returned (.int .i64 n)∧Below w.heap.size w w':=by
 refine Calls.mono (h.2 (fun _=>False) w ⟨fun _=>0,fun _=>0,fun _=>0⟩ vs (fun k hk=>hk.elim) hl hvs) ?_
 rintro e w1 ⟨v,rfl,hv,hb⟩
 refine ⟨?_,hb⟩
 have hv:Ab.Rf _ w1 v (.int .i64 n):=hv
 rw [zug hv]
theorem zka (a0:zn) (a1:List zbR) (cs0:List Value) (A1:Option Addr) (c1:Nat) (w:World) {b0 b1:List Nat} (h0:zd3.O w b0 a0 cs0) (h1:zdP.Own 101 w b1 (.slice A1 a1.length c1) a1) (hc0:zdF a0≤1048576) (hc1:a1.length≤1048576) :
 Calls Tryz.prog 25 #[.agg cs0.toArray,.slice A1 a1.length c1] w fun e w'=>e=.returned (.int .i64 (Ab.zjW a0 a1))∧Below w.heap.size w w':=by
 refine zrt (Ab.zmJ a0 a1 (by omega)) (vs:=[.agg cs0.toArray,.slice A1 a1.length c1]) rfl (fun j v l hv hl=>?_)
 match j with
 | 0=>cases hv;cases hl;exact ztT zpJ h0 _
 | 1=>cases hv;cases hl;exact zrw zpT (by decide) h1 2 rfl Ab.zfh _
 | j+2=>cases hv
theorem zkn (a0:zn) (a1:List zbR) (cs0:List Value) (A1:Option Addr) (c1:Nat) (w:World) {b0 b1:List Nat} (h0:zd3.O w b0 a0 cs0) (h1:zdP.Own 101 w b1 (.slice A1 a1.length c1) a1) (hc0:zdF a0≤1048576) (hc1:a1.length≤1048576) :
 Calls Tryz.prog 27 #[.agg cs0.toArray,.slice A1 a1.length c1] w fun e w'=>e=.returned (.int .i64 (Ab.zjW a0 a1))∧Below w.heap.size w w':=by
 refine zrt (Ab.zmw a0 a1 (by omega)) (vs:=[.agg cs0.toArray,.slice A1 a1.length c1]) rfl (fun j v l hv hl=>?_)
 match j with
 | 0=>cases hv;cases hl;exact ztT zpJ h0 _
 | 1=>cases hv;cases hl;exact zrw zpT (by decide) h1 2 rfl Ab.zfh _
 | j+2=>cases hv
set_option maxHeartbeats 4000000
set_option maxRecDepth 100000
theorem zoP (xs ys:List Int) (A B:Option Addr) (c d:Nat) (w:World) (hr:Rp.int.Row w A xs) (hs:Rp.int.Row w B ys) :
 Calls Tryz.prog 35 #[.slice A xs.length c,.slice B ys.length d] w fun e w'=>e=.returned (.bool (decide (xs=ys)))∧Below w.heap.size w w':=by
 have hm:=hr.1
 have HR:=Lib.hid hr;clear hr
 have HS:=Lib.hid hs;clear hs
 by_cases hl:xs.length=ys.length
 ·have b2:((xs.length:Int) != (ys.length:Int))=false:=by simp [hl]
  have b3:(xs.length != ys.length)=false:=by simp [hl]
  have Hl:=Lib.hid hl;clear hl
  go_enter Tryz.func35,Tryz.ntmps35
  go_wp2
  go_loopg [5] (xs.length+1) (fun kq v5 w'=>∃ i:Nat,v5=.int .i64 i∧i+kq=xs.length+1∧i≤xs.length∧Hid (∀ j,j<i→xs[j]? = ys[j]?)∧Below w.heap.size w w')
  case atStart=>exact ⟨0,rfl,by omega,by omega,Lib.hid fun j hj=>absurd hj (by omega),Below.refl _ _⟩
  case round=>
   obtain ⟨i,rfl,hi,hi2,HP,hb⟩:=hrel
   obtain ⟨gk,rfl⟩:∃ m,gk=m+1:=⟨gk-1,by omega⟩
   by_cases hlt:i<xs.length
   ·have hlt':i<ys.length:=by have:=Hl.out;omega
    obtain ⟨b,o,rfl,g0⟩:=zqr (HR.out.below hb) hlt
    obtain ⟨b',o',rfl,k0⟩:=zqr (HS.out.below hb) hlt'
    by_cases he:xs[i]=ys[i]
    ·have hd:(xs[i] != ys[i])=false:=by simp [he]
     have hd2:(xs[i] == ys[i])=true:=by simp [he]
     have He:=Lib.hid he;clear he
     go_wp2_with fail
     go_quiet (fail)
     go_wp2
     go_roundg gk
     case measure=>omega
     case rel=>exact ⟨i+1,by go_num,by omega,by omega,Lib.hid fun j hj=>(by
      rcases Nat.lt_succ_iff_lt_or_eq.1 hj with h | rfl
      ·exact HP.out j h
      ·rw [List.getElem?_eq_getElem hlt,List.getElem?_eq_getElem hlt',He.out]),bel⟩
    ·have hd:(xs[i] != ys[i])=true:=by simp [he]
     have hd2:(xs[i] == ys[i])=false:=by simp [he]
     have He:=Lib.hid he;clear he
     go_wp2_with fail
     go_quiet (fail)
     go_wp2
     go_ret
     exact ⟨zli (by rintro rfl;exact He.out rfl),bel⟩
   ·have hi':i=xs.length:=by omega
    subst hi'
    go_wp2
    go_ret
    exact ⟨zrR (zfp Hl.out HP.out),bel⟩
 ·have b2:((xs.length:Int) != (ys.length:Int))=true:=by simp;omega
  have b3:(xs.length != ys.length)=true:=by simp [hl]
  go_enter Tryz.func35,Tryz.ntmps35
  go_wp2
  go_ret
  exact ⟨zli (by rintro rfl;exact hl rfl),bel⟩
theorem zjL (x y:zaj) (cs ds:List Value) (w:World) (hx:zdq.K w x cs) (hy:zdq.K w y ds) :
 Calls Tryz.prog 241 #[.agg cs.toArray,.agg ds.toArray] w fun e w'=>e=.returned (.bool (decide (x=y)))∧Below w.heap.size w w':=by
 obtain rfl:=zlo hx
 obtain rfl:=zlo hy
 clear hx hy
 obtain ⟨x0,x1,x2,x3,x4⟩:=x
 obtain ⟨y0,y1,y2,y3,y4⟩:=y
 go_enter Tryz.func241,Tryz.ntmps241
 go_wp2
 all_goals (go_ret;refine ⟨?_,bel⟩;simp_all)
theorem zm7 (xs ys:List zaj) (A B:Option Addr) (c d:Nat) (w:World) (hr:zdq.Row w A xs) (hs:zdq.Row w B ys) :
 Calls Tryz.prog 201 #[.slice A xs.length c,.slice B ys.length d] w fun e w'=>e=.returned (.bool (decide (xs=ys)))∧Below w.heap.size w w':=by
 have hm:=hr.1
 have HR:=Lib.hid hr;clear hr
 have HS:=Lib.hid hs;clear hs
 by_cases hl:xs.length=ys.length
 ·have b2:((xs.length:Int) != (ys.length:Int))=false:=by simp [hl]
  have b3:(xs.length != ys.length)=false:=by simp [hl]
  have Hl:=Lib.hid hl;clear hl
  go_enter Tryz.func201,Tryz.ntmps201
  go_wp2
  go_loopg [5] (xs.length+1) (fun kq v5 w'=>∃ i:Nat,v5=.int .i64 i∧i+kq=xs.length+1∧i≤xs.length∧Hid (∀ j,j<i→xs[j]? = ys[j]?)∧Below w.heap.size w w')
  case atStart=>exact ⟨0,rfl,by omega,by omega,Lib.hid fun j hj=>absurd hj (by omega),Below.refl _ _⟩
  case round=>
   obtain ⟨i,rfl,hi,hi2,HP,hb⟩:=hrel
   obtain ⟨gk,rfl⟩:∃ m,gk=m+1:=⟨gk-1,by omega⟩
   by_cases hlt:i<xs.length
   ·have hlt':i<ys.length:=by have:=Hl.out;omega
    obtain ⟨b,o,rfl,g0,g1,g2,g3,g4⟩:=zlG (HR.out.below hb) hlt
    obtain ⟨b',o',rfl,k0,k1,k2,k3,k4⟩:=zlG (HS.out.below hb) hlt'
    go_wp2_with fail
    go_still_tail 8,(by kernel_rfl)
    change wpList _ _ _ _ _ wr.drew
    by_cases he:xs[i]=ys[i]
    ·have hd:decide (xs[i]=ys[i])=true:=decide_eq_true he
     have He:=Lib.hid he;clear he
     go_wp2_with fail
     refine (zjL xs[i] ys[i] [_,_,_,_,_] [_,_,_,_,_] _ (zhB _ _) (zhB _ _)).mono ?_
     rintro e w' ⟨rfl,hb2⟩
     go_wp2
     go_roundg gk
     case measure=>omega
     case rel=>exact ⟨i+1,by go_num,by omega,by omega,Lib.hid fun j hj=>(by
      rcases Nat.lt_succ_iff_lt_or_eq.1 hj with h | rfl
      ·exact HP.out j h
      ·rw [List.getElem?_eq_getElem hlt,List.getElem?_eq_getElem hlt',He.out]),ziC hb hb2⟩
    ·have hd:decide (xs[i]=ys[i])=false:=decide_eq_false he
     have He:=Lib.hid he;clear he
     go_wp2_with fail
     refine (zjL xs[i] ys[i] [_,_,_,_,_] [_,_,_,_,_] _ (zhB _ _) (zhB _ _)).mono ?_
     rintro e w' ⟨rfl,hb2⟩
     go_wp2
     go_ret
     exact ⟨zli (by rintro rfl;exact He.out rfl),ziC hb hb2⟩
   ·have hi':i=xs.length:=by omega
    subst hi'
    go_wp2
    go_ret
    exact ⟨zrR (zfp Hl.out HP.out),bel⟩
 ·have b2:((xs.length:Int) != (ys.length:Int))=true:=by simp;omega
  have b3:(xs.length != ys.length)=true:=by simp [hl]
  go_enter Tryz.func201,Tryz.ntmps201
  go_wp2
  go_ret
  exact ⟨zli (by rintro rfl;exact hl rfl),bel⟩
theorem ziw (x y:zaD) (cs ds:List Value) (w:World) (hx:zcq.K w x cs) (hy:zcq.K w y ds) :
 Calls Tryz.prog 242 #[.agg cs.toArray,.agg ds.toArray] w fun e w'=>e=.returned (.bool (decide (x=y)))∧Below w.heap.size w w':=by
 obtain rfl:=zjR hx
 obtain rfl:=zjR hy
 clear hx hy
 obtain ⟨x0,x1,x2,x3⟩:=x
 obtain ⟨y0,y1,y2,y3⟩:=y
 go_enter Tryz.func242,Tryz.ntmps242
 go_wp2
 all_goals (go_ret;refine ⟨?_,bel⟩;simp_all)
theorem zmX (xs ys:List zaD) (A B:Option Addr) (c d:Nat) (w:World) (hr:zcq.Row w A xs) (hs:zcq.Row w B ys) :
 Calls Tryz.prog 202 #[.slice A xs.length c,.slice B ys.length d] w fun e w'=>e=.returned (.bool (decide (xs=ys)))∧Below w.heap.size w w':=by
 have hm:=hr.1
 have HR:=Lib.hid hr;clear hr
 have HS:=Lib.hid hs;clear hs
 by_cases hl:xs.length=ys.length
 ·have b2:((xs.length:Int) != (ys.length:Int))=false:=by simp [hl]
  have b3:(xs.length != ys.length)=false:=by simp [hl]
  have Hl:=Lib.hid hl;clear hl
  go_enter Tryz.func202,Tryz.ntmps202
  go_wp2
  go_loopg [5] (xs.length+1) (fun kq v5 w'=>∃ i:Nat,v5=.int .i64 i∧i+kq=xs.length+1∧i≤xs.length∧Hid (∀ j,j<i→xs[j]? = ys[j]?)∧Below w.heap.size w w')
  case atStart=>exact ⟨0,rfl,by omega,by omega,Lib.hid fun j hj=>absurd hj (by omega),Below.refl _ _⟩
  case round=>
   obtain ⟨i,rfl,hi,hi2,HP,hb⟩:=hrel
   obtain ⟨gk,rfl⟩:∃ m,gk=m+1:=⟨gk-1,by omega⟩
   by_cases hlt:i<xs.length
   ·have hlt':i<ys.length:=by have:=Hl.out;omega
    obtain ⟨b,o,rfl,g0,g1,g2,g3⟩:=zj9 (HR.out.below hb) hlt
    obtain ⟨b',o',rfl,k0,k1,k2,k3⟩:=zj9 (HS.out.below hb) hlt'
    go_wp2_with fail
    go_still_tail 8,(by kernel_rfl)
    change wpList _ _ _ _ _ wr.drew
    by_cases he:xs[i]=ys[i]
    ·have hd:decide (xs[i]=ys[i])=true:=decide_eq_true he
     have He:=Lib.hid he;clear he
     go_wp2_with fail
     refine (ziw xs[i] ys[i] [_,_,_,_] [_,_,_,_] _ (zgh _ _) (zgh _ _)).mono ?_
     rintro e w' ⟨rfl,hb2⟩
     go_wp2
     go_roundg gk
     case measure=>omega
     case rel=>exact ⟨i+1,by go_num,by omega,by omega,Lib.hid fun j hj=>(by
      rcases Nat.lt_succ_iff_lt_or_eq.1 hj with h | rfl
      ·exact HP.out j h
      ·rw [List.getElem?_eq_getElem hlt,List.getElem?_eq_getElem hlt',He.out]),ziC hb hb2⟩
    ·have hd:decide (xs[i]=ys[i])=false:=decide_eq_false he
     have He:=Lib.hid he;clear he
     go_wp2_with fail
     refine (ziw xs[i] ys[i] [_,_,_,_] [_,_,_,_] _ (zgh _ _) (zgh _ _)).mono ?_
     rintro e w' ⟨rfl,hb2⟩
     go_wp2
     go_ret
     exact ⟨zli (by rintro rfl;exact He.out rfl),ziC hb hb2⟩
   ·have hi':i=xs.length:=by omega
    subst hi'
    go_wp2
    go_ret
    exact ⟨zrR (zfp Hl.out HP.out),bel⟩
 ·have b2:((xs.length:Int) != (ys.length:Int))=true:=by simp;omega
  have b3:(xs.length != ys.length)=true:=by simp [hl]
  go_enter Tryz.func202,Tryz.ntmps202
  go_wp2
  go_ret
  exact ⟨zli (by rintro rfl;exact hl rfl),bel⟩
theorem zhU (x y:zax) (cs ds:List Value) (w:World) (hx:zbE.K w x cs) (hy:zbE.K w y ds) :
 Calls Tryz.prog 140 #[.agg cs.toArray,.agg ds.toArray] w fun e w'=>e=.returned (.bool (decide (x=y)))∧Below w.heap.size w w':=by
 obtain ⟨A0,c0,rfl,l0,r0⟩:=zgH hx
 obtain ⟨B0,d0,rfl,m0,s0⟩:=zgH hy
 clear hx hy
 obtain ⟨x0,x1⟩:=x
 obtain ⟨y0,y1⟩:=y
 simp only at *
 have R0:=Lib.hid r0;clear r0
 have S0:=Lib.hid s0;clear s0
 go_enter Tryz.func140,Tryz.ntmps140
 go_wp2_with (first
  | (go_at_call 201;(with_reducible refine (zm7 _ _ _ _ _ _ _ (R0.out.below bel) (S0.out.below bel)).mono ?_);rintro e w1 ⟨rfl,hb1⟩;obtain ⟨C1,D1⟩:=zbV hb1;obtain ⟨za1,zb1⟩:w.heap.size<w1.heap.size∧w.heap.size+1<w1.heap.size:=(by have:=hb1.size;(try simp at this);omega)))
 all_goals (go_ret;refine ⟨?_,bel⟩;simp_all)
theorem zk3 (xs ys:List zax) (A B:Option Addr) (c d:Nat) (w:World) (hr:zbE.Row w A xs) (hs:zbE.Row w B ys) :
 Calls Tryz.prog 72 #[.slice A xs.length c,.slice B ys.length d] w fun e w'=>e=.returned (.bool (decide (xs=ys)))∧Below w.heap.size w w':=by
 have hm:=hr.1
 have HR:=Lib.hid hr;clear hr
 have HS:=Lib.hid hs;clear hs
 by_cases hl:xs.length=ys.length
 ·have b2:((xs.length:Int) != (ys.length:Int))=false:=by simp [hl]
  have b3:(xs.length != ys.length)=false:=by simp [hl]
  have Hl:=Lib.hid hl;clear hl
  go_enter Tryz.func72,Tryz.ntmps72
  go_wp2
  go_loopg [5] (xs.length+1) (fun kq v5 w'=>∃ i:Nat,v5=.int .i64 i∧i+kq=xs.length+1∧i≤xs.length∧Hid (∀ j,j<i→xs[j]? = ys[j]?)∧Below w.heap.size w w')
  case atStart=>exact ⟨0,rfl,by omega,by omega,Lib.hid fun j hj=>absurd hj (by omega),Below.refl _ _⟩
  case round=>
   obtain ⟨i,rfl,hi,hi2,HP,hb⟩:=hrel
   obtain ⟨gk,rfl⟩:∃ m,gk=m+1:=⟨gk-1,by omega⟩
   by_cases hlt:i<xs.length
   ·have hlt':i<ys.length:=by have:=Hl.out;omega
    obtain ⟨b,o,A0,c0,rfl,g0,g1,l0,r0⟩:=zgZ (HR.out.below hb) hlt
    obtain ⟨b',o',B0,d0,rfl,k0,k1,m0,s0⟩:=zgZ (HS.out.below hb) hlt'
    have R0:=Lib.hid r0;clear r0
    have S0:=Lib.hid s0;clear s0
    go_wp2_with fail
    go_still_tail 8,(by kernel_rfl)
    change wpList _ _ _ _ _ wr.drew
    by_cases he:xs[i]=ys[i]
    ·have hd:decide (xs[i]=ys[i])=true:=decide_eq_true he
     have He:=Lib.hid he;clear he
     go_wp2_with fail
     refine (zhU xs[i] ys[i] [_,_] [_,_] _ (zeb _ _ l0 (R0.out.below bel)) (zeb _ _ m0 (S0.out.below bel))).mono ?_
     rintro e w' ⟨rfl,hb2⟩
     go_wp2
     go_roundg gk
     case measure=>omega
     case rel=>exact ⟨i+1,by go_num,by omega,by omega,Lib.hid fun j hj=>(by
      rcases Nat.lt_succ_iff_lt_or_eq.1 hj with h | rfl
      ·exact HP.out j h
      ·rw [List.getElem?_eq_getElem hlt,List.getElem?_eq_getElem hlt',He.out]),ziC hb hb2⟩
    ·have hd:decide (xs[i]=ys[i])=false:=decide_eq_false he
     have He:=Lib.hid he;clear he
     go_wp2_with fail
     refine (zhU xs[i] ys[i] [_,_] [_,_] _ (zeb _ _ l0 (R0.out.below bel)) (zeb _ _ m0 (S0.out.below bel))).mono ?_
     rintro e w' ⟨rfl,hb2⟩
     go_wp2
     go_ret
     exact ⟨zli (by rintro rfl;exact He.out rfl),ziC hb hb2⟩
   ·have hi':i=xs.length:=by omega
    subst hi'
    go_wp2
    go_ret
    exact ⟨zrR (zfp Hl.out HP.out),bel⟩
 ·have b2:((xs.length:Int) != (ys.length:Int))=true:=by simp;omega
  have b3:(xs.length != ys.length)=true:=by simp [hl]
  go_enter Tryz.func72,Tryz.ntmps72
  go_wp2
  go_ret
  exact ⟨zli (by rintro rfl;exact hl rfl),bel⟩
theorem zjJ (x y:zcZ) (cs ds:List Value) (w:World) (hx:zc3.K w x cs) (hy:zc3.K w y ds) :
 Calls Tryz.prog 141 #[.agg cs.toArray,.agg ds.toArray] w fun e w'=>e=.returned (.bool (decide (x=y)))∧Below w.heap.size w w':=by
 obtain ⟨A0,c0,rfl,l0,r0⟩:=zjA hx
 obtain ⟨B0,d0,rfl,m0,s0⟩:=zjA hy
 clear hx hy
 obtain ⟨x0⟩:=x
 obtain ⟨y0⟩:=y
 simp only at *
 have R0:=Lib.hid r0;clear r0
 have S0:=Lib.hid s0;clear s0
 go_enter Tryz.func141,Tryz.ntmps141
 go_wp2_with (first
  | (go_at_call 202;(with_reducible refine (zmX _ _ _ _ _ _ _ (R0.out.below bel) (S0.out.below bel)).mono ?_);rintro e w1 ⟨rfl,hb1⟩;obtain ⟨C1,D1⟩:=zbV hb1;obtain ⟨za1,zb1⟩:w.heap.size<w1.heap.size∧w.heap.size+1<w1.heap.size:=(by have:=hb1.size;(try simp at this);omega)))
 all_goals (go_ret;refine ⟨?_,bel⟩;simp_all)
theorem zmZ (xs ys:List zcZ) (A B:Option Addr) (c d:Nat) (w:World) (hr:zc3.Row w A xs) (hs:zc3.Row w B ys) :
 Calls Tryz.prog 73 #[.slice A xs.length c,.slice B ys.length d] w fun e w'=>e=.returned (.bool (decide (xs=ys)))∧Below w.heap.size w w':=by
 have hm:=hr.1
 have HR:=Lib.hid hr;clear hr
 have HS:=Lib.hid hs;clear hs
 by_cases hl:xs.length=ys.length
 ·have b2:((xs.length:Int) != (ys.length:Int))=false:=by simp [hl]
  have b3:(xs.length != ys.length)=false:=by simp [hl]
  have Hl:=Lib.hid hl;clear hl
  go_enter Tryz.func73,Tryz.ntmps73
  go_wp2
  go_loopg [5] (xs.length+1) (fun kq v5 w'=>∃ i:Nat,v5=.int .i64 i∧i+kq=xs.length+1∧i≤xs.length∧Hid (∀ j,j<i→xs[j]? = ys[j]?)∧Below w.heap.size w w')
  case atStart=>exact ⟨0,rfl,by omega,by omega,Lib.hid fun j hj=>absurd hj (by omega),Below.refl _ _⟩
  case round=>
   obtain ⟨i,rfl,hi,hi2,HP,hb⟩:=hrel
   obtain ⟨gk,rfl⟩:∃ m,gk=m+1:=⟨gk-1,by omega⟩
   by_cases hlt:i<xs.length
   ·have hlt':i<ys.length:=by have:=Hl.out;omega
    obtain ⟨b,o,A0,c0,rfl,g0,l0,r0⟩:=zi4 (HR.out.below hb) hlt
    obtain ⟨b',o',B0,d0,rfl,k0,m0,s0⟩:=zi4 (HS.out.below hb) hlt'
    have R0:=Lib.hid r0;clear r0
    have S0:=Lib.hid s0;clear s0
    go_wp2_with fail
    go_still_tail 8,(by kernel_rfl)
    change wpList _ _ _ _ _ wr.drew
    by_cases he:xs[i]=ys[i]
    ·have hd:decide (xs[i]=ys[i])=true:=decide_eq_true he
     have He:=Lib.hid he;clear he
     go_wp2_with fail
     refine (zjJ xs[i] ys[i] [_] [_] _ (zfB _ _ l0 (R0.out.below bel)) (zfB _ _ m0 (S0.out.below bel))).mono ?_
     rintro e w' ⟨rfl,hb2⟩
     go_wp2
     go_roundg gk
     case measure=>omega
     case rel=>exact ⟨i+1,by go_num,by omega,by omega,Lib.hid fun j hj=>(by
      rcases Nat.lt_succ_iff_lt_or_eq.1 hj with h | rfl
      ·exact HP.out j h
      ·rw [List.getElem?_eq_getElem hlt,List.getElem?_eq_getElem hlt',He.out]),ziC hb hb2⟩
    ·have hd:decide (xs[i]=ys[i])=false:=decide_eq_false he
     have He:=Lib.hid he;clear he
     go_wp2_with fail
     refine (zjJ xs[i] ys[i] [_] [_] _ (zfB _ _ l0 (R0.out.below bel)) (zfB _ _ m0 (S0.out.below bel))).mono ?_
     rintro e w' ⟨rfl,hb2⟩
     go_wp2
     go_ret
     exact ⟨zli (by rintro rfl;exact He.out rfl),ziC hb hb2⟩
   ·have hi':i=xs.length:=by omega
    subst hi'
    go_wp2
    go_ret
    exact ⟨zrR (zfp Hl.out HP.out),bel⟩
 ·have b2:((xs.length:Int) != (ys.length:Int))=true:=by simp;omega
  have b3:(xs.length != ys.length)=true:=by simp [hl]
  go_enter Tryz.func73,Tryz.ntmps73
  go_wp2
  go_ret
  exact ⟨zli (by rintro rfl;exact hl rfl),bel⟩
theorem zoW (x y:zn) (cs ds:List Value) (w:World) (hx:zd3.K w x cs) (hy:zd3.K w y ds) :
 Calls Tryz.prog 18 #[.agg cs.toArray,.agg ds.toArray] w fun e w'=>e=.returned (.bool (decide (x=y)))∧Below w.heap.size w w':=by
 obtain ⟨A0,c0,A1,c1,A2,c2,rfl,l0,r0,l1,r1,l2,r2⟩:=zjG hx
 obtain ⟨B0,d0,B1,d1,B2,d2,rfl,m0,s0,m1,s1,m2,s2⟩:=zjG hy
 clear hx hy
 obtain ⟨x0,x1,x2,x3⟩:=x
 obtain ⟨y0,y1,y2,y3⟩:=y
 simp only at *
 have R0:=Lib.hid r0;clear r0
 have S0:=Lib.hid s0;clear s0
 have R1:=Lib.hid r1;clear r1
 have S1:=Lib.hid s1;clear s1
 have R2:=Lib.hid r2;clear r2
 have S2:=Lib.hid s2;clear s2
 go_enter Tryz.func18,Tryz.ntmps18
 go_wp2_with (first
  | (go_at_call 35;(with_reducible refine (zoP _ _ _ _ _ _ _ (R0.out.below bel) (S0.out.below bel)).mono ?_);rintro e w1 ⟨rfl,hb1⟩;obtain ⟨C1,D1⟩:=zbV hb1;obtain ⟨za1,zb1⟩:w.heap.size<w1.heap.size∧w.heap.size+1<w1.heap.size:=(by have:=hb1.size;(try simp at this);omega))
  | (go_at_call 72;(with_reducible refine (zk3 _ _ _ _ _ _ _ (R1.out.below bel) (S1.out.below bel)).mono ?_);rintro e w3 ⟨rfl,hb3⟩;obtain ⟨C3,D3⟩:=zbV hb3;obtain ⟨za3,zb3⟩:w.heap.size<w3.heap.size∧w.heap.size+1<w3.heap.size:=(by have:=hb3.size;(try simp at this);omega))
  | (go_at_call 73;(with_reducible refine (zmZ _ _ _ _ _ _ _ (R2.out.below bel) (S2.out.below bel)).mono ?_);rintro e w4 ⟨rfl,hb4⟩;obtain ⟨C4,D4⟩:=zbV hb4;obtain ⟨za4,zb4⟩:w.heap.size<w4.heap.size∧w.heap.size+1<w4.heap.size:=(by have:=hb4.size;(try simp at this);omega)))
 all_goals (go_ret;refine ⟨?_,bel⟩;simp_all)
theorem zjd (x y:zbR) (cs ds:List Value) (w:World) (hx:zdP.K w x cs) (hy:zdP.K w y ds) :
 Calls Tryz.prog 71 #[.agg cs.toArray,.agg ds.toArray] w fun e w'=>e=.returned (.bool (decide (x=y)))∧Below w.heap.size w w':=by
 obtain rfl:=zlB hx
 obtain rfl:=zlB hy
 clear hx hy
 obtain ⟨x0,x1⟩:=x
 obtain ⟨y0,y1⟩:=y
 go_enter Tryz.func71,Tryz.ntmps71
 go_wp2
 all_goals (go_ret;refine ⟨?_,bel⟩;simp_all)
theorem znf (xs ys:List zbR) (A B:Option Addr) (c d:Nat) (w:World) (hr:zdP.Row w A xs) (hs:zdP.Row w B ys) :
 Calls Tryz.prog 17 #[.slice A xs.length c,.slice B ys.length d] w fun e w'=>e=.returned (.bool (decide (xs=ys)))∧Below w.heap.size w w':=by
 have hm:=hr.1
 have HR:=Lib.hid hr;clear hr
 have HS:=Lib.hid hs;clear hs
 by_cases hl:xs.length=ys.length
 ·have b2:((xs.length:Int) != (ys.length:Int))=false:=by simp [hl]
  have b3:(xs.length != ys.length)=false:=by simp [hl]
  have Hl:=Lib.hid hl;clear hl
  go_enter Tryz.func17,Tryz.ntmps17
  go_wp2
  go_loopg [5] (xs.length+1) (fun kq v5 w'=>∃ i:Nat,v5=.int .i64 i∧i+kq=xs.length+1∧i≤xs.length∧Hid (∀ j,j<i→xs[j]? = ys[j]?)∧Below w.heap.size w w')
  case atStart=>exact ⟨0,rfl,by omega,by omega,Lib.hid fun j hj=>absurd hj (by omega),Below.refl _ _⟩
  case round=>
   obtain ⟨i,rfl,hi,hi2,HP,hb⟩:=hrel
   obtain ⟨gk,rfl⟩:∃ m,gk=m+1:=⟨gk-1,by omega⟩
   by_cases hlt:i<xs.length
   ·have hlt':i<ys.length:=by have:=Hl.out;omega
    obtain ⟨b,o,rfl,g0,g1⟩:=zlK (HR.out.below hb) hlt
    obtain ⟨b',o',rfl,k0,k1⟩:=zlK (HS.out.below hb) hlt'
    go_wp2_with fail
    go_still_tail 8,(by kernel_rfl)
    change wpList _ _ _ _ _ wr.drew
    by_cases he:xs[i]=ys[i]
    ·have hd:decide (xs[i]=ys[i])=true:=decide_eq_true he
     have He:=Lib.hid he;clear he
     go_wp2_with fail
     refine (zjd xs[i] ys[i] [_,_] [_,_] _ (zhV _ _) (zhV _ _)).mono ?_
     rintro e w' ⟨rfl,hb2⟩
     go_wp2
     go_roundg gk
     case measure=>omega
     case rel=>exact ⟨i+1,by go_num,by omega,by omega,Lib.hid fun j hj=>(by
      rcases Nat.lt_succ_iff_lt_or_eq.1 hj with h | rfl
      ·exact HP.out j h
      ·rw [List.getElem?_eq_getElem hlt,List.getElem?_eq_getElem hlt',He.out]),ziC hb hb2⟩
    ·have hd:decide (xs[i]=ys[i])=false:=decide_eq_false he
     have He:=Lib.hid he;clear he
     go_wp2_with fail
     refine (zjd xs[i] ys[i] [_,_] [_,_] _ (zhV _ _) (zhV _ _)).mono ?_
     rintro e w' ⟨rfl,hb2⟩
     go_wp2
     go_ret
     exact ⟨zli (by rintro rfl;exact He.out rfl),ziC hb hb2⟩
   ·have hi':i=xs.length:=by omega
    subst hi'
    go_wp2
    go_ret
    exact ⟨zrR (zfp Hl.out HP.out),bel⟩
 ·have b2:((xs.length:Int) != (ys.length:Int))=true:=by simp;omega
  have b3:(xs.length != ys.length)=true:=by simp [hl]
  go_enter Tryz.func17,Tryz.ntmps17
  go_wp2
  go_ret
  exact ⟨zli (by rintro rfl;exact hl rfl),bel⟩
theorem zoI (xs:List Int) (A:Option Addr) (c:Nat) (w:World) (hr:Rp.int.Row w A xs) (hm:xs.length≤1048576) :
 Calls Tryz.prog 63 #[.slice A xs.length c] w fun e w'=>∃ B d bs,e=.returned (.slice B xs.length d)∧Rp.int.Own 3 w' bs (.slice B xs.length d) xs∧zcd w bs∧Below w.heap.size w w':=by
 have HR:=Lib.hid hr;clear hr
 have hmk:=znK (P:=Tryz.prog) 22 3 1 8 _ Tryz.underlying22 ztS xs.length (by omega) (by omega)
 go_enter Tryz.func63,Tryz.ntmps63
 go_wp2
 clear hmk
 have F0:=zbN.init Rp.int 3 w xs xs.length (madeCells #[.int .i64 0] xs.length) (by rw [size_madeCells];exact (Nat.mul_one _).symm)
 have hb0:Below w.heap.size w (w.alloc (.cells (madeCells #[.int .i64 0] xs.length) 3)):=bel
 generalize hg:w.heap.size=g at F0 ⊢
 replace hg:w.heap.size≤g:=Nat.le_of_eq hg
 go_loopg [4] (xs.length+1) (fun kq v4 w'=>∃ i:Nat,v4=.int .i64 i∧i+kq=xs.length+1∧i≤xs.length∧(∃ cur bss,Hid (zbN Rp.int 3 w w' g xs.length (xs.take i) cur bss))∧Below w.heap.size w w')
 case atStart=>exact ⟨0,rfl,by omega,by omega,F0,hb0⟩
 case round=>
  clear F0 hb0
  obtain ⟨i,rfl,hi,hi2,⟨cur,bss,HF⟩,hb⟩:=hrel
  obtain ⟨gk,rfl⟩:∃ m,gk=m+1:=⟨gk-1,by omega⟩
  by_cases hlt:i<xs.length
  ·obtain ⟨b,o,rfl,g0⟩:=zqr (HR.out.below hb) hlt
   obtain ⟨u0,q0,f0⟩:=zbN.cell HF (Below.refl _ _) hlt 0 (at_:=i) (by decide) (Nat.mul_one i)
   go_wp2
   go_roundg gk
   case measure=>omega
   case rel=>exact ⟨i+1,by go_num,by omega,by omega,zbN.next HF hlt hlt (Below.refl _ _) ⟨rfl,rfl⟩ (zh9 _) (Nat.mul_one i),hb.setCell hg _⟩
  ·go_wp2
   go_ret
   obtain ⟨bs,h1,h2⟩:=zbN.fin HF (by omega) rfl (by omega)
   exact ⟨_,_,bs,rfl,h1,h2,bel⟩
theorem zo3 (x:zaj) (cs:List Value) (w:World) (hx:zdq.K w x cs) :
 Calls Tryz.prog 233 #[.agg cs.toArray] w fun e w'=>∃ cs' bs,e=.returned (.agg cs'.toArray)∧zdq.O w' bs x cs'∧zcd w bs∧Below w.heap.size w w':=by
 obtain rfl:=zlo hx
 clear hx
 obtain ⟨x0,x1,x2,x3,x4⟩:=x
 go_enter Tryz.func233,Tryz.ntmps233
 go_wp2
 refine bodyPost_ret (v:=.agg #[.bool x0,.int .i64 x1,.int .i64 x2,.int .i64 x3,.int .i64 x4]) ?_ ?_ ?_
 ·simp only [results,Tryz.results233]
  go_simp
 ·rfl
 ·exact ⟨_,_,rfl,zsC _ ⟨x0,x1,x2,x3,x4⟩,zh9 _,bel⟩
theorem zm3 (xs:List zaj) (A:Option Addr) (c:Nat) (w:World) (hr:zdq.Row w A xs) (hm:xs.length≤1048576) :
 Calls Tryz.prog 185 #[.slice A xs.length c] w fun e w'=>∃ B d bs,e=.returned (.slice B xs.length d)∧zdq.Own 248 w' bs (.slice B xs.length d) xs∧zcd w bs∧Below w.heap.size w w':=by
 have HR:=Lib.hid hr;clear hr
 have hmk:=znK (P:=Tryz.prog) 180 248 5 40 _ Tryz.underlying180 zsj xs.length (by omega) (by omega)
 go_enter Tryz.func185,Tryz.ntmps185
 go_wp2
 clear hmk
 have F0:=zbN.init zdq 248 w xs xs.length (madeCells #[.bool false,.int .i64 0,.int .i64 0,.int .i64 0,.int .i64 0] (xs.length*5)) (by rw [size_madeCells];rfl)
 have hb0:Below w.heap.size w (w.alloc (.cells (madeCells #[.bool false,.int .i64 0,.int .i64 0,.int .i64 0,.int .i64 0] (xs.length*5)) 248)):=bel
 generalize hg:w.heap.size=g at F0 ⊢
 replace hg:w.heap.size≤g:=Nat.le_of_eq hg
 go_loopg [4] (xs.length+1) (fun kq v4 w'=>∃ i:Nat,v4=.int .i64 i∧i+kq=xs.length+1∧i≤xs.length∧(∃ cur bss,Hid (zbN zdq 248 w w' g xs.length (xs.take i) cur bss))∧Below w.heap.size w w')
 case atStart=>exact ⟨0,rfl,by omega,by omega,F0,hb0⟩
 case round=>
  clear F0 hb0
  obtain ⟨i,rfl,hi,hi2,⟨cur,bss,HF⟩,hb⟩:=hrel
  obtain ⟨gk,rfl⟩:∃ m,gk=m+1:=⟨gk-1,by omega⟩
  by_cases hlt:i<xs.length
  ·obtain ⟨b,o,rfl,g0,g1,g2,g3,g4⟩:=zlG (HR.out.below hb) hlt
   go_wp2_with fail
   refine (zo3 xs[i] [_,_,_,_,_] _ (zhB _ _)).mono ?_
   rintro e w1 ⟨cs',bs,rfl,ho,hfr,hb1⟩
   have HO:=Lib.hid ho
   obtain ⟨rfl,rfl⟩:=zuq ho
   obtain ⟨u0,q0,f0⟩:=zbN.cell HF hb1 hlt 0 (at_:=i*5) (by decide) rfl
   obtain ⟨u1,q1,f1⟩:=zbN.cell HF hb1 hlt 1 (at_:=i*5+1) (by decide) rfl
   obtain ⟨u2,q2,f2⟩:=zbN.cell HF hb1 hlt 2 (at_:=i*5+2) (by decide) rfl
   obtain ⟨u3,q3,f3⟩:=zbN.cell HF hb1 hlt 3 (at_:=i*5+3) (by decide) rfl
   obtain ⟨u4,q4,f4⟩:=zbN.cell HF hb1 hlt 4 (at_:=i*5+4) (by decide) rfl
   have HFR:=Lib.hid hfr;clear hfr
   clear ho
   go_wp2
   go_roundg gk
   case measure=>omega
   case rel=>exact ⟨i+1,by go_num,by omega,by omega,zbN.next HF hlt hlt hb1 HO.out HFR.out rfl,(((((zm1 hb1 hb).setCell hg _).setCell hg _).setCell hg _).setCell hg _).setCell hg _⟩
  ·go_wp2
   go_ret
   obtain ⟨bs,h1,h2⟩:=zbN.fin HF (by omega) rfl (by omega)
   exact ⟨_,_,bs,rfl,h1,h2,bel⟩
theorem znd (x:zaD) (cs:List Value) (w:World) (hx:zcq.K w x cs) :
 Calls Tryz.prog 234 #[.agg cs.toArray] w fun e w'=>∃ cs' bs,e=.returned (.agg cs'.toArray)∧zcq.O w' bs x cs'∧zcd w bs∧Below w.heap.size w w':=by
 obtain rfl:=zjR hx
 clear hx
 obtain ⟨x0,x1,x2,x3⟩:=x
 go_enter Tryz.func234,Tryz.ntmps234
 go_wp2
 refine bodyPost_ret (v:=.agg #[.int .i64 x0,.int .i64 x1,.int .i64 x2,.int .i64 x3]) ?_ ?_ ?_
 ·simp only [results,Tryz.results234]
  go_simp
 ·rfl
 ·exact ⟨_,_,rfl,zqA _ ⟨x0,x1,x2,x3⟩,zh9 _,bel⟩
theorem zmr (xs:List zaD) (A:Option Addr) (c:Nat) (w:World) (hr:zcq.Row w A xs) (hm:xs.length≤1048576) :
 Calls Tryz.prog 186 #[.slice A xs.length c] w fun e w'=>∃ B d bs,e=.returned (.slice B xs.length d)∧zcq.Own 203 w' bs (.slice B xs.length d) xs∧zcd w bs∧Below w.heap.size w w':=by
 have HR:=Lib.hid hr;clear hr
 have hmk:=znK (P:=Tryz.prog) 184 203 4 32 _ Tryz.underlying184 zqi xs.length (by omega) (by omega)
 go_enter Tryz.func186,Tryz.ntmps186
 go_wp2
 clear hmk
 have F0:=zbN.init zcq 203 w xs xs.length (madeCells #[.int .i64 0,.int .i64 0,.int .i64 0,.int .i64 0] (xs.length*4)) (by rw [size_madeCells];rfl)
 have hb0:Below w.heap.size w (w.alloc (.cells (madeCells #[.int .i64 0,.int .i64 0,.int .i64 0,.int .i64 0] (xs.length*4)) 203)):=bel
 generalize hg:w.heap.size=g at F0 ⊢
 replace hg:w.heap.size≤g:=Nat.le_of_eq hg
 go_loopg [4] (xs.length+1) (fun kq v4 w'=>∃ i:Nat,v4=.int .i64 i∧i+kq=xs.length+1∧i≤xs.length∧(∃ cur bss,Hid (zbN zcq 203 w w' g xs.length (xs.take i) cur bss))∧Below w.heap.size w w')
 case atStart=>exact ⟨0,rfl,by omega,by omega,F0,hb0⟩
 case round=>
  clear F0 hb0
  obtain ⟨i,rfl,hi,hi2,⟨cur,bss,HF⟩,hb⟩:=hrel
  obtain ⟨gk,rfl⟩:∃ m,gk=m+1:=⟨gk-1,by omega⟩
  by_cases hlt:i<xs.length
  ·obtain ⟨b,o,rfl,g0,g1,g2,g3⟩:=zj9 (HR.out.below hb) hlt
   go_wp2_with fail
   refine (znd xs[i] [_,_,_,_] _ (zgh _ _)).mono ?_
   rintro e w1 ⟨cs',bs,rfl,ho,hfr,hb1⟩
   have HO:=Lib.hid ho
   obtain ⟨rfl,rfl⟩:=zsY ho
   obtain ⟨u0,q0,f0⟩:=zbN.cell HF hb1 hlt 0 (at_:=i*4) (by decide) rfl
   obtain ⟨u1,q1,f1⟩:=zbN.cell HF hb1 hlt 1 (at_:=i*4+1) (by decide) rfl
   obtain ⟨u2,q2,f2⟩:=zbN.cell HF hb1 hlt 2 (at_:=i*4+2) (by decide) rfl
   obtain ⟨u3,q3,f3⟩:=zbN.cell HF hb1 hlt 3 (at_:=i*4+3) (by decide) rfl
   have HFR:=Lib.hid hfr;clear hfr
   clear ho
   go_wp2
   go_roundg gk
   case measure=>omega
   case rel=>exact ⟨i+1,by go_num,by omega,by omega,zbN.next HF hlt hlt hb1 HO.out HFR.out rfl,((((zm1 hb1 hb).setCell hg _).setCell hg _).setCell hg _).setCell hg _⟩
  ·go_wp2
   go_ret
   obtain ⟨bs,h1,h2⟩:=zbN.fin HF (by omega) rfl (by omega)
   exact ⟨_,_,bs,rfl,h1,h2,bel⟩
theorem zmO (x:zax) (cs:List Value) (w:World) (hx:zbE.K w x cs) (hc:zdL x≤1048576) :
 Calls Tryz.prog 127 #[.agg cs.toArray] w fun e w'=>∃ cs' bs,e=.returned (.agg cs'.toArray)∧zbE.O w' bs x cs'∧zcd w bs∧Below w.heap.size w w':=by
 obtain ⟨A0,c0,rfl,l0,r0⟩:=zgH hx
 clear hx
 unfold zdL at hc
 obtain ⟨x0,x1⟩:=x
 simp only at *
 have R0:=Lib.hid r0;clear r0
 go_enter Tryz.func127,Tryz.ntmps127
 go_wp2_with (first
  | (go_at_call 185;(with_reducible refine (zm3 x0 _ _ _ (R0.out.below bel) (by omega)).mono ?_);rintro e w0 ⟨E0,e0,b0,rfl,o0,f0,hb0⟩;obtain ⟨C0,D0⟩:=zbV hb0;obtain ⟨za0,zb0,zc0⟩:w.heap.size<w0.heap.size∧w.heap.size+1<w0.heap.size∧w.heap.size+1+1<w0.heap.size:=(by have:=hb0.size;(try simp at this);omega);have Ho0:=Lib.hid o0;clear o0;have Hf0:=Lib.hid f0;clear f0))
 refine bodyPost_ret (v:=.agg #[.slice E0 x0.length e0,.int .i64 x1]) ?_ ?_ ?_
 ·simp only [results,Tryz.results127]
  go_simp
 ·rfl
 ·exact ⟨_,_,rfl,zpy _ ⟨x0,x1⟩ (Hf0.out.own Ho0.out),Hf0.out.sub,bel⟩
theorem zk7 (xs:List zax) (A:Option Addr) (c:Nat) (w:World) (hr:zbE.Row w A xs) (hm:xs.length+zbi xs≤1048576) :
 Calls Tryz.prog 64 #[.slice A xs.length c] w fun e w'=>∃ B d bs,e=.returned (.slice B xs.length d)∧zbE.Own 182 w' bs (.slice B xs.length d) xs∧zcd w bs∧Below w.heap.size w w':=by
 have HR:=Lib.hid hr;clear hr
 have hmk:=znK (P:=Tryz.prog) 36 182 2 32 _ Tryz.underlying36 zqc xs.length (by omega) (by omega)
 go_enter Tryz.func64,Tryz.ntmps64
 go_wp2
 clear hmk
 have F0:=zbN.init zbE 182 w xs xs.length (madeCells #[.slice none 0 0,.int .i64 0] (xs.length*2)) (by rw [size_madeCells];rfl)
 have hb0:Below w.heap.size w (w.alloc (.cells (madeCells #[.slice none 0 0,.int .i64 0] (xs.length*2)) 182)):=bel
 generalize hg:w.heap.size=g at F0 ⊢
 replace hg:w.heap.size≤g:=Nat.le_of_eq hg
 go_loopg [4] (xs.length+1) (fun kq v4 w'=>∃ i:Nat,v4=.int .i64 i∧i+kq=xs.length+1∧i≤xs.length∧(∃ cur bss,Hid (zbN zbE 182 w w' g xs.length (xs.take i) cur bss))∧Below w.heap.size w w')
 case atStart=>exact ⟨0,rfl,by omega,by omega,F0,hb0⟩
 case round=>
  clear F0 hb0
  obtain ⟨i,rfl,hi,hi2,⟨cur,bss,HF⟩,hb⟩:=hrel
  obtain ⟨gk,rfl⟩:∃ m,gk=m+1:=⟨gk-1,by omega⟩
  by_cases hlt:i<xs.length
  ·obtain ⟨b,o,A0,c0,rfl,g0,g1,l0,r0⟩:=zgZ (HR.out.below hb) hlt
   have R0:=Lib.hid r0;clear r0
   go_wp2_with fail
   refine (zmO xs[i] [_,_] _ (zeb _ _ l0 (R0.out.below bel)) (by have:=ziH hlt;omega)).mono ?_
   rintro e w1 ⟨cs',bs,rfl,ho,hfr,hb1⟩
   have HO:=Lib.hid ho
   obtain ⟨E0,e0,b0,rfl,rfl,o0⟩:=zso ho
   obtain ⟨u0,q0,f0⟩:=zbN.cell HF hb1 hlt 0 (at_:=i*2) (by decide) rfl
   obtain ⟨u1,q1,f1⟩:=zbN.cell HF hb1 hlt 1 (at_:=i*2+1) (by decide) rfl
   have HFR:=Lib.hid hfr;clear hfr
   clear ho o0
   go_wp2
   go_roundg gk
   case measure=>omega
   case rel=>exact ⟨i+1,by go_num,by omega,by omega,zbN.next HF hlt hlt hb1 HO.out HFR.out rfl,((zm1 hb1 hb).setCell hg _).setCell hg _⟩
  ·go_wp2
   go_ret
   obtain ⟨bs,h1,h2⟩:=zbN.fin HF (by omega) rfl (by omega)
   exact ⟨_,_,bs,rfl,h1,h2,bel⟩
theorem zoa (x:zcZ) (cs:List Value) (w:World) (hx:zc3.K w x cs) (hc:zfq x≤1048576) :
 Calls Tryz.prog 128 #[.agg cs.toArray] w fun e w'=>∃ cs' bs,e=.returned (.agg cs'.toArray)∧zc3.O w' bs x cs'∧zcd w bs∧Below w.heap.size w w':=by
 obtain ⟨A0,c0,rfl,l0,r0⟩:=zjA hx
 clear hx
 unfold zfq at hc
 obtain ⟨x0⟩:=x
 simp only at *
 have R0:=Lib.hid r0;clear r0
 go_enter Tryz.func128,Tryz.ntmps128
 go_wp2_with (first
  | (go_at_call 186;(with_reducible refine (zmr x0 _ _ _ (R0.out.below bel) (by omega)).mono ?_);rintro e w0 ⟨E0,e0,b0,rfl,o0,f0,hb0⟩;obtain ⟨C0,D0⟩:=zbV hb0;obtain ⟨za0,zb0,zc0⟩:w.heap.size<w0.heap.size∧w.heap.size+1<w0.heap.size∧w.heap.size+1+1<w0.heap.size:=(by have:=hb0.size;(try simp at this);omega);have Ho0:=Lib.hid o0;clear o0;have Hf0:=Lib.hid f0;clear f0))
 refine bodyPost_ret (v:=.agg #[.slice E0 x0.length e0]) ?_ ?_ ?_
 ·simp only [results,Tryz.results128]
  go_simp
 ·rfl
 ·exact ⟨_,_,rfl,zr1 _ ⟨x0⟩ (Hf0.out.own Ho0.out),Hf0.out.sub,bel⟩
theorem zm4 (xs:List zcZ) (A:Option Addr) (c:Nat) (w:World) (hr:zc3.Row w A xs) (hm:xs.length+zcf xs≤1048576) :
 Calls Tryz.prog 65 #[.slice A xs.length c] w fun e w'=>∃ B d bs,e=.returned (.slice B xs.length d)∧zc3.Own 186 w' bs (.slice B xs.length d) xs∧zcd w bs∧Below w.heap.size w w':=by
 have HR:=Lib.hid hr;clear hr
 have hmk:=znK (P:=Tryz.prog) 37 186 1 24 _ Tryz.underlying37 zsu xs.length (by omega) (by omega)
 go_enter Tryz.func65,Tryz.ntmps65
 go_wp2
 clear hmk
 have F0:=zbN.init zc3 186 w xs xs.length (madeCells #[.slice none 0 0] xs.length) (by rw [size_madeCells];exact (Nat.mul_one _).symm)
 have hb0:Below w.heap.size w (w.alloc (.cells (madeCells #[.slice none 0 0] xs.length) 186)):=bel
 generalize hg:w.heap.size=g at F0 ⊢
 replace hg:w.heap.size≤g:=Nat.le_of_eq hg
 go_loopg [4] (xs.length+1) (fun kq v4 w'=>∃ i:Nat,v4=.int .i64 i∧i+kq=xs.length+1∧i≤xs.length∧(∃ cur bss,Hid (zbN zc3 186 w w' g xs.length (xs.take i) cur bss))∧Below w.heap.size w w')
 case atStart=>exact ⟨0,rfl,by omega,by omega,F0,hb0⟩
 case round=>
  clear F0 hb0
  obtain ⟨i,rfl,hi,hi2,⟨cur,bss,HF⟩,hb⟩:=hrel
  obtain ⟨gk,rfl⟩:∃ m,gk=m+1:=⟨gk-1,by omega⟩
  by_cases hlt:i<xs.length
  ·obtain ⟨b,o,A0,c0,rfl,g0,l0,r0⟩:=zi4 (HR.out.below hb) hlt
   have R0:=Lib.hid r0;clear r0
   go_wp2_with fail
   refine (zoa xs[i] [_] _ (zfB _ _ l0 (R0.out.below bel)) (by have:=zkx hlt;omega)).mono ?_
   rintro e w1 ⟨cs',bs,rfl,ho,hfr,hb1⟩
   have HO:=Lib.hid ho
   obtain ⟨E0,e0,b0,rfl,rfl,o0⟩:=zuX ho
   obtain ⟨u0,q0,f0⟩:=zbN.cell HF hb1 hlt 0 (at_:=i) (by decide) (Nat.mul_one i)
   have HFR:=Lib.hid hfr;clear hfr
   clear ho o0
   go_wp2
   go_roundg gk
   case measure=>omega
   case rel=>exact ⟨i+1,by go_num,by omega,by omega,zbN.next HF hlt hlt hb1 HO.out HFR.out (Nat.mul_one i),(zm1 hb1 hb).setCell hg _⟩
  ·go_wp2
   go_ret
   obtain ⟨bs,h1,h2⟩:=zbN.fin HF (by omega) rfl (by omega)
   exact ⟨_,_,bs,rfl,h1,h2,bel⟩
theorem zgO (x:zn) (cs:List Value) (w:World) (hx:zd3.K w x cs) (hc:zdF x≤1048576) :
 Calls Tryz.prog 14 #[.agg cs.toArray] w fun e w'=>∃ cs' bs,e=.returned (.agg cs'.toArray)∧zd3.O w' bs x cs'∧zcd w bs∧Below w.heap.size w w':=by
 obtain ⟨A0,c0,A1,c1,A2,c2,rfl,l0,r0,l1,r1,l2,r2⟩:=zjG hx
 clear hx
 unfold zdF at hc
 obtain ⟨x0,x1,x2,x3⟩:=x
 simp only at *
 have R0:=Lib.hid r0;clear r0
 have R1:=Lib.hid r1;clear r1
 have R2:=Lib.hid r2;clear r2
 go_enter Tryz.func14,Tryz.ntmps14
 go_wp2_with (first
  | (go_at_call 63;(with_reducible refine (zoI x0 _ _ _ (R0.out.below bel) (by omega)).mono ?_);rintro e w0 ⟨E0,e0,b0,rfl,o0,f0,hb0⟩;obtain ⟨C0,D0⟩:=zbV hb0;obtain ⟨za0,zb0,zc0⟩:w.heap.size<w0.heap.size∧w.heap.size+1<w0.heap.size∧w.heap.size+1+1<w0.heap.size:=(by have:=hb0.size;(try simp at this);omega);have Ho0:=Lib.hid o0;clear o0;have Hf0:=Lib.hid f0;clear f0)
  | (go_at_call 64;(with_reducible refine (zk7 x2 _ _ _ (R1.out.below bel) (by omega)).mono ?_);rintro e w1 ⟨E1,e1,b1,rfl,o1,f1,hb1⟩;obtain ⟨C1,D1⟩:=zbV hb1;obtain ⟨za1,zb1,zc1⟩:w.heap.size<w1.heap.size∧w.heap.size+1<w1.heap.size∧w.heap.size+1+1<w1.heap.size:=(by have:=hb1.size;(try simp at this);omega);have Ho1:=Lib.hid o1;clear o1;have Hf1:=Lib.hid f1;clear f1)
  | (go_at_call 65;(with_reducible refine (zm4 x3 _ _ _ (R2.out.below bel) (by omega)).mono ?_);rintro e w2 ⟨E2,e2,b2,rfl,o2,f2,hb2⟩;obtain ⟨C2,D2⟩:=zbV hb2;obtain ⟨za2,zb2,zc2⟩:w.heap.size<w2.heap.size∧w.heap.size+1<w2.heap.size∧w.heap.size+1+1<w2.heap.size:=(by have:=hb2.size;(try simp at this);omega);have Ho2:=Lib.hid o2;clear o2;have Hf2:=Lib.hid f2;clear f2))
 refine bodyPost_ret (v:=.agg #[.slice E0 x0.length e0,.int .i64 x1,.slice E1 x2.length e1,.slice E2 x3.length e2]) ?_ ?_ ?_
 ·simp only [results,Tryz.results14]
  go_simp
 ·rfl
 ·exact ⟨_,_,rfl,zr9 _ ⟨x0,x1,x2,x3⟩ (Hf0.out.own Ho0.out) (Hf1.out.own Ho1.out) (Hf2.out.own Ho2.out),((Hf0.out.sub).app ((Hf0.out.own Ho0.out).lt) Hf1.out).app (zxp ((Hf0.out.own Ho0.out).lt) (Hf1.out.own Ho1.out).lt) Hf2.out,bel⟩
theorem zoV (x:zbR) (cs:List Value) (w:World) (hx:zdP.K w x cs) :
 Calls Tryz.prog 85 #[.agg cs.toArray] w fun e w'=>∃ cs' bs,e=.returned (.agg cs'.toArray)∧zdP.O w' bs x cs'∧zcd w bs∧Below w.heap.size w w':=by
 obtain rfl:=zlB hx
 clear hx
 obtain ⟨x0,x1⟩:=x
 go_enter Tryz.func85,Tryz.ntmps85
 go_wp2
 refine bodyPost_ret (v:=.agg #[.int .i64 x0,.int .i64 x1]) ?_ ?_ ?_
 ·simp only [results,Tryz.results85]
  go_simp
 ·rfl
 ·exact ⟨_,_,rfl,zrN _ ⟨x0,x1⟩,zh9 _,bel⟩
theorem zf8 (xs:List zbR) (A:Option Addr) (c:Nat) (w:World) (hr:zdP.Row w A xs) (hm:xs.length≤1048576) :
 Calls Tryz.prog 26 #[.slice A xs.length c] w fun e w'=>∃ B d bs,e=.returned (.slice B xs.length d)∧zdP.Own 101 w' bs (.slice B xs.length d) xs∧zcd w bs∧Below w.heap.size w w':=by
 have HR:=Lib.hid hr;clear hr
 have hmk:=znK (P:=Tryz.prog) 34 101 2 16 _ Tryz.underlying34 zrX xs.length (by omega) (by omega)
 go_enter Tryz.func26,Tryz.ntmps26
 go_wp2
 clear hmk
 have F0:=zbN.init zdP 101 w xs xs.length (madeCells #[.int .i64 0,.int .i64 0] (xs.length*2)) (by rw [size_madeCells];rfl)
 have hb0:Below w.heap.size w (w.alloc (.cells (madeCells #[.int .i64 0,.int .i64 0] (xs.length*2)) 101)):=bel
 generalize hg:w.heap.size=g at F0 ⊢
 replace hg:w.heap.size≤g:=Nat.le_of_eq hg
 go_loopg [4] (xs.length+1) (fun kq v4 w'=>∃ i:Nat,v4=.int .i64 i∧i+kq=xs.length+1∧i≤xs.length∧(∃ cur bss,Hid (zbN zdP 101 w w' g xs.length (xs.take i) cur bss))∧Below w.heap.size w w')
 case atStart=>exact ⟨0,rfl,by omega,by omega,F0,hb0⟩
 case round=>
  clear F0 hb0
  obtain ⟨i,rfl,hi,hi2,⟨cur,bss,HF⟩,hb⟩:=hrel
  obtain ⟨gk,rfl⟩:∃ m,gk=m+1:=⟨gk-1,by omega⟩
  by_cases hlt:i<xs.length
  ·obtain ⟨b,o,rfl,g0,g1⟩:=zlK (HR.out.below hb) hlt
   go_wp2_with fail
   refine (zoV xs[i] [_,_] _ (zhV _ _)).mono ?_
   rintro e w1 ⟨cs',bs,rfl,ho,hfr,hb1⟩
   have HO:=Lib.hid ho
   obtain ⟨rfl,rfl⟩:=zuN ho
   obtain ⟨u0,q0,f0⟩:=zbN.cell HF hb1 hlt 0 (at_:=i*2) (by decide) rfl
   obtain ⟨u1,q1,f1⟩:=zbN.cell HF hb1 hlt 1 (at_:=i*2+1) (by decide) rfl
   have HFR:=Lib.hid hfr;clear hfr
   clear ho
   go_wp2
   go_roundg gk
   case measure=>omega
   case rel=>exact ⟨i+1,by go_num,by omega,by omega,zbN.next HF hlt hlt hb1 HO.out HFR.out rfl,((zm1 hb1 hb).setCell hg _).setCell hg _⟩
  ·go_wp2
   go_ret
   obtain ⟨bs,h1,h2⟩:=zbN.fin HF (by omega) rfl (by omega)
   exact ⟨_,_,bs,rfl,h1,h2,bel⟩
theorem zfm (xs:List Int) (A:Option Addr) (c:Nat) (l:Int) (w:World) (hr:Rp.int.Row w A xs) (h0:0≤l) (h1:l≤1048576) :
 Calls Tryz.prog 54 #[.slice A xs.length c,.int .i64 l] w fun e w'=>e=.returned (.int .i64 (szr l xs.length))∧Below w.heap.size w w':=by
 have hm:=hr.1
 clear hr
 unfold szr
 by_cases h:(xs.length:Int)≤l
 ·rw [if_pos h]
  have t1:decide (l-(xs.length:Int)<0)=false:=by simp;omega
  go_enter Tryz.func54,Tryz.ntmps54
  go_wp2
  go_ret
  exact ⟨rfl,bel⟩
 ·rw [if_neg h]
  have t1:decide (l-(xs.length:Int)<0)=true:=by simp;omega
  go_enter Tryz.func54,Tryz.ntmps54
  go_wp2
  go_ret
  exact ⟨rfl,bel⟩
theorem ziI (xs:List zaj) (A:Option Addr) (c:Nat) (l:Int) (w:World) (hr:zdq.Row w A xs) (h0:0≤l) (h1:l≤1048576) :
 Calls Tryz.prog 171 #[.slice A xs.length c,.int .i64 l] w fun e w'=>e=.returned (.int .i64 (szr l xs.length))∧Below w.heap.size w w':=by
 have hm:=hr.1
 clear hr
 unfold szr
 by_cases h:(xs.length:Int)≤l
 ·rw [if_pos h]
  have t1:decide (l-(xs.length:Int)<0)=false:=by simp;omega
  go_enter Tryz.func171,Tryz.ntmps171
  go_wp2
  go_ret
  exact ⟨rfl,bel⟩
 ·rw [if_neg h]
  have t1:decide (l-(xs.length:Int)<0)=true:=by simp;omega
  go_enter Tryz.func171,Tryz.ntmps171
  go_wp2
  go_ret
  exact ⟨rfl,bel⟩
theorem zhL (xs:List zaD) (A:Option Addr) (c:Nat) (l:Int) (w:World) (hr:zcq.Row w A xs) (h0:0≤l) (h1:l≤1048576) :
 Calls Tryz.prog 172 #[.slice A xs.length c,.int .i64 l] w fun e w'=>e=.returned (.int .i64 (szr l xs.length))∧Below w.heap.size w w':=by
 have hm:=hr.1
 clear hr
 unfold szr
 by_cases h:(xs.length:Int)≤l
 ·rw [if_pos h]
  have t1:decide (l-(xs.length:Int)<0)=false:=by simp;omega
  go_enter Tryz.func172,Tryz.ntmps172
  go_wp2
  go_ret
  exact ⟨rfl,bel⟩
 ·rw [if_neg h]
  have t1:decide (l-(xs.length:Int)<0)=true:=by simp;omega
  go_enter Tryz.func172,Tryz.ntmps172
  go_wp2
  go_ret
  exact ⟨rfl,bel⟩
theorem zhz (x:zax) (cs:List Value) (l:Int) (w:World) (hx:zbE.K w x cs) (h0:0≤l) (h1:l≤1048576) :
 Calls Tryz.prog 113 #[.agg cs.toArray,.int .i64 l] w fun e w'=>e=.returned (.int .i64 (szr l (zdL x)))∧Below w.heap.size w w':=by
 obtain ⟨A0,c0,rfl,l0,r0⟩:=zgH hx
 clear hx
 unfold zdL
 obtain ⟨x0,x1⟩:=x
 simp only at *
 have R0:=Lib.hid r0;clear r0
 by_cases h2:((x0.length:Nat):Int)≤l
 rotate_left
 ·go_enter Tryz.func113,Tryz.ntmps113
  go_wp2_with fail
  refine (zjC (ziI x0 _ _ (l) _ (R0.out.below bel) (by omega) (by omega)) rfl (by omega)).mono ?_
  rintro e w0 ⟨rfl,hb0⟩
  obtain ⟨C0,D0⟩:=zbV hb0
  have za0:w.heap.size<w0.heap.size:=by have:=hb0.size;(try simp at this);omega
  go_wp2
  go_ret
  refine ⟨?_,bel⟩
  exact zjw (by omega)
 have t0:decide (l-((x0.length:Nat):Int)<0)=false:=by simp;omega
 go_enter Tryz.func113,Tryz.ntmps113
 go_wp2_with fail
 refine (zeJ (ziI x0 _ _ (l) _ (R0.out.below bel) (by omega) (by omega)) rfl (by omega)).mono ?_
 rintro e w0 ⟨rfl,hb0⟩
 obtain ⟨C0,D0⟩:=zbV hb0
 have za0:w.heap.size<w0.heap.size:=by have:=hb0.size;(try simp at this);omega
 go_wp2
 go_ret
 refine ⟨?_,bel⟩
 exact zpw (by omega) (by omega)
theorem zfc (xs:List zax) (A:Option Addr) (c:Nat) (l:Int) (w:World) (hr:zbE.Row w A xs) (h0:0≤l) (h1:l≤1048576) :
 Calls Tryz.prog 55 #[.slice A xs.length c,.int .i64 l] w fun e w'=>e=.returned (.int .i64 (szr l (xs.length+zbi xs)))∧Below w.heap.size w w':=by
 have hm:=hr.1
 have HR:=Lib.hid hr;clear hr
 by_cases h:(xs.length:Int)≤l
 ·have t1:decide (l-(xs.length:Int)<0)=false:=by simp;omega
  go_enter Tryz.func55,Tryz.ntmps55
  go_wp2
  go_loopg [1,5] (xs.length+1) (fun kq v1 v3 w'=>∃ i:Nat,v3=.int .i64 i∧i+kq=xs.length+1∧i≤xs.length∧v1=.int .i64 (l-(xs.length:Int)-(zbi (xs.take i):Int))∧0≤l-(xs.length:Int)-(zbi (xs.take i):Int)∧Below w.heap.size w w')
  case atStart=>exact ⟨0,rfl,by omega,by omega,by simp [zbi],by simp [zbi];omega,Below.refl _ _⟩
  case round=>
   obtain ⟨i,rfl,hi,hi2,rfl,h3,hb⟩:=hrel
   obtain ⟨gk,rfl⟩:∃ m,gk=m+1:=⟨gk-1,by omega⟩
   by_cases hlt:i<xs.length
   ·obtain ⟨b,o,A0,c0,rfl,g0,g1,l0,r0⟩:=zgZ (HR.out.below hb) hlt
    have R0:=Lib.hid r0;clear r0
    have hs:=zho hlt
    have hle:=ziF (xs:=xs) (i:=i+1)
    generalize hp:l-(xs.length:Int)-(zbi (xs.take i):Int)=p at h3 ⊢
    have hp1:p≤1048576:=by omega
    by_cases h4:(zdL xs[i]:Int)≤p
    ·have t2:decide (p-(zdL xs[i]:Int)<0)=false:=by simp;omega
     have Hs:=Lib.hid hs;clear hs
     have Hp:=Lib.hid hp;clear hp
     go_wp2_with fail
     refine (zeJ (zhz xs[i] [_,_] p _ (zeb _ _ l0 (R0.out.below bel)) (by omega) (by omega)) rfl h4).mono ?_
     rintro e w1 ⟨rfl,hb1⟩
     go_wp2
     go_roundg gk
     case measure=>omega
     case rel=>exact ⟨i+1,by go_num,by omega,by omega,by rw [Hs.out,← Hp.out];congr 1;omega,by have:=Hs.out;have:=Hp.out;omega,zm1 hb1 hb⟩
    ·have Hs:=Lib.hid hs;clear hs
     have Hp:=Lib.hid hp;clear hp
     go_wp2_with fail
     refine (zjC (zhz xs[i] [_,_] p _ (zeb _ _ l0 (R0.out.below bel)) (by omega) (by omega)) rfl (by omega)).mono ?_
     rintro e w1 ⟨rfl,hb1⟩
     go_wp2
     go_ret
     refine ⟨?_,zm1 hb1 hb⟩
     have:=Hs.out;have:=Hp.out
     exact zjw (by omega)
   ·have hi':i=xs.length:=by omega
    subst hi'
    rw [List.take_length] at h3 ⊢
    go_wp2
    go_ret
    exact ⟨zpw (by omega) (by omega),hb⟩
 ·have t1:decide (l-(xs.length:Int)<0)=true:=by simp;omega
  go_enter Tryz.func55,Tryz.ntmps55
  go_wp2
  go_ret
  exact ⟨zjw (by omega),bel⟩
theorem zjj (x:zcZ) (cs:List Value) (l:Int) (w:World) (hx:zc3.K w x cs) (h0:0≤l) (h1:l≤1048576) :
 Calls Tryz.prog 114 #[.agg cs.toArray,.int .i64 l] w fun e w'=>e=.returned (.int .i64 (szr l (zfq x)))∧Below w.heap.size w w':=by
 obtain ⟨A0,c0,rfl,l0,r0⟩:=zjA hx
 clear hx
 unfold zfq
 obtain ⟨x0⟩:=x
 simp only at *
 have R0:=Lib.hid r0;clear r0
 by_cases h2:((x0.length:Nat):Int)≤l
 rotate_left
 ·go_enter Tryz.func114,Tryz.ntmps114
  go_wp2_with fail
  refine (zjC (zhL x0 _ _ (l) _ (R0.out.below bel) (by omega) (by omega)) rfl (by omega)).mono ?_
  rintro e w0 ⟨rfl,hb0⟩
  obtain ⟨C0,D0⟩:=zbV hb0
  have za0:w.heap.size<w0.heap.size:=by have:=hb0.size;(try simp at this);omega
  go_wp2
  go_ret
  refine ⟨?_,bel⟩
  exact zjw (by omega)
 have t0:decide (l-((x0.length:Nat):Int)<0)=false:=by simp;omega
 go_enter Tryz.func114,Tryz.ntmps114
 go_wp2_with fail
 refine (zeJ (zhL x0 _ _ (l) _ (R0.out.below bel) (by omega) (by omega)) rfl (by omega)).mono ?_
 rintro e w0 ⟨rfl,hb0⟩
 obtain ⟨C0,D0⟩:=zbV hb0
 have za0:w.heap.size<w0.heap.size:=by have:=hb0.size;(try simp at this);omega
 go_wp2
 go_ret
 refine ⟨?_,bel⟩
 exact zpw (by omega) (by omega)
theorem ziu (xs:List zcZ) (A:Option Addr) (c:Nat) (l:Int) (w:World) (hr:zc3.Row w A xs) (h0:0≤l) (h1:l≤1048576) :
 Calls Tryz.prog 56 #[.slice A xs.length c,.int .i64 l] w fun e w'=>e=.returned (.int .i64 (szr l (xs.length+zcf xs)))∧Below w.heap.size w w':=by
 have hm:=hr.1
 have HR:=Lib.hid hr;clear hr
 by_cases h:(xs.length:Int)≤l
 ·have t1:decide (l-(xs.length:Int)<0)=false:=by simp;omega
  go_enter Tryz.func56,Tryz.ntmps56
  go_wp2
  go_loopg [1,5] (xs.length+1) (fun kq v1 v3 w'=>∃ i:Nat,v3=.int .i64 i∧i+kq=xs.length+1∧i≤xs.length∧v1=.int .i64 (l-(xs.length:Int)-(zcf (xs.take i):Int))∧0≤l-(xs.length:Int)-(zcf (xs.take i):Int)∧Below w.heap.size w w')
  case atStart=>exact ⟨0,rfl,by omega,by omega,by simp [zcf],by simp [zcf];omega,Below.refl _ _⟩
  case round=>
   obtain ⟨i,rfl,hi,hi2,rfl,h3,hb⟩:=hrel
   obtain ⟨gk,rfl⟩:∃ m,gk=m+1:=⟨gk-1,by omega⟩
   by_cases hlt:i<xs.length
   ·obtain ⟨b,o,A0,c0,rfl,g0,l0,r0⟩:=zi4 (HR.out.below hb) hlt
    have R0:=Lib.hid r0;clear r0
    have hs:=ziD hlt
    have hle:=zkD (xs:=xs) (i:=i+1)
    generalize hp:l-(xs.length:Int)-(zcf (xs.take i):Int)=p at h3 ⊢
    have hp1:p≤1048576:=by omega
    by_cases h4:(zfq xs[i]:Int)≤p
    ·have t2:decide (p-(zfq xs[i]:Int)<0)=false:=by simp;omega
     have Hs:=Lib.hid hs;clear hs
     have Hp:=Lib.hid hp;clear hp
     go_wp2_with fail
     refine (zeJ (zjj xs[i] [_] p _ (zfB _ _ l0 (R0.out.below bel)) (by omega) (by omega)) rfl h4).mono ?_
     rintro e w1 ⟨rfl,hb1⟩
     go_wp2
     go_roundg gk
     case measure=>omega
     case rel=>exact ⟨i+1,by go_num,by omega,by omega,by rw [Hs.out,← Hp.out];congr 1;omega,by have:=Hs.out;have:=Hp.out;omega,zm1 hb1 hb⟩
    ·have Hs:=Lib.hid hs;clear hs
     have Hp:=Lib.hid hp;clear hp
     go_wp2_with fail
     refine (zjC (zjj xs[i] [_] p _ (zfB _ _ l0 (R0.out.below bel)) (by omega) (by omega)) rfl (by omega)).mono ?_
     rintro e w1 ⟨rfl,hb1⟩
     go_wp2
     go_ret
     refine ⟨?_,zm1 hb1 hb⟩
     have:=Hs.out;have:=Hp.out
     exact zjw (by omega)
   ·have hi':i=xs.length:=by omega
    subst hi'
    rw [List.take_length] at h3 ⊢
    go_wp2
    go_ret
    exact ⟨zpw (by omega) (by omega),hb⟩
 ·have t1:decide (l-(xs.length:Int)<0)=true:=by simp;omega
  go_enter Tryz.func56,Tryz.ntmps56
  go_wp2
  go_ret
  exact ⟨zjw (by omega),bel⟩
theorem zgL (x:zn) (cs:List Value) (l:Int) (w:World) (hx:zd3.K w x cs) (h0:0≤l) (h1:l≤1048576) :
 Calls Tryz.prog 11 #[.agg cs.toArray,.int .i64 l] w fun e w'=>e=.returned (.int .i64 (szr l (zdF x)))∧Below w.heap.size w w':=by
 obtain ⟨A0,c0,A1,c1,A2,c2,rfl,l0,r0,l1,r1,l2,r2⟩:=zjG hx
 clear hx
 unfold zdF
 obtain ⟨x0,x1,x2,x3⟩:=x
 simp only at *
 have R0:=Lib.hid r0;clear r0
 have R1:=Lib.hid r1;clear r1
 have R2:=Lib.hid r2;clear r2
 obtain ⟨n1,hn1⟩:∃ m:Nat,(x2.length+zbi x2)=m:=⟨_,rfl⟩
 obtain ⟨n2,hn2⟩:∃ m:Nat,(x3.length+zcf x3)=m:=⟨_,rfl⟩
 rw [hn1,hn2]
 have Hn1:=Lib.hid hn1;clear hn1
 have Hn2:=Lib.hid hn2;clear hn2
 by_cases h2:((x0.length:Nat):Int)≤l
 rotate_left
 ·go_enter Tryz.func11,Tryz.ntmps11
  go_wp2_with fail
  refine (zjC (zfm x0 _ _ (l) _ (R0.out.below bel) (by omega) (by omega)) rfl (by omega)).mono ?_
  rintro e w0 ⟨rfl,hb0⟩
  obtain ⟨C0,D0⟩:=zbV hb0
  have za0:w.heap.size<w0.heap.size:=by have:=hb0.size;(try simp at this);omega
  go_wp2
  go_ret
  refine ⟨?_,bel⟩
  exact zjw (by omega)
 by_cases h3:((x0.length:Nat):Int)+((n1:Nat):Int)≤l
 rotate_left
 ·have t0:decide (l-((x0.length:Nat):Int)<0)=false:=by simp;omega
  go_enter Tryz.func11,Tryz.ntmps11
  go_wp2_with fail
  refine (zeJ (zfm x0 _ _ (l) _ (R0.out.below bel) (by omega) (by omega)) rfl (by omega)).mono ?_
  rintro e w0 ⟨rfl,hb0⟩
  obtain ⟨C0,D0⟩:=zbV hb0
  have za0:w.heap.size<w0.heap.size:=by have:=hb0.size;(try simp at this);omega
  go_wp2_with fail
  refine (zjC (zfc x2 _ _ (l-((x0.length:Nat):Int)) _ (R1.out.below bel) (by omega) (by omega)) Hn1.out (by omega)).mono ?_
  rintro e w1 ⟨rfl,hb1⟩
  obtain ⟨C1,D1⟩:=zbV hb1
  have za1:w.heap.size<w1.heap.size:=by have:=hb1.size;(try simp at this);omega
  go_wp2
  go_ret
  refine ⟨?_,bel⟩
  exact zjw (by omega)
 by_cases h4:((x0.length:Nat):Int)+((n1:Nat):Int)+((n2:Nat):Int)≤l
 rotate_left
 ·have t0:decide (l-((x0.length:Nat):Int)<0)=false:=by simp;omega
  have t1:decide (l-((x0.length:Nat):Int)-((n1:Nat):Int)<0)=false:=by simp;omega
  go_enter Tryz.func11,Tryz.ntmps11
  go_wp2_with fail
  refine (zeJ (zfm x0 _ _ (l) _ (R0.out.below bel) (by omega) (by omega)) rfl (by omega)).mono ?_
  rintro e w0 ⟨rfl,hb0⟩
  obtain ⟨C0,D0⟩:=zbV hb0
  have za0:w.heap.size<w0.heap.size:=by have:=hb0.size;(try simp at this);omega
  go_wp2_with fail
  refine (zeJ (zfc x2 _ _ (l-((x0.length:Nat):Int)) _ (R1.out.below bel) (by omega) (by omega)) Hn1.out (by omega)).mono ?_
  rintro e w1 ⟨rfl,hb1⟩
  obtain ⟨C1,D1⟩:=zbV hb1
  have za1:w.heap.size<w1.heap.size:=by have:=hb1.size;(try simp at this);omega
  go_wp2_with fail
  refine (zjC (ziu x3 _ _ (l-((x0.length:Nat):Int)-((n1:Nat):Int)) _ (R2.out.below bel) (by omega) (by omega)) Hn2.out (by omega)).mono ?_
  rintro e w2 ⟨rfl,hb2⟩
  obtain ⟨C2,D2⟩:=zbV hb2
  have za2:w.heap.size<w2.heap.size:=by have:=hb2.size;(try simp at this);omega
  go_wp2
  go_ret
  refine ⟨?_,bel⟩
  exact zjw (by omega)
 have t0:decide (l-((x0.length:Nat):Int)<0)=false:=by simp;omega
 have t1:decide (l-((x0.length:Nat):Int)-((n1:Nat):Int)<0)=false:=by simp;omega
 have t2:decide (l-((x0.length:Nat):Int)-((n1:Nat):Int)-((n2:Nat):Int)<0)=false:=by simp;omega
 go_enter Tryz.func11,Tryz.ntmps11
 go_wp2_with fail
 refine (zeJ (zfm x0 _ _ (l) _ (R0.out.below bel) (by omega) (by omega)) rfl (by omega)).mono ?_
 rintro e w0 ⟨rfl,hb0⟩
 obtain ⟨C0,D0⟩:=zbV hb0
 have za0:w.heap.size<w0.heap.size:=by have:=hb0.size;(try simp at this);omega
 go_wp2_with fail
 refine (zeJ (zfc x2 _ _ (l-((x0.length:Nat):Int)) _ (R1.out.below bel) (by omega) (by omega)) Hn1.out (by omega)).mono ?_
 rintro e w1 ⟨rfl,hb1⟩
 obtain ⟨C1,D1⟩:=zbV hb1
 have za1:w.heap.size<w1.heap.size:=by have:=hb1.size;(try simp at this);omega
 go_wp2_with fail
 refine (zeJ (ziu x3 _ _ (l-((x0.length:Nat):Int)-((n1:Nat):Int)) _ (R2.out.below bel) (by omega) (by omega)) Hn2.out (by omega)).mono ?_
 rintro e w2 ⟨rfl,hb2⟩
 obtain ⟨C2,D2⟩:=zbV hb2
 have za2:w.heap.size<w2.heap.size:=by have:=hb2.size;(try simp at this);omega
 go_wp2
 go_ret
 refine ⟨?_,bel⟩
 exact zpw (by omega) (by omega)
theorem ziG (xs:List zbR) (A:Option Addr) (c:Nat) (l:Int) (w:World) (hr:zdP.Row w A xs) (h0:0≤l) (h1:l≤1048576) :
 Calls Tryz.prog 24 #[.slice A xs.length c,.int .i64 l] w fun e w'=>e=.returned (.int .i64 (szr l xs.length))∧Below w.heap.size w w':=by
 have hm:=hr.1
 clear hr
 unfold szr
 by_cases h:(xs.length:Int)≤l
 ·rw [if_pos h]
  have t1:decide (l-(xs.length:Int)<0)=false:=by simp;omega
  go_enter Tryz.func24,Tryz.ntmps24
  go_wp2
  go_ret
  exact ⟨rfl,bel⟩
 ·rw [if_neg h]
  have t1:decide (l-(xs.length:Int)<0)=true:=by simp;omega
  go_enter Tryz.func24,Tryz.ntmps24
  go_wp2
  go_ret
  exact ⟨rfl,bel⟩
end Go.Proofs.YtjmefaihkblliaaGreat.Wd

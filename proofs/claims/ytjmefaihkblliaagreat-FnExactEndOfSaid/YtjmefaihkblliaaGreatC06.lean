/- Texts of one claim, joined: E39, E40, E41, E42, E43, E44, S1, S2, S3, S4, S5, S6, S7, S8, S9, S10, E45, E46, E47, E48, E49, E50, E51, E52. Conditions: zas each says. -/
import Derived.Test.YtjmefaihkblliaaGreatC04
import Derived.Test.YtjmefaihkblliaaGreatC05
namespace Go.Proofs.YtjmefaihkblliaaGreat.Ab
open Go.RowKit
set_option linter.unusedVariables false
set_option linter.unusedSimpArgs false
set_option maxRecDepth 100000
structure zp (e:zz) (n:Nat):Prop where
 gs:e.gs.length≤n
 chans:e.chans.length≤n
 mus:e.mus.length≤n
 g:∀ i<e.gs.length,(e.gs.getD i zd).regs.length≤n∧(e.gs.getD i zd).trace.length≤n
 c:∀ i<e.chans.length,zdR (e.chans.getD i zg) n
 m:∀ i<e.mus.length,(e.mus.getD i zj).wait.length≤n
theorem ze1 {α:Type} {l:List α} {j:Nat} (d:α) (hj:j<l.length):l.take (j+1)=l.take j++[l.getD j d]:=by
 rw [List.take_add_one,List.getD_eq_getElem?_getD,List.getElem?_eq_getElem hj];rfl
def zq4:LV:=.lagg [.own 501,.own 502,.own 503]
def zhq (e:zz):Ml:=[(501,some (.row 172 5 zd zH e.gs)),(502,some (.row 191 5 zg zae e.chans)),(503,some (.row 193 2 zj zO e.mus))]
set_option maxHeartbeats 4000000 in
theorem zhs (e:zz) (h:zp e 1099511627776):Ct Tryz.prog 149 [.dagg (zad e)] [] (zag zq4 (zhq e)):=by
 obtain ⟨hg,hc0,hm0,hgs,hcs,hms⟩:=h
 refine zD (rs:=[(.cell 2 45,45)]) za Tryz.func149 rfl rfl rfl (Nat.le_of_ble_eq_true rfl) rfl fun ho hm x hn hlent=>?_
 refine zT hn za zd zH ([]:List zW) rfl ?_ rfl rfl rfl rfl rfl rfl rfl rfl rfl ?_;exact qS
 refine zM hn za rfl ?_ (fun (wI:Nat) wT wM=>((16,.dat (.int .i64 wI))::(3,.own 100)::([(12,.no)]++wT),(100,some ((fun i=>.row 172 5 zd zH (e.gs.take i)) wI))::([(12,none)]++wM))) (fun wI=>wI≤e.gs.length∧(fun _=>True) wI) (fun wI=>e.gs.length-wI) 0 ⟨Nat.zero_le _,?_⟩ (zt [(100,12),(12,999)] ?_ ?_ rfl) ?_;exact qS
 ·trivial
 ·exact qL
 ·exact qL
 rintro i ⟨hi,_⟩
 refine ze hn za rfl qS ?_ ?_<;>intro hc<;>first | (replace hc:=qC2 hc;try exact qX) | exact qF2 hc | skip
 ·have hlt:i<e.gs.length:=by omega
  have hk:=zeN (e.gs.getD i zd) (by have:=(hgs i hlt).1;omega) (by have:=(hgs i hlt).2;omega)
  refine qK hn za rfl rfl (by assumption) ?_
  refine zT hn za zd zH [e.gs.getD i zd] rfl ?_ rfl rfl rfl rfl rfl rfl rfl rfl rfl ?_;exact qS
  refine zas hn za [e.gs.getD i zd] rfl ?_ rfl rfl rfl rfl rfl rfl rfl rfl ?_ ?_;exact qS
  ·show ((e.gs.take i).length+1)*72≤_
   rw [List.length_take];omega
  refine zx hn za rfl qS ⟨i+1,⟨?_,?_⟩,?_,?_⟩
  ·omega
  ·trivial
  ·show e.gs.length-(i+1)<e.gs.length-i;omega
  ·refine zt [(100,24),(12,999)] qL ?_ rfl;repeat' (first | exact trivial | refine And.intro rfl ?_)
   refine And.intro (congrArg (fun q=>some (Blk.row 172 5 zd zH q)) ?_) ?_
   ·rw [ze1 zd hlt]
   ·exact qL
 have hie:i=e.gs.length:=by omega
 subst hie
 refine zT hn za zg zae ([]:List zY) rfl ?_ rfl rfl rfl rfl rfl rfl rfl rfl rfl ?_;exact qS
 refine zM hn za rfl ?_ (fun (wI:Nat) wT wM=>((30,.dat (.int .i64 wI))::(6,.own 101)::([(26,.no)]++wT),(101,some ((fun i=>.row 191 5 zg zae (e.chans.take i)) wI))::([(26,none)]++wM))) (fun wI=>wI≤e.chans.length∧(fun _=>True) wI) (fun wI=>e.chans.length-wI) 0 ⟨Nat.zero_le _,?_⟩ (zt [(101,26),(26,999)] ?_ ?_ rfl) ?_;exact qS
 ·trivial
 ·exact qL
 ·exact qL
 rintro i ⟨hi,_⟩
 refine ze hn za rfl qS ?_ ?_<;>intro hc<;>first | (replace hc:=qC2 hc;try exact qX) | exact qF2 hc | skip
 ·have hlt:i<e.chans.length:=by omega
  have hk:=zgk (e.chans.getD i zg) (by obtain ⟨h1,h2,h3⟩:=hcs i hlt;exact ⟨by omega,by omega,by omega⟩)
  refine qK hn za rfl rfl (by assumption) ?_
  refine zT hn za zg zae [e.chans.getD i zg] rfl ?_ rfl rfl rfl rfl rfl rfl rfl rfl rfl ?_;exact qS
  refine zas hn za [e.chans.getD i zg] rfl ?_ rfl rfl rfl rfl rfl rfl rfl rfl ?_ ?_;exact qS
  ·show ((e.chans.take i).length+1)*88≤_
   rw [List.length_take];omega
  refine zx hn za rfl qS ⟨i+1,⟨?_,?_⟩,?_,?_⟩
  ·omega
  ·trivial
  ·show e.chans.length-(i+1)<e.chans.length-i;omega
  ·refine zt [(101,38),(26,999)] qL ?_ rfl;repeat' (first | exact trivial | refine And.intro rfl ?_)
   refine And.intro (congrArg (fun q=>some (Blk.row 191 5 zg zae q)) ?_) ?_
   ·rw [ze1 zg hlt]
   ·exact qL
 have hie:i=e.chans.length:=by omega
 subst hie
 refine zT hn za zj zO ([]:List zal) rfl ?_ rfl rfl rfl rfl rfl rfl rfl rfl rfl ?_;exact qS
 refine zM hn za rfl ?_ (fun (wI:Nat) wT wM=>((44,.dat (.int .i64 wI))::(9,.own 102)::([(40,.no)]++wT),(102,some ((fun i=>.row 193 2 zj zO (e.mus.take i)) wI))::([(40,none)]++wM))) (fun wI=>wI≤e.mus.length∧(fun _=>True) wI) (fun wI=>e.mus.length-wI) 0 ⟨Nat.zero_le _,?_⟩ (zt [(102,40),(40,999)] ?_ ?_ rfl) ?_;exact qS
 ·trivial
 ·exact qL
 ·exact qL
 rintro i ⟨hi,_⟩
 refine ze hn za rfl qS ?_ ?_<;>intro hc<;>first | (replace hc:=qC2 hc;try exact qX) | exact qF2 hc | skip
 ·have hlt:i<e.mus.length:=by omega
  have hk:=zgp (e.mus.getD i zj) (by have:=hms i hlt;omega)
  refine qK hn za rfl rfl (by assumption) ?_
  refine zT hn za zj zO [e.mus.getD i zj] rfl ?_ rfl rfl rfl rfl rfl rfl rfl rfl rfl ?_;exact qS
  refine zas hn za [e.mus.getD i zj] rfl ?_ rfl rfl rfl rfl rfl rfl rfl rfl ?_ ?_;exact qS
  ·show ((e.mus.take i).length+1)*32≤_
   rw [List.length_take];omega
  refine zx hn za rfl qS ⟨i+1,⟨?_,?_⟩,?_,?_⟩
  ·omega
  ·trivial
  ·show e.mus.length-(i+1)<e.mus.length-i;omega
  ·refine zt [(102,52),(40,999)] qL ?_ rfl;repeat' (first | exact trivial | refine And.intro rfl ?_)
   refine And.intro (congrArg (fun q=>some (Blk.row 193 2 zj zO q)) ?_) ?_
   ·rw [ze1 zj hlt]
   ·exact qL
 have hie:i=e.mus.length:=by omega
 subst hie
 refine zf hn za rfl ?_ ⟨_,zq4,zhq e,[(501,100),(502,101),(503,102)],rfl,rfl,⟨?_,?_,?_,trivial⟩,rfl,rfl,rfl,rfl,rfl⟩
 ·exact qS
 ·exact congrArg (fun q=>some (Blk.row 172 5 zd zH q)) List.take_length
 ·exact congrArg (fun q=>some (Blk.row 191 5 zg zae q)) List.take_length
 ·exact congrArg (fun q=>some (Blk.row 193 2 zj zO q)) List.take_length
def hE:LV:=.lagg [.own 1000,.own 1001,.own 1002]
def mE (e:zz):Ml:=[(1000,some (.row 172 5 zd zH e.gs)),(1001,some (.row 191 5 zg zae e.chans)),(1002,some (.row 193 2 zj zO e.mus))]
def zjr (n:Int) (c:zY):zY:={c with sends:=zat c.sends n,recvs:=zat c.recvs n}
def zfM (e:zz) (n:Int):zz:={e with chans:=e.chans.map (zjr n)}
def zbC (l:List zY) (n:Int) (i:Nat):List zY:=(l.take i).map (zjr n)++l.drop i
theorem zl8 (l:List zY) (n:Int) (i:Nat):(zbC l n i).length=l.length:=by
 unfold zbC;rw [List.length_append,List.length_map,List.length_take,List.length_drop];omega
theorem zl6 {l:List zY} {n:Int} {i:Nat} (hi:i<l.length):(zbC l n i).getD i zg=l.getD i zg:=by
 unfold zbC
 rw [List.getD_eq_getElem?_getD,List.getD_eq_getElem?_getD,List.getElem?_append_right (by rw [List.length_map,List.length_take];omega),List.length_map,List.length_take,Nat.min_eq_left (by omega),Nat.sub_self,List.getElem?_drop,Nat.add_zero]
theorem zmL {l:List zY} {n:Int} {i:Nat} (hi:i<l.length):(zbC l n i).set i (zjr n (l.getD i zg))=zbC l n (i+1):=by
 unfold zbC
 rw [List.set_append_right _ _ (by rw [List.length_map,List.length_take];omega),List.length_map,List.length_take,Nat.min_eq_left (by omega),Nat.sub_self,ze1 zg hi,List.map_append,List.append_assoc]
 congr 1
 rw [List.drop_eq_getElem_cons hi];rfl
set_option maxHeartbeats 4000000 in
theorem zkV (e:zz) (n:Int) (h:zp e 1099511627776):Ct Tryz.prog 305 [hE,.dat (.int .i64 n)] (mE e) (zag hE (mE (zfM e n))):=by
 obtain ⟨hg,hc0,hm0,hgs,hcs,hms⟩:=h
 have hn0:∀ i,(zbC e.chans n i).length=e.chans.length:=zl8 e.chans n
 refine zD (rs:=[(.cell 4 45,45)]) za Tryz.func305 rfl rfl rfl (Nat.le_of_ble_eq_true rfl) rfl fun ho hm x hn hlent=>?_
 refine zM hn za rfl ?_ (fun (i:Nat) wT wM=>((10,.dat (.int .i64 i))::wT,(1001,some (.row 191 5 zg zae (zbC e.chans n i)))::wM)) (fun i=>i≤e.chans.length) (fun i=>e.chans.length-i) 0 (Nat.zero_le _) (zt [] ?_ ?_ rfl) ?_
 ·exact qS
 ·exact qL
 ·exact qL
 rintro i hi
 have hni:=hn0 i
 refine ze hn za rfl qS ?_ ?_<;>intro hc<;>first | (replace hc:=qC2 hc;try exact qX) | exact qF2 hc | skip
 ·have hlt:i<e.chans.length:=by omega
  have hget:=zl6 (n:=n) hlt
  obtain ⟨h1,h2,h3⟩:=hcs i hlt
  have hk1:=zix (e.chans.getD i zg).sends n (by omega)
  have hk2:=zix (e.chans.getD i zg).recvs n (by omega)
  rw [← hget] at hk1 hk2
  refine qK hn za rfl rfl (by assumption) ?_
  refine qK hn za rfl rfl (by assumption) ?_
  refine zaI hn za (zjr n ((zbC e.chans n i).getD i zg)) rfl ?_ rfl rfl rfl rfl rfl rfl (Nat.le_of_ble_eq_true rfl) rfl ?_;(first | (exact qS) | decide | (simp only [List.length_replicate,List.length_set];decide))
  refine zx hn za rfl ?_ ⟨i+1,?_,?_,?_⟩
  ·exact qS
  ·show i+1≤e.chans.length;omega
  ·show e.chans.length-(i+1)<e.chans.length-i;omega
  ·refine zt [] ?_ ?_ rfl
   ·exact qL
   ·refine And.intro (congrArg (fun q=>some (Blk.row 191 5 zg zae q)) ?_) ?_
    ·rw [← zmL hlt,← hget];rfl
    ·exact qL
 have hie:i=e.chans.length:=by omega
 subst hie
 refine zf hn za rfl ?_ ⟨_,hE,mE (zfM e n),[],rfl,rfl,⟨?_,?_,?_,trivial⟩,rfl,rfl,rfl,rfl,rfl⟩
 ·exact qS
 ·rfl
 ·refine congrArg (fun q=>some (Blk.row 191 5 zg zae q)) ?_
  unfold zbC
  rw [List.take_length,List.drop_length,List.append_nil];rfl
 ·rfl
def setG (e:zz) (n:Int) (g:zW):zz:={e with gs:=e.gs.set n.toNat g}
def zbg (g:zW) (i:zbl):zW:={tell g i with pc:=g.pc+1,state:=1}
def setMu (e:zz) (k:Int) (m:zal):zz:={e with mus:=e.mus.set k.toNat m}
def lockE (e:zz) (n mu:Int):zz:=if (e.mus.getD mu.toNat zj).owner=n then setG e n (over (e.gs.getD n.toNat zd) 4) else setG (setMu e mu (zcT (e.mus.getD mu.toNat zj) n).1) n (zbg (e.gs.getD n.toNat zd) ⟨5,mu,0,false⟩)
set_option maxHeartbeats 4000000 in
theorem zkW (e:zz) (n mu:Int) (hb:0≤n∧n<e.gs.length) (hm1:0≤mu∧mu<e.mus.length) (h1:(e.gs.getD n.toNat zd).regs.length≤2199023255551) (h2:(e.gs.getD n.toNat zd).trace.length≤2199023255551) (h3:0≤(e.gs.getD n.toNat zd).pc∧(e.gs.getD n.toNat zd).pc≤1099511627776) (h4:(e.mus.getD mu.toNat zj).wait.length≤2199023255551) (h5:(e.gs.getD n.toNat zd).state=1):Ct Tryz.prog 280 [hE,.dat (.int .i64 n),.dat (.int .i64 mu)] (mE e) (zag hE (mE (lockE e n mu))):=by
 have hk:=zaH (e.gs.getD n.toNat zd) ⟨5,mu,0,false⟩ h1 h2
 have hov:=zce (e.gs.getD n.toNat zd) 4 h1 h2
 have hlk:=zir (e.mus.getD mu.toNat zj) n h4
 have hp:(tell (e.gs.getD n.toNat zd) ⟨5,mu,0,false⟩).pc=(e.gs.getD n.toNat zd).pc:=rfl
 refine zD (rs:=[(.cell 6 45,45)]) za Tryz.func280 rfl rfl rfl (Nat.le_of_ble_eq_true rfl) rfl fun ho hm x hn hlent=>?_
 refine ze hn za rfl qS ?_ ?_<;>intro hc<;>first | (replace hc:=qC2 hc;try exact qX) | exact qF2 hc | skip
 ·refine qD hn za zu [.r (.dagg (zH (over (e.gs.getD n.toNat zd) 4))),.raw .no [(1000,some (.row 172 5 zd zH (e.gs.set n.toNat (over (e.gs.getD n.toNat zd) 4))))] none] rfl rfl ?_ ?_
  ·(try refine qM ?_);repeat' (first | exact trivial | assumption | assumption | omega | exact qV | refine And.intro ?_ ?_)
   exact zab _ hn za rfl ⟨_,_,rfl,rfl,rfl⟩ rfl rfl rfl rfl rfl (Nat.le_of_ble_eq_true rfl) rfl rfl
  refine zf hn za rfl ?_ ⟨_,hE,mE (lockE e n mu),[],rfl,rfl,?_,rfl,rfl,rfl,rfl,rfl⟩
  ·exact qS
  rw [lockE,if_pos hc]
  exact ⟨rfl,rfl,rfl,trivial⟩
 ·rw [lockE,if_neg hc]
  rcases hl:zcT (e.mus.getD mu.toNat zj) n with ⟨m',a',b'⟩
  rw [hl] at hlk
  refine qD hn za zu [.r (.tup [.dagg (zO m'),.dat (.bool a'),.dat (.bool b')]),.raw .no [(1002,some (.row 193 2 zj zO (e.mus.set mu.toNat m')))] none] rfl rfl ?_ ?_
  ·(try refine qM ?_);repeat' (first | exact trivial | assumption | assumption | omega | exact qV | refine And.intro ?_ ?_)
   exact zab _ hn za rfl ⟨_,_,rfl,rfl,rfl⟩ rfl rfl rfl rfl rfl (Nat.le_of_ble_eq_true rfl) rfl rfl
  refine qD hn za zu [.r (.dagg (zH (tell (e.gs.getD n.toNat zd) ⟨5,mu,0,false⟩))),.raw .no [(1000,some (.row 172 5 zd zH (e.gs.set n.toNat (tell (e.gs.getD n.toNat zd) ⟨5,mu,0,false⟩))))] none] rfl rfl ?_ ?_
  ·(try refine qM ?_);repeat' (first | exact trivial | assumption | assumption | omega | exact qV | refine And.intro ?_ ?_)
   exact zab _ hn za rfl ⟨_,_,rfl,rfl,rfl⟩ rfl rfl rfl rfl rfl (Nat.le_of_ble_eq_true rfl) rfl rfl
  have hq:(e.gs.set n.toNat (tell (e.gs.getD n.toNat zd) ⟨5,mu,0,false⟩)).getD n.toNat zd=tell (e.gs.getD n.toNat zd) ⟨5,mu,0,false⟩:=by
   rw [List.getD_eq_getElem?_getD,List.getElem?_set_self (by omega)];rfl
  have hln:(e.gs.set n.toNat (tell (e.gs.getD n.toNat zd) ⟨5,mu,0,false⟩)).length=e.gs.length:=List.length_set
  have hgo:zbg (e.gs.getD n.toNat zd) ⟨5,mu,0,false⟩={tell (e.gs.getD n.toNat zd) ⟨5,mu,0,false⟩ with pc:=(e.gs.getD n.toNat zd).pc+1}:=by
   unfold zbg tell;rw [h5]
  have hset:(e.gs.set n.toNat (tell (e.gs.getD n.toNat zd) ⟨5,mu,0,false⟩)).set n.toNat {(e.gs.set n.toNat (tell (e.gs.getD n.toNat zd) ⟨5,mu,0,false⟩)).getD n.toNat zd with pc:=((e.gs.set n.toNat (tell (e.gs.getD n.toNat zd) ⟨5,mu,0,false⟩)).getD n.toNat zd).pc+1}=e.gs.set n.toNat (zbg (e.gs.getD n.toNat zd) ⟨5,mu,0,false⟩):=by
   rw [hq,List.set_set,hgo];rfl
  have hpq:((e.gs.set n.toNat (tell (e.gs.getD n.toNat zd) ⟨5,mu,0,false⟩)).getD n.toNat zd).pc=(e.gs.getD n.toNat zd).pc:=by rw [hq];rfl
  refine zaI hn za {(e.gs.set n.toNat (tell (e.gs.getD n.toNat zd) ⟨5,mu,0,false⟩)).getD n.toNat zd with pc:=((e.gs.set n.toNat (tell (e.gs.getD n.toNat zd) ⟨5,mu,0,false⟩)).getD n.toNat zd).pc+1} rfl ?_ rfl rfl rfl rfl rfl rfl (Nat.le_of_ble_eq_true rfl) rfl ?_;(first | (exact qS) | decide | (simp only [List.length_replicate,List.length_set];decide))
  refine zf hn za rfl ?_ ⟨_,hE,mE (setG (setMu e mu m') n (zbg (e.gs.getD n.toNat zd) ⟨5,mu,0,false⟩)),[],rfl,rfl,⟨?_,?_,?_,trivial⟩,rfl,rfl,rfl,rfl,rfl⟩
  ·exact qS
  ·exact congrArg (fun q=>some (Blk.row 172 5 zd zH q)) hset
  ·rfl
  ·rfl
def zbk (e:zz) (n:Int) (i:zbl):zz:=setG e n (zbg (e.gs.getD n.toNat zd) i)
def unlockE (e:zz) (n mu:Int):zz:=match zbF (e.mus.getD mu.toNat zj) n with
 | (m,next,ok)=>if ok=false then setG e n (over (e.gs.getD n.toNat zd) 3) else if next<0 then zbk (setMu e mu m) n ⟨6,mu,0,false⟩ else zbk (zbk (setMu e mu m) n ⟨6,mu,0,false⟩) next ⟨5,mu,0,false⟩
set_option maxHeartbeats 4000000 in
theorem ziQ (e:zz) (n mu:Int) (hb:0≤n∧n<e.gs.length) (hm1:0≤mu∧mu<e.mus.length) (h1:(e.gs.getD n.toNat zd).regs.length≤2199023255551) (h2:(e.gs.getD n.toNat zd).trace.length≤2199023255551) (h3:0≤(e.gs.getD n.toNat zd).pc∧(e.gs.getD n.toNat zd).pc≤1099511627776) (h4:(e.mus.getD mu.toNat zj).wait.length≤2199023255551) (h5:(e.gs.getD n.toNat zd).state=1) (hno:(zbF (e.mus.getD mu.toNat zj) n).2.2=false):Ct Tryz.prog 281 [hE,.dat (.int .i64 n),.dat (.int .i64 mu)] (mE e) (zag hE (mE (unlockE e n mu))):=by
 have hov:=zce (e.gs.getD n.toNat zd) 3 h1 h2
 have hlk:=zhg (e.mus.getD mu.toNat zj) n h4
 unfold unlockE
 rcases hl:zbF (e.mus.getD mu.toNat zj) n with ⟨m',next,ok⟩
 rw [hl] at hlk hno
 have hok:ok=false:=hno
 subst hok
 refine zD (rs:=[(.cell 6 45,45)]) za Tryz.func281 rfl rfl rfl (Nat.le_of_ble_eq_true rfl) rfl fun ho hm x hn hlent=>?_
 refine zbs hn za rfl ?_ rfl [] ⟨_,.tup [.dagg (zO m'),.dat (.int .i64 next),.dat (.bool false)],rfl,hlk,rfl,.inr (fun id hi=>zdl hi),?_⟩
 ·exact qS
 refine ze hn za rfl qS ?_ ?_<;>intro hc<;>first | (replace hc:=qC2 hc;try exact qX) | exact qF2 hc | skip
 ·refine qD hn za zu [.r (.dagg (zH (over (e.gs.getD n.toNat zd) 3))),.raw .no [(1000,some (.row 172 5 zd zH (e.gs.set n.toNat (over (e.gs.getD n.toNat zd) 3))))] none] rfl rfl ?_ ?_
  ·(try refine qM ?_);repeat' (first | exact trivial | assumption | assumption | omega | exact qV | refine And.intro ?_ ?_)
   exact zab _ hn za rfl ⟨_,_,rfl,rfl,rfl⟩ rfl rfl rfl rfl rfl (Nat.le_of_ble_eq_true rfl) rfl rfl
  refine zf hn za rfl ?_ ⟨_,hE,mE (setG e n (over (e.gs.getD n.toNat zd) 3)),[],rfl,rfl,⟨rfl,rfl,rfl,trivial⟩,rfl,rfl,rfl,rfl,rfl⟩
  exact qS
 ·cases hc
/-! ### lists -/
theorem zF {α:Type} {l:List α} {i:Nat} {a d:α} (h:i<l.length):(l.set i a).getD i d=a:=by
 rw [List.getD_eq_getElem?_getD,List.getElem?_set_self h];rfl
theorem z4 {α:Type} {l:List α} {i j:Nat} {a d:α} (h:i≠j):(l.set i a).getD j d=l.getD j d:=by
 rw [List.getD_eq_getElem?_getD,List.getElem?_set_ne h,← List.getD_eq_getElem?_getD]
theorem za6 {α:Type} {l:List α} {i:Nat} {d:α} (h:i<l.length):l.getD i d∈l:=by
 rw [List.getD_eq_getElem?_getD,List.getElem?_eq_getElem h];exact List.getElem_mem h
theorem zpM {α:Type} {l:List α} {x:α} (d:α) (h:x∈l):∃ i,i<l.length∧l.getD i d=x:=by
 obtain ⟨i,hi⟩:=List.mem_iff_getElem?.1 h
 have hl:=(List.getElem?_eq_some_iff.1 hi).1
 exact ⟨i,hl,by rw [List.getD_eq_getElem?_getD,hi];rfl⟩
theorem zgl {α:Type} {l:List α} {i:Nat} {d:α} (h:l.length≤i):l.getD i d=d:=by
 rw [List.getD_eq_getElem?_getD,List.getElem?_eq_none h];rfl
/-! ### what a step does -/
def setC (e:zz) (k:Int) (c:zY):zz:={e with chans:=e.chans.set k.toNat c}
def zaE (p:zn) (g:zW) (w:zo):zaj:=if 0≤w.cas then (p.sels.getD (zb p g).a.toNat zh).cases.getD w.cas.toNat zE else ⟨decide ((zb p g).op=8),0,(zb p g).b,(zb p g).c,g.pc+1⟩
def zeH (p:zn) (g:zW) (ch:Int) (w:zo) (v:Int) (ok:Bool):zW:=
 let x:=zaE p g w
 let g1:zW:={(if 0≤w.cas then tell g ⟨4,(zb p g).a,w.cas,false⟩ else g) with state:=1}
 if x.send=true then (if ok=true then {tell g1 ⟨1,ch,w.val,false⟩ with pc:=x.to} else over g1 1) else {zcj g1 ch v ok x.reg x.ok with pc:=x.to}
def zaV (p:zn) (e:zz) (ch:Int) (w:zo) (v:Int) (ok:Bool):zz:=setG (zfM e w.g) w.g (zeH p (e.gs.getD w.g.toNat zd) ch w v ok)
def wakeIf (p:zn) (e:zz) (ch:Int) (w:zo) (v:Int):zz:=if 0≤w.g then zaV p e ch w v true else e
def sendE (p:zn) (e:zz) (n ch reg to:Int):zz:=
 let g:=e.gs.getD n.toNat zd
 if (e.chans.getD ch.toNat zg).closed=true then setG e n (over g 1)
 else match zcn (e.chans.getD ch.toNat zg) (regOf g reg) with
  | (c,w,k)=>wakeIf p (setG (setC e ch c) n {tell g ⟨1,ch,regOf g reg,false⟩ with pc:=to}) ch w (regOf g reg)
def recvE (p:zn) (e:zz) (n ch:Int) (x:zaj):zz:=
 match za7 (e.chans.getD ch.toNat zg) with
  | (c,v,ok,w,k)=>wakeIf p (setG (setC e ch c) n {zcj (e.gs.getD n.toNat zd) ch v ok x.reg x.ok with pc:=x.to}) ch w 0
def throughE (p:zn) (e:zz) (n:Int) (x:zaj):zz:=if x.send=true then sendE p e n x.chan x.reg x.to else recvE p e n x.chan x
def closeE (p:zn) (e:zz) (n ch:Int):zz:=
 let g:=e.gs.getD n.toNat zd
 if ch<0 then setG e n (over g 2)
 else match zcD (e.chans.getD ch.toNat zg) with
  | (c,r,s,k)=>if k≠0 then setG e n (over g 1) else (r++s).foldl (fun e w=>zaV p e ch w 0 false) (setG (setC e ch c) n (zbg g ⟨3,ch,0,false⟩))
def zbD (e:zz) (x:zr):zz:=
 if x.mutex=true then setMu e x.obj {e.mus.getD x.obj.toNat zj with wait:=(e.mus.getD x.obj.toNat zj).wait++[x.w.g]}
 else if x.send=true then setC e x.obj {e.chans.getD x.obj.toNat zg with sends:=(e.chans.getD x.obj.toNat zg).sends++[x.w]}
 else setC e x.obj {e.chans.getD x.obj.toNat zg with recvs:=(e.chans.getD x.obj.toNat zg).recvs++[x.w]}
def waitE (p:zn) (e:zz) (n:Int):zz:=(zw p (e.gs.getD n.toNat zd) n).foldl zbD (setG e n {e.gs.getD n.toNat zd with state:=2})
def chooseE (p:zn) (e:zz) (n choice:Int):zz×Int:=
 let g:=e.gs.getD n.toNat zd
 let at_:=(zb p g).a
 let s:=p.sels.getD at_.toNat zh
 let l:=zX e s.cases
 if 0<l.length then
  let k:=l.getD (zV choice l.length).toNat 0
  (throughE p (setG e n (tell g ⟨4,at_,k,false⟩)) n (s.cases.getD k.toNat zE),k)
 else if s.els<0 then (waitE p e n,-3)
 else (setG e n {tell g ⟨4,at_,-1,false⟩ with pc:=s.els},-1)
def spawnE (p:zn) (e:zz) (n:Int) (i:zaD):zz:=
 let g:=e.gs.getD n.toNat zd
 if e.gs.length=10 then setG e n (over g 5)
 else {setG e n (zbg g ⟨7,i.a,e.gs.length,false⟩) with gs:=(setG e n (zbg g ⟨7,i.a,e.gs.length,false⟩)).gs++[za5 i.a (regOf g i.b)]}
def doE (p:zn) (e:zz) (n choice:Int):zz×Int:=
 let g:=e.gs.getD n.toNat zd
 let i:=zb p g
 if i.op=11 then chooseE p e n choice
 else if i.op=8∨i.op=9 then
  let x:zaj:=⟨decide (i.op=8),i.a,i.b,i.c,g.pc+1⟩
  (if zP e x=true then throughE p e n x else waitE p e n,-2)
 else if i.op=10 then (closeE p e n i.a,-2)
 else if i.op=12 then (if (e.mus.getD i.a.toNat zj).owner=n∨(e.mus.getD i.a.toNat zj).owner=-1 then lockE e n i.a else waitE p e n,-2)
 else if i.op=13 then (unlockE e n i.a,-2)
 else if i.op=14 then (spawnE p e n i,-2)
 else (zbk e n ⟨8,0,regOf g i.a,false⟩,-2)
def zbT (p:zn) (e:zz) (n choice:Int):zz×zeY:=
 let i:=zb p (e.gs.getD n.toNat zd)
 if zbr i.op=true then ((doE p e n choice).1,⟨n,i.op,zdz i,(doE p e n choice).2⟩)
 else (setG e n (zcN p (e.gs.getD n.toNat zd)),⟨n,i.op,zdz i,-2⟩)
/-! ### a goroutine that goes on -/
structure za8 (p:zn) (g:zW):Prop where
 pc:0≤g.pc∧g.pc<zZ p g.proc
 r6:g.regs.length=6
 rv:∀ v∈g.regs,zK v=true
 tr:∀ i∈g.trace,zcr i=true∧i.kind≠9∧i.kind≠10
theorem zoc (l:List zbl) (i:zbl):zb6 (l++[i])=i.kind:=by
 rw [zb6,if_neg (by simp),List.length_append,List.length_singleton]
 rw [show (((l.length+1:Nat):Int)-1).toNat=l.length by omega,List.getD_eq_getElem?_getD,List.getElem?_append_right (Nat.le_refl _)]
 simp
theorem zoD {l:List zbl} (h:zb6 l≠0):∃ i∈l,i.kind=zb6 l:=by
 unfold zb6 at h ⊢
 split
 ·rename_i h0;rw [if_pos h0] at h;exact absurd rfl h
 ·rename_i h0
  exact ⟨_,za6 (by omega),rfl⟩
theorem ztx {p:zn} {g:zW} (h:zbf p g=true) (hs:g.state=1∨g.state=2):za8 p g:=by
 rw [zbf,Bool.and_eq_true,Bool.and_eq_true,zao,decide_eq_true_eq,zeP,Bool.and_eq_true,List.all_eq_true,List.all_eq_true,zfS,Bool.and_eq_true] at h
 obtain ⟨⟨h1,h2,h3,h4,h5⟩,h6,h7,h8,h9⟩:=h
 refine ⟨⟨h1,h2⟩,h3,h6,fun i hi=>?_⟩
 obtain ⟨k,hk,rfl⟩:=zpM zdr hi
 have hk7:=h7 k (List.mem_range.2 hk)
 rw [zj1,Bool.and_eq_true,Bool.not_eq_true',decide_eq_false_iff_not] at hk7
 refine ⟨hk7.1,?_⟩
 rw [beq_iff_eq,decide_eq_decide] at h8 h9
 have h89:zb6 g.trace≠9∧zb6 g.trace≠10:=by omega
 by_cases hl:(k:Int)<(g.trace.length:Int)-1
 ·have:=hk7.2
  omega
 ·rw [zb6,if_neg (by omega),show ((g.trace.length:Int)-1).toNat=k by omega] at h89
  exact h89
theorem za8.ok {p:zn} {g:zW} (h:za8 p g) (hs:g.state=1∨g.state=2):zbf p g=true:=by
 rw [zbf,Bool.and_eq_true,Bool.and_eq_true,zao,decide_eq_true_eq,zeP,Bool.and_eq_true,List.all_eq_true,List.all_eq_true,zfS,Bool.and_eq_true]
 refine ⟨⟨h.pc.1,h.pc.2,h.r6,by omega,by omega⟩,h.rv,fun k hk=>?_,?_⟩
 ·have hm:=h.tr _ (za6 (d:=zdr) (List.mem_range.1 hk))
  rw [zj1,Bool.and_eq_true,Bool.not_eq_true',decide_eq_false_iff_not]
  exact ⟨hm.1,by omega⟩
 ·have h89:zb6 g.trace≠9∧zb6 g.trace≠10:=by
   by_cases h0:zb6 g.trace=0
   ·omega
   ·obtain ⟨i,hi,he⟩:=zoD h0
    have:=h.tr i hi
    omega
  rw [beq_iff_eq,beq_iff_eq,decide_eq_decide,decide_eq_decide]
  omega
theorem za8.over {p:zn} {g:zW} (h:za8 p g) {y:Int} (hy:0≤y∧y≤5):zbf p (over g y)=true∧((over g y).state=3∨(over g y).state=4):=by
 have key:∀ (s:Int) (i:zbl),zcr i=true→(s=3∧i.kind=9∨s=4∧i.kind=10)→zbf p (tell {g with state:=s} i)=true:=by
  intro s i hi hs
  rw [zbf,Bool.and_eq_true,Bool.and_eq_true,zao,decide_eq_true_eq,zeP,Bool.and_eq_true,List.all_eq_true,List.all_eq_true,zfS,Bool.and_eq_true]
  refine ⟨⟨h.pc.1,h.pc.2,h.r6,?_,?_⟩,h.rv,fun k hk=>?_,?_⟩
  ·show 1≤s;omega
  ·show s≤4;omega
  ·have hk:k<(g.trace++[i]).length:=List.mem_range.1 hk
   rw [List.length_append,List.length_singleton] at hk
   show zj1 (g.trace++[i]) k=true
   rw [zj1,Bool.and_eq_true,Bool.not_eq_true',decide_eq_false_iff_not,List.length_append,List.length_singleton]
   by_cases hlt:k<g.trace.length
   ·rw [List.getD_eq_getElem?_getD,List.getElem?_append_left hlt,← List.getD_eq_getElem?_getD]
    have hm:=h.tr _ (za6 (d:=zdr) hlt)
    exact ⟨hm.1,by omega⟩
   ·have:k=g.trace.length:=by omega
    subst this
    rw [List.getD_eq_getElem?_getD,List.getElem?_append_right (Nat.le_refl _)]
    simp only [Nat.sub_self,List.getElem?_cons_zero,Option.getD_some]
    exact ⟨hi,by omega⟩
  ·show (decide (zb6 (g.trace++[i])=9) == decide (s=3))=true∧(decide (zb6 (g.trace++[i])=10) == decide (s=4))=true
   rw [zoc,beq_iff_eq,beq_iff_eq,decide_eq_decide,decide_eq_decide]
   omega
 unfold Ab.over
 split
 ·refine ⟨key 3 _ ?_ (.inl ⟨rfl,rfl⟩),.inl rfl⟩
  rw [zcr,decide_eq_true_eq,zeA];simp
 ·refine ⟨key 4 _ ?_ (.inr ⟨rfl,rfl⟩),.inr rfl⟩
  rw [zcr,decide_eq_true_eq,zeA];simp;omega
theorem za8.tell {p:zn} {g:zW} (h:za8 p g) {i:zbl} (hi:zcr i=true∧i.kind≠9∧i.kind≠10):za8 p (tell g i):=
 ⟨h.pc,h.r6,h.rv,fun j hj=>by
   rcases List.mem_append.1 hj with hj | hj
   ·exact h.tr j hj
   ·rw [List.mem_singleton.1 hj];exact hi⟩
theorem za8.state {p:zn} {g:zW} (h:za8 p g) (s:Int):za8 p {g with state:=s}:=⟨h.pc,h.r6,h.rv,h.tr⟩
theorem za8.goto {p:zn} {g:zW} (h:za8 p g) {n:Int} (hn:0≤n∧n<zZ p g.proc):za8 p {g with pc:=n}:=⟨hn,h.r6,h.rv,h.tr⟩
theorem za8.reg {p:zn} {g:zW} (h:za8 p g) (r v:Int):za8 p (zbq g r v):=by
 unfold zbq
 split
 ·rename_i hc
  rw [Bool.and_eq_true] at hc
  refine ⟨h.pc,by rw [List.length_set];exact h.r6,fun u hu=>?_,h.tr⟩
  rcases List.mem_or_eq_of_mem_set hu with hu | rfl
  ·exact h.rv u hu
  ·exact hc.2
 ·exact h
theorem za8.regOf {p:zn} {g:zW} (h:za8 p g) (r:Int):zK (regOf g r)=true:=by
 unfold Ab.regOf
 split
 ·exact h.rv _ (za6 (by omega))
 ·decide
theorem zhQ (g:zW) (r v:Int):(zbq g r v).proc=g.proc∧(zbq g r v).pc=g.pc∧(zbq g r v).state=g.state:=by
 unfold zbq;split<;>exact ⟨rfl,rfl,rfl⟩
theorem znI (g:zW) (ch v:Int) (ok:Bool) (a b:Int):(zcj g ch v ok a b).proc=g.proc∧(zcj g ch v ok a b).pc=g.pc∧(zcj g ch v ok a b).state=g.state:=by
 unfold zcj
 obtain ⟨h1,h2,h3⟩:=zhQ (zbq (Ab.tell g ⟨2,ch,if ok then v else 0,ok⟩) a (if ok then v else 0)) b (zqg ok)
 obtain ⟨h4,h5,h6⟩:=zhQ (Ab.tell g ⟨2,ch,if ok then v else 0,ok⟩) a (if ok then v else 0)
 exact ⟨h1.trans h4,h2.trans h5,h3.trans h6⟩
theorem za8.got {p:zn} {g:zW} (h:za8 p g) {ch v:Int} (hch:0≤ch) {ok:Bool} (hv:zK v=true) (a b:Int):za8 p (zcj g ch v ok a b):=by
 unfold zcj
 refine ((h.tell ⟨?_,by simp,by simp⟩).reg _ _).reg _ _
 rw [zK,decide_eq_true_eq] at hv
 rw [zcr,decide_eq_true_eq,zeA]
 cases ok<;>simp<;>omega
/-! ### how often a place is met -/
def zci (l:List zo) (w:zo):Nat:=l.countP (fun y=>decide (w=y))
def zgM (l:List Int) (g:Int):Nat:=l.countP (fun y=>decide (g=y))
def atA (e:zz) (x:zr):Nat:=
 if x.obj<0 then 0
 else if x.mutex=true then (if x.send=false∧x.w.cas=-1∧x.w.val=0 then zgM (e.mus.getD x.obj.toNat zj).wait x.w.g else 0)
 else if x.send=true then zci (e.chans.getD x.obj.toNat zg).sends x.w else zci (e.chans.getD x.obj.toNat zg).recvs x.w
theorem zg0 {f:Nat→List zr} {x:zr} {j:Nat} (h:∀ k,k≠j→zar (f k) x=0) (n:Nat):zar (zL f n) x=if j<n then zar (f j) x else 0:=by
 induction n with
 | zero=>rw [if_neg (by omega)];rfl
 | succ n ih=>
   rw [z6,zar,List.countP_append]
   show zar (zL f n) x+zar (f n) x=_
   rw [ih]
   by_cases hj:n=j
   ·subst hj;rw [if_neg (by omega),if_pos (by omega),Nat.zero_add]
   ·rw [h n hj]
    by_cases hlt:j<n
    ·rw [if_pos hlt,if_pos (by omega),Nat.add_zero]
    ·rw [if_neg hlt,if_neg (by omega)]
theorem zlC {α:Type} (l:List α) (f:α→zr) (q:α→Bool) (x:zr) (h:∀ a,decide (x=f a)=q a):zar (l.map f) x=l.countP q:=by
 rw [zar,List.countP_map]
 congr 1
 funext a
 exact h a
theorem zgo {α:Type} (l:List α) (f:α→zr) (x:zr) (h:∀ a,x≠f a):zar (l.map f) x=0:=by
 rw [zlC l f (fun _=>false) x (fun a=>decide_eq_false (h a))]
 simp
theorem zis {a b:zr}:a=b↔a.mutex=b.mutex∧a.obj=b.obj∧a.send=b.send∧a.w=b.w:=by
 constructor
 ·rintro rfl;exact ⟨rfl,rfl,rfl,rfl⟩
 ·rintro ⟨h1,h2,h3,h4⟩;exact zr.ext h1 h2 h3 h4
theorem zxi {a b:zo}:a=b↔a.g=b.g∧a.cas=b.cas∧a.val=b.val:=by
 constructor
 ·rintro rfl;exact ⟨rfl,rfl,rfl⟩
 ·rintro ⟨h1,h2,h3⟩;exact zo.ext h1 h2 h3
theorem zuS (e:zz) (x:zr):zar (zeu e) x=atA e x:=by
 rw [zeu,zar,List.countP_append]
 show zar (zL (zdy e) e.chans.length) x+zar (zL (zfR e) e.mus.length) x=_
 have hch:∀ k,k≠x.obj.toNat∨x.obj<0∨x.mutex=true→zar (zdy e k) x=0:=fun k hk=>by
  rw [zdy,zar,List.countP_append]
  show zar _ x+zar _ x=0
  rw [zgo _ _ _ (fun a h=>?_),zgo _ _ _ (fun a h=>?_)]
  ·rw [zis] at h
   obtain ⟨h1,h2,h3,h4⟩:=h
   simp only [plR] at h1 h2
   rw [h1] at hk
   simp at hk;omega
  ·rw [zis] at h
   obtain ⟨h1,h2,h3,h4⟩:=h
   simp only [plS] at h1 h2
   rw [h1] at hk
   simp at hk;omega
 have hmu:∀ k,k≠x.obj.toNat∨x.obj<0∨x.mutex=false→zar (zfR e k) x=0:=fun k hk=>by
  rw [zfR]
  refine zgo _ _ _ (fun a h=>?_)
  rw [zis] at h
  obtain ⟨h1,h2,h3,h4⟩:=h
  simp only [plM] at h1 h2
  rw [h1] at hk
  simp at hk;omega
 rw [zg0 (j:=x.obj.toNat) (fun k hk=>hch k (.inl hk)),zg0 (j:=x.obj.toNat) (fun k hk=>hmu k (.inl hk))]
 unfold atA
 by_cases ho:x.obj<0
 ·rw [if_pos ho,hch _ (.inr (.inl ho)),hmu _ (.inr (.inl ho))]
  simp
 rw [if_neg ho]
 cases hm:x.mutex
 ·rw [hmu _ (.inr (.inr hm))]
  simp only [if_neg,Bool.false_eq_true,if_false,ite_self,Nat.add_zero]
  have hkey:zar (zdy e x.obj.toNat) x=if x.send=true then zci (e.chans.getD x.obj.toNat zg).sends x.w else zci (e.chans.getD x.obj.toNat zg).recvs x.w:=by
   rw [zdy,zar,List.countP_append]
   show zar _ x+zar _ x=_
   cases hs:x.send
   ·rw [zgo _ (plS _) x (fun a h=>by rw [h] at hs;exact absurd hs (by simp [plS])),zlC _ _ (fun y=>decide (x.w=y)) x (fun a=>by rw [decide_eq_decide,zis];simp only [plR];simp [hm,hs];omega)]
    simp [zci]
   ·rw [zgo _ (plR _) x (fun a h=>by rw [h] at hs;exact absurd hs (by simp [plR])),zlC _ _ (fun y=>decide (x.w=y)) x (fun a=>by rw [decide_eq_decide,zis];simp only [plS];simp [hm,hs];omega)]
    simp [zci]
  by_cases hl:x.obj.toNat<e.chans.length
  ·rw [if_pos hl];exact hkey
  ·rw [if_neg hl,zgl (by omega)]
   simp [zg,zci]
 ·rw [hch _ (.inr (.inr hm))]
  simp only [if_true,ite_self,Nat.zero_add]
  by_cases hl:x.obj.toNat<e.mus.length
  ·rw [if_pos hl,zfR]
   by_cases hw:x.send=false∧x.w.cas=-1∧x.w.val=0
   ·rw [if_pos hw,zlC _ _ (fun y=>decide (x.w.g=y)) x (fun a=>by
     rw [decide_eq_decide,zis];simp only [plM];rw [zxi];simp [hm,hw];omega)]
    rfl
   ·rw [if_neg hw]
    refine zgo _ _ _ (fun a h=>hw ?_)
    rw [h];exact ⟨rfl,rfl,rfl⟩
  ·rw [if_neg hl,zgl (by omega)]
   simp [zj,zgM]
def wtA (p:zn) (e:zz) (x:zr):Nat:=if 0≤x.w.g∧x.w.g<e.gs.length∧(e.gs.getD x.w.g.toNat zd).state=2 then zar (zw p (e.gs.getD x.w.g.toNat zd) x.w.g) x else 0
theorem zcm {α:Type} {f:Nat→List α} {n:Nat} {y:α}:y∈zL f n↔∃ k,k<n∧y∈f k:=by
 simp [zL,List.mem_flatMap]
theorem zi9 {p:zn} {g:zW} {n:Int} {y:zr} (h:y∈zw p g n):y.w.g=n:=by
 unfold zw at h
 repeat' split at h
 ·rw [List.mem_singleton.1 h]
 ·rw [List.mem_singleton.1 h]
 ·obtain ⟨k,_,hk⟩:=zcm.1 h
  unfold zcJ at hk
  split at hk
  ·cases hk
  ·rw [List.mem_singleton.1 hk]
 ·rw [List.mem_singleton.1 h]
 ·cases h
theorem zh0 {l:List zr} {x:zr} (h:x∉l):zar l x=0:=by
 rw [zar,List.countP_eq_zero]
 intro a ha hx
 rw [decide_eq_true_eq] at hx
 exact h (hx ▸ ha)
theorem zsM (p:zn) (e:zz) (x:zr):zar (zdk p e) x=wtA p e x:=by
 rw [zdk,zg0 (j:=x.w.g.toNat) (fun k hk=>?_)]
 ·unfold wtA zbU
  by_cases h0:0≤x.w.g
  ·rw [show ((x.w.g.toNat:Nat):Int)=x.w.g by omega]
   by_cases hl:x.w.g.toNat<e.gs.length
   ·rw [if_pos hl]
    by_cases hs:(e.gs.getD x.w.g.toNat zd).state=2
    ·rw [if_pos hs,if_pos ⟨h0,by omega,hs⟩]
    ·rw [if_neg hs,if_neg (fun h=>hs h.2.2)];rfl
   ·rw [if_neg hl,if_neg (by omega)]
  ·have:zar (if (e.gs.getD x.w.g.toNat zd).state=2 then zw p (e.gs.getD x.w.g.toNat zd) (x.w.g.toNat:Int) else []) x=0:=by
    refine zh0 fun h=>?_
    split at h
    ·have:=zi9 h;omega
    ·cases h
   rw [this,ite_self,if_neg (fun h=>h0 h.1)]
 ·refine zh0 fun h=>?_
  unfold zbU at h
  split at h
  ·have:=zi9 h;omega
  ·cases h
structure Inv (p:zn) (e:zz) (X:zr→Prop):Prop where
 prog:zaa p=true
 len:1≤e.gs.length∧e.gs.length≤10
 cl:e.chans.length=p.caps.length
 ml:(e.mus.length:Int)=p.mus
 ch:∀ k<e.chans.length,zhv p e k=true
 mu:∀ k<e.mus.length,muOk e k=true
 g:∀ k<e.gs.length,zdj p e k=true
 cnt:∀ x:zr,¬ X x→atA e x=wtA p e x
theorem zaM {p:zn} {e:zz}:zay p e=true↔Inv p e (fun _=>False):=by
 rw [zay,zdJ,zhd,zgT]
 simp only [Bool.and_eq_true,decide_eq_true_eq,List.all_eq_true,List.mem_range,znl,zuS,zsM]
 constructor
 ·rintro ⟨⟨h1,h2,h3,h4,h5⟩,h6,h7⟩
  exact ⟨h1,h2,h3.1,h3.2,h4,h5,h6,fun x _=>(h7 x).symm⟩
 ·intro h
  exact ⟨⟨h.prog,h.len,⟨h.cl,h.ml⟩,h.ch,h.mu⟩,h.g,fun x=>(h.cnt x id).symm⟩
structure zcO (p:zn) (e:zz) (ch:Int) (send:Bool) (w:zo):Prop where
 i0:0≤w.g∧w.g<e.gs.length
 st:(e.gs.getD w.g.toNat zd).state=2
 mem:(⟨false,ch,send,w⟩:zr)∈zw p (e.gs.getD w.g.toNat zd) w.g
theorem zr6 {l:List zr} {x:zr} (h:0<zar l x):x∈l:=by
 rw [zar,List.countP_pos_iff] at h
 obtain ⟨a,ha,hx⟩:=h
 rw [decide_eq_true_eq] at hx
 exact hx ▸ ha
theorem zhD {l:List zo} {w:zo}:0<zci l w↔w∈l:=by
 rw [zci,List.countP_pos_iff]
 constructor
 ·rintro ⟨a,ha,hx⟩;rw [decide_eq_true_eq] at hx;exact hx ▸ ha
 ·intro h;exact ⟨w,h,decide_eq_true rfl⟩
theorem zhy {p:zn} {e:zz} {x:zr} (h:0<wtA p e x):(0≤x.w.g∧x.w.g<e.gs.length)∧(e.gs.getD x.w.g.toNat zd).state=2∧x∈zw p (e.gs.getD x.w.g.toNat zd) x.w.g:=by
 unfold wtA at h
 split at h
 ·rename_i hc;exact ⟨⟨hc.1,hc.2.1⟩,hc.2.2,zr6 h⟩
 ·omega
theorem Inv.sendW {p:zn} {e:zz} {X:zr→Prop} (h:Inv p e X) {k:Int} (hk:0≤k) {w:zo} (hw:w∈(e.chans.getD k.toNat zg).sends) (hX:¬ X ⟨false,k,true,w⟩):zcO p e k true w:=by
 have h1:=h.cnt ⟨false,k,true,w⟩ hX
 have h2:0<atA e ⟨false,k,true,w⟩:=by
  unfold atA
  rw [if_neg (by show ¬ k<0;omega),if_neg (by simp),if_pos rfl]
  exact zhD.2 hw
 rw [h1] at h2
 obtain ⟨a,b,c⟩:=zhy h2
 exact ⟨a,b,c⟩
theorem Inv.recvW {p:zn} {e:zz} {X:zr→Prop} (h:Inv p e X) {k:Int} (hk:0≤k) {w:zo} (hw:w∈(e.chans.getD k.toNat zg).recvs) (hX:¬ X ⟨false,k,false,w⟩):zcO p e k false w:=by
 have h1:=h.cnt ⟨false,k,false,w⟩ hX
 have h2:0<atA e ⟨false,k,false,w⟩:=by
  unfold atA
  rw [if_neg (by show ¬ k<0;omega),if_neg (by simp),if_neg (by simp)]
  exact zhD.2 hw
 rw [h1] at h2
 obtain ⟨a,b,c⟩:=zhy h2
 exact ⟨a,b,c⟩
theorem Inv.alive {p:zn} {e:zz} {X:zr→Prop} (h:Inv p e X) {n:Int} (hn:0≤n∧n<e.gs.length) (hs:(e.gs.getD n.toNat zd).state=1∨(e.gs.getD n.toNat zd).state=2):za8 p (e.gs.getD n.toNat zd):=by
 have:=h.g n.toNat (by omega)
 rw [zdj,Bool.and_eq_true] at this
 exact ztx this.1 hs
theorem Inv.mono {p:zn} {e:zz} {X Y:zr→Prop} (h:Inv p e X) (hXY:∀ x,X x→Y x):Inv p e Y:=⟨h.prog,h.len,h.cl,h.ml,h.ch,h.mu,h.g,fun x hx=>h.cnt x fun hh=>hx (hXY x hh)⟩
section
variable {p:zn} {e:zz} {X Y:zr→Prop}
theorem Inv.put0 (h:Inv p e X) {n:Int} (hn:0≤n∧n<e.gs.length) {g:zW} (hok:zbf p g=true) (hs:g.state=2→zdo p g=true):Inv p (setG e n g) (fun x=>X x∨x.w.g=n):=by
 have hlen:(setG e n g).gs.length=e.gs.length:=List.length_set
 refine ⟨h.prog,by rw [hlen];exact h.len,h.cl,h.ml,h.ch,fun k hk=>?_,fun k hk=>?_,fun x hx=>?_⟩
 ·have:=h.mu k hk
  unfold muOk at this ⊢
  rw [hlen];exact this
 ·rw [hlen] at hk
  unfold zdj
  show (zbf p ((e.gs.set n.toNat g).getD k zd) && (!decide (((e.gs.set n.toNat g).getD k zd).state=2) || zdo p ((e.gs.set n.toNat g).getD k zd)))=true
  by_cases hkn:n.toNat=k
  ·subst hkn
   rw [zF hk,hok]
   by_cases h2:g.state=2
   ·rw [hs h2,Bool.or_true];rfl
   ·rw [decide_eq_false h2];rfl
  ·rw [z4 hkn]
   exact h.g k hk
 ·have h1:=h.cnt x (fun hX=>hx (.inl hX))
  have hxn:x.w.g≠n:=fun hh=>hx (.inr hh)
  show atA e x=_
  rw [h1]
  unfold wtA
  rw [hlen]
  by_cases h0:0≤x.w.g
  ·show _=if 0≤x.w.g∧x.w.g<e.gs.length∧((e.gs.set n.toNat g).getD x.w.g.toNat zd).state=2 then zar (zw p ((e.gs.set n.toNat g).getD x.w.g.toNat zd) x.w.g) x else 0
   rw [z4 (by omega)]
  ·rw [if_neg (fun h=>h0 h.1),if_neg (fun h=>h0 h.1)]
theorem Inv.put (h:Inv p e X) {n:Int} (hn:0≤n∧n<e.gs.length) {g:zW} (hok:zbf p g=true) (hs:g.state≠2) (hz:∀ x,x.w.g=n→atA e x=0):Inv p (setG e n g) (fun x=>X x∧x.w.g≠n):=by
 have h0:=h.put0 hn hok (fun h2=>absurd h2 hs)
 refine ⟨h0.prog,h0.len,h0.cl,h0.ml,h0.ch,h0.mu,h0.g,fun x hx=>?_⟩
 by_cases hxn:x.w.g=n
 ·have h1:atA (setG e n g) x=0:=hz x hxn
  rw [h1]
  unfold wtA
  rw [if_neg]
  rintro ⟨_,_,h3⟩
  rw [hxn] at h3
  have h3:((e.gs.set n.toNat g).getD n.toNat zd).state=2:=h3
  rw [zF (by omega)] at h3
  exact hs h3
 ·exact h0.cnt x fun hh=>hh.elim (fun hh=>hx ⟨hh,hxn⟩) hxn
theorem Inv.idle (h:Inv p e X) {n:Int} (hX:∀ x,x.w.g=n→¬ X x) (hs:(e.gs.getD n.toNat zd).state≠2):∀ x,x.w.g=n→atA e x=0:=fun x hx=>by
 rw [h.cnt x (hX x hx)]
 unfold wtA
 rw [hx,if_neg (fun h=>hs h.2.2)]
theorem zpz {l:List zo} {n:Int} {w:zo}:zci (zat l n) w=if w.g=n then 0 else zci l w:=by
 rw [zat,zci,List.countP_filter]
 split
 ·rename_i h
  rw [List.countP_eq_zero]
  intro a ha hx
  rw [Bool.and_eq_true,decide_eq_true_eq,zoZ,Bool.not_eq_true',decide_eq_false_iff_not] at hx
  exact hx.2 (hx.1 ▸ h)
 ·rename_i h
  rw [zci]
  congr 1
  funext a
  rw [Bool.eq_iff_iff,Bool.and_eq_true,decide_eq_true_eq,zoZ,Bool.not_eq_true',decide_eq_false_iff_not]
  exact ⟨fun hh=>hh.1,fun hh=>⟨hh,hh ▸ h⟩⟩
theorem zqd {l:List zo} {n:Int} {w:zo} (h:w∈zat l n):w∈l:=(List.mem_filter.1 h).1
theorem zmj {l:List zo} {n:Int} (h:l.length=0):(zat l n).length=0:=by
 rw [List.length_eq_zero_iff.1 h];rfl
theorem zbG {c:zY}:chanOk c=true↔(0≤c.cap∧c.cap≤4∧c.buf.length≤c.cap)∧(∀ v∈c.buf,zK v=true)∧(∀ w∈c.sends,zaU true w=true)∧(∀ w∈c.recvs,zaU false w=true)∧(c.sends.length=0∨(c.buf.length=c.cap∧c.recvs.length=0)∧c.closed=false)∧(c.recvs.length=0∨c.buf.length=0∧c.closed=false):=by
 rw [chanOk,ze0,zfJ]
 simp only [Bool.and_eq_true,Bool.or_eq_true,decide_eq_true_eq,List.all_eq_true,Bool.not_eq_true']
theorem ztH {c:zY} {n:Int} (h:chanOk c=true):chanOk (zjr n c)=true:=by
 rw [zbG] at h ⊢
 obtain ⟨h1,h2,h3,h4,h5,h6⟩:=h
 refine ⟨h1,h2,fun w hw=>h3 w (zqd hw),fun w hw=>h4 w (zqd hw),?_,?_⟩
 ·rcases h5 with h5 | ⟨⟨a,b⟩,c⟩
  ·exact .inl (zmj h5)
  ·exact .inr ⟨⟨a,zmj b⟩,c⟩
 ·rcases h6 with h6 | h6
  ·exact .inl (zmj h6)
  ·exact .inr h6
theorem zmg (e:zz) (n:Int) (k:Nat):(zfM e n).chans.getD k zg=zjr n (e.chans.getD k zg):=by
 show (e.chans.map (zjr n)).getD k zg=_
 rw [List.getD_eq_getElem?_getD,List.getElem?_map,List.getD_eq_getElem?_getD]
 cases e.chans[k]?<;>rfl
theorem zrK (e:zz) (n:Int) (x:zr):atA (zfM e n) x=if x.mutex=false∧x.w.g=n then 0 else atA e x:=by
 unfold atA
 by_cases ho:x.obj<0
 ·rw [if_pos ho,if_pos ho,ite_self]
 ·rw [if_neg ho,if_neg ho]
  cases hm:x.mutex
  ·simp only [Bool.false_eq_true,if_false,true_and]
   rw [zmg]
   show (if x.send=true then zci (zat (e.chans.getD x.obj.toNat zg).sends n) x.w else zci (zat (e.chans.getD x.obj.toNat zg).recvs n) x.w)=_
   rw [zpz,zpz]
   by_cases hx:x.w.g=n
   ·simp only [if_pos hx,ite_self]
   ·simp only [if_neg hx]
  ·simp only [if_true,Bool.true_eq_false,false_and,if_false]
   rfl
theorem Inv.free (h:Inv p e X) (n:Int):Inv p (zfM e n) (fun x=>X x∨(x.mutex=false∧x.w.g=n)):=by
 have hcl:(zfM e n).chans.length=e.chans.length:=List.length_map _
 refine ⟨h.prog,h.len,by rw [hcl];exact h.cl,h.ml,fun k hk=>?_,h.mu,h.g,fun x hx=>?_⟩
 ·rw [hcl] at hk
  have:=h.ch k hk
  rw [zhv,Bool.and_eq_true,decide_eq_true_eq] at this ⊢
  rw [zmg]
  exact ⟨ztH this.1,this.2⟩
 ·rw [zrK,if_neg (fun hh=>hx (.inr hh)),h.cnt x (fun hh=>hx (.inl hh))]
  rfl
theorem Inv.chan (h:Inv p e X) {k:Int} (hk:0≤k∧k<e.chans.length) {c:zY} (hc:chanOk c=true) (hcap:c.cap=(e.chans.getD k.toNat zg).cap)
 (hs:∀ w,¬ Y ⟨false,k,true,w⟩→zci c.sends w=zci (e.chans.getD k.toNat zg).sends w) (hr:∀ w,¬ Y ⟨false,k,false,w⟩→zci c.recvs w=zci (e.chans.getD k.toNat zg).recvs w) (hXY:∀ x,X x→Y x):Inv p (setC e k c) Y:=by
 have hcl:(setC e k c).chans.length=e.chans.length:=List.length_set
 refine ⟨h.prog,h.len,by rw [hcl];exact h.cl,h.ml,fun j hj=>?_,h.mu,h.g,fun x hx=>?_⟩
 ·rw [hcl] at hj
  have:=h.ch j hj
  rw [zhv,Bool.and_eq_true,decide_eq_true_eq] at this ⊢
  show chanOk ((e.chans.set k.toNat c).getD j zg)=true∧((e.chans.set k.toNat c).getD j zg).cap=_
  by_cases hjk:k.toNat=j
  ·subst hjk
   rw [zF hj]
   exact ⟨hc,hcap.trans this.2⟩
  ·rw [z4 hjk];exact this
 ·have h1:=h.cnt x (fun hh=>hx (hXY x hh))
  show _=wtA p e x
  rw [← h1]
  unfold atA
  by_cases ho:x.obj<0
  ·rw [if_pos ho,if_pos ho]
  ·rw [if_neg ho,if_neg ho]
   cases hm:x.mutex
   ·simp only [Bool.false_eq_true,if_false]
    show (if x.send=true then zci ((e.chans.set k.toNat c).getD x.obj.toNat zg).sends x.w else zci ((e.chans.set k.toNat c).getD x.obj.toNat zg).recvs x.w)=_
    by_cases hjk:k.toNat=x.obj.toNat
    ·have hko:k=x.obj:=by omega
     subst hko
     rw [zF (by omega)]
     cases hsd:x.send
     ·simp only [Bool.false_eq_true,if_false]
      exact hr x.w (fun hh=>hx (by rw [show x=⟨false,x.obj,false,x.w⟩ from zr.ext hm rfl hsd rfl];exact hh))
     ·simp only [if_true]
      exact hs x.w (fun hh=>hx (by rw [show x=⟨false,x.obj,true,x.w⟩ from zr.ext hm rfl hsd rfl];exact hh))
    ·rw [z4 hjk]
   ·simp only [if_true];rfl
theorem Inv.mut (h:Inv p e X) {k:Int} (hk:0≤k∧k<e.mus.length) {m:zal} (hm:zcs m=true) (ho:m.owner<e.gs.length)
 (hw:∀ g,¬ Y ⟨true,k,false,⟨g,-1,0⟩⟩→zgM m.wait g=zgM (e.mus.getD k.toNat zj).wait g) (hXY:∀ x,X x→Y x):Inv p (setMu e k m) Y:=by
 have hcl:(setMu e k m).mus.length=e.mus.length:=List.length_set
 refine ⟨h.prog,h.len,h.cl,by rw [hcl];exact h.ml,h.ch,fun j hj=>?_,h.g,fun x hx=>?_⟩
 ·rw [hcl] at hj
  have:=h.mu j hj
  rw [muOk,Bool.and_eq_true,decide_eq_true_eq] at this ⊢
  show zcs ((e.mus.set k.toNat m).getD j zj)=true∧((e.mus.set k.toNat m).getD j zj).owner<e.gs.length
  by_cases hjk:k.toNat=j
  ·subst hjk
   rw [zF hj]
   exact ⟨hm,ho⟩
  ·rw [z4 hjk];exact this
 ·have h1:=h.cnt x (fun hh=>hx (hXY x hh))
  show _=wtA p e x
  rw [← h1]
  unfold atA
  by_cases ho:x.obj<0
  ·rw [if_pos ho,if_pos ho]
  ·rw [if_neg ho,if_neg ho]
   cases hmx:x.mutex
   ·simp only [Bool.false_eq_true,if_false];rfl
   ·simp only [if_true]
    show (if x.send=false∧x.w.cas=-1∧x.w.val=0 then zgM ((e.mus.set k.toNat m).getD x.obj.toNat zj).wait x.w.g else 0)=_
    by_cases hjk:k.toNat=x.obj.toNat
    ·have hko:k=x.obj:=by omega
     subst hko
     rw [zF (by omega)]
     by_cases hcc:x.send=false∧x.w.cas=-1∧x.w.val=0
     ·rw [if_pos hcc,if_pos hcc]
      exact hw x.w.g (fun hh=>hx (by rw [show x=⟨true,x.obj,false,⟨x.w.g,-1,0⟩⟩ from zr.ext hmx rfl hcc.1 (zo.ext rfl hcc.2.1 hcc.2.2)];exact hh))
     ·rw [if_neg hcc,if_neg hcc]
    ·rw [z4 hjk]
end
section
variable {p:zn} {e:zz} {X Y:zr→Prop} {g:zW}
theorem za8.head (h:za8 p g) (hs:g.state=1∨g.state=2):zao p g=true:=by
 rw [zao,decide_eq_true_eq];exact ⟨h.pc.1,h.pc.2,h.r6,by omega,by omega⟩
structure zw7 (p:zn) (g:zW):Prop where
 ins:zap p.caps.length p.mus p.sels.length p.procs.length (zZ p g.proc) (zb p g)
 last:(zb p g).op≠1→(zb p g).op≠6→g.pc+1<zZ p g.proc
 sel:(zb p g).op=11→zb8 p (zZ p g.proc) (p.sels.getD (zb p g).a.toNat zh)=true∧(p.sels.getD (zb p g).a.toNat zh).cases.length≤4∧-1≤(p.sels.getD (zb p g).a.toNat zh).els
theorem zaT (hp:zaa p=true) (hpc:0≤g.pc∧g.pc<zZ p g.proc):zw7 p g:=by
 have hpr:0≤g.proc∧g.proc<p.procs.length:=by
  have:=hpc.2
  unfold zZ at this
  split at this
  ·assumption
  ·omega
 have hq:=hp
 simp only [zaa,Bool.and_eq_true,List.all_eq_true,List.mem_range] at hq
 have h:=hq.2.2.2 g.proc.toNat (by omega)
 have hn:zZ p g.proc=((p.procs.getD g.proc.toNat zby).code.length:Int):=by rw [zZ,if_pos hpr]
 rw [hn] at hpc
 simp only [zcY,Bool.and_eq_true,List.all_eq_true,List.mem_range,decide_eq_true_eq] at h
 obtain ⟨h1,h2,h3⟩:=h
 have h4:=h2 g.pc.toNat (by omega)
 have h4:zdi p (zZ p g.proc) (zb p g)=true:=by rw [hn];exact h4
 rw [zdi,Bool.and_eq_true,zeZ] at h4
 refine ⟨h4.1,fun n1 n6=>?_,fun h11=>?_⟩
 ·rw [hn]
  by_cases hl:g.pc+1<((p.procs.getD g.proc.toNat zby).code.length:Int)
  ·exact hl
  ·exfalso
   rw [zjX,decide_eq_true_eq,show (((p.procs.getD g.proc.toNat zby).code.length:Int)-1).toNat=g.pc.toNat by omega] at h3
   rcases h3 with h3 | h3
   ·exact n1 h3
   ·exact n6 h3
 ·have h5:=h4.2
  rw [decide_eq_true h11] at h5
  have h6:=h4.1
  rw [zap] at h6
  have hsl:(zb p g).a.toNat<p.sels.length:=by omega
  refine ⟨by simpa using h5,(zgm hp hsl).1,zts hp hsl⟩
theorem zgt {n:Int} {s:zax} (h:zb8 p n s=true) {k:Nat} (hk:k<s.cases.length):(0≤(s.cases.getD k zE).to∧(s.cases.getD k zE).to<n)∧(-1≤(s.cases.getD k zE).chan∧(s.cases.getD k zE).chan<p.caps.length)∧(0≤(s.cases.getD k zE).reg∧(s.cases.getD k zE).reg<6)∧(0≤(s.cases.getD k zE).ok∧(s.cases.getD k zE).ok<6)∧zjI s.cases k=false:=by
 rw [zb8,Bool.and_eq_true,List.all_eq_true] at h
 have:=h.1 k (List.mem_range.2 hk)
 simp only [zdn,Bool.and_eq_true,zds,zdT,zcE,decide_eq_true_eq,Bool.not_eq_true'] at this
 exact ⟨this.1.2,this.1.1.1.1.1,this.1.1.1.1.2,this.1.1.1.2,this.2⟩
structure ztk (p:zn) (g:zW) (ch:Int) (send:Bool) (w:zo):Prop where
 op:(zb p g).op=8∨(zb p g).op=9∨(zb p g).op=11
 ch0:0≤ch∧ch<p.caps.length
 snd:(zaE p g w).send=send
 to:0≤(zaE p g w).to∧(zaE p g w).to<zZ p g.proc
 cas:-1≤w.cas∧(0≤w.cas→(zb p g).op=11∧w.cas<(p.sels.getD (zb p g).a.toNat zh).cases.length)
 neg:w.cas=-1→(zb p g).op=8∨(zb p g).op=9
 a0:(zb p g).op=11→0≤(zb p g).a∧(zb p g).a<p.sels.length
 val:zK w.val=true
 chan:0≤w.cas→(zaE p g w).chan=ch
 ident:w=⟨w.g,w.cas,if send=true then regOf g (zaE p g w).reg else 0⟩
theorem zwy (hp:zaa p=true) (ha:za8 p g) {n ch:Int} {send:Bool} {w:zo} (h:(⟨false,ch,send,w⟩:zr)∈zw p g n):ztk p g ch send w∧w.g=n:=by
 have hi:=zaT hp ha.pc
 have hin:=hi.ins
 rw [zap] at hin
 have hg:w.g=n:=zi9 h
 refine ⟨?_,hg⟩
 unfold zw at h
 repeat' split at h
 ·rename_i hc
  have h:=zis.1 (List.mem_singleton.1 h)
  simp only at h
  obtain ⟨_,h1,h2,h3⟩:=h
  subst h1;subst h2;subst h3
  have hl:=hi.last (by omega) (by omega)
  have h0:=ha.pc
  refine ⟨.inl hc.1,?_,by simp [zaE,hc.1],by simp only [zaE];rw [if_neg (by omega)];show 0≤g.pc+1∧g.pc+1<_;omega,⟨by simp,by simp⟩,fun _=>.inl hc.1,fun h=>by omega,ha.regOf _,fun h=>by simp at h,by simp [zaE]⟩
  omega
 ·rename_i hc
  have h:=zis.1 (List.mem_singleton.1 h)
  simp only at h
  obtain ⟨_,h1,h2,h3⟩:=h
  subst h1;subst h2;subst h3
  have hl:=hi.last (by omega) (by omega)
  have h0:=ha.pc
  refine ⟨.inr (.inl hc.1),?_,by simp [zaE,hc.1],by simp only [zaE];rw [if_neg (by omega)];show 0≤g.pc+1∧g.pc+1<_;omega,⟨by simp,by simp⟩,fun _=>.inr hc.1,fun h=>by omega,by simp [zK],fun h=>by simp at h,by simp⟩
  omega
 ·rename_i hc
  obtain ⟨k,hk,hm⟩:=zcm.1 h
  obtain ⟨hsel,h4,hels⟩:=hi.sel hc
  have hcs:=zgt hsel hk
  unfold zcJ at hm
  split at hm
  ·cases hm
  rename_i hch
  have h:=zis.1 (List.mem_singleton.1 hm)
  simp only at h
  obtain ⟨_,h1,h2,h3⟩:=h
  subst h1;subst h2;subst h3
  have hat:zaE p g ⟨n,k,if ((p.sels.getD (zb p g).a.toNat zh).cases.getD k zE).send=true then regOf g ((p.sels.getD (zb p g).a.toNat zh).cases.getD k zE).reg else 0⟩=(p.sels.getD (zb p g).a.toNat zh).cases.getD k zE:=by
   unfold zaE
   rw [if_pos (by show (0:Int)≤(k:Int);omega)];rfl
  refine ⟨.inr (.inr hc),by omega,by rw [hat],by rw [hat];exact hcs.1,⟨by show (-1:Int)≤(k:Int);omega,fun _=>⟨hc,by show (k:Int)<_;omega⟩⟩,fun h=>by have h:(k:Int)=-1:=h;omega,fun _=>by omega,?_,fun _=>by rw [hat],by rw [hat]⟩
  show zK (if _ then _ else _)=true
  split
  ·exact ha.regOf _
  ·decide
 ·rename_i hc
  have h:=zis.1 (List.mem_singleton.1 h)
  simp at h
 ·cases h
theorem zpm (hop:(zb p g).op=8∨(zb p g).op=9∨(zb p g).op=11) {n:Int} {x:zr} (hx:x.mutex=true):x∉zw p g n:=fun h=>by
 unfold zw at h
 repeat' split at h
 ·rw [List.mem_singleton.1 h] at hx;cases hx
 ·rw [List.mem_singleton.1 h] at hx;cases hx
 ·obtain ⟨k,_,hk⟩:=zcm.1 h
  unfold zcJ at hk
  split at hk
  ·cases hk
  ·rw [List.mem_singleton.1 hk] at hx;cases hx
 ·omega
 ·cases h
theorem ztp (hp:zaa p=true) (ha:za8 p g) {ch v:Int} {send ok:Bool} {w:zo} (hw:ztk p g ch send w) (hv:zK v=true):zbf p (zeH p g ch w v ok)=true∧(zeH p g ch w v ok).state≠2:=by
 have ha1:za8 p {(if 0≤w.cas then tell g ⟨4,(zb p g).a,w.cas,false⟩ else g) with state:=1}:=by
  split
  ·rename_i hc
   have h11:=hw.cas.2 hc
   have h0:=hw.a0 h11.1
   refine (ha.tell ⟨?_,by simp,by simp⟩).state 1
   rw [zcr,decide_eq_true_eq,zeA];simp;omega
  ·exact ha.state 1
 have hpr:({(if 0≤w.cas then tell g ⟨4,(zb p g).a,w.cas,false⟩ else g) with state:=1}:zW).proc=g.proc:=by
  split<;>rfl
 unfold zeH
 simp only
 generalize hg1:({(if 0≤w.cas then tell g ⟨4,(zb p g).a,w.cas,false⟩ else g) with state:=1}:zW)=g1 at ha1 hpr
 have hst:g1.state=1:=by rw [← hg1]
 have hto:=hw.to
 rw [← hpr] at hto
 split
 ·split
  ·have h1:za8 p {tell g1 ⟨1,ch,w.val,false⟩ with pc:=(zaE p g w).to}:=by
    refine (ha1.tell ⟨?_,by simp,by simp⟩).goto hto
    have hvv:=hw.val
    have:=hw.ch0
    rw [zK,decide_eq_true_eq] at hvv
    rw [zcr,decide_eq_true_eq,zeA];simp;omega
   exact ⟨h1.ok (.inl hst),by show g1.state≠2;omega⟩
  ·obtain ⟨h1,h2⟩:=ha1.over (y:=1) (by omega)
   exact ⟨h1,by omega⟩
 ·obtain ⟨h1,h2,h3⟩:=znI g1 ch v ok (zaE p g w).reg (zaE p g w).ok
  have h4:za8 p {zcj g1 ch v ok (zaE p g w).reg (zaE p g w).ok with pc:=(zaE p g w).to}:=
   (ha1.got hw.ch0.1 hv _ _).goto (by rw [h1];exact hto)
  have hs:({zcj g1 ch v ok (zaE p g w).reg (zaE p g w).ok with pc:=(zaE p g w).to}:zW).state=1:=h3.trans hst
  exact ⟨h4.ok (.inl hs),by rw [hs];decide⟩
theorem Inv.plOk (h:Inv p e X) {ch:Int} {send:Bool} {w:zo} (hw:zcO p e ch send w):ztk p (e.gs.getD w.g.toNat zd) ch send w:=(zwy h.prog (h.alive hw.i0 (.inr hw.st)) hw.mem).1
theorem Inv.wake (h:Inv p e X) {ch v:Int} {send ok:Bool} {w:zo} (hw:zcO p e ch send w) (hv:zK v=true) (hX:∀ x,x.mutex=true→x.w.g=w.g→¬ X x):Inv p (zaV p e ch w v ok) (fun x=>X x∧x.w.g≠w.g):=by
 have ha:=h.alive hw.i0 (.inr hw.st)
 have hpl:=h.plOk hw
 obtain ⟨h1,h2⟩:=ztp (ok:=ok) h.prog ha hpl hv
 refine ((h.free w.g).put hw.i0 h1 h2 fun x hx=>?_).mono fun x hx=>?_
 ·rw [zrK]
  split
  ·rfl
  ·rename_i hc
   have hm:x.mutex=true:=by
    cases hmx:x.mutex
    ·exact absurd ⟨hmx,hx⟩ hc
    ·rfl
   rw [h.cnt x (hX x hm hx)]
   unfold wtA
   rw [hx,if_pos ⟨hw.i0.1,hw.i0.2,hw.st⟩]
   exact zh0 (zpm hpl.op hm)
 ·rcases hx.1 with hx1 | hx1
  ·exact ⟨hx1,hx.2⟩
  ·exact absurd hx1.2 hx.2
theorem zrA (ch v:Int) (ok:Bool) (w:zo) {k:Nat} (hk:w.g.toNat≠k):(zaV p e ch w v ok).gs.getD k zd=e.gs.getD k zd:=z4 hk
theorem zsS (ch v:Int) (ok:Bool) (w:zo):(zaV p e ch w v ok).gs.length=e.gs.length:=List.length_set
theorem zcO.wake {ch ch1 v:Int} {send ok:Bool} {w w1:zo} (h:zcO p e ch1 send w1) (h0:0≤w.g) (hne:w1.g≠w.g):zcO p (zaV p e ch w v ok) ch1 send w1:=by
 have:=h.i0
 have hg:=zrA (p:=p) (e:=e) ch v ok w (k:=w1.g.toNat) (by omega)
 exact ⟨by rw [zsS];exact this,by rw [hg];exact h.st,by rw [hg];exact h.mem⟩
end
section
variable {p:zn} {e:zz} {X Y:zr→Prop} {g:zW}
theorem zj6 (w a:zo) (l:List zo):zci (a::l) w=zci l w+if w=a then 1 else 0:=by
 rw [zci,List.countP_cons,zci]
 by_cases h:w=a
 ·rw [if_pos h,if_pos (decide_eq_true h)]
 ·rw [if_neg h,if_neg (by rw [decide_eq_true_eq];exact h)]
theorem znZ {l:List zo} (h:0<l.length) {w:zo} (hw:w≠l.getD 0 zi):zci (l.drop 1) w=zci l w:=by
 cases l with
 | nil=>cases h
 | cons a l=>
   rw [zj6,if_neg (show ¬ w=a from hw)];rfl
theorem Inv.go (h:Inv p e X) {n:Int} (hn:0≤n∧n<e.gs.length) (hs:(e.gs.getD n.toNat zd).state=1) (hX:∀ x,x.w.g=n→¬ X x) {g:zW} (hok:zbf p g=true) (hg:g.state≠2):Inv p (setG e n g) X:=
 (h.put hn hok hg (h.idle hX (by omega))).mono fun x hx=>hx.1
theorem zcO.setG {ch n:Int} {send:Bool} {w:zo} (h:zcO p e ch send w) (hn:0≤n) (hs:w.g≠n) (g:zW):zcO p (setG e n g) ch send w:=by
 have:=h.i0
 have hg:(Ab.setG e n g).gs.getD w.g.toNat zd=e.gs.getD w.g.toNat zd:=z4 (by omega)
 exact ⟨by rw [show (Ab.setG e n g).gs.length=e.gs.length from List.length_set];exact this,by rw [hg];exact h.st,by rw [hg];exact h.mem⟩
theorem zcO.setC {ch k:Int} {send:Bool} {w:zo} (h:zcO p e ch send w) (c:zY):zcO p (setC e k c) ch send w:=⟨h.i0,h.st,h.mem⟩
theorem zcO.ne {ch n:Int} {send:Bool} {w:zo} (h:zcO p e ch send w) (hs:(e.gs.getD n.toNat zd).state=1):w.g≠n:=fun hh=>by
 have:=h.st;rw [hh] at this;omega
theorem Inv.chanOk (h:Inv p e X) {k:Int} (hk:0≤k∧k<e.chans.length):chanOk (e.chans.getD k.toNat zg)=true:=by
 have:=h.ch k.toNat (by omega)
 rw [zhv,Bool.and_eq_true] at this
 exact this.1
theorem Inv.serve (h:Inv p e (fun _=>False)) {n ch v:Int} (hn:0≤n∧n<e.gs.length) (hs:(e.gs.getD n.toNat zd).state=1) (hk:0≤ch∧ch<e.chans.length) {send:Bool} {w:zo} (hw:zcO p e ch send w) {c:zY} (hc:Ab.chanOk c=true) (hcap:c.cap=(e.chans.getD ch.toNat zg).cap)
 (hsd:∀ w',¬ (send=true∧w'=w)→zci c.sends w'=zci (e.chans.getD ch.toNat zg).sends w') (hrc:∀ w',¬ (send=false∧w'=w)→zci c.recvs w'=zci (e.chans.getD ch.toNat zg).recvs w') {g:zW} (hok:zbf p g=true) (hg:g.state≠2) (hv:zK v=true):Inv p (zaV p (setG (setC e ch c) n g) ch w v true) (fun _=>False):=by
 have hne:=hw.ne hs
 have h1:Inv p (setC e ch c) (fun x=>x=⟨false,ch,send,w⟩):=h.chan hk hc hcap
  (fun w' hh=>hsd w' fun ⟨a,b⟩=>hh (by rw [a,b])) (fun w' hh=>hrc w' fun ⟨a,b⟩=>hh (by rw [a,b])) (fun x hx=>hx.elim)
 have h2:=h1.go (n:=n) hn hs (fun x hx hh=>hne (by rw [← hx,hh])) hok hg
 have hw2:zcO p (setG (setC e ch c) n g) ch send w:=(hw.setC c).setG hn.1 hne g
 refine (h2.wake (ok:=true) hw2 hv fun x hx _ hh=>?_).mono fun x hx=>?_
 ·rw [hh] at hx;cases hx
 ·exact hx.2 (by rw [hx.1])
theorem Inv.sendE (h:Inv p e (fun _=>False)) {n ch reg to:Int} (hn:0≤n∧n<e.gs.length) (hs:(e.gs.getD n.toNat zd).state=1) (hk:0≤ch∧ch<e.chans.length) (hcs:zeB (e.chans.getD ch.toNat zg)=true) (hto:0≤to∧to<zZ p (e.gs.getD n.toNat zd).proc):Inv p (sendE p e n ch reg to) (fun _=>False):=by
 have ha:=h.alive hn (.inl hs)
 have hco:=h.chanOk hk
 have hv:=ha.regOf reg
 unfold Ab.sendE
 simp only
 by_cases hcl:(e.chans.getD ch.toNat zg).closed=true
 ·rw [if_pos hcl]
  obtain ⟨h1,h2⟩:=ha.over (y:=1) (by omega)
  exact h.go hn hs (fun x _ hx=>hx) h1 (by omega)
 rw [if_neg hcl]
 have hg1:za8 p {tell (e.gs.getD n.toNat zd) ⟨1,ch,regOf (e.gs.getD n.toNat zd) reg,false⟩ with pc:=to}:=by
  refine (ha.tell ⟨?_,by simp,by simp⟩).goto hto
  have hv:=hv
  rw [zK,decide_eq_true_eq] at hv
  rw [zcr,decide_eq_true_eq,zeA];simp [-List.getD_eq_getElem?_getD];omega
 have hok1:=hg1.ok (.inl hs)
 have hst1:({tell (e.gs.getD n.toNat zd) ⟨1,ch,regOf (e.gs.getD n.toNat zd) reg,false⟩ with pc:=to}:zW).state≠2:=by show (e.gs.getD n.toNat zd).state≠2;omega
 have hci:=zbG.1 hco
 unfold zcn
 rw [hco,hv,if_neg (by simp),if_neg hcl,hcs,if_neg (by simp)]
 by_cases hr:0<(e.chans.getD ch.toNat zg).recvs.length
 ·rw [if_pos hr]
  have hmem:=za6 (d:=zi) hr
  have hw:=h.recvW hk.1 hmem id
  show Inv p (wakeIf p _ ch _ _) _
  rw [wakeIf,if_pos hw.i0.1]
  have hb:(e.chans.getD ch.toNat zg).buf.length=0∧(e.chans.getD ch.toNat zg).closed=false:=by
   rcases hci.2.2.2.2.2 with hh | hh
   ·omega
   ·exact hh
  have hsd0:(e.chans.getD ch.toNat zg).sends.length=0:=by
   rcases hci.2.2.2.2.1 with hh | hh
   ·exact hh
   ·omega
  refine Inv.serve (c:={e.chans.getD ch.toNat zg with recvs:=(e.chans.getD ch.toNat zg).recvs.drop 1}) h hn hs hk hw ?_ rfl (fun w' _=>rfl) (fun w' hh=>znZ hr fun hx=>hh ⟨rfl,hx⟩) hok1 hst1 hv
  rw [zbG]
  exact ⟨hci.1,hci.2.1,hci.2.2.1,fun w hw=>hci.2.2.2.1 w (List.mem_of_mem_drop hw),.inl hsd0,.inr hb⟩
 ·rw [if_neg hr]
  show Inv p (wakeIf p _ ch _ _) _
  rw [wakeIf,if_neg (by simp)]
  rw [zeB,Bool.and_eq_true,Bool.or_eq_true,Bool.or_eq_true,decide_eq_true_eq,decide_eq_true_eq] at hcs
  have hlt:((e.chans.getD ch.toNat zg).buf.length:Int)<(e.chans.getD ch.toNat zg).cap:=by
   rcases hcs.2 with hh | hh | hh
   ·exact absurd hh hcl
   ·exact absurd hh hr
   ·exact hh
  have hsd0:(e.chans.getD ch.toNat zg).sends.length=0:=by
   rcases hci.2.2.2.2.1 with hh | hh
   ·exact hh
   ·omega
  have h1:Inv p (setC e ch {e.chans.getD ch.toNat zg with buf:=(e.chans.getD ch.toNat zg).buf++[regOf (e.gs.getD n.toNat zd) reg]}) (fun _=>False):=by
   refine h.chan hk ?_ rfl (fun w' _=>rfl) (fun w' _=>rfl) (fun _ hx=>hx)
   rw [zbG]
   refine ⟨⟨hci.1.1,hci.1.2.1,?_⟩,fun v hv1=>?_,hci.2.2.1,hci.2.2.2.1,.inl hsd0,.inl (by show (e.chans.getD ch.toNat zg).recvs.length=0;omega)⟩
   ·rw [List.length_append,List.length_singleton];show _≤(e.chans.getD ch.toNat zg).cap;omega
   ·rcases List.mem_append.1 hv1 with hv1 | hv1
    ·exact hci.2.1 v hv1
    ·rw [List.mem_singleton.1 hv1];exact hv
  exact h1.go hn hs (fun x _ hx=>hx) hok1 hst1
theorem Inv.recvE (h:Inv p e (fun _=>False)) {n ch:Int} {x:zaj} (hn:0≤n∧n<e.gs.length) (hs:(e.gs.getD n.toNat zd).state=1) (hk:0≤ch∧ch<e.chans.length) (hcr:zet (e.chans.getD ch.toNat zg)=true) (hto:0≤x.to∧x.to<zZ p (e.gs.getD n.toNat zd).proc):Inv p (recvE p e n ch x) (fun _=>False):=by
 have ha:=h.alive hn (.inl hs)
 have hco:=h.chanOk hk
 unfold Ab.recvE
 have hci:=zbG.1 hco
 have hgot:∀ (v:Int) (ok:Bool),zK v=true→zbf p {zcj (e.gs.getD n.toNat zd) ch v ok x.reg x.ok with pc:=x.to}=true∧({zcj (e.gs.getD n.toNat zd) ch v ok x.reg x.ok with pc:=x.to}:zW).state≠2:=by
  intro v ok hv
  obtain ⟨q1,q2,q3⟩:=znI (e.gs.getD n.toNat zd) ch v ok x.reg x.ok
  have h4:za8 p {zcj (e.gs.getD n.toNat zd) ch v ok x.reg x.ok with pc:=x.to}:=(ha.got hk.1 hv _ _).goto (by rw [q1];exact hto)
  have hs1:({zcj (e.gs.getD n.toNat zd) ch v ok x.reg x.ok with pc:=x.to}:zW).state=1:=q3.trans hs
  exact ⟨h4.ok (.inl hs1),by rw [hs1];decide⟩
 unfold za7
 rw [hco,hcr,if_neg (by simp),if_neg (by simp)]
 rw [zet,Bool.and_eq_true,Bool.or_eq_true,Bool.or_eq_true,decide_eq_true_eq,decide_eq_true_eq] at hcr
 by_cases hsd:0<(e.chans.getD ch.toNat zg).sends.length
 ·have hb:zdB (e.chans.getD ch.toNat zg)=(e.chans.getD ch.toNat zg).buf++[((e.chans.getD ch.toNat zg).sends.getD 0 zi).val]:=by rw [zdB,if_pos hsd]
  have hw0:Ab.recvW (e.chans.getD ch.toNat zg)=(e.chans.getD ch.toNat zg).sends.getD 0 zi:=by rw [Ab.recvW,if_pos hsd]
  have hmem:=za6 (d:=zi) hsd
  have hw:=h.sendW hk.1 hmem id
  have hwo:=hci.2.2.1 _ hmem
  rw [zaU,Bool.and_eq_true,Bool.and_eq_true] at hwo
  have hbv:∀ v∈zdB (e.chans.getD ch.toNat zg),zK v=true:=by
   rw [hb]
   intro v hv1
   rcases List.mem_append.1 hv1 with hv1 | hv1
   ·exact hci.2.1 v hv1
   ·rw [List.mem_singleton.1 hv1];exact hwo.2.1
  have hbl:(zdB (e.chans.getD ch.toNat zg)).length=(e.chans.getD ch.toNat zg).buf.length+1:=by rw [hb,List.length_append,List.length_singleton]
  rw [if_neg (by omega)]
  show Inv p (wakeIf p _ ch _ _) _
  rw [hw0,wakeIf,if_pos hw.i0.1]
  obtain ⟨g1,g2⟩:=hgot ((zdB (e.chans.getD ch.toNat zg)).getD 0 0) true (hbv _ (za6 (by omega)))
  have hfull:((e.chans.getD ch.toNat zg).buf.length=(e.chans.getD ch.toNat zg).cap∧(e.chans.getD ch.toNat zg).recvs.length=0)∧(e.chans.getD ch.toNat zg).closed=false:=by
   rcases hci.2.2.2.2.1 with hh | hh
   ·omega
   ·exact hh
  have hdl:((zdB (e.chans.getD ch.toNat zg)).drop 1).length=(e.chans.getD ch.toNat zg).buf.length:=by rw [List.length_drop,hbl];omega
  refine Inv.serve (c:={e.chans.getD ch.toNat zg with sends:=(e.chans.getD ch.toNat zg).sends.drop 1,buf:=(zdB (e.chans.getD ch.toNat zg)).drop 1}) h hn hs hk hw ?_ rfl (fun w' hh=>znZ hsd fun hx=>hh ⟨rfl,hx⟩) (fun w' _=>rfl) g1 g2 (by decide)
  rw [zbG]
  refine ⟨⟨hci.1.1,hci.1.2.1,?_⟩,fun v hv=>hbv v (List.mem_of_mem_drop hv),fun w hw=>hci.2.2.1 w (List.mem_of_mem_drop hw),hci.2.2.2.1,.inr ⟨⟨?_,hfull.1.2⟩,hfull.2⟩,.inl hfull.1.2⟩
  ·show (((zdB (e.chans.getD ch.toNat zg)).drop 1).length:Int)≤(e.chans.getD ch.toNat zg).cap
   rw [hdl];omega
  ·show (((zdB (e.chans.getD ch.toNat zg)).drop 1).length:Int)=(e.chans.getD ch.toNat zg).cap
   rw [hdl];exact hfull.1.1
 ·have hb:zdB (e.chans.getD ch.toNat zg)=(e.chans.getD ch.toNat zg).buf:=by rw [zdB,if_neg hsd]
  have hw0:Ab.recvW (e.chans.getD ch.toNat zg)=⟨-1,0,0⟩:=by rw [Ab.recvW,if_neg hsd]
  have hs0:(e.chans.getD ch.toNat zg).sends=[]:=List.length_eq_zero_iff.1 (by omega)
  rw [hb,hw0]
  by_cases hl:(e.chans.getD ch.toNat zg).buf.length=0
  ·rw [if_pos hl]
   show Inv p (wakeIf p _ ch _ _) _
   rw [wakeIf,if_neg (by simp)]
   obtain ⟨g1,g2⟩:=hgot 0 false (by decide)
   refine Inv.go (h.chan (c:={e.chans.getD ch.toNat zg with sends:=(e.chans.getD ch.toNat zg).sends.drop 1}) hk ?_ rfl (fun w' _=>?_) (fun w' _=>rfl) (fun _ hx=>hx)) hn hs (fun x _ hx=>hx) g1 g2
   ·rw [zbG,hs0]
    refine ⟨hci.1,hci.2.1,fun w hw=>(by cases hw),hci.2.2.2.1,.inl rfl,hci.2.2.2.2.2⟩
   ·rw [hs0];rfl
  ·rw [if_neg hl]
   show Inv p (wakeIf p _ ch _ _) _
   rw [wakeIf,if_neg (by simp)]
   obtain ⟨g1,g2⟩:=hgot ((e.chans.getD ch.toNat zg).buf.getD 0 0) true (hci.2.1 _ (za6 (by omega)))
   refine Inv.go (h.chan (c:={e.chans.getD ch.toNat zg with sends:=(e.chans.getD ch.toNat zg).sends.drop 1,buf:=(e.chans.getD ch.toNat zg).buf.drop 1}) hk ?_ rfl (fun w' _=>?_) (fun w' _=>rfl) (fun _ hx=>hx)) hn hs (fun x _ hx=>hx) g1 g2
   ·rw [zbG,hs0]
    refine ⟨⟨hci.1.1,hci.1.2.1,?_⟩,fun v hv=>hci.2.1 v (List.mem_of_mem_drop hv),fun w hw=>(by cases hw),hci.2.2.2.1,.inl rfl,?_⟩
    ·show (((e.chans.getD ch.toNat zg).buf.drop 1).length:Int)≤(e.chans.getD ch.toNat zg).cap
     rw [List.length_drop];omega
    ·rcases hci.2.2.2.2.2 with hh | hh
     ·exact .inl hh
     ·omega
   ·rw [hs0];rfl
end
section
variable {p:zn} {e:zz} {X Y:zr→Prop} {g:zW}
theorem zlQ {cs:List zaj} {i j:Nat} (hj:j<cs.length) (hij:i<j) (h0:0≤(cs.getD j zE).chan) (h:(cs.getD i zE).chan=(cs.getD j zE).chan) (hd:zjI cs j=false):False:=by
 have:=zrh hij (Nat.le_of_lt hj) h0 h.symm
 rw [this] at hd;cases hd
theorem Inv.uniq (h:Inv p e X) {ch:Int} {s1 s2:Bool} {w1 w2:zo} (h1:zcO p e ch s1 w1) (h2:zcO p e ch s2 w2) (hg:w1.g=w2.g):w1=w2:=by
 have q1:=h.plOk h1
 have q2:=h.plOk h2
 rw [← hg] at q2
 have hcas:w1.cas=w2.cas:=by
  by_cases c1:0≤w1.cas
  ·have a1:=q1.cas.2 c1
   have c2:0≤w2.cas:=by
    have:=q2.cas.1;have:=q2.neg;omega
   have a2:=q2.cas.2 c2
   have b1:=q1.chan c1
   have b2:=q2.chan c2
   have hi:=(zaT h.prog (h.alive h1.i0 (.inr h1.st)).pc).sel a1.1
   rw [zaE,if_pos c1] at b1
   rw [zaE,if_pos c2] at b2
   have h0:=q1.ch0.1
   rcases Nat.lt_trichotomy w1.cas.toNat w2.cas.toNat with hlt | he | hlt
   ·exact (zlQ (by omega) hlt (by rw [b2];exact h0) (b1.trans b2.symm) (zgt hi.1 (by omega)).2.2.2.2).elim
   ·omega
   ·exact (zlQ (by omega) hlt (by rw [b1];exact h0) (b2.trans b1.symm) (zgt hi.1 (by omega)).2.2.2.2).elim
  ·have c2:¬ 0≤w2.cas:=fun c2=>by
    have:=(q2.cas.2 c2).1;have:=q1.neg;have:=q1.cas;omega
   have:=q1.cas;have:=q2.cas;omega
 have hat:zaE p (e.gs.getD w1.g.toNat zd) w1=zaE p (e.gs.getD w1.g.toNat zd) w2:=by unfold zaE;rw [hcas]
 have hs:s1=s2:=by rw [← q1.snd,← q2.snd,hat]
 rw [q1.ident,q2.ident,hs,hat,hcas,hg]
theorem zuy {n:Int} {x:zr}:zar (zw p g n) x≤1:=by
 have h1:∀ a:zr,zar [a] x≤1:=fun a=>zgc [a] x
 unfold zw
 repeat' split
 ·exact h1 _
 ·exact h1 _
 ·unfold zg6
  rw [zg0 (j:=x.w.cas.toNat) fun k hk=>zh0 fun h=>?_]
  ·split
   ·exact Nat.le_trans (zgc _ _) (zgW _ _ _ _)
   ·omega
  ·unfold zcJ at h
   split at h
   ·cases h
   ·rw [List.mem_singleton.1 h] at hk
    exact hk rfl
 ·exact h1 _
 ·exact Nat.zero_le _
theorem Inv.once (h:Inv p e (fun _=>False)) (x:zr):atA e x≤1:=by
 rw [h.cnt x id]
 unfold wtA
 split
 ·exact zuy
 ·omega
theorem zu9:∀ {l:List zo},(∀ w∈l,zci l w≤1)→(∀ a∈l,∀ b∈l,a.g=b.g→a=b)→l.Pairwise (fun a b=>a.g≠b.g)
 | [],_,_=>List.Pairwise.nil
 | a::l,h1,h2=>by
   refine List.Pairwise.cons (fun b hb hg=>?_) (zu9 (fun w hw=>?_) fun x hx y hy=>h2 x (List.mem_cons_of_mem _ hx) y (List.mem_cons_of_mem _ hy))
   ·have hab:=h2 a List.mem_cons_self b (List.mem_cons_of_mem _ hb) hg
    subst hab
    have:=h1 a List.mem_cons_self
    rw [zj6,if_pos rfl] at this
    have:=zhD.2 hb
    omega
   ·have:=h1 w (List.mem_cons_of_mem _ hw)
    rw [zj6] at this
    omega
theorem Inv.wakes {ch:Int}:∀ (l:List zo) (e:zz),Inv p e (fun x=>x.mutex=false∧∃ w∈l,w.g=x.w.g)→(∀ w∈l,∃ s,zcO p e ch s w)→l.Pairwise (fun a b=>a.g≠b.g)→Inv p (l.foldl (fun e w=>zaV p e ch w 0 false) e) (fun _=>False)
 | [],e,h,_,_=>h.mono fun x hx=>by obtain ⟨_,w,hw,_⟩:=hx;cases hw
 | a::l,e,h,hw,hp=>by
   obtain ⟨s,hs⟩:=hw a List.mem_cons_self
   rw [List.pairwise_cons] at hp
   refine Inv.wakes l _ ((h.wake (ok:=false) (v:=0) hs (by decide) fun x hx _ hh=>by rw [hh.1] at hx;cases hx).mono fun x hx=>?_) (fun w hm=>?_) hp.2
   ·obtain ⟨⟨h1,w,hm,hg⟩,h2⟩:=hx
    rcases List.mem_cons.1 hm with rfl | hm
    ·exact absurd hg.symm h2
    ·exact ⟨h1,w,hm,hg⟩
   ·obtain ⟨s1,hs1⟩:=hw w (List.mem_cons_of_mem _ hm)
    exact ⟨s1,hs1.wake hs.i0.1 (fun hh=>hp.1 w hm hh.symm)⟩
def zcy (e:zz) (n ch:Int):zz:=setG (setC e ch {e.chans.getD ch.toNat zg with recvs:=[],sends:=[],closed:=true}) n (zbg (e.gs.getD n.toNat zd) ⟨3,ch,0,false⟩)
theorem Inv.close0 (h:Inv p e (fun _=>False)) {n ch:Int} (hn:0≤n∧n<e.gs.length) (hs:(e.gs.getD n.toNat zd).state=1) (hk0:0≤ch∧ch<e.chans.length) (hto:(e.gs.getD n.toNat zd).pc+1<zZ p (e.gs.getD n.toNat zd).proc):Inv p (zcy e n ch) (fun x=>x.mutex=false∧∃ w∈(e.chans.getD ch.toNat zg).recvs++(e.chans.getD ch.toNat zg).sends,w.g=x.w.g)∧(∀ w∈(e.chans.getD ch.toNat zg).recvs++(e.chans.getD ch.toNat zg).sends,∃ s,zcO p (zcy e n ch) ch s w)∧((e.chans.getD ch.toNat zg).recvs++(e.chans.getD ch.toNat zg).sends).Pairwise (fun a b=>a.g≠b.g):=by
 have ha:=h.alive hn (.inl hs)
 have h0:¬ ch<0:=by omega
 have hco:=h.chanOk hk0
 have hci:=zbG.1 hco
 have hall:∀ w∈(e.chans.getD ch.toNat zg).recvs++(e.chans.getD ch.toNat zg).sends,∃ s,zcO p e ch s w:=fun w hw=>by
  rcases List.mem_append.1 hw with hw | hw
  ·exact ⟨false,h.recvW hk0.1 hw id⟩
  ·exact ⟨true,h.sendW hk0.1 hw id⟩
 have h1:Inv p (setC e ch {e.chans.getD ch.toNat zg with recvs:=[],sends:=[],closed:=true}) (fun x=>x.mutex=false∧∃ w∈(e.chans.getD ch.toNat zg).recvs++(e.chans.getD ch.toNat zg).sends,w.g=x.w.g):=by
  refine h.chan hk0 ?_ rfl (fun w hw=>?_) (fun w hw=>?_) fun _ hx=>hx.elim
  ·rw [zbG]
   exact ⟨hci.1,hci.2.1,fun w hw=>(by cases hw),fun w hw=>(by cases hw),.inl rfl,.inl rfl⟩
  ·have:¬ 0<zci (e.chans.getD ch.toNat zg).sends w:=fun hh=>hw ⟨rfl,w,List.mem_append_right _ (zhD.1 hh),rfl⟩
   show 0=_;omega
  ·have:¬ 0<zci (e.chans.getD ch.toNat zg).recvs w:=fun hh=>hw ⟨rfl,w,List.mem_append_left _ (zhD.1 hh),rfl⟩
   show 0=_;omega
 have hg1:za8 p (zbg (e.gs.getD n.toNat zd) ⟨3,ch,0,false⟩):=by
  refine ((ha.tell ⟨?_,by simp,by simp⟩).goto ⟨by have:=ha.pc.1;omega,hto⟩).state 1
  rw [zcr,decide_eq_true_eq,zeA];simp;omega
 have hne:∀ w∈(e.chans.getD ch.toNat zg).recvs++(e.chans.getD ch.toNat zg).sends,w.g≠n:=fun w hw=>by
  obtain ⟨s,hh⟩:=hall w hw
  exact hh.ne hs
 have h2:=h1.go (n:=n) hn hs (fun x hx hh=>by
  obtain ⟨_,w,hw,hg⟩:=hh
  exact hne w hw (hg.trans hx)) (hg1.ok (.inl rfl)) (by show (1:Int)≠2;decide)
 refine ⟨h2,fun w hw=>?_,?_⟩
 ·obtain ⟨s,hh⟩:=hall w hw
  exact ⟨s,(hh.setC _).setG hn.1 (hne w hw) _⟩
 ·have key:∀ (l:List zo) (s:Bool),(∀ w∈l,zcO p e ch s w)→(∀ w,zci l w≤1)→l.Pairwise (fun a b=>a.g≠b.g):=fun l s hl h1=>
   zu9 (fun w _=>h1 w) fun a ha b hb hg=>h.uniq (hl a ha) (hl b hb) hg
  have o1:∀ w,zci (e.chans.getD ch.toNat zg).recvs w≤1:=fun w=>by
   have:=h.once ⟨false,ch,false,w⟩
   unfold atA at this
   rw [if_neg (by show ¬ ch<0;omega),if_neg (by simp),if_neg (by simp)] at this
   exact this
  have o2:∀ w,zci (e.chans.getD ch.toNat zg).sends w≤1:=fun w=>by
   have:=h.once ⟨false,ch,true,w⟩
   unfold atA at this
   rw [if_neg (by show ¬ ch<0;omega),if_neg (by simp),if_pos (by rfl)] at this
   exact this
  rcases hci.2.2.2.2.1 with h5 | h5
  ·rw [List.length_eq_zero_iff.1 h5,List.append_nil]
   exact key _ false (fun w hw=>h.recvW hk0.1 hw id) o1
  ·rw [List.length_eq_zero_iff.1 h5.1.2,List.nil_append]
   exact key _ true (fun w hw=>h.sendW hk0.1 hw id) o2
theorem Inv.closeE (h:Inv p e (fun _=>False)) {n ch:Int} (hn:0≤n∧n<e.gs.length) (hs:(e.gs.getD n.toNat zd).state=1) (hk:ch<e.chans.length) (hto:(e.gs.getD n.toNat zd).pc+1<zZ p (e.gs.getD n.toNat zd).proc):Inv p (closeE p e n ch) (fun _=>False):=by
 have ha:=h.alive hn (.inl hs)
 unfold Ab.closeE
 simp only
 by_cases h0:ch<0
 ·rw [if_pos h0]
  obtain ⟨h1,h2⟩:=ha.over (y:=2) (by omega)
  exact h.go hn hs (fun x _ hx=>hx) h1 (by omega)
 rw [if_neg h0]
 have hk0:0≤ch∧ch<e.chans.length:=⟨by omega,hk⟩
 have hco:=h.chanOk hk0
 have hci:=zbG.1 hco
 by_cases hcl:(e.chans.getD ch.toNat zg).closed=true
 ·rw [show zcD (e.chans.getD ch.toNat zg)=(zg,[],[],2) by unfold zcD;rw [hco,if_neg (by simp),if_pos hcl]]
  obtain ⟨h1,h2⟩:=ha.over (y:=1) (by omega)
  exact h.go hn hs (fun x _ hx=>hx) h1 (by omega)
 rw [show zcD (e.chans.getD ch.toNat zg)=({e.chans.getD ch.toNat zg with recvs:=[],sends:=[],closed:=true},(e.chans.getD ch.toNat zg).recvs,(e.chans.getD ch.toNat zg).sends,0) by unfold zcD;rw [hco,if_neg (by simp),if_neg hcl]]
 obtain ⟨h2,h3,h4⟩:=h.close0 hn hs hk0 hto
 exact Inv.wakes _ _ h2 h3 h4
def zaS (p:zn) (ch:Int) (l:List zo) (e:zz) (i:Nat):zz:=(l.take i).foldl (fun e w=>zaV p e ch w 0 false) e
structure zdm (p:zn) (ch:Int) (l:List zo) (e:zz) (i:Nat):Prop where
 inv:Inv p (zaS p ch l e i) (fun x=>x.mutex=false∧∃ w∈l.drop i,w.g=x.w.g)
 wt:∀ w∈l.drop i,∃ s,zcO p (zaS p ch l e i) ch s w
 pw:(l.drop i).Pairwise (fun a b=>a.g≠b.g)
theorem zdb {ch:Int} {l:List zo} {i:Nat} (hi:i<l.length):zaS p ch l e (i+1)=zaV p (zaS p ch l e i) ch (l.getD i zi) 0 false:=by
 unfold zaS
 rw [List.take_add_one,List.getElem?_eq_getElem hi,List.foldl_append,List.getD_eq_getElem?_getD,List.getElem?_eq_getElem hi]
 rfl
theorem zdm.next {ch:Int} {l:List zo} {i:Nat} (h:zdm p ch l e i) (hi:i<l.length):zdm p ch l e (i+1):=by
 obtain ⟨h1,h2,h3⟩:=h
 have hd:l.drop i=l.getD i zi::l.drop (i+1):=by
  rw [List.drop_eq_getElem_cons hi,List.getD_eq_getElem?_getD,List.getElem?_eq_getElem hi];rfl
 rw [hd] at h1 h2 h3
 rw [List.pairwise_cons] at h3
 obtain ⟨s,hs⟩:=h2 _ List.mem_cons_self
 refine ⟨?_,fun w hm=>?_,h3.2⟩
 ·rw [zdb hi]
  refine (h1.wake (ok:=false) (v:=0) hs (by decide) fun x hx _ hh=>by rw [hh.1] at hx;cases hx).mono fun x hx=>?_
  obtain ⟨⟨q1,w,hm,hg⟩,q2⟩:=hx
  rcases List.mem_cons.1 hm with rfl | hm
  ·exact absurd hg.symm q2
  ·exact ⟨q1,w,hm,hg⟩
 ·rw [zdb hi]
  obtain ⟨s1,hs1⟩:=h2 w (List.mem_cons_of_mem _ hm)
  exact ⟨s1,hs1.wake hs.i0.1 (fun hh=>h3.1 w hm hh.symm)⟩
end
section
variable {p:zn} {e:zz} {X Y:zr→Prop} {g:zW}
theorem zcG {m:zal}:zcs m=true↔-1≤m.owner∧(m.owner=-1→m.wait=[])∧(∀ g∈m.wait,0≤g∧g≠m.owner)∧m.wait.Nodup:=by
 rw [zcs,Bool.and_eq_true,zf4,decide_eq_true_eq,List.all_eq_true]
 have hw:∀ k,k<m.wait.length→(zfK m k=true↔(0≤m.wait.getD k 0∧m.wait.getD k 0≠m.owner)∧∀ j<k,m.wait.getD j 0≠m.wait.getD k 0):=fun k hk=>by
  rw [zfK,Bool.and_eq_true,decide_eq_true_eq,Bool.not_eq_true',decide_eq_false_iff_not,List.drop_zero]
  refine and_congr Iff.rfl ⟨fun h j hj he=>h ?_,fun h hm=>?_⟩
  ·rw [← he]
   refine List.mem_of_getElem? (i:=j) ?_
   rw [List.getElem?_take,if_pos hj,zd5 (d:=(0:Int)) (by omega)]
  ·obtain ⟨j,hj⟩:=List.mem_iff_getElem?.1 hm
   rw [List.getElem?_take] at hj
   split at hj
   ·rename_i hlt
    exact h j hlt (by rw [List.getD_eq_getElem?_getD (i:=j),hj];rfl)
   ·cases hj
 have hnd:m.wait.Nodup↔∀ k<m.wait.length,∀ j<k,m.wait.getD j 0≠m.wait.getD k 0:=by
  rw [List.Nodup,List.pairwise_iff_getElem]
  constructor
  ·intro h k hk j hj
   rw [List.getD_eq_getElem?_getD,List.getD_eq_getElem?_getD,List.getElem?_eq_getElem hk,List.getElem?_eq_getElem (by omega)]
   exact h j k (by omega) hk hj
  ·intro h i j hi hj hij
   have:=h j hj i hij
   rw [List.getD_eq_getElem?_getD,List.getD_eq_getElem?_getD,List.getElem?_eq_getElem hj,List.getElem?_eq_getElem hi] at this
   exact this
 rw [hnd]
 constructor
 ·rintro ⟨⟨h1,h2⟩,h3⟩
  refine ⟨h1,fun ho=>List.length_eq_zero_iff.1 (h2 ho),fun g hg=>?_,fun k hk=>((hw k hk).1 (h3 k (List.mem_range.2 hk))).2⟩
  obtain ⟨k,hk,rfl⟩:=zpM 0 hg
  exact ((hw k hk).1 (h3 k (List.mem_range.2 hk))).1
 ·rintro ⟨h1,h2,h3,h4⟩
  refine ⟨⟨h1,fun ho=>by rw [h2 ho];rfl⟩,fun k hk=>?_⟩
  have hk:=List.mem_range.1 hk
  exact (hw k hk).2 ⟨h3 _ (za6 hk),h4 k hk⟩
theorem zhY {l:List Int} {g:Int}:0<zgM l g↔g∈l:=by
 rw [zgM,List.countP_pos_iff]
 constructor
 ·rintro ⟨a,ha,hx⟩;rw [decide_eq_true_eq] at hx;exact hx ▸ ha
 ·intro h;exact ⟨g,h,decide_eq_true rfl⟩
theorem zsc {l:List Int} {g:Int} (h:g∉l):zgM l g=0:=by
 have:¬ 0<zgM l g:=fun hh=>h (zhY.1 hh)
 omega
theorem ztm (l:List Int) (a g:Int):zgM (l++[a]) g=zgM l g+if g=a then 1 else 0:=by
 rw [zgM,List.countP_append,zgM]
 congr 1
 by_cases h:g=a<;>simp [h]
theorem zjM (l:List zo) (a g:zo):zci (l++[a]) g=zci l g+if g=a then 1 else 0:=by
 rw [zci,List.countP_append,zci]
 congr 1
 by_cases h:g=a<;>simp [h]
theorem Inv.muOk (h:Inv p e X) {k:Int} (hk:0≤k∧k<e.mus.length):zcs (e.mus.getD k.toNat zj)=true∧(e.mus.getD k.toNat zj).owner<e.gs.length:=by
 have:=h.mu k.toNat (by omega)
 rwa [Ab.muOk,Bool.and_eq_true,decide_eq_true_eq] at this
def zeD (e:zz) (x:zr):Prop:=
 if x.mutex=true then (0≤x.obj∧x.obj<e.mus.length)∧(0≤x.w.g∧x.w.g∉(e.mus.getD x.obj.toNat zj).wait∧(e.mus.getD x.obj.toNat zj).owner≠x.w.g∧(e.mus.getD x.obj.toNat zj).owner≠-1)∧x.send=false∧x.w.cas=-1∧x.w.val=0
 else (0≤x.obj∧x.obj<e.chans.length)∧zaU x.send x.w=true∧(e.chans.getD x.obj.toNat zg).closed=false∧
  if x.send=true then ((e.chans.getD x.obj.toNat zg).buf.length:Int)=(e.chans.getD x.obj.toNat zg).cap∧(e.chans.getD x.obj.toNat zg).recvs.length=0
  else (e.chans.getD x.obj.toNat zg).buf.length=0∧(e.chans.getD x.obj.toNat zg).sends.length=0
theorem zqC {b:Bool} {w:zo} (h:zaU b w=true):zaU true w=true:=by
 rw [zaU,Bool.and_eq_true,Bool.and_eq_true] at h ⊢
 exact ⟨h.1,h.2.1,rfl⟩
theorem ztP {a:zr} (hc:zeD e a) (x:zr):atA (zbD e a) x=atA e x+if x=a then 1 else 0:=by
 unfold zeD at hc
 unfold zbD
 cases hm:a.mutex
 ·rw [hm,if_neg (by simp)] at hc
  rw [if_neg (by simp)]
  have hob:=hc.1
  have key:∀ c:zY,atA (setC e a.obj c) x=if x.obj<0 then 0 else if x.mutex=true then atA e x else if x.obj=a.obj then (if x.send=true then zci c.sends x.w else zci c.recvs x.w) else atA e x:=by
   intro c
   unfold atA
   by_cases ho:x.obj<0
   ·rw [if_pos ho,if_pos ho]
   rw [if_neg ho,if_neg ho]
   simp only [if_neg ho]
   cases hxm:x.mutex
   ·simp only [Bool.false_eq_true,if_false]
    show (if x.send=true then zci ((e.chans.set a.obj.toNat c).getD x.obj.toNat zg).sends x.w else zci ((e.chans.set a.obj.toNat c).getD x.obj.toNat zg).recvs x.w)=_
    by_cases hxo:x.obj=a.obj
    ·rw [if_pos hxo,hxo,zF (by omega)]
    ·rw [if_neg hxo,z4 (by omega)]
   ·simp only [if_true];rfl
  by_cases hx:x=a
  ·subst hx
   rw [if_pos rfl]
   have hat:atA e x=if x.send=true then zci (e.chans.getD x.obj.toNat zg).sends x.w else zci (e.chans.getD x.obj.toNat zg).recvs x.w:=by
    unfold atA;rw [if_neg (by omega),hm,if_neg (by simp)]
   rw [hat]
   cases hs:x.send
   ·rw [if_neg (by simp),key,if_neg (by omega),hm,if_neg (by simp),if_pos rfl,hs]
    simp only [Bool.false_eq_true,if_false]
    rw [zjM,if_pos rfl]
   ·rw [if_pos rfl,key,if_neg (by omega),hm,if_neg (by simp),if_pos rfl,hs]
    simp only [if_true]
    rw [zjM,if_pos rfl]
  ·rw [if_neg hx,Nat.add_zero]
   have fin:∀ c:zY,(x.mutex=false→x.obj=a.obj→(if x.send=true then zci c.sends x.w else zci c.recvs x.w)=(if x.send=true then zci (e.chans.getD a.obj.toNat zg).sends x.w else zci (e.chans.getD a.obj.toNat zg).recvs x.w))→atA (setC e a.obj c) x=atA e x:=by
    intro c hcc
    rw [key]
    split
    ·rename_i ho;unfold atA;rw [if_pos ho]
    ·rename_i ho
     split
     ·rfl
     ·rename_i hxm
      split
      ·rename_i hxo
       have hxm:x.mutex=false:=by simpa using hxm
       rw [hcc hxm hxo,show atA e x=if x.send=true then zci (e.chans.getD x.obj.toNat zg).sends x.w else zci (e.chans.getD x.obj.toNat zg).recvs x.w by unfold atA;rw [if_neg ho,if_neg (show ¬ x.mutex=true by rw [hxm];decide)],hxo]
      ·rfl
   cases hs:a.send
   ·rw [if_neg (by simp)]
    refine fin _ fun h1 h2=>?_
    cases hxs:x.send
    ·simp only [Bool.false_eq_true,if_false]
     rw [zjM,if_neg,Nat.add_zero]
     intro hw
     exact hx (zr.ext (h1.trans hm.symm) h2 (hxs.trans hs.symm) hw)
    ·simp only [if_true]
   ·rw [if_pos rfl]
    refine fin _ fun h1 h2=>?_
    cases hxs:x.send
    ·simp only [Bool.false_eq_true,if_false]
    ·simp only [if_true]
     rw [zjM,if_neg,Nat.add_zero]
     intro hw
     exact hx (zr.ext (h1.trans hm.symm) h2 (hxs.trans hs.symm) hw)
 ·rw [hm,if_pos rfl] at hc
  rw [if_pos rfl]
  obtain ⟨hob,hw1,hsd,hcas,hval⟩:=hc
  unfold atA
  by_cases ho:x.obj<0
  ·rw [if_pos ho,if_pos ho,if_neg (fun hh=>by rw [hh] at ho;omega)]
  rw [if_neg ho,if_neg ho]
  cases hxm:x.mutex
  ·simp only [Bool.false_eq_true,if_false]
   rw [if_neg (c:=x=a) (fun hh=>by rw [hh,hm] at hxm;cases hxm)];rfl
  ·simp only [if_true]
   show (if x.send=false∧x.w.cas=-1∧x.w.val=0 then zgM ((e.mus.set a.obj.toNat _).getD x.obj.toNat zj).wait x.w.g else 0)=_
   by_cases hcc:x.send=false∧x.w.cas=-1∧x.w.val=0
   ·rw [if_pos hcc,if_pos hcc]
    by_cases hxo:x.obj=a.obj
    ·rw [hxo,zF (by omega)]
     show zgM ((e.mus.getD a.obj.toNat zj).wait++[a.w.g]) x.w.g=_
     rw [ztm]
     congr 1
     by_cases hg:x.w.g=a.w.g
     ·rw [if_pos hg,if_pos (zr.ext (hxm.trans hm.symm) hxo (hcc.1.trans hsd.symm) (zo.ext hg (hcc.2.1.trans hcas.symm) (hcc.2.2.trans hval.symm)))]
     ·rw [if_neg hg,if_neg (fun hh=>hg (by rw [hh]))]
    ·rw [z4 (by omega),if_neg (fun hh=>hxo (by rw [hh])),Nat.add_zero]
   ·rw [if_neg hcc,if_neg hcc,if_neg (fun hh=>hcc (by rw [hh];exact ⟨hsd,hcas,hval⟩))]
theorem zp8 (e:zz) (a:zr):(zbD e a).gs=e.gs:=by
 unfold zbD;repeat' split
 all_goals rfl
theorem zrm (a x:zr):wtA p (zbD e a) x=wtA p e x:=by unfold wtA;rw [zp8]
theorem Inv.add {n:Int} (h:Inv p e (fun x=>x.w.g=n)) {a:zr} (ha:a.w.g=n) (hc:zeD e a):Inv p (zbD e a) (fun x=>x.w.g=n):=by
 have hc0:=hc
 unfold zeD at hc
 have hcnt:∀ x,¬ x.w.g=n→atA (zbD e a) x=wtA p (zbD e a) x:=fun x hx=>by
  rw [ztP hc0,zrm,if_neg (fun hh=>hx (by rw [hh];exact ha)),Nat.add_zero]
  exact h.cnt x hx
 suffices hs:Inv p (zbD e a) (fun _=>True) from ⟨hs.prog,hs.len,hs.cl,hs.ml,hs.ch,hs.mu,hs.g,hcnt⟩
 unfold zbD
 cases hm:a.mutex
 ·rw [hm,if_neg (by simp)] at hc
  obtain ⟨hob,hwo,hcl,hrest⟩:=hc
  have hci:=zbG.1 (h.chanOk hob)
  rw [if_neg (by simp)]
  cases hsd:a.send
  ·rw [hsd,if_neg (by simp)] at hrest
   rw [hsd] at hwo
   rw [if_neg (by simp)]
   refine h.chan hob ?_ rfl (fun w hw=>absurd trivial hw) (fun w hw=>absurd trivial hw) fun _ _=>trivial
   rw [zbG]
   refine ⟨hci.1,hci.2.1,hci.2.2.1,fun w hw=>?_,.inl hrest.2,.inr ⟨hrest.1,hcl⟩⟩
   rcases List.mem_append.1 hw with hw | hw
   ·exact hci.2.2.2.1 w hw
   ·rw [List.mem_singleton.1 hw];exact hwo
  ·rw [hsd,if_pos rfl] at hrest
   rw [if_pos rfl]
   refine h.chan hob ?_ rfl (fun w hw=>absurd trivial hw) (fun w hw=>absurd trivial hw) fun _ _=>trivial
   rw [zbG]
   refine ⟨hci.1,hci.2.1,fun w hw=>?_,hci.2.2.2.1,.inr ⟨hrest,hcl⟩,.inl hrest.2⟩
   rcases List.mem_append.1 hw with hw | hw
   ·exact hci.2.2.1 w hw
   ·rw [List.mem_singleton.1 hw];exact zqC hwo
 ·rw [hm,if_pos rfl] at hc
  obtain ⟨hob,⟨h0,hnw,hno,hn1⟩,hsd,hcas,hval⟩:=hc
  obtain ⟨hmo,hown⟩:=h.muOk hob
  have hmi:=zcG.1 hmo
  rw [if_pos rfl]
  refine h.mut hob ?_ hown (fun w hw=>absurd trivial hw) fun _ _=>trivial
  rw [zcG]
  refine ⟨hmi.1,fun hh=>absurd hh hn1,fun g hg=>?_,?_⟩
  ·rcases List.mem_append.1 hg with hg | hg
   ·exact hmi.2.2.1 g hg
   ·rw [List.mem_singleton.1 hg];exact ⟨h0,fun hh=>hno hh.symm⟩
  ·rw [List.nodup_append]
   refine ⟨hmi.2.2.2,by simp,fun x hx y hy hxy=>?_⟩
   rw [List.mem_singleton.1 hy] at hxy
   exact hnw (hxy ▸ hx)
theorem zeD.add {a b:zr} (hc:zeD e b) (hm:a.mutex=false) (hmb:b.mutex=false) (hne:a.obj.toNat≠b.obj.toNat):zeD (zbD e a) b:=by
 unfold zeD at hc ⊢
 rw [hmb,if_neg (by simp)] at hc ⊢
 have hg:∀ c,(setC e a.obj c).chans.getD b.obj.toNat zg=e.chans.getD b.obj.toNat zg∧(setC e a.obj c).chans.length=e.chans.length:=fun c=>⟨z4 hne,List.length_set⟩
 unfold zbD
 rw [hm,if_neg (by simp)]
 split
 ·rw [(hg _).1,(hg _).2];exact hc
 ·rw [(hg _).1,(hg _).2];exact hc
theorem Inv.adds {n:Int}:∀ (l:List zr) (e:zz),Inv p e (fun x=>x.w.g=n)→(∀ x,x.w.g=n→atA e x+zar l x=wtA p e x)→(∀ a∈l,a.w.g=n∧zeD e a)→l.Pairwise (fun a b=>a.mutex=false∧b.mutex=false∧a.obj.toNat≠b.obj.toNat)→Inv p (l.foldl zbD e) (fun _=>False)
 | [],e,h,hc,_,_=>⟨h.prog,h.len,h.cl,h.ml,h.ch,h.mu,h.g,fun x _=>by
    by_cases hx:x.w.g=n
    ·exact hc x hx
    ·exact h.cnt x hx⟩
 | a::l,e,h,hc,hl,hp=>by
   obtain ⟨ha,hca⟩:=hl a List.mem_cons_self
   rw [List.pairwise_cons] at hp
   refine Inv.adds l _ (h.add ha hca) (fun x hx=>?_) (fun b hb=>⟨(hl b (List.mem_cons_of_mem _ hb)).1,(hl b (List.mem_cons_of_mem _ hb)).2.add (hp.1 b hb).1 (hp.1 b hb).2.1 (hp.1 b hb).2.2⟩) hp.2
   have:=hc x hx
   rw [ztP hca,zrm,← this,zar,zar,List.countP_cons]
   by_cases hxa:x=a<;>simp [hxa]<;>omega
def zaP (l:List zr) (e:zz) (i:Nat):zz:=(l.take i).foldl zbD e
structure zjh (p:zn) (n:Int) (l:List zr) (e:zz) (i:Nat):Prop where
 inv:Inv p (zaP l e i) (fun x=>x.w.g=n)
 can:∀ a∈l.drop i,a.w.g=n∧zeD (zaP l e i) a
 pw:(l.drop i).Pairwise (fun a b=>a.mutex=false∧b.mutex=false∧a.obj.toNat≠b.obj.toNat)
theorem zeW {l:List zr} {i:Nat} (hi:i<l.length):zaP l e (i+1)=zbD (zaP l e i) (l.getD i zq):=by
 unfold zaP
 rw [List.take_add_one,List.getElem?_eq_getElem hi,List.foldl_append,List.getD_eq_getElem?_getD,List.getElem?_eq_getElem hi]
 rfl
theorem zjh.here {n:Int} {l:List zr} {i:Nat} (h:zjh p n l e i) (hi:i<l.length):(l.getD i zq).w.g=n∧zeD (zaP l e i) (l.getD i zq):=by
 refine h.can _ ?_
 rw [List.drop_eq_getElem_cons hi,List.getD_eq_getElem?_getD,List.getElem?_eq_getElem hi];exact List.mem_cons_self
theorem zjh.next {n:Int} {l:List zr} {i:Nat} (h:zjh p n l e i) (hi:i<l.length):zjh p n l e (i+1):=by
 obtain ⟨h1,h2,h3⟩:=h
 have hd:l.drop i=l.getD i zq::l.drop (i+1):=by
  rw [List.drop_eq_getElem_cons hi,List.getD_eq_getElem?_getD,List.getElem?_eq_getElem hi];rfl
 rw [hd] at h2 h3
 rw [List.pairwise_cons] at h3
 obtain ⟨ha,hca⟩:=h2 _ List.mem_cons_self
 refine ⟨?_,fun b hb=>⟨(h2 b (List.mem_cons_of_mem _ hb)).1,?_⟩,h3.2⟩
 ·rw [zeW hi];exact h1.add ha hca
 ·rw [zeW hi]
  exact (h2 b (List.mem_cons_of_mem _ hb)).2.add (h3.1 b hb).1 (h3.1 b hb).2.1 (h3.1 b hb).2.2
end
section
variable {p:zn} {e:zz} {X Y:zr→Prop} {g:zW}
structure zgG (p:zn) (e:zz) (n:Int):Prop where
 may:zdo p (e.gs.getD n.toNat zd)=true
 can:∀ a∈zw p (e.gs.getD n.toNat zd) n,zeD e a
 pw:(zw p (e.gs.getD n.toNat zd) n).Pairwise (fun a b=>a.mutex=false∧b.mutex=false∧a.obj.toNat≠b.obj.toNat)
theorem Inv.wait0 (h:Inv p e (fun _=>False)) {n:Int} (hn:0≤n∧n<e.gs.length) (hs:(e.gs.getD n.toNat zd).state=1) (hc:zgG p e n):zjh p n (zw p (e.gs.getD n.toNat zd) n) (setG e n {e.gs.getD n.toNat zd with state:=2}) 0:=
 ⟨(h.put0 hn (((h.alive hn (.inl hs)).state 2).ok (.inr rfl)) (fun _=>hc.may)).mono fun x hx=>hx.elim False.elim id,fun a hm=>⟨zi9 hm,hc.can a hm⟩,hc.pw⟩
theorem Inv.waitE (h:Inv p e (fun _=>False)) {n:Int} (hn:0≤n∧n<e.gs.length) (hs:(e.gs.getD n.toNat zd).state=1) (hc:zgG p e n):Inv p (waitE p e n) (fun _=>False):=by
 have hj:=h.wait0 hn hs hc
 refine Inv.adds _ _ hj.inv (fun x hx=>?_) hj.can hj.pw
 have h0:atA (setG e n {e.gs.getD n.toNat zd with state:=2}) x=0:=h.idle (fun _ _ hh=>hh) (by omega) x hx
 rw [h0,Nat.zero_add]
 have hget:(setG e n {e.gs.getD n.toNat zd with state:=2}).gs.getD n.toNat zd={e.gs.getD n.toNat zd with state:=2}:=zF (by omega)
 unfold wtA
 rw [hx,if_pos ⟨hn.1,by rw [show (setG e n {e.gs.getD n.toNat zd with state:=2}).gs.length=e.gs.length from List.length_set];exact hn.2,by rw [hget]⟩,hget]
 rfl
theorem Inv.can (h:Inv p e X) {x:zaj} (hk:0≤x.chan∧x.chan<e.chans.length) (hr:zP e x=false) {w:zo} (hw:zaU x.send w=true):zeD e ⟨false,x.chan,x.send,w⟩:=by
 have hco:=h.chanOk hk
 have hci:=zbG.1 hco
 unfold zeD
 rw [if_neg (by simp)]
 rw [zP,decide_eq_true hk,Bool.true_and] at hr
 refine ⟨hk,hw,?_⟩
 show (e.chans.getD x.chan.toNat zg).closed=false∧if x.send=true then _ else _
 cases hs:x.send
 ·rw [hs,if_neg (by simp),zet,hco,Bool.true_and,Bool.or_eq_false_iff,Bool.or_eq_false_iff,decide_eq_false_iff_not,decide_eq_false_iff_not] at hr
  rw [if_neg (by simp)]
  exact ⟨hr.2.2,by show (e.chans.getD x.chan.toNat zg).buf.length=0;omega,by show (e.chans.getD x.chan.toNat zg).sends.length=0;omega⟩
 ·rw [hs,if_pos rfl,zeB,hco,Bool.true_and,Bool.or_eq_false_iff,Bool.or_eq_false_iff,decide_eq_false_iff_not,decide_eq_false_iff_not] at hr
  rw [if_pos rfl]
  exact ⟨hr.1,by show ((e.chans.getD x.chan.toNat zg).buf.length:Int)=(e.chans.getD x.chan.toNat zg).cap;omega,by show (e.chans.getD x.chan.toNat zg).recvs.length=0;omega⟩
theorem zjU {n k v:Int} {s:Bool} (hn:0≤n) (hk:-1≤k) (hv:zK v=true) (h0:s=false→v=0):zaU s ⟨n,k,v⟩=true:=by
 rw [zaU,hv,decide_eq_true ⟨hn,hk⟩]
 cases s
 ·rw [h0 rfl];rfl
 ·rfl
theorem za8.case (ha:za8 p g) (x:zaj):zK (if x.send=true then Ab.regOf g x.reg else 0)=true:=by
 split
 ·exact ha.regOf _
 ·decide
theorem zpR {n:Int} {cs:List zaj} (hd:∀ j<cs.length,zjI cs j=false):∀ k≤cs.length,(zL (zcJ g n cs) k).Pairwise (fun a b=>a.mutex=false∧b.mutex=false∧a.obj.toNat≠b.obj.toNat)
 | 0,_=>List.Pairwise.nil
 | k+1,hk=>by
   have hone:∀ {j:Nat} {a:zr},a∈zcJ g n cs j→a.mutex=false∧a.obj=(cs.getD j zE).chan∧0≤a.obj:=fun {j a} h=>by
    unfold zcJ at h
    split at h
    ·cases h
    ·rename_i h0
     rw [List.mem_singleton.1 h];exact ⟨rfl,rfl,by show 0≤(cs.getD j zE).chan;omega⟩
   rw [z6,List.pairwise_append]
   refine ⟨zpR hd k (by omega),?_,fun a ha b hb=>?_⟩
   ·unfold zcJ
    split
    ·exact List.Pairwise.nil
    ·exact List.pairwise_singleton _ _
   ·obtain ⟨j,hj,ha⟩:=zcm.1 ha
    obtain ⟨a1,a2,a3⟩:=hone ha
    obtain ⟨b1,b2,b3⟩:=hone hb
    refine ⟨a1,b1,fun hh=>?_⟩
    have:a.obj=b.obj:=by omega
    exact zlQ (by omega) hj (b2 ▸ b3) (a2.symm.trans (this.trans b2)) (hd k (by omega))
theorem Inv.wait1 (h:Inv p e (fun _=>False)) {n:Int} (hn:0≤n∧n<e.gs.length) (hs:(e.gs.getD n.toNat zd).state=1) (hop:(zb p (e.gs.getD n.toNat zd)).op=8∨(zb p (e.gs.getD n.toNat zd)).op=9) (hr:zP e ⟨decide ((zb p (e.gs.getD n.toNat zd)).op=8),(zb p (e.gs.getD n.toNat zd)).a,(zb p (e.gs.getD n.toNat zd)).b,(zb p (e.gs.getD n.toNat zd)).c,(e.gs.getD n.toNat zd).pc+1⟩=false):zgG p e n:=by
 have ha:=h.alive hn (.inl hs)
 have hi:=(zaT h.prog ha.pc).ins
 rw [zap] at hi
 have hcl:=h.cl
 refine ⟨by rw [zdo,decide_eq_true_eq];omega,fun a hm=>?_,?_⟩
 ·unfold zw at hm
  repeat' split at hm
  ·rename_i hc
   rw [List.mem_singleton.1 hm]
   rw [decide_eq_true hc.1] at hr
   exact h.can (x:=⟨true,(zb p (e.gs.getD n.toNat zd)).a,(zb p (e.gs.getD n.toNat zd)).b,(zb p (e.gs.getD n.toNat zd)).c,(e.gs.getD n.toNat zd).pc+1⟩) ⟨hc.2,by show (zb p (e.gs.getD n.toNat zd)).a<_;omega⟩ hr (zjU hn.1 (by decide) (ha.regOf _) (fun h=>by cases h))
  ·rename_i hc
   rw [List.mem_singleton.1 hm]
   rw [decide_eq_false (by omega)] at hr
   exact h.can (x:=⟨false,(zb p (e.gs.getD n.toNat zd)).a,(zb p (e.gs.getD n.toNat zd)).b,(zb p (e.gs.getD n.toNat zd)).c,(e.gs.getD n.toNat zd).pc+1⟩) ⟨hc.2,by show (zb p (e.gs.getD n.toNat zd)).a<_;omega⟩ hr (zjU hn.1 (by decide) (by decide) (fun _=>rfl))
  ·omega
  ·omega
  ·cases hm
 ·unfold zw
  repeat' split
  ·exact List.pairwise_singleton _ _
  ·exact List.pairwise_singleton _ _
  ·omega
  ·exact List.pairwise_singleton _ _
  ·exact List.Pairwise.nil
theorem Inv.waitS (h:Inv p e (fun _=>False)) {n:Int} (hn:0≤n∧n<e.gs.length) (hs:(e.gs.getD n.toNat zd).state=1) (hop:(zb p (e.gs.getD n.toNat zd)).op=11) (hels:(p.sels.getD (zb p (e.gs.getD n.toNat zd)).a.toNat zh).els<0) (hr:∀ k<(p.sels.getD (zb p (e.gs.getD n.toNat zd)).a.toNat zh).cases.length,zP e ((p.sels.getD (zb p (e.gs.getD n.toNat zd)).a.toNat zh).cases.getD k zE)=false):zgG p e n:=by
 have ha:=h.alive hn (.inl hs)
 have hi:=zaT h.prog ha.pc
 obtain ⟨hsel,h4,_⟩:=hi.sel hop
 have hcl:=h.cl
 have hpl:zw p (e.gs.getD n.toNat zd) n=zg6 (e.gs.getD n.toNat zd) n (p.sels.getD (zb p (e.gs.getD n.toNat zd)).a.toNat zh).cases:=by
  unfold zw
  rw [if_neg (by omega),if_neg (by omega),if_pos hop]
 refine ⟨by rw [zdo,decide_eq_true_eq];exact .inr (.inr (.inr ⟨hop,hels⟩)),fun a hm=>?_,?_⟩
 ·rw [hpl] at hm
  obtain ⟨k,hk,hm⟩:=zcm.1 hm
  have hcs:=zgt hsel hk
  unfold zcJ at hm
  split at hm
  ·cases hm
  ·rename_i hch
   rw [List.mem_singleton.1 hm]
   refine h.can ⟨by omega,by omega⟩ (hr k hk) (zjU hn.1 (by omega) (ha.case _) fun hh=>by rw [hh];rfl)
 ·rw [hpl]
  exact zpR (fun j hj=>(zgt hsel hj).2.2.2.2) _ (Nat.le_refl _)
theorem Inv.waitL (h:Inv p e (fun _=>False)) {n:Int} (hn:0≤n∧n<e.gs.length) (hs:(e.gs.getD n.toNat zd).state=1) (hop:(zb p (e.gs.getD n.toNat zd)).op=12) (h1:(e.mus.getD (zb p (e.gs.getD n.toNat zd)).a.toNat zj).owner≠n) (h2:(e.mus.getD (zb p (e.gs.getD n.toNat zd)).a.toNat zj).owner≠-1):zgG p e n:=by
 have ha:=h.alive hn (.inl hs)
 have hi:=(zaT h.prog ha.pc).ins
 rw [zap] at hi
 have hml:=h.ml
 have hpl:zw p (e.gs.getD n.toNat zd) n=[⟨true,(zb p (e.gs.getD n.toNat zd)).a,false,⟨n,-1,0⟩⟩]:=by
  unfold zw
  rw [if_neg (by omega),if_neg (by omega),if_neg (by omega),if_pos hop]
 have hob:0≤(zb p (e.gs.getD n.toNat zd)).a∧(zb p (e.gs.getD n.toNat zd)).a<e.mus.length:=by omega
 refine ⟨by rw [zdo,decide_eq_true_eq];omega,fun a hm=>?_,by rw [hpl];exact List.pairwise_singleton _ _⟩
 rw [hpl] at hm
 rw [List.mem_singleton.1 hm]
 unfold zeD
 rw [if_pos rfl]
 refine ⟨hob,⟨hn.1,fun hw=>?_,h1,h2⟩,rfl,rfl,rfl⟩
 have h0:=h.idle (n:=n) (fun _ _ hh=>hh) (by omega) ⟨true,(zb p (e.gs.getD n.toNat zd)).a,false,⟨n,-1,0⟩⟩ rfl
 unfold atA at h0
 rw [if_neg (by show ¬ (zb p (e.gs.getD n.toNat zd)).a<0;omega),if_pos rfl,if_pos ⟨rfl,rfl,rfl⟩] at h0
 have:=zhY.2 hw
 simp only at h0 this
 omega
theorem za8.goOn (ha:za8 p g) {i:zbl} (hi:zcr i=true∧i.kind≠9∧i.kind≠10) (hto:g.pc+1<zZ p g.proc):zbf p (zbg g i)=true∧(zbg g i).state≠2:=by
 have h1:za8 p (zbg g i):=((ha.tell hi).goto ⟨by have:=ha.pc.1;omega,hto⟩).state 1
 exact ⟨h1.ok (.inl rfl),by show (1:Int)≠2;decide⟩
theorem zoY {k o:Int} (hk:k=3∨k=5∨k=6) (ho:0≤o):zcr ⟨k,o,0,false⟩=true∧(⟨k,o,0,false⟩:zbl).kind≠9∧(⟨k,o,0,false⟩:zbl).kind≠10:=by
 refine ⟨?_,by show k≠9;omega,by show k≠10;omega⟩
 rw [zcr,decide_eq_true_eq,zeA];simp;omega
theorem Inv.lockE (h:Inv p e (fun _=>False)) {n mu:Int} (hn:0≤n∧n<e.gs.length) (hs:(e.gs.getD n.toNat zd).state=1) (hk:0≤mu∧mu<e.mus.length) (hto:(e.gs.getD n.toNat zd).pc+1<zZ p (e.gs.getD n.toNat zd).proc) (ho:(e.mus.getD mu.toNat zj).owner=n∨(e.mus.getD mu.toNat zj).owner=-1):Inv p (lockE e n mu) (fun _=>False):=by
 have ha:=h.alive hn (.inl hs)
 unfold Ab.lockE
 by_cases hc:(e.mus.getD mu.toNat zj).owner=n
 ·rw [if_pos hc]
  obtain ⟨h1,h2⟩:=ha.over (y:=4) (by omega)
  exact h.go hn hs (fun x _ hx=>hx) h1 (by omega)
 rw [if_neg hc]
 have ho:(e.mus.getD mu.toNat zj).owner=-1:=ho.resolve_left hc
 obtain ⟨hmo,_⟩:=h.muOk hk
 have hmi:=zcG.1 hmo
 have hw:=hmi.2.1 ho
 have hl:zcT (e.mus.getD mu.toNat zj) n=({e.mus.getD mu.toNat zj with owner:=n},true,true):=by
  unfold zcT
  rw [if_pos ⟨hmo,hn.1,by rw [hw];simp⟩,if_neg hc,if_pos ho]
 rw [hl]
 obtain ⟨g1,g2⟩:=ha.goOn (zoY (k:=5) (by omega) hk.1) hto
 refine Inv.go (h.mut (m:={e.mus.getD mu.toNat zj with owner:=n}) hk ?_ hn.2 (fun g _=>rfl) (fun _ hx=>hx)) hn hs (fun x _ hx=>hx) g1 g2
 rw [zcG]
 show -1≤n∧(n=-1→_)∧(∀ g∈(e.mus.getD mu.toNat zj).wait,_)∧_
 exact ⟨by omega,fun _=>hw,fun g hg=>(by rw [hw] at hg;cases hg),hmi.2.2.2⟩
theorem Inv.unlockE (h:Inv p e (fun _=>False)) {n mu:Int} (hn:0≤n∧n<e.gs.length) (hs:(e.gs.getD n.toNat zd).state=1) (hk:0≤mu∧mu<e.mus.length) (hto:(e.gs.getD n.toNat zd).pc+1<zZ p (e.gs.getD n.toNat zd).proc):Inv p (unlockE e n mu) (fun _=>False):=by
 have ha:=h.alive hn (.inl hs)
 obtain ⟨hmo,hown⟩:=h.muOk hk
 have hmi:=zcG.1 hmo
 unfold Ab.unlockE zbF
 by_cases hc:¬ n=(e.mus.getD mu.toNat zj).owner
 ·rw [if_neg (fun hh=>hc hh.2.2)]
  obtain ⟨h1,h2⟩:=ha.over (y:=3) (by omega)
  show Inv p (if false=false then _ else _) _
  rw [if_pos rfl]
  exact h.go hn hs (fun x _ hx=>hx) h1 (by omega)
 have hc:=Decidable.not_not.1 hc
 rw [if_pos ⟨hmo,hn.1,hc⟩]
 obtain ⟨g1,g2⟩:=ha.goOn (zoY (k:=6) (by omega) hk.1) hto
 by_cases hl:¬ 0<(e.mus.getD mu.toNat zj).wait.length
 ·rw [if_neg hl]
  show Inv p (if true=false then _ else if (-1:Int)<0 then _ else _) _
  rw [if_neg (by simp),if_pos (by decide)]
  have hw:(e.mus.getD mu.toNat zj).wait=[]:=List.length_eq_zero_iff.1 (by omega)
  refine Inv.go (h.mut (m:=⟨-1,(e.mus.getD mu.toNat zj).wait⟩) hk ?_ (by show (-1:Int)<_;omega) (fun g _=>rfl) (fun _ hx=>hx)) hn hs (fun x _ hx=>hx) g1 g2
  rw [zcG,hw]
  exact ⟨by decide,fun _=>rfl,fun g hg=>(by cases hg),List.nodup_nil⟩
 have hl:=Decidable.not_not.1 hl
 rw [if_pos hl]
 generalize hwt:(e.mus.getD mu.toNat zj).wait=wt at *
 cases wt with
 | nil=>cases hl
 | cons a zd9=>
   show Inv p (if true=false then _ else if a<0 then _ else zbk (zbk (setMu e mu ⟨a,zd9⟩) n _) a _) _
   have hh:=hmi.2.2.1 a List.mem_cons_self
   rw [if_neg (by simp),if_neg (by omega)]
   have hnd:=List.nodup_cons.1 hmi.2.2.2
   -- who waits first
   have hat:0<atA e ⟨true,mu,false,⟨a,-1,0⟩⟩:=by
    unfold atA
    rw [if_neg (by show ¬ mu<0;omega),if_pos rfl,if_pos ⟨rfl,rfl,rfl⟩,hwt]
    exact zhY.2 List.mem_cons_self
   rw [h.cnt _ id] at hat
   obtain ⟨ha0,hast,hamem⟩:=zhy hat
   have ha0:0≤a∧a<e.gs.length:=ha0
   have hast:(e.gs.getD a.toNat zd).state=2:=hast
   have hamem:(⟨true,mu,false,⟨a,-1,0⟩⟩:zr)∈zw p (e.gs.getD a.toNat zd) a:=hamem
   have hane:a≠n:=fun hh=>by rw [hh] at hast;omega
   have hal:=h.alive ha0 (.inr hast)
   have hpl:zw p (e.gs.getD a.toNat zd) a=[⟨true,mu,false,⟨a,-1,0⟩⟩]∧(zb p (e.gs.getD a.toNat zd)).op=12:=by
    have hop:(zb p (e.gs.getD a.toNat zd)).op=12:=by
     by_cases h89:(zb p (e.gs.getD a.toNat zd)).op=8∨(zb p (e.gs.getD a.toNat zd)).op=9∨(zb p (e.gs.getD a.toNat zd)).op=11
     ·exact absurd hamem (zpm h89 rfl)
     ·unfold zw at hamem
      rw [if_neg (by omega),if_neg (by omega),if_neg (by omega)] at hamem
      split at hamem
      ·assumption
      ·cases hamem
    unfold zw at hamem ⊢
    rw [if_neg (by omega),if_neg (by omega),if_neg (by omega),if_pos hop] at hamem ⊢
    have:=List.mem_singleton.1 hamem
    exact ⟨by rw [← this],hop⟩
   have hato:(e.gs.getD a.toNat zd).pc+1<zZ p (e.gs.getD a.toNat zd).proc:=(zaT h.prog hal.pc).last (by omega) (by omega)
   have h1:Inv p (setMu e mu ⟨a,zd9⟩) (fun x=>x=⟨true,mu,false,⟨a,-1,0⟩⟩):=by
    refine h.mut hk ?_ ha0.2 (fun g hg=>?_) fun _ hx=>hx.elim
    ·rw [zcG]
     exact ⟨by show -1≤a;omega,fun hh1=>by have hh1:a=-1:=hh1;omega,fun g hg=>⟨(hmi.2.2.1 g (List.mem_cons_of_mem _ hg)).1,fun hga=>hnd.1 (by have hga:g=a:=hga;exact hga ▸ hg)⟩,hnd.2⟩
    ·show zgM zd9 g=_
     rw [hwt,zgM,zgM,List.countP_cons]
     have:¬ g=a:=fun hh=>hg (by rw [hh])
     simp [this]
   have h2:=h1.go (n:=n) hn hs (fun x hx hh=>by rw [hh] at hx;exact hane hx) g1 g2
   obtain ⟨q1,q2⟩:=hal.goOn (zoY (k:=5) (by omega) hk.1) hato
   have hga:(zbk (setMu e mu ⟨a,zd9⟩) n ⟨6,mu,0,false⟩).gs.getD a.toNat zd=e.gs.getD a.toNat zd:=z4 (by omega)
   have hgl:(zbk (setMu e mu ⟨a,zd9⟩) n ⟨6,mu,0,false⟩).gs.length=e.gs.length:=List.length_set
   show Inv p (setG (zbk (setMu e mu ⟨a,zd9⟩) n ⟨6,mu,0,false⟩) a (zbg ((zbk (setMu e mu ⟨a,zd9⟩) n ⟨6,mu,0,false⟩).gs.getD a.toNat zd) ⟨5,mu,0,false⟩)) _
   rw [hga]
   refine (Inv.put h2 (by rw [show (setG (setMu e mu ⟨a,zd9⟩) n (zbg (e.gs.getD n.toNat zd) ⟨6,mu,0,false⟩)).gs.length=e.gs.length from List.length_set];exact ha0) q1 q2 fun x hx=>?_).mono fun x hx=>hx.2 (by rw [hx.1])
   by_cases hxe:x=⟨true,mu,false,⟨a,-1,0⟩⟩
   ·rw [hxe]
    unfold atA
    rw [if_neg (by show ¬ mu<0;omega),if_pos rfl,if_pos ⟨rfl,rfl,rfl⟩]
    show zgM ((e.mus.set mu.toNat ⟨a,zd9⟩).getD mu.toNat zj).wait a=0
    rw [zF (by omega)]
    exact zsc hnd.1
   ·rw [h2.cnt x hxe]
    unfold wtA
    split
    ·rw [hx]
     show zar (zw p ((zbk (setMu e mu ⟨a,zd9⟩) n ⟨6,mu,0,false⟩).gs.getD a.toNat zd) a) x=0
     rw [hga,hpl.1]
     exact zh0 fun hm=>hxe (List.mem_singleton.1 hm)
    ·rfl
end
section
variable {p:zn} {e:zz} {X Y:zr→Prop} {g:zW}
theorem zwe (hp:zaa p=true) {k:Int} (hk:0≤k∧k<p.procs.length):0<zZ p k:=by
 have hq:=hp
 simp only [zaa,Bool.and_eq_true,List.all_eq_true,List.mem_range] at hq
 have h:=hq.2.2.2 k.toNat (by omega)
 simp only [zcY,Bool.and_eq_true,decide_eq_true_eq] at h
 rw [zZ,if_pos hk]
 omega
theorem Inv.push (h:Inv p e (fun _=>False)) (hl:e.gs.length<10) (hok:zbf p g=true) (hs:g.state≠2):Inv p {e with gs:=e.gs++[g]} (fun _=>False):=by
 have hlen:(e.gs++[g]).length=e.gs.length+1:=by rw [List.length_append,List.length_singleton]
 refine ⟨h.prog,by rw [hlen];omega,h.cl,h.ml,h.ch,fun k hk=>?_,fun k hk=>?_,fun x hx=>?_⟩
 ·have:=h.mu k hk
  rw [Ab.muOk,Bool.and_eq_true,decide_eq_true_eq] at this ⊢
  refine ⟨this.1,?_⟩
  show (e.mus.getD k zj).owner<((e.gs++[g]).length:Int)
  rw [hlen];omega
 ·have hk:k<(e.gs++[g]).length:=hk
  rw [hlen] at hk
  unfold zdj
  show (zbf p ((e.gs++[g]).getD k zd) && (!decide (((e.gs++[g]).getD k zd).state=2) || zdo p ((e.gs++[g]).getD k zd)))=true
  by_cases hlt:k<e.gs.length
  ·rw [List.getD_eq_getElem?_getD,List.getElem?_append_left hlt,← List.getD_eq_getElem?_getD]
   exact h.g k hlt
  ·have:k=e.gs.length:=by omega
   subst this
   rw [List.getD_eq_getElem?_getD,List.getElem?_append_right (Nat.le_refl _),Nat.sub_self]
   show (zbf p g && (!decide (g.state=2) || zdo p g))=true
   rw [hok,decide_eq_false hs];rfl
 ·show atA e x=_
  rw [h.cnt x hx]
  unfold wtA
  show _=if 0≤x.w.g∧x.w.g<((e.gs++[g]).length:Int)∧((e.gs++[g]).getD x.w.g.toNat zd).state=2 then zar (zw p ((e.gs++[g]).getD x.w.g.toNat zd) x.w.g) x else 0
  rw [hlen]
  by_cases h0:0≤x.w.g
  ·by_cases hlt:x.w.g<e.gs.length
   ·rw [List.getD_eq_getElem?_getD (l:=e.gs++[g]),List.getElem?_append_left (by omega),← List.getD_eq_getElem?_getD]
    by_cases h2:(e.gs.getD x.w.g.toNat zd).state=2
    ·rw [if_pos ⟨h0,hlt,h2⟩,if_pos ⟨h0,by omega,h2⟩]
    ·rw [if_neg (fun hh=>h2 hh.2.2),if_neg (fun hh=>h2 hh.2.2)]
   ·rw [if_neg (fun hh=>hlt hh.2.1),if_neg]
    rintro ⟨_,q1,q2⟩
    have:x.w.g.toNat=e.gs.length:=by omega
    rw [this,List.getD_eq_getElem?_getD,List.getElem?_append_right (Nat.le_refl _),Nat.sub_self] at q2
    exact hs q2
  ·rw [if_neg (fun hh=>h0 hh.1),if_neg (fun hh=>h0 hh.1)]
theorem Inv.throughE (h:Inv p e (fun _=>False)) {n:Int} {x:zaj} (hn:0≤n∧n<e.gs.length) (hs:(e.gs.getD n.toNat zd).state=1) (hr:zP e x=true) (hto:0≤x.to∧x.to<zZ p (e.gs.getD n.toNat zd).proc):Inv p (throughE p e n x) (fun _=>False):=by
 rw [zP,Bool.and_eq_true,decide_eq_true_eq] at hr
 obtain ⟨hk,hr⟩:=hr
 unfold Ab.throughE
 split
 ·rename_i hc
  rw [if_pos hc] at hr
  exact h.sendE hn hs hk hr hto
 ·rename_i hc
  rw [if_neg hc] at hr
  exact h.recvE hn hs hk hr hto
theorem zg5 {c:Int} {l:Nat} (hl:0<l):0≤zV c l∧zV c l<l:=by
 unfold zV
 rw [if_neg (by omega)]
 exact ⟨Int.emod_nonneg _ (by omega),Int.emod_lt_of_pos _ (by omega)⟩
theorem zfV {cs:List zaj} {k:Int} (h:k∈zX e cs):(0≤k∧k<cs.length)∧zP e (cs.getD k.toNat zE)=true:=by
 obtain ⟨j,hj,hm⟩:=zcm.1 h
 unfold zcP at hm
 split at hm
 ·rename_i hc
  rw [List.mem_singleton.1 hm]
  exact ⟨⟨by omega,by omega⟩,hc⟩
 ·cases hm
theorem zkF {cs:List zaj} (h:¬ 0<(zX e cs).length):∀ k<cs.length,zP e (cs.getD k zE)=false:=fun k hk=>by
 cases hc:zP e (cs.getD k zE)
 ·rfl
 ·exfalso
  have:(k:Int)∈zX e cs:=zcm.2 ⟨k,hk,by unfold zcP;rw [if_pos hc];exact List.mem_singleton.2 rfl⟩
  exact h (List.length_pos_of_mem this)
theorem Inv.chooseE (h:Inv p e (fun _=>False)) {n c:Int} (hn:0≤n∧n<e.gs.length) (hs:(e.gs.getD n.toNat zd).state=1) (hop:(zb p (e.gs.getD n.toNat zd)).op=11):Inv p (chooseE p e n c).1 (fun _=>False):=by
 have ha:=h.alive hn (.inl hs)
 have hi:=zaT h.prog ha.pc
 obtain ⟨hsel,h4,h5⟩:=hi.sel hop
 have hin:=hi.ins
 rw [zap] at hin
 have htell:∀ k:Int,-1≤k→za8 p (tell (e.gs.getD n.toNat zd) ⟨4,(zb p (e.gs.getD n.toNat zd)).a,k,false⟩):=fun k hk=>by
  refine ha.tell ⟨?_,by simp,by simp⟩
  have:0≤(zb p (e.gs.getD n.toNat zd)).a:=by omega
  rw [zcr,decide_eq_true_eq,zeA];simp [-List.getD_eq_getElem?_getD];omega
 unfold Ab.chooseE
 simp only
 generalize hg:e.gs.getD n.toNat zd=g at *
 generalize hsl:p.sels.getD (zb p g).a.toNat zh=s at *
 by_cases hl:0<(zX e s.cases).length
 ·rw [if_pos hl]
  have hm:=zg5 (c:=c) hl
  have hk:=zfV (za6 (d:=(0:Int)) (l:=zX e s.cases) (i:=(zV c (zX e s.cases).length).toNat) (by omega))
  generalize hkk:(zX e s.cases).getD (zV c (zX e s.cases).length).toNat 0=k at *
  have h1:Inv p (setG e n (tell g ⟨4,(zb p g).a,k,false⟩)) (fun _=>False):=h.go hn (by rw [hg];exact hs) (fun x _ hx=>hx) ((htell k (by omega)).ok (.inl hs)) (by show g.state≠2;omega)
  have hget:(setG e n (tell g ⟨4,(zb p g).a,k,false⟩)).gs.getD n.toNat zd=tell g ⟨4,(zb p g).a,k,false⟩:=zF (by omega)
  refine h1.throughE (by rw [show (setG e n (tell g ⟨4,(zb p g).a,k,false⟩)).gs.length=e.gs.length from List.length_set];exact hn) (by rw [hget];exact hs) hk.2 ?_
  rw [hget]
  exact (zgt hsel (by omega)).1
 ·rw [if_neg hl]
  by_cases hels:s.els<0
  ·rw [if_pos hels]
   refine h.waitE hn (by rw [hg];exact hs) (h.waitS hn (by rw [hg];exact hs) (by rw [hg];exact hop) (by rw [hg,hsl];exact hels) ?_)
   rw [hg,hsl]
   exact zkF hl
  ·rw [if_neg hels]
   have hels2:s.els<zZ p g.proc:=by
    rw [zb8,Bool.and_eq_true,zds,decide_eq_true_eq] at hsel
    exact hsel.2.2
   have h6:za8 p {tell g ⟨4,(zb p g).a,-1,false⟩ with pc:=s.els}:=(htell (-1) (by omega)).goto ⟨by omega,hels2⟩
   exact h.go hn (by rw [hg];exact hs) (fun x _ hx=>hx) (h6.ok (.inl hs)) (by show g.state≠2;omega)
theorem Inv.spawnE (h:Inv p e (fun _=>False)) {n:Int} (hn:0≤n∧n<e.gs.length) (hs:(e.gs.getD n.toNat zd).state=1) (hop:(zb p (e.gs.getD n.toNat zd)).op=14):Inv p (spawnE p e n (zb p (e.gs.getD n.toNat zd))) (fun _=>False):=by
 have ha:=h.alive hn (.inl hs)
 have hi:=zaT h.prog ha.pc
 have hin:=hi.ins
 rw [zap] at hin
 have hto:=hi.last (by omega) (by omega)
 unfold Ab.spawnE
 simp only
 by_cases hc:e.gs.length=10
 ·rw [if_pos hc]
  obtain ⟨h1,h2⟩:=ha.over (y:=5) (by omega)
  exact h.go hn hs (fun x _ hx=>hx) h1 (by omega)
 rw [if_neg hc]
 have hlen:=h.len
 have hia:0≤(zb p (e.gs.getD n.toNat zd)).a∧(zb p (e.gs.getD n.toNat zd)).a<p.procs.length:=by omega
 obtain ⟨g1,g2⟩:=ha.goOn (i:=⟨7,(zb p (e.gs.getD n.toNat zd)).a,e.gs.length,false⟩) ⟨by rw [zcr,decide_eq_true_eq,zeA];simp [-List.getD_eq_getElem?_getD];omega,by simp,by simp⟩ hto
 have hv:=ha.regOf (zb p (e.gs.getD n.toNat zd)).b
 have hnew:za5 (zb p (e.gs.getD n.toNat zd)).a (regOf (e.gs.getD n.toNat zd) (zb p (e.gs.getD n.toNat zd)).b)=⟨(zb p (e.gs.getD n.toNat zd)).a,0,[regOf (e.gs.getD n.toNat zd) (zb p (e.gs.getD n.toNat zd)).b,0,0,0,0,0],1,[]⟩:=by
  unfold za5
  rw [decide_eq_true hia.1,hv];rfl
 have hal:za8 p ⟨(zb p (e.gs.getD n.toNat zd)).a,0,[regOf (e.gs.getD n.toNat zd) (zb p (e.gs.getD n.toNat zd)).b,0,0,0,0,0],1,[]⟩:=by
  refine ⟨⟨Int.le_refl _,zwe h.prog hia⟩,rfl,fun v hv1=>?_,fun i hi=>by cases hi⟩
  rcases List.mem_cons.1 hv1 with rfl | hv1
  ·exact hv
  ·have:v=0:=by simpa using hv1
   rw [this];decide
 have h1:=h.go hn hs (fun x _ hx=>hx) g1 g2
 rw [hnew]
 exact h1.push (by rw [show (setG e n _).gs.length=e.gs.length from List.length_set];omega) (hal.ok (.inl rfl)) (by show (1:Int)≠2;decide)
theorem Inv.doE (h:Inv p e (fun _=>False)) {n c:Int} (hn:0≤n∧n<e.gs.length) (hs:(e.gs.getD n.toNat zd).state=1) (hsh:zbr (zb p (e.gs.getD n.toNat zd)).op=true):Inv p (doE p e n c).1 (fun _=>False):=by
 have ha:=h.alive hn (.inl hs)
 have hi:=zaT h.prog ha.pc
 have hin:=hi.ins
 rw [zap] at hin
 rw [zbr,decide_eq_true_eq] at hsh
 have hlast:=hi.last
 have hcl:=h.cl
 have hml:=h.ml
 have hpc:=ha.pc
 unfold Ab.doE
 simp only
 by_cases h11:(zb p (e.gs.getD n.toNat zd)).op=11
 ·rw [if_pos h11];exact h.chooseE hn hs h11
 rw [if_neg h11]
 by_cases h89:(zb p (e.gs.getD n.toNat zd)).op=8∨(zb p (e.gs.getD n.toNat zd)).op=9
 ·rw [if_pos h89]
  show Inv p (if _ then _ else _) _
  split
  ·rename_i hr
   exact h.throughE hn hs hr ⟨by show 0≤(e.gs.getD n.toNat zd).pc+1;omega,hlast (by omega) (by omega)⟩
  ·rename_i hr
   exact h.waitE hn hs (h.wait1 hn hs h89 (by simpa only [Bool.not_eq_true] using hr))
 rw [if_neg h89]
 by_cases h10:(zb p (e.gs.getD n.toNat zd)).op=10
 ·rw [if_pos h10]
  exact h.closeE hn hs (by omega) (hlast (by omega) (by omega))
 rw [if_neg h10]
 by_cases h12:(zb p (e.gs.getD n.toNat zd)).op=12
 ·rw [if_pos h12]
  show Inv p (if _ then _ else _) _
  split
  ·rename_i ho
   exact h.lockE hn hs (by omega) (hlast (by omega) (by omega)) ho
  ·rename_i ho
   exact h.waitE hn hs (h.waitL hn hs h12 (fun hh=>ho (.inl hh)) (fun hh=>ho (.inr hh)))
 rw [if_neg h12]
 by_cases h13:(zb p (e.gs.getD n.toNat zd)).op=13
 ·rw [if_pos h13]
  exact h.unlockE hn hs (by omega) (hlast (by omega) (by omega))
 rw [if_neg h13]
 by_cases h14:(zb p (e.gs.getD n.toNat zd)).op=14
 ·rw [if_pos h14]
  exact h.spawnE hn hs h14
 rw [if_neg h14]
 have hv:=ha.regOf (zb p (e.gs.getD n.toNat zd)).a
 obtain ⟨g1,g2⟩:=ha.goOn (i:=⟨8,0,regOf (e.gs.getD n.toNat zd) (zb p (e.gs.getD n.toNat zd)).a,false⟩) ⟨by
  rw [zK,decide_eq_true_eq] at hv
  rw [zcr,decide_eq_true_eq,zeA];simp [-List.getD_eq_getElem?_getD];omega,by simp,by simp⟩ (hlast (by omega) (by omega))
 exact h.go hn hs (fun x _ hx=>hx) g1 g2
theorem ztM (hp:zaa p=true) (ha:za8 p g) (hs:g.state=1) (ho:¬ zbr (zb p g).op=true):zbf p (zcN p g)=true∧(zcN p g).state≠2:=by
 have hi:=zaT hp ha.pc
 have hin:=hi.ins
 rw [zap] at hin
 rw [zbr,decide_eq_true_eq] at ho
 have hlast:=hi.last
 have hpc:=ha.pc
 unfold zcN
 by_cases h1:(zb p g).op=1
 ·rw [if_pos h1]
  obtain ⟨h1,h2⟩:=ha.over (y:=0) (by omega)
  exact ⟨h1,by omega⟩
 rw [if_neg h1]
 by_cases h6:(zb p g).op=6
 ·rw [if_pos h6]
  exact ⟨(ha.goto (by omega)).ok (.inl hs),by show g.state≠2;omega⟩
 rw [if_neg h6]
 have hnext:=hlast h1 h6
 by_cases h7:(zb p g).op=7
 ·rw [if_pos h7]
  split
  ·exact ⟨(ha.goto (by omega)).ok (.inl hs),by show g.state≠2;omega⟩
  ·exact ⟨(ha.goto (by omega)).ok (.inl hs),by show g.state≠2;omega⟩
 rw [if_neg h7]
 have key:∀ r v:Int,zbf p {zbq g r v with pc:=g.pc+1}=true∧({zbq g r v with pc:=g.pc+1}:zW).state≠2:=fun r v=>by
  obtain ⟨q1,q2,q3⟩:=zhQ g r v
  have h8:za8 p {zbq g r v with pc:=g.pc+1}:=(ha.reg r v).goto ⟨by omega,by rw [q1];exact hnext⟩
  have h9:({zbq g r v with pc:=g.pc+1}:zW).state=1:=q3.trans hs
  exact ⟨h8.ok (.inl h9),by rw [h9];decide⟩
 split
 ·exact key _ _
 ·exact key _ _
theorem zuh (h:zay p e=true) {n c:Int} (hn:0≤n∧n<e.gs.length) (hs:(e.gs.getD n.toNat zd).state=1):zay p (zbT p e n c).1=true:=by
 rw [zaM] at h ⊢
 unfold zbT
 simp only
 split
 ·rename_i hsh
  exact h.doE hn hs hsh
 ·rename_i hsh
  have ha:=h.alive hn (.inl hs)
  obtain ⟨h1,h2⟩:=ztM h.prog ha hs hsh
  exact h.go hn hs (fun x _ hx=>hx) h1 h2
end
section
variable {p:zn} {e:zz} {n:Nat}
theorem zp.le {m:Nat} (h:zp e n) (hm:n≤m):zp e m:=
 ⟨Nat.le_trans h.gs hm,Nat.le_trans h.chans hm,Nat.le_trans h.mus hm,fun i hi=>⟨Nat.le_trans (h.g i hi).1 hm,Nat.le_trans (h.g i hi).2 hm⟩,fun i hi=>⟨Nat.le_trans (h.c i hi).1 hm,Nat.le_trans (h.c i hi).2.1 hm,Nat.le_trans (h.c i hi).2.2 hm⟩,fun i hi=>Nat.le_trans (h.m i hi) hm⟩
theorem zp.setG (h:zp e n) {k:Int} {g:zW} (hg:g.regs.length≤n∧g.trace.length≤n):zp (setG e k g) n:=by
 have hl:(Ab.setG e k g).gs.length=e.gs.length:=List.length_set
 refine ⟨by rw [hl];exact h.gs,h.chans,h.mus,fun i hi=>?_,h.c,h.m⟩
 rw [hl] at hi
 show ((e.gs.set k.toNat g).getD i zd).regs.length≤n∧((e.gs.set k.toNat g).getD i zd).trace.length≤n
 by_cases hk:k.toNat=i
 ·subst hk;rw [zF hi];exact hg
 ·rw [z4 hk];exact h.g i hi
theorem zp.setC (h:zp e n) {k:Int} {c:zY} (hc:zdR c n):zp (setC e k c) n:=by
 have hl:(Ab.setC e k c).chans.length=e.chans.length:=List.length_set
 refine ⟨h.gs,by rw [hl];exact h.chans,h.mus,h.g,fun i hi=>?_,h.m⟩
 rw [hl] at hi
 show zdR ((e.chans.set k.toNat c).getD i zg) n
 by_cases hk:k.toNat=i
 ·subst hk;rw [zF hi];exact hc
 ·rw [z4 hk];exact h.c i hi
theorem zp.setMu (h:zp e n) {k:Int} {m:zal} (hm:m.wait.length≤n):zp (setMu e k m) n:=by
 have hl:(Ab.setMu e k m).mus.length=e.mus.length:=List.length_set
 refine ⟨h.gs,h.chans,by rw [hl];exact h.mus,h.g,h.c,fun i hi=>?_⟩
 rw [hl] at hi
 show ((e.mus.set k.toNat m).getD i zj).wait.length≤n
 by_cases hk:k.toNat=i
 ·subst hk;rw [zF hi];exact hm
 ·rw [z4 hk];exact h.m i hi
theorem zp.free (h:zp e n) (k:Int):zp (zfM e k) n:=by
 refine ⟨h.gs,by show (e.chans.map (zjr k)).length≤n;rw [List.length_map];exact h.chans,h.mus,h.g,fun i hi=>?_,h.m⟩
 have hi:i<(e.chans.map (zjr k)).length:=hi
 rw [List.length_map] at hi
 rw [zmg]
 obtain ⟨h1,h2,h3⟩:=h.c i hi
 exact ⟨h1,Nat.le_trans (List.length_filter_le _ _) h2,Nat.le_trans (List.length_filter_le _ _) h3⟩
theorem zp.gor (h:zp e n) {k:Int} (hk:0≤k∧k<e.gs.length):(e.gs.getD k.toNat zd).regs.length≤n∧(e.gs.getD k.toNat zd).trace.length≤n:=h.g k.toNat (by omega)
theorem zp.chan (h:zp e n) {k:Int} (hk:0≤k∧k<e.chans.length):zdR (e.chans.getD k.toNat zg) n:=h.c k.toNat (by omega)
theorem zp.mut (h:zp e n) {k:Int} (hk:0≤k∧k<e.mus.length):(e.mus.getD k.toNat zj).wait.length≤n:=h.m k.toNat (by omega)
theorem zcH (g:zW) (i:zbl):(tell g i).regs.length=g.regs.length∧(tell g i).trace.length=g.trace.length+1:=⟨rfl,by simp [tell]⟩
theorem zmK (g:zW) (y:Int):(over g y).regs.length=g.regs.length∧(over g y).trace.length=g.trace.length+1:=by
 unfold over;split<;>exact ⟨rfl,by simp [tell]⟩
theorem zlq (g:zW) (ch v:Int) (ok:Bool) (a b:Int):(zcj g ch v ok a b).regs.length=g.regs.length∧(zcj g ch v ok a b).trace.length=g.trace.length+1:=by
 unfold zcj
 have h1:=zc8 (zbq (tell g ⟨2,ch,if ok then v else 0,ok⟩) a (if ok then v else 0)) b (zqg ok)
 have h2:=zc8 (tell g ⟨2,ch,if ok then v else 0,ok⟩) a (if ok then v else 0)
 rw [h1.1,h1.2.1,h2.1,h2.2.1]
 exact zcH g _
theorem zsA (g:zW) (ch:Int) (w:zo) (v:Int) (ok:Bool):(zeH p g ch w v ok).regs.length=g.regs.length∧(zeH p g ch w v ok).trace.length≤g.trace.length+2:=by
 have h1:∀ g1:zW,g1={(if 0≤w.cas then tell g ⟨4,(zb p g).a,w.cas,false⟩ else g) with state:=1}→g1.regs.length=g.regs.length∧g1.trace.length≤g.trace.length+1:=by
  rintro g1 rfl
  split
  ·have:=zcH g ⟨4,(zb p g).a,w.cas,false⟩;exact ⟨this.1,by show (tell g _).trace.length≤_;omega⟩
  ·exact ⟨rfl,Nat.le_succ _⟩
 unfold zeH
 simp only
 generalize hg1:({(if 0≤w.cas then tell g ⟨4,(zb p g).a,w.cas,false⟩ else g) with state:=1}:zW)=g1
 obtain ⟨a1,a2⟩:=h1 g1 hg1.symm
 split
 ·split
  ·have:=zcH g1 ⟨1,ch,w.val,false⟩
   exact ⟨this.1.trans a1,by show (tell g1 _).trace.length≤_;omega⟩
  ·have:=zmK g1 1
   exact ⟨this.1.trans a1,by omega⟩
 ·have:=zlq g1 ch v ok (zaE p g w).reg (zaE p g w).ok
  exact ⟨this.1.trans a1,by show (zcj g1 ch v ok (zaE p g w).reg (zaE p g w).ok).trace.length≤_;omega⟩
theorem zp.wake (h:zp e n) {w:zo} (hw:0≤w.g∧w.g<e.gs.length) (ch v:Int) (ok:Bool):zp (zaV p e ch w v ok) (n+2):=by
 have h1:=zsA (p:=p) (e.gs.getD w.g.toNat zd) ch w v ok
 have h2:=h.gor hw
 exact ((h.free w.g).le (by omega)).setG ⟨by omega,by omega⟩
theorem zaq {g:zW} (hp:zaa p=true) (ha:za8 p g):0≤g.pc∧g.pc<40:=by
 have h:=ha.pc
 have hpr:0≤g.proc∧g.proc<p.procs.length:=by
  have:=h.2
  unfold zZ at this
  split at this
  ·assumption
  ·omega
 have hq:=hp
 simp only [zaa,Bool.and_eq_true,List.all_eq_true,List.mem_range] at hq
 have h1:=hq.2.2.2 g.proc.toNat (by omega)
 simp only [zcY,Bool.and_eq_true,decide_eq_true_eq] at h1
 rw [zZ,if_pos hpr] at h
 omega
end
theorem zc9 {e e1:zz} {id:Nat} (h:(mm (mE e1) id).isSome=true):(mm (mE e) id).isSome=true:=by
 unfold mE at h ⊢
 simp only [zI,upd] at h ⊢
 split at h
 ·rename_i hh;rw [if_pos hh];rfl
 ·rename_i hh
  rw [if_neg hh]
  split at h
  ·rename_i h2;rw [if_pos h2];rfl
  ·rename_i h2
   rw [if_neg h2]
   split at h
   ·rename_i h3;rw [if_pos h3];rfl
   ·cases h
theorem zdV {e e1:zz}:∀ id∈zS (mE e1),(mm (mE e) id).isSome=true:=fun i hi=>by
 rcases List.mem_cons.1 hi with rfl | hi
 ·rfl
 ·rcases List.mem_cons.1 hi with rfl | hi
  ·rfl
  ·rw [List.mem_singleton.1 hi];rfl
theorem zfW {e:zz} {i:Nat} (h:hE.on i):(mm (mE e) i).isSome=true:=by
 obtain ⟨l,hl,hi⟩:=h
 rcases List.mem_cons.1 hl with rfl | hl
 ·have:1000=i:=hi
  subst this;rfl
 ·rcases List.mem_cons.1 hl with rfl | hl
  ·have:1001=i:=hi
   subst this;rfl
  ·rw [List.mem_singleton.1 hl] at hi
   have:1002=i:=hi
   subst this;rfl
theorem zeL {e:zz} {i:Nat} (h:(LV.tup []).on i):(mm (mE e) i).isSome=true:=by
 obtain ⟨l,hl,_⟩:=h
 cases hl
theorem zoy (e:zz) (n:Int) (h:zp e 1099511627776):Ct Tryz.prog 305 [hE,.dat (.int .i64 n)] (mE e) (zag hE [(1000,some (.row 172 5 zd zH e.gs)),(1001,some (.row 191 5 zg zae (zfM e n).chans)),(1002,some (.row 193 2 zj zO e.mus))]):=zkV e n h
theorem zdf {p:zn} {g g1:zW} {ch v:Int} {w:zo} {ok:Bool} {x:zaj} (hx:zaE p g w=x) (hg:(if 0≤w.cas then tell g ⟨4,(zb p g).a,w.cas,false⟩ else g)=g1):zeH p g ch w v ok=if x.send=true then (if ok=true then {tell {g1 with state:=1} ⟨1,ch,w.val,false⟩ with pc:=x.to} else over {g1 with state:=1} 1) else {zcj {g1 with state:=1} ch v ok x.reg x.ok with pc:=x.to}:=by
 subst hx;subst hg;rfl
set_option maxHeartbeats 8000000 in
theorem zhm (p:zn) (e:zz) (ch:Int) (w:zo) (v:Int) (ok send:Bool) (hL:zp e 1099511627776) (hp:zaa p=true) (hw:0≤w.g∧w.g<e.gs.length) (ha:za8 p (e.gs.getD w.g.toNat zd)) (hs:(e.gs.getD w.g.toNat zd).state=2) (hpl:ztk p (e.gs.getD w.g.toNat zd) ch send w) (hpc:(e.gs.getD w.g.toNat zd).pc≤1048576):Ct Tryz.prog 296 [.dagg (zQ p),hE,.dat (.int .i64 ch),.dagg (z5 w),.dat (.int .i64 v),.dat (.bool ok)] (mE e) (zag hE (mE (zaV p e ch w v ok))):=by
 have hgl:=hL.gor hw
 have hgh:=ha.head (.inr hs)
 have ha0:=hpl.a0
 have hcas:=hpl.cas
 have hpc0:=ha.pc
 refine zD (rs:=[(.cell 12 45,45)]) za Tryz.func296 rfl rfl rfl (Nat.le_of_ble_eq_true rfl) rfl fun ho hm x hn hlent=>?_
 refine zbB hn za [true,false] (zoy e w.g hL) rfl ?_ rfl rfl ⟨rfl,rfl,rfl,trivial⟩ rfl (fun i hi=>(by cases hi)) (.inl rfl) zdV ?_;exact qS;rintro r Mo ⟨rfl,rfl⟩;refine ⟨rfl,fun id hi=>.inl (zc9 (e1:=(zfM e w.g)) hi),fun id hi=>(by first | exact zfW (e:=(zfM e w.g)) hi | exact zeL (e:=(zfM e w.g)) hi),?_⟩
 refine qK hn za rfl rfl (by (first | exact con_at_spec.l09At _ _ (by assumption) | assumption)) ?_
 refine ze hn za rfl qS ?_ ?_<;>intro hc<;>first | (replace hc:=qC2 hc;try exact qX) | exact qF2 hc | skip
 ·obtain ⟨h11,hcl⟩:=hcas.2 (by omega)
  have h0:=ha0 h11
  have hx:zaE p (e.gs.getD w.g.toNat zd) w=(p.sels.getD (zb p (e.gs.getD w.g.toNat zd)).a.toNat zh).cases.getD w.cas.toNat zE:=by
   unfold zaE;rw [if_pos (by omega)]
  have hk:=zaH (e.gs.getD w.g.toNat zd) ⟨4,(zb p (e.gs.getD w.g.toNat zd)).a,w.cas,false⟩ (by omega) (by omega)
  refine qD hn za zu [] rfl rfl ?_ ?_
  ·(try refine qM ?_);repeat' (first | exact trivial | (first | exact con_at_spec.l09At _ _ (by assumption) | assumption) | assumption | omega | exact qV | refine And.intro ?_ ?_)
  refine qK hn za rfl rfl (by (first | exact con_at_spec.l09At _ _ (by assumption) | assumption)) ?_
  ((
 have hlen:({(tell (e.gs.getD w.g.toNat zd) ⟨4,(zb p (e.gs.getD w.g.toNat zd)).a,w.cas,false⟩) with state:=1}:zW).regs.length≤2199023255551∧({(tell (e.gs.getD w.g.toNat zd) ⟨4,(zb p (e.gs.getD w.g.toNat zd)).a,w.cas,false⟩) with state:=1}:zW).trace.length≤2199023255551:=⟨Nat.le_trans (Nat.le_of_eq (zcH (e.gs.getD w.g.toNat zd) ⟨4,(zb p (e.gs.getD w.g.toNat zd)).a,w.cas,false⟩).1) (by omega),Nat.le_trans (Nat.le_of_eq (zcH (e.gs.getD w.g.toNat zd) ⟨4,(zb p (e.gs.getD w.g.toNat zd)).a,w.cas,false⟩).2) (by omega)⟩
 have hov:=zce {(tell (e.gs.getD w.g.toNat zd) ⟨4,(zb p (e.gs.getD w.g.toNat zd)).a,w.cas,false⟩) with state:=1} 1 hlen.1 hlen.2
 have htl:=zaH {(tell (e.gs.getD w.g.toNat zd) ⟨4,(zb p (e.gs.getD w.g.toNat zd)).a,w.cas,false⟩) with state:=1} ⟨1,ch,w.val,false⟩ hlen.1 hlen.2
 have hgo:=ze8 {(tell (e.gs.getD w.g.toNat zd) ⟨4,(zb p (e.gs.getD w.g.toNat zd)).a,w.cas,false⟩) with state:=1} ch v ok (((p.sels.getD (zb p (e.gs.getD w.g.toNat zd)).a.toNat zh).cases.getD w.cas.toNat zE)).reg (((p.sels.getD (zb p (e.gs.getD w.g.toNat zd)).a.toNat zh).cases.getD w.cas.toNat zE)).ok hlen.1 hlen.2
 have hwk:∀ G,zeH p (e.gs.getD w.g.toNat zd) ch w v ok=G→some (Blk.row 172 5 zd zH (e.gs.set w.g.toNat G))=some (Blk.row 172 5 zd zH (zaV p e ch w v ok).gs):=fun G hG=>by rw [← hG];rfl
 refine ze hn za rfl qS ?_ ?_<;>intro hc<;>first | (replace hc:=qC2 hc;try exact qX) | exact qF2 hc | skip
 ·have hsnd:(((p.sels.getD (zb p (e.gs.getD w.g.toNat zd)).a.toNat zh).cases.getD w.cas.toNat zE)).send=true:=by first | exact hc | exact decide_eq_true hc
  refine ze hn za rfl qS ?_ ?_<;>intro hc<;>first | (replace hc:=qC2 hc;try exact qX) | exact qF2 hc | skip
  ·have hok:=hc
   refine qD hn za zu [.r (.dagg (zH (over {(tell (e.gs.getD w.g.toNat zd) ⟨4,(zb p (e.gs.getD w.g.toNat zd)).a,w.cas,false⟩) with state:=1} 1))),.raw .no [(1000,some (.row 172 5 zd zH (e.gs.set w.g.toNat (over {(tell (e.gs.getD w.g.toNat zd) ⟨4,(zb p (e.gs.getD w.g.toNat zd)).a,w.cas,false⟩) with state:=1} 1))))] none] rfl rfl ?_ ?_
   ·(try refine qM ?_);repeat' (first | exact trivial | (first | exact con_at_spec.l09At _ _ (by assumption) | assumption) | assumption | omega | exact qV | refine And.intro ?_ ?_)
    exact zab _ hn za rfl ⟨_,_,rfl,rfl,rfl⟩ rfl rfl rfl rfl rfl (Nat.le_of_ble_eq_true rfl) rfl rfl
   refine zf hn za rfl ?_ ⟨_,hE,mE (zaV p e ch w v ok),[],rfl,rfl,⟨?_,rfl,rfl,trivial⟩,rfl,rfl,rfl,rfl,rfl⟩
   ·exact qS
   ·exact hwk _ (by rw [zdf hx (if_pos (by omega)),if_pos hsnd,hok];rfl)
  ·have hok:=hc
   refine ze hn za rfl qS ?_ ?_<;>intro hc<;>first | (replace hc:=qC2 hc;try exact qX) | exact qF2 hc | skip
   all_goals (try (exfalso;rw [hsnd] at hc;cases hc;done))
   ·refine qK hn za rfl rfl (by (first | exact con_at_spec.l09At _ _ (by assumption) | assumption)) ?_
    refine zaI hn za {tell {(tell (e.gs.getD w.g.toNat zd) ⟨4,(zb p (e.gs.getD w.g.toNat zd)).a,w.cas,false⟩) with state:=1} ⟨1,ch,w.val,false⟩ with pc:=(((p.sels.getD (zb p (e.gs.getD w.g.toNat zd)).a.toNat zh).cases.getD w.cas.toNat zE)).to} rfl ?_ rfl rfl rfl rfl rfl rfl (Nat.le_of_ble_eq_true rfl) rfl ?_;(first | (exact qS) | decide | (simp only [List.length_replicate,List.length_set];decide))
    refine zf hn za rfl ?_ ⟨_,hE,mE (zaV p e ch w v ok),[],rfl,rfl,⟨?_,rfl,rfl,trivial⟩,rfl,rfl,rfl,rfl,rfl⟩
    ·exact qS
    ·exact hwk _ (by rw [zdf hx (if_pos (by omega)),if_pos hsnd,hok];rfl)
 ·have hsnd:(((p.sels.getD (zb p (e.gs.getD w.g.toNat zd)).a.toNat zh).cases.getD w.cas.toNat zE)).send=false:=by first | exact hc | exact decide_eq_false hc
  refine ze hn za rfl qS ?_ ?_<;>intro hc<;>first | (replace hc:=qC2 hc;try exact qX) | exact qF2 hc | skip
  all_goals (try (exfalso;rw [hsnd] at hc;cases hc;done))
  ·refine qK hn za rfl rfl (by (first | exact con_at_spec.l09At _ _ (by assumption) | assumption)) ?_
   refine zaI hn za {zcj {(tell (e.gs.getD w.g.toNat zd) ⟨4,(zb p (e.gs.getD w.g.toNat zd)).a,w.cas,false⟩) with state:=1} ch v ok (((p.sels.getD (zb p (e.gs.getD w.g.toNat zd)).a.toNat zh).cases.getD w.cas.toNat zE)).reg (((p.sels.getD (zb p (e.gs.getD w.g.toNat zd)).a.toNat zh).cases.getD w.cas.toNat zE)).ok with pc:=(((p.sels.getD (zb p (e.gs.getD w.g.toNat zd)).a.toNat zh).cases.getD w.cas.toNat zE)).to} rfl ?_ rfl rfl rfl rfl rfl rfl (Nat.le_of_ble_eq_true rfl) rfl ?_;(first | (exact qS) | decide | (simp only [List.length_replicate,List.length_set];decide))
   refine zf hn za rfl ?_ ⟨_,hE,mE (zaV p e ch w v ok),[],rfl,rfl,⟨?_,rfl,rfl,trivial⟩,rfl,rfl,rfl,rfl,rfl⟩
   ·exact qS
   ·exact hwk _ (by rw [zdf hx (if_pos (by omega)),hsnd];rfl)))
 ·have hx:zaE p (e.gs.getD w.g.toNat zd) w=⟨decide ((zb p (e.gs.getD w.g.toNat zd)).op=8),0,(zb p (e.gs.getD w.g.toNat zd)).b,(zb p (e.gs.getD w.g.toNat zd)).c,(e.gs.getD w.g.toNat zd).pc+1⟩:=by
   unfold zaE;rw [if_neg (by omega)]
  ((
 have hlen:({(e.gs.getD w.g.toNat zd) with state:=1}:zW).regs.length≤2199023255551∧({(e.gs.getD w.g.toNat zd) with state:=1}:zW).trace.length≤2199023255551:=⟨by show (e.gs.getD w.g.toNat zd).regs.length≤_;omega,by show (e.gs.getD w.g.toNat zd).trace.length≤_;omega⟩
 have hov:=zce {(e.gs.getD w.g.toNat zd) with state:=1} 1 hlen.1 hlen.2
 have htl:=zaH {(e.gs.getD w.g.toNat zd) with state:=1} ⟨1,ch,w.val,false⟩ hlen.1 hlen.2
 have hgo:=ze8 {(e.gs.getD w.g.toNat zd) with state:=1} ch v ok ((⟨decide ((zb p (e.gs.getD w.g.toNat zd)).op=8),0,(zb p (e.gs.getD w.g.toNat zd)).b,(zb p (e.gs.getD w.g.toNat zd)).c,(e.gs.getD w.g.toNat zd).pc+1⟩:zaj)).reg ((⟨decide ((zb p (e.gs.getD w.g.toNat zd)).op=8),0,(zb p (e.gs.getD w.g.toNat zd)).b,(zb p (e.gs.getD w.g.toNat zd)).c,(e.gs.getD w.g.toNat zd).pc+1⟩:zaj)).ok hlen.1 hlen.2
 have hwk:∀ G,zeH p (e.gs.getD w.g.toNat zd) ch w v ok=G→some (Blk.row 172 5 zd zH (e.gs.set w.g.toNat G))=some (Blk.row 172 5 zd zH (zaV p e ch w v ok).gs):=fun G hG=>by rw [← hG];rfl
 refine ze hn za rfl qS ?_ ?_<;>intro hc<;>first | (replace hc:=qC2 hc;try exact qX) | exact qF2 hc | skip
 ·have hsnd:((⟨decide ((zb p (e.gs.getD w.g.toNat zd)).op=8),0,(zb p (e.gs.getD w.g.toNat zd)).b,(zb p (e.gs.getD w.g.toNat zd)).c,(e.gs.getD w.g.toNat zd).pc+1⟩:zaj)).send=true:=by first | exact hc | exact decide_eq_true hc
  refine ze hn za rfl qS ?_ ?_<;>intro hc<;>first | (replace hc:=qC2 hc;try exact qX) | exact qF2 hc | skip
  ·have hok:=hc
   refine qD hn za zu [.r (.dagg (zH (over {(e.gs.getD w.g.toNat zd) with state:=1} 1))),.raw .no [(1000,some (.row 172 5 zd zH (e.gs.set w.g.toNat (over {(e.gs.getD w.g.toNat zd) with state:=1} 1))))] none] rfl rfl ?_ ?_
   ·(try refine qM ?_);repeat' (first | exact trivial | (first | exact con_at_spec.l09At _ _ (by assumption) | assumption) | assumption | omega | exact qV | refine And.intro ?_ ?_)
    exact zab _ hn za rfl ⟨_,_,rfl,rfl,rfl⟩ rfl rfl rfl rfl rfl (Nat.le_of_ble_eq_true rfl) rfl rfl
   refine zf hn za rfl ?_ ⟨_,hE,mE (zaV p e ch w v ok),[],rfl,rfl,⟨?_,rfl,rfl,trivial⟩,rfl,rfl,rfl,rfl,rfl⟩
   ·exact qS
   ·exact hwk _ (by rw [zdf hx (if_neg (by omega)),if_pos hsnd,hok];rfl)
  ·have hok:=hc
   refine ze hn za rfl qS ?_ ?_<;>intro hc<;>first | (replace hc:=qC2 hc;try exact qX) | exact qF2 hc | skip
   all_goals (try (exfalso;rw [hsnd] at hc;cases hc;done))
   ·refine qK hn za rfl rfl (by (first | exact con_at_spec.l09At _ _ (by assumption) | assumption)) ?_
    refine zaI hn za {tell {(e.gs.getD w.g.toNat zd) with state:=1} ⟨1,ch,w.val,false⟩ with pc:=((⟨decide ((zb p (e.gs.getD w.g.toNat zd)).op=8),0,(zb p (e.gs.getD w.g.toNat zd)).b,(zb p (e.gs.getD w.g.toNat zd)).c,(e.gs.getD w.g.toNat zd).pc+1⟩:zaj)).to} rfl ?_ rfl rfl rfl rfl rfl rfl (Nat.le_of_ble_eq_true rfl) rfl ?_;(first | (exact qS) | decide | (simp only [List.length_replicate,List.length_set];decide))
    refine zf hn za rfl ?_ ⟨_,hE,mE (zaV p e ch w v ok),[],rfl,rfl,⟨?_,rfl,rfl,trivial⟩,rfl,rfl,rfl,rfl,rfl⟩
    ·exact qS
    ·exact hwk _ (by rw [zdf hx (if_neg (by omega)),if_pos hsnd,hok];rfl)
 ·have hsnd:((⟨decide ((zb p (e.gs.getD w.g.toNat zd)).op=8),0,(zb p (e.gs.getD w.g.toNat zd)).b,(zb p (e.gs.getD w.g.toNat zd)).c,(e.gs.getD w.g.toNat zd).pc+1⟩:zaj)).send=false:=by first | exact hc | exact decide_eq_false hc
  refine ze hn za rfl qS ?_ ?_<;>intro hc<;>first | (replace hc:=qC2 hc;try exact qX) | exact qF2 hc | skip
  all_goals (try (exfalso;rw [hsnd] at hc;cases hc;done))
  ·refine qK hn za rfl rfl (by (first | exact con_at_spec.l09At _ _ (by assumption) | assumption)) ?_
   refine zaI hn za {zcj {(e.gs.getD w.g.toNat zd) with state:=1} ch v ok ((⟨decide ((zb p (e.gs.getD w.g.toNat zd)).op=8),0,(zb p (e.gs.getD w.g.toNat zd)).b,(zb p (e.gs.getD w.g.toNat zd)).c,(e.gs.getD w.g.toNat zd).pc+1⟩:zaj)).reg ((⟨decide ((zb p (e.gs.getD w.g.toNat zd)).op=8),0,(zb p (e.gs.getD w.g.toNat zd)).b,(zb p (e.gs.getD w.g.toNat zd)).c,(e.gs.getD w.g.toNat zd).pc+1⟩:zaj)).ok with pc:=((⟨decide ((zb p (e.gs.getD w.g.toNat zd)).op=8),0,(zb p (e.gs.getD w.g.toNat zd)).b,(zb p (e.gs.getD w.g.toNat zd)).c,(e.gs.getD w.g.toNat zd).pc+1⟩:zaj)).to} rfl ?_ rfl rfl rfl rfl rfl rfl (Nat.le_of_ble_eq_true rfl) rfl ?_;(first | (exact qS) | decide | (simp only [List.length_replicate,List.length_set];decide))
   refine zf hn za rfl ?_ ⟨_,hE,mE (zaV p e ch w v ok),[],rfl,rfl,⟨?_,rfl,rfl,trivial⟩,rfl,rfl,rfl,rfl,rfl⟩
   ·exact qS
   ·exact hwk _ (by rw [zdf hx (if_neg (by omega)),hsnd];rfl)))
section
variable {p:zn} {e:zz}
theorem zql (h:Inv p e (fun _=>False)) {ch v k:Int} {c:zY} {w:zo} (hk:0≤ch) (hcl:(e.chans.getD ch.toNat zg).closed=false) (hco:chanOk (e.chans.getD ch.toNat zg)=true) (hcs:zeB (e.chans.getD ch.toNat zg)=true) (hv:zK v=true) (hl:zcn (e.chans.getD ch.toNat zg) v=(c,w,k)) (hw:0≤w.g):zcO p e ch false w:=by
 unfold zcn at hl
 rw [hco,hv,if_neg (by simp),if_neg (by rw [hcl];decide),hcs,if_neg (by simp)] at hl
 split at hl
 ·rename_i hr
  cases hl
  exact h.recvW hk (za6 hr) id
 ·cases hl
  exact absurd hw (by decide)
theorem zqG (h:Inv p e (fun _=>False)) {ch v k:Int} {c:zY} {w:zo} {ok:Bool} (hk:0≤ch) (hco:chanOk (e.chans.getD ch.toNat zg)=true) (hcr:zet (e.chans.getD ch.toNat zg)=true) (hl:za7 (e.chans.getD ch.toNat zg)=(c,v,ok,w,k)) (hw:0≤w.g):zcO p e ch true w:=by
 have key:w=recvW (e.chans.getD ch.toNat zg):=by
  unfold za7 at hl
  rw [hco,hcr,if_neg (by simp),if_neg (by simp)] at hl
  split at hl<;>(cases hl;rfl)
 rw [recvW] at key
 split at key
 ·rename_i hr
  rw [key]
  exact h.sendW hk (za6 hr) id
 ·rw [key] at hw
  exact absurd hw (by decide)
theorem ziK {c c':zY} {v k:Int} {w:zo} {n:Nat} (h:zdR c n) (hl:zcn c v=(c',w,k)):zdR c' (n+1):=by
 obtain ⟨h1,h2,h3⟩:=h
 unfold zcn at hl
 repeat' split at hl
 all_goals cases hl
 ·exact ⟨Nat.zero_le _,Nat.zero_le _,Nat.zero_le _⟩
 ·exact ⟨Nat.zero_le _,Nat.zero_le _,Nat.zero_le _⟩
 ·exact ⟨Nat.zero_le _,Nat.zero_le _,Nat.zero_le _⟩
 ·exact ⟨Nat.le_succ_of_le h1,Nat.le_succ_of_le h2,by show (c.recvs.drop 1).length≤_;rw [List.length_drop];omega⟩
 ·exact ⟨by show (c.buf++[v]).length≤_;rw [List.length_append,List.length_singleton];omega,Nat.le_succ_of_le h2,Nat.le_succ_of_le h3⟩
theorem zg9 {c c':zY} {v k:Int} {ok:Bool} {w:zo} {n:Nat} (h:zdR c n) (hl:za7 c=(c',v,ok,w,k)):zdR c' (n+1):=by
 obtain ⟨h1,h2,h3⟩:=h
 have hb:(zdB c).length≤n+1:=by
  unfold zdB;split
  ·rw [List.length_append,List.length_singleton];omega
  ·omega
 unfold za7 at hl
 repeat' split at hl
 all_goals cases hl
 ·exact ⟨Nat.zero_le _,Nat.zero_le _,Nat.zero_le _⟩
 ·exact ⟨Nat.zero_le _,Nat.zero_le _,Nat.zero_le _⟩
 ·exact ⟨Nat.le_succ_of_le h1,by show (c.sends.drop 1).length≤_;rw [List.length_drop];omega,Nat.le_succ_of_le h3⟩
 ·exact ⟨by show ((zdB c).drop 1).length≤_;rw [List.length_drop];omega,by show (c.sends.drop 1).length≤_;rw [List.length_drop];omega,Nat.le_succ_of_le h3⟩
theorem zju (h:Inv p e (fun _=>False)) {n ch v:Int} {ok send:Bool} {w:zo} {c:zY} {g:zW} (hn:0≤n) (hs:(e.gs.getD n.toNat zd).state=1) (hw:zcO p e ch send w) (hL:zp (setG (setC e ch c) n g) 1099511627776):Ct Tryz.prog 296 [.dagg (zQ p),hE,.dat (.int .i64 ch),.dagg (z5 w),.dat (.int .i64 v),.dat (.bool ok)] (mE (setG (setC e ch c) n g)) (zag hE (mE (zaV p (setG (setC e ch c) n g) ch w v ok))):=by
 have hne:=hw.ne hs
 have hi:=hw.i0
 have hg:(setG (setC e ch c) n g).gs.getD w.g.toNat zd=e.gs.getD w.g.toNat zd:=z4 (by omega)
 have hl:(setG (setC e ch c) n g).gs.length=e.gs.length:=List.length_set
 have ha:=h.alive hi (.inr hw.st)
 exact zhm p _ ch w v ok send hL h.prog (by rw [hl];exact hi) (by rw [hg];exact ha) (by rw [hg];exact hw.st) (by rw [hg];exact h.plOk hw) (by rw [hg];have:=zaq h.prog ha;omega)
end
set_option maxHeartbeats 8000000 in
theorem zhu (p:zn) (e:zz) (n ch reg to:Int) (hL:zp e 1099511627770) (h:Inv p e (fun _=>False)) (hnr:0≤n∧n<e.gs.length) (hs:(e.gs.getD n.toNat zd).state=1) (hk:0≤ch∧ch<e.chans.length) (hcs:zeB (e.chans.getD ch.toNat zg)=true):Ct Tryz.prog 277 [.dagg (zQ p),hE,.dat (.int .i64 n),.dat (.int .i64 ch),.dat (.int .i64 reg),.dat (.int .i64 to)] (mE e) (zag hE (mE (sendE p e n ch reg to))):=by
 have ha:=h.alive hnr (.inl hs)
 have hgl:=hL.gor hnr
 have hcl:=hL.chan hk
 have hco:=h.chanOk hk
 have hv:=ha.regOf reg
 have hov:=zce (e.gs.getD n.toNat zd) 1 (by omega) (by omega)
 have hrg:=zR (e.gs.getD n.toNat zd) reg
 have hsd:=zkZ (e.chans.getD ch.toNat zg) (regOf (e.gs.getD n.toNat zd) reg) ⟨Nat.le_trans hcl.1 (by omega),Nat.le_trans hcl.2.1 (by omega),Nat.le_trans hcl.2.2 (by omega)⟩
 have htl:=zaH (e.gs.getD n.toNat zd) ⟨1,ch,regOf (e.gs.getD n.toNat zd) reg,false⟩ (by omega) (by omega)
 have htn:=zcH (e.gs.getD n.toNat zd) ⟨1,ch,regOf (e.gs.getD n.toNat zd) reg,false⟩
 rcases hl:zcn (e.chans.getD ch.toNat zg) (regOf (e.gs.getD n.toNat zd) reg) with ⟨c',w,k⟩
 rw [hl] at hsd
 have hlc:=ziK hcl hl
 refine zD (rs:=[(.cell 12 45,45)]) za Tryz.func277 rfl rfl rfl (Nat.le_of_ble_eq_true rfl) rfl fun ho hm x hn hlent=>?_
 refine ze hn za rfl qS ?_ ?_<;>intro hc<;>first | (replace hc:=qC2 hc;try exact qX) | exact qF2 hc | skip
 ·have hE1:sendE p e n ch reg to=setG e n (over (e.gs.getD n.toNat zd) 1):=by unfold sendE;simp only;rw [if_pos hc]
  rw [hE1]
  refine qD hn za zu [.r (.dagg (zH (over (e.gs.getD n.toNat zd) 1))),.raw .no [(1000,some (.row 172 5 zd zH (e.gs.set n.toNat (over (e.gs.getD n.toNat zd) 1))))] none] rfl rfl ?_ ?_
  ·(try refine qM ?_);repeat' (first | exact trivial | (first | exact zR _ _ | assumption) | assumption | omega | exact qV | refine And.intro ?_ ?_)
   exact zab _ hn za rfl ⟨_,_,rfl,rfl,rfl⟩ rfl rfl rfl rfl rfl (Nat.le_of_ble_eq_true rfl) rfl rfl
  refine zf hn za rfl ?_ ⟨_,hE,mE (setG e n (over (e.gs.getD n.toNat zd) 1)),[],rfl,rfl,⟨rfl,rfl,rfl,trivial⟩,rfl,rfl,rfl,rfl,rfl⟩
  exact qS
 ·have hE1:sendE p e n ch reg to=wakeIf p (setG (setC e ch c') n {tell (e.gs.getD n.toNat zd) ⟨1,ch,regOf (e.gs.getD n.toNat zd) reg,false⟩ with pc:=to}) ch w (regOf (e.gs.getD n.toNat zd) reg):=by unfold sendE;simp only;rw [if_neg (by rw [hc];decide),hl]
  have hclo:=hc
  have hLn:zp (setG (setC e ch c') n {tell (e.gs.getD n.toNat zd) ⟨1,ch,regOf (e.gs.getD n.toNat zd) reg,false⟩ with pc:=to}) 1099511627776:=
   ((hL.le (by omega)).setC ⟨Nat.le_trans hlc.1 (by omega),Nat.le_trans hlc.2.1 (by omega),Nat.le_trans hlc.2.2 (by omega)⟩).setG ⟨by show (tell (e.gs.getD n.toNat zd) ⟨1,ch,regOf (e.gs.getD n.toNat zd) reg,false⟩).regs.length≤_;omega,by show (tell (e.gs.getD n.toNat zd) ⟨1,ch,regOf (e.gs.getD n.toNat zd) reg,false⟩).trace.length≤_;omega⟩
  rw [hE1]
  refine qK hn za rfl rfl (by (first | exact zR _ _ | assumption)) ?_
  refine zbs hn za rfl ?_ rfl [] ⟨_,.tup [.dagg (zae c'),.dagg (z5 w),.dat (.int .i64 k)],rfl,hsd,rfl,.inr (fun id hi=>zdl hi),?_⟩
  ·exact qS
  refine zaI hn za c' rfl ?_ rfl rfl rfl rfl rfl rfl (Nat.le_of_ble_eq_true rfl) rfl ?_;(first | (exact qS) | decide | (simp only [List.length_replicate,List.length_set];decide))
  refine qK hn za rfl rfl (by (first | exact zR _ _ | assumption)) ?_
  refine zaI hn za {tell (e.gs.getD n.toNat zd) ⟨1,ch,regOf (e.gs.getD n.toNat zd) reg,false⟩ with pc:=to} rfl ?_ rfl rfl rfl rfl rfl rfl (Nat.le_of_ble_eq_true rfl) rfl ?_;(first | (exact qS) | decide | (simp only [List.length_replicate,List.length_set];decide))
  refine ze hn za rfl qS ?_ ?_<;>intro hc<;>first | (replace hc:=qC2 hc;try exact qX) | exact qF2 hc | skip
  ·have hw0:=zql h hk.1 hclo hco hcs hv hl hc
   rw [wakeIf,if_pos hc]
   refine zbB hn za [false,true,false,false,false,false] (zju h hnr.1 hs hw0 hLn) rfl ?_ rfl rfl ⟨rfl,rfl,rfl,trivial⟩ rfl (fun i hi=>(by cases hi)) (.inl rfl) zdV ?_;exact qS;rintro r Mo ⟨rfl,rfl⟩;refine ⟨rfl,fun id hi=>.inl (zc9 (e1:=(zaV p (setG (setC e ch c') n {tell (e.gs.getD n.toNat zd) ⟨1,ch,regOf (e.gs.getD n.toNat zd) reg,false⟩ with pc:=to}) ch w (regOf (e.gs.getD n.toNat zd) reg) true)) hi),fun id hi=>(by first | exact zfW (e:=(zaV p (setG (setC e ch c') n {tell (e.gs.getD n.toNat zd) ⟨1,ch,regOf (e.gs.getD n.toNat zd) reg,false⟩ with pc:=to}) ch w (regOf (e.gs.getD n.toNat zd) reg) true)) hi | exact zeL (e:=(zaV p (setG (setC e ch c') n {tell (e.gs.getD n.toNat zd) ⟨1,ch,regOf (e.gs.getD n.toNat zd) reg,false⟩ with pc:=to}) ch w (regOf (e.gs.getD n.toNat zd) reg) true)) hi),?_⟩
   refine zf hn za rfl ?_ ⟨_,hE,mE (zaV p (setG (setC e ch c') n {tell (e.gs.getD n.toNat zd) ⟨1,ch,regOf (e.gs.getD n.toNat zd) reg,false⟩ with pc:=to}) ch w (regOf (e.gs.getD n.toNat zd) reg) true),[],rfl,rfl,⟨rfl,rfl,rfl,trivial⟩,rfl,rfl,rfl,rfl,rfl⟩
   exact qS
  ·rw [wakeIf,if_neg (by omega)]
   refine zf hn za rfl ?_ ⟨_,hE,mE (setG (setC e ch c') n {tell (e.gs.getD n.toNat zd) ⟨1,ch,regOf (e.gs.getD n.toNat zd) reg,false⟩ with pc:=to}),[],rfl,rfl,⟨rfl,rfl,rfl,trivial⟩,rfl,rfl,rfl,rfl,rfl⟩
   exact qS
set_option maxHeartbeats 8000000 in
theorem zhk (p:zn) (e:zz) (n ch:Int) (x1:zaj) (hL:zp e 1099511627770) (h:Inv p e (fun _=>False)) (hnr:0≤n∧n<e.gs.length) (hs:(e.gs.getD n.toNat zd).state=1) (hk:0≤ch∧ch<e.chans.length) (hcr:zet (e.chans.getD ch.toNat zg)=true):Ct Tryz.prog 278 [.dagg (zQ p),hE,.dat (.int .i64 n),.dat (.int .i64 ch),.dagg (zkw x1)] (mE e) (zag hE (mE (recvE p e n ch x1))):=by
 have hgl:=hL.gor hnr
 have hcl:=hL.chan hk
 have hco:=h.chanOk hk
 have hrv:=zjO (e.chans.getD ch.toNat zg) ⟨Nat.le_trans hcl.1 (by omega),Nat.le_trans hcl.2.1 (by omega),Nat.le_trans hcl.2.2 (by omega)⟩
 rcases hl:za7 (e.chans.getD ch.toNat zg) with ⟨c',v,ok,w,k⟩
 rw [hl] at hrv
 have hlc:=zg9 hcl hl
 have hgo:=ze8 (e.gs.getD n.toNat zd) ch v ok x1.reg x1.ok (by omega) (by omega)
 have hgn:=zlq (e.gs.getD n.toNat zd) ch v ok x1.reg x1.ok
 have hE1:recvE p e n ch x1=wakeIf p (setG (setC e ch c') n {zcj (e.gs.getD n.toNat zd) ch v ok x1.reg x1.ok with pc:=x1.to}) ch w 0:=by unfold recvE;rw [hl]
 have hLn:zp (setG (setC e ch c') n {zcj (e.gs.getD n.toNat zd) ch v ok x1.reg x1.ok with pc:=x1.to}) 1099511627776:=
  ((hL.le (by omega)).setC ⟨Nat.le_trans hlc.1 (by omega),Nat.le_trans hlc.2.1 (by omega),Nat.le_trans hlc.2.2 (by omega)⟩).setG ⟨by show (zcj (e.gs.getD n.toNat zd) ch v ok x1.reg x1.ok).regs.length≤_;omega,by show (zcj (e.gs.getD n.toNat zd) ch v ok x1.reg x1.ok).trace.length≤_;omega⟩
 rw [hE1]
 refine zD (rs:=[(.cell 10 45,45)]) za Tryz.func278 rfl rfl rfl (Nat.le_of_ble_eq_true rfl) rfl fun ho hm x hn hlent=>?_
 refine zbs hn za rfl ?_ rfl [] ⟨_,.tup [.dagg (zae c'),.dat (.int .i64 v),.dat (.bool ok),.dagg (z5 w),.dat (.int .i64 k)],rfl,hrv,rfl,.inr (fun id hi=>zdl hi),?_⟩
 ·exact qS
 refine zaI hn za c' rfl ?_ rfl rfl rfl rfl rfl rfl (Nat.le_of_ble_eq_true rfl) rfl ?_;(first | (exact qS) | decide | (simp only [List.length_replicate,List.length_set];decide))
 refine qD hn za zu [.r (.dagg (zH (zcj (e.gs.getD n.toNat zd) ch v ok x1.reg x1.ok)))] rfl rfl ?_ ?_
 ·(try refine qM ?_);repeat' (first | exact trivial | assumption | assumption | omega | exact qV | refine And.intro ?_ ?_)
 refine zaI hn za {zcj (e.gs.getD n.toNat zd) ch v ok x1.reg x1.ok with pc:=x1.to} rfl ?_ rfl rfl rfl rfl rfl rfl (Nat.le_of_ble_eq_true rfl) rfl ?_;(first | (exact qS) | decide | (simp only [List.length_replicate,List.length_set];decide))
 refine ze hn za rfl qS ?_ ?_<;>intro hc<;>first | (replace hc:=qC2 hc;try exact qX) | exact qF2 hc | skip
 ·have hw0:=zqG h hk.1 hco hcr hl hc
  rw [wakeIf,if_pos hc]
  refine zbB hn za [false,true,false,false,false,false] (zju h hnr.1 hs hw0 hLn) rfl ?_ rfl rfl ⟨rfl,rfl,rfl,trivial⟩ rfl (fun i hi=>(by cases hi)) (.inl rfl) zdV ?_;exact qS;rintro r Mo ⟨rfl,rfl⟩;refine ⟨rfl,fun id hi=>.inl (zc9 (e1:=(zaV p (setG (setC e ch c') n {zcj (e.gs.getD n.toNat zd) ch v ok x1.reg x1.ok with pc:=x1.to}) ch w 0 true)) hi),fun id hi=>(by first | exact zfW (e:=(zaV p (setG (setC e ch c') n {zcj (e.gs.getD n.toNat zd) ch v ok x1.reg x1.ok with pc:=x1.to}) ch w 0 true)) hi | exact zeL (e:=(zaV p (setG (setC e ch c') n {zcj (e.gs.getD n.toNat zd) ch v ok x1.reg x1.ok with pc:=x1.to}) ch w 0 true)) hi),?_⟩
  refine zf hn za rfl ?_ ⟨_,hE,mE (zaV p (setG (setC e ch c') n {zcj (e.gs.getD n.toNat zd) ch v ok x1.reg x1.ok with pc:=x1.to}) ch w 0 true),[],rfl,rfl,⟨rfl,rfl,rfl,trivial⟩,rfl,rfl,rfl,rfl,rfl⟩
  exact qS
 ·rw [wakeIf,if_neg (by omega)]
  refine zf hn za rfl ?_ ⟨_,hE,mE (setG (setC e ch c') n {zcj (e.gs.getD n.toNat zd) ch v ok x1.reg x1.ok with pc:=x1.to}),[],rfl,rfl,⟨rfl,rfl,rfl,trivial⟩,rfl,rfl,rfl,rfl,rfl⟩
  exact qS
theorem zlH {l:List zW} {k:Nat} {i:zbl} (hk:k<l.length) (hs:(l.getD k zd).state=1):(l.set k (tell (l.getD k zd) i)).set k {(l.set k (tell (l.getD k zd) i)).getD k zd with pc:=((l.set k (tell (l.getD k zd) i)).getD k zd).pc+1}=l.set k (zbg (l.getD k zd) i):=by
 rw [zF hk,List.set_set]
 congr 1
 unfold zbg tell;rw [hs]
theorem zsi {l:List zW} {k:Nat} {i:zbl} {g:zW} (hk:k<l.length) (hg:(l.set k (tell (l.getD k zd) i)).set k {(l.set k (tell (l.getD k zd) i)).getD k zd with pc:=((l.set k (tell (l.getD k zd) i)).getD k zd).pc+1}=l.set k g):(l.set k g).set k {(l.set k g).getD k zd with state:=1}=l.set k (zbg (l.getD k zd) i):=by
 have h0:g={tell (l.getD k zd) i with pc:=(tell (l.getD k zd) i).pc+1}:=by
  have:=congrArg (fun q=>q.getD k zd) hg
  simp only [zF (show k<(l.set k (tell (l.getD k zd) i)).length by rw [List.length_set];exact hk),zF hk] at this
  exact this.symm
 rw [zF hk,List.set_set,h0];rfl
set_option maxHeartbeats 8000000 in
theorem zjF (p:zn) (e:zz) (n mu:Int) (hL:zp e 1099511627770) (h:Inv p e (fun _=>False)) (hnr:0≤n∧n<e.gs.length) (hs:(e.gs.getD n.toNat zd).state=1) (hk:0≤mu∧mu<e.mus.length):Ct Tryz.prog 281 [hE,.dat (.int .i64 n),.dat (.int .i64 mu)] (mE e) (zag hE (mE (unlockE e n mu))):=by
 have ha:=h.alive hnr (.inl hs)
 have hgl:=hL.gor hnr
 have hml:=hL.mut hk
 have hpc:=zaq h.prog ha
 by_cases hno:(zbF (e.mus.getD mu.toNat zj) n).2.2=false
 ·exact ziQ e n mu hnr hk (by omega) (by omega) (by omega) (by omega) hs hno
 have hlk:=zhg (e.mus.getD mu.toNat zj) n (by omega)
 have htl:=zaH (e.gs.getD n.toNat zd) ⟨6,mu,0,false⟩ (by omega) (by omega)
 rcases hl:zbF (e.mus.getD mu.toNat zj) n with ⟨m',next,ok⟩
 rw [hl] at hlk hno
 have hok:ok=true:=by simpa using hno
 subst hok
 -- who gets it then
 have hnx:0≤next→next≠n∧(0≤next∧next<e.gs.length)∧(e.gs.getD next.toNat zd).state=2:=fun h0=>by
  obtain ⟨hmo,hown⟩:=h.muOk hk
  have hmi:=zcG.1 hmo
  unfold zbF at hl
  split at hl
  ·rename_i hcc
   split at hl
   ·rename_i hwl
    have hnx:next=(e.mus.getD mu.toNat zj).wait.getD 0 0:=by cases hl;rfl
    have hmem:=za6 (d:=(0:Int)) hwl
    rw [← hnx] at hmem
    have hat:0<atA e ⟨true,mu,false,⟨next,-1,0⟩⟩:=by
     unfold atA
     rw [if_neg (by show ¬ mu<0;omega),if_pos rfl,if_pos ⟨rfl,rfl,rfl⟩]
     exact zhY.2 hmem
    rw [h.cnt _ id] at hat
    obtain ⟨ha0,hast,_⟩:=zhy hat
    refine ⟨fun hh=>?_,ha0,hast⟩
    have hast:(e.gs.getD next.toNat zd).state=2:=hast
    rw [hh] at hast;omega
   ·have:next=-1:=by cases hl;rfl
    omega
  ·cases hl
 have hE1:unlockE e n mu=if next<0 then zbk (setMu e mu m') n ⟨6,mu,0,false⟩ else zbk (zbk (setMu e mu m') n ⟨6,mu,0,false⟩) next ⟨5,mu,0,false⟩:=by unfold unlockE;rw [hl];rfl
 rw [hE1]
 refine zD (rs:=[(.cell 6 45,45)]) za Tryz.func281 rfl rfl rfl (Nat.le_of_ble_eq_true rfl) rfl fun ho hm x hn hlent=>?_
 refine zbs hn za rfl ?_ rfl [] ⟨_,.tup [.dagg (zO m'),.dat (.int .i64 next),.dat (.bool true)],rfl,hlk,rfl,.inr (fun id hi=>zdl hi),?_⟩
 ·exact qS
 refine ze hn za rfl qS ?_ ?_<;>intro hc<;>first | (replace hc:=qC2 hc;try exact qX) | exact qF2 hc | skip
 ·cases hc
 refine zaI hn za m' rfl ?_ rfl rfl rfl rfl rfl rfl (Nat.le_of_ble_eq_true rfl) rfl ?_;(first | (exact qS) | decide | (simp only [List.length_replicate,List.length_set];decide))
 refine qD hn za zu [.r (.dagg (zH (tell (e.gs.getD n.toNat zd) ⟨6,mu,0,false⟩))),.raw .no [(1000,some (.row 172 5 zd zH (e.gs.set n.toNat (tell (e.gs.getD n.toNat zd) ⟨6,mu,0,false⟩))))] none] rfl rfl ?_ ?_
 ·(try refine qM ?_);repeat' (first | exact trivial | assumption | assumption | omega | exact qV | refine And.intro ?_ ?_)
  exact zab _ hn za rfl ⟨_,_,rfl,rfl,rfl⟩ rfl rfl rfl rfl rfl (Nat.le_of_ble_eq_true rfl) rfl rfl
 have hln:(e.gs.set n.toNat (tell (e.gs.getD n.toNat zd) ⟨6,mu,0,false⟩)).length=e.gs.length:=List.length_set
 have hpq:((e.gs.set n.toNat (tell (e.gs.getD n.toNat zd) ⟨6,mu,0,false⟩)).getD n.toNat zd).pc=(e.gs.getD n.toNat zd).pc:=by rw [zF (by omega)];rfl
 refine zaI hn za {(e.gs.set n.toNat (tell (e.gs.getD n.toNat zd) ⟨6,mu,0,false⟩)).getD n.toNat zd with pc:=((e.gs.set n.toNat (tell (e.gs.getD n.toNat zd) ⟨6,mu,0,false⟩)).getD n.toNat zd).pc+1} rfl ?_ rfl rfl rfl rfl rfl rfl (Nat.le_of_ble_eq_true rfl) rfl ?_;(first | (exact qS) | decide | (simp only [List.length_replicate,List.length_set];decide))
 have hset:=zlH (l:=e.gs) (i:=⟨6,mu,0,false⟩) (show n.toNat<e.gs.length by omega) hs
 have hgoE:(zbk (setMu e mu m') n ⟨6,mu,0,false⟩).gs=e.gs.set n.toNat (zbg (e.gs.getD n.toNat zd) ⟨6,mu,0,false⟩):=rfl
 refine ze hn za rfl qS ?_ ?_<;>intro hc<;>first | (replace hc:=qC2 hc;try exact qX) | exact qF2 hc | skip
 ·obtain ⟨hne,hnr1,hst1⟩:=hnx hc
  rw [if_neg (by omega)]
  have hget:(e.gs.set n.toNat (zbg (e.gs.getD n.toNat zd) ⟨6,mu,0,false⟩)).getD next.toNat zd=e.gs.getD next.toNat zd:=z4 (by omega)
  have hlen:(e.gs.set n.toNat (zbg (e.gs.getD n.toNat zd) ⟨6,mu,0,false⟩)).length=e.gs.length:=List.length_set
  have hE2:(zbk (zbk (setMu e mu m') n ⟨6,mu,0,false⟩) next ⟨5,mu,0,false⟩).gs=(e.gs.set n.toNat (zbg (e.gs.getD n.toNat zd) ⟨6,mu,0,false⟩)).set next.toNat (zbg ((e.gs.set n.toNat (zbg (e.gs.getD n.toNat zd) ⟨6,mu,0,false⟩)).getD next.toNat zd) ⟨5,mu,0,false⟩):=rfl
  have hgl2:=hL.gor hnr1
  have hpc2:=zaq h.prog (h.alive hnr1 (.inr hst1))
  rw [hset]
  generalize e.gs.set n.toNat (zbg (e.gs.getD n.toNat zd) ⟨6,mu,0,false⟩)=ys at *
  rw [← hget] at hgl2 hpc2
  have htl2:=zaH (ys.getD next.toNat zd) ⟨5,mu,0,false⟩ (by omega) (by omega)
  refine qD hn za zu [.r (.dagg (zH (tell (ys.getD next.toNat zd) ⟨5,mu,0,false⟩))),.raw .no [(1000,some (.row 172 5 zd zH (ys.set next.toNat (tell (ys.getD next.toNat zd) ⟨5,mu,0,false⟩))))] none] rfl rfl ?_ ?_
  ·(try refine qM ?_);repeat' (first | exact trivial | assumption | assumption | omega | exact qV | refine And.intro ?_ ?_)
   exact zab _ hn za rfl ⟨_,_,rfl,rfl,rfl⟩ rfl rfl rfl rfl rfl (Nat.le_of_ble_eq_true rfl) rfl rfl
  have hln2:(ys.set next.toNat (tell (ys.getD next.toNat zd) ⟨5,mu,0,false⟩)).length=ys.length:=List.length_set
  have hpq2:((ys.set next.toNat (tell (ys.getD next.toNat zd) ⟨5,mu,0,false⟩)).getD next.toNat zd).pc=(ys.getD next.toNat zd).pc:=by rw [zF (by omega)];rfl
  refine zaI hn za {(ys.set next.toNat (tell (ys.getD next.toNat zd) ⟨5,mu,0,false⟩)).getD next.toNat zd with pc:=((ys.set next.toNat (tell (ys.getD next.toNat zd) ⟨5,mu,0,false⟩)).getD next.toNat zd).pc+1} rfl ?_ rfl rfl rfl rfl rfl rfl (Nat.le_of_ble_eq_true rfl) rfl ?_;(first | (exact qS) | decide | (simp only [List.length_replicate,List.length_set];decide))
  have hg3:(ys.set next.toNat (tell (ys.getD next.toNat zd) ⟨5,mu,0,false⟩)).set next.toNat {(ys.set next.toNat (tell (ys.getD next.toNat zd) ⟨5,mu,0,false⟩)).getD next.toNat zd with pc:=((ys.set next.toNat (tell (ys.getD next.toNat zd) ⟨5,mu,0,false⟩)).getD next.toNat zd).pc+1}=ys.set next.toNat {tell (ys.getD next.toNat zd) ⟨5,mu,0,false⟩ with pc:=(tell (ys.getD next.toNat zd) ⟨5,mu,0,false⟩).pc+1}:=by
   rw [zF (by omega),List.set_set]
  have hg4:=zsi (l:=ys) (k:=next.toNat) (i:=⟨5,mu,0,false⟩) (by omega) hg3
  have hln3:(ys.set next.toNat {tell (ys.getD next.toNat zd) ⟨5,mu,0,false⟩ with pc:=(tell (ys.getD next.toNat zd) ⟨5,mu,0,false⟩).pc+1}).length=ys.length:=List.length_set
  rw [hg3]
  generalize ys.set next.toNat {tell (ys.getD next.toNat zd) ⟨5,mu,0,false⟩ with pc:=(tell (ys.getD next.toNat zd) ⟨5,mu,0,false⟩).pc+1}=zs at *
  refine zaI hn za {zs.getD next.toNat zd with state:=1} rfl ?_ rfl rfl rfl rfl rfl rfl (Nat.le_of_ble_eq_true rfl) rfl ?_;(first | (exact qS) | decide | (simp only [List.length_replicate,List.length_set];decide))
  refine zf hn za rfl ?_ ⟨_,hE,mE (zbk (zbk (setMu e mu m') n ⟨6,mu,0,false⟩) next ⟨5,mu,0,false⟩),[],rfl,rfl,⟨?_,rfl,rfl,trivial⟩,rfl,rfl,rfl,rfl,rfl⟩
  ·exact qS
  ·exact congrArg (fun q=>some (Blk.row 172 5 zd zH q)) (hg4.trans hE2.symm)
 ·rw [if_pos (by omega)]
  refine zf hn za rfl ?_ ⟨_,hE,mE (zbk (setMu e mu m') n ⟨6,mu,0,false⟩),[],rfl,rfl,⟨?_,rfl,rfl,trivial⟩,rfl,rfl,rfl,rfl,rfl⟩
  ·exact qS
  ·exact congrArg (fun q=>some (Blk.row 172 5 zd zH q)) hset
def zv1 (c:zY):LV:=.tup [.lagg [.dat (.int .i64 c.cap),.own 501,.nil (zB []),.nil (zB []),.dat (.bool true)],.own 503,.own 502,.dat (.int .i64 0)]
theorem zuP (c:zY):∀ i,(zv1 c).on i→(mm (zkf c) i).isSome=true:=fun i ⟨l,hl,hi⟩=>by
 rcases List.mem_cons.1 hl with rfl | hl
 ·obtain ⟨l,hl,hi⟩:=hi
  rcases List.mem_cons.1 hl with rfl | hl
  ·exact hi.elim
  ·rcases List.mem_cons.1 hl with rfl | hl
   ·have:501=i:=hi
    subst this;rfl
   ·rcases List.mem_cons.1 hl with rfl | hl
    ·exact hi.elim
    ·rcases List.mem_cons.1 hl with rfl | hl
     ·exact hi.elim
     ·rw [List.mem_singleton.1 hl] at hi;exact hi.elim
 ·rcases List.mem_cons.1 hl with rfl | hl
  ·have:503=i:=hi
   subst this;rfl
  ·rcases List.mem_cons.1 hl with rfl | hl
   ·have:502=i:=hi
    subst this;rfl
   ·rw [List.mem_singleton.1 hl] at hi;exact hi.elim
set_option maxHeartbeats 4000000 in
theorem zlh (c:zY) (h:zdR c 2199023255552) (hco:chanOk c=true) (hcl:c.closed=false):Ct Tryz.prog 299 [.dagg (zae c)] [] (zag (zv1 c) (zkf c)):=by
 refine zD (rs:=[(.cell 2 191,191),(.tmp 3,189),(.tmp 4,189),(.tmp 5,3)]) za Tryz.func299 rfl rfl rfl (Nat.le_of_ble_eq_true rfl) rfl fun ho hm x hn hlent=>?_
 refine qK hn za rfl rfl (by (first | exact zai _ | assumption)) ?_
 refine ze hn za rfl qS ?_ ?_<;>intro hc<;>first | (replace hc:=qC2 hc;try exact qX) | exact qF2 hc | skip
 ·rw [hco] at hc;cases hc
 refine ze hn za rfl qS ?_ ?_<;>intro hc<;>first | (replace hc:=qC2 hc;try exact qX) | exact qF2 hc | skip
 ·rw [hcl] at hc;cases hc
 refine ziS hn za [false] (ze7 c h) rfl ?_ rfl rfl rfl rfl rfl (zv3 c) ?_
 ·exact qS
 refine zf hn za rfl ?_ ⟨_,zv1 c,zkf c,[],rfl,rfl,⟨rfl,rfl,rfl,trivial⟩,rfl,rfl,rfl,rfl,rfl⟩
 exact qS
theorem zeF {c:zY} (hco:chanOk c=true) (hcl:c.closed=true):zcD c=(zg,[],[],2):=by unfold zcD;rw [hco,if_neg (by simp),if_pos hcl]
theorem zfr {c:zY} (hco:chanOk c=true) (hcl:c.closed=false):zcD c=({c with recvs:=[],sends:=[],closed:=true},c.recvs,c.sends,0):=by unfold zcD;rw [hco,if_neg (by simp),if_neg (by rw [hcl];decide)]
theorem zmF {e:zz} {n ch:Int} {N:Nat} (hL:zp e N) (hnr:0≤n∧n<e.gs.length) (hk:0≤ch∧ch<e.chans.length):zp (zcy e n ch) (N+1):=by
 have hgl:=hL.gor hnr
 have hcl:=hL.chan hk
 have ht:=zcH (e.gs.getD n.toNat zd) ⟨3,ch,0,false⟩
 exact ((hL.le (by omega)).setC (c:={e.chans.getD ch.toNat zg with recvs:=[],sends:=[],closed:=true}) ⟨Nat.le_trans hcl.1 (Nat.le_succ _),Nat.zero_le _,Nat.zero_le _⟩).setG ⟨by show (tell (e.gs.getD n.toNat zd) ⟨3,ch,0,false⟩).regs.length≤_;omega,by show (tell (e.gs.getD n.toNat zd) ⟨3,ch,0,false⟩).trace.length≤_;omega⟩
theorem zdm.lens {p:zn} {e:zz} {ch:Int} {l:List zo} {i N:Nat} (h:zdm p ch l e i) (hi:i<l.length) (hL:zp (zaS p ch l e i) (N+2*i)):zp (zaS p ch l e (i+1)) (N+2*(i+1)):=by
 have hm:l.getD i zi∈l.drop i:=by
  rw [List.drop_eq_getElem_cons hi,List.getD_eq_getElem?_getD,List.getElem?_eq_getElem hi];exact List.mem_cons_self
 obtain ⟨s,hs⟩:=h.wt _ hm
 rw [zdb hi]
 exact (hL.wake hs.i0 ch 0 false).le (by omega)
theorem zdm.ct {p:zn} {e:zz} {ch:Int} {l:List zo} {i:Nat} (h:zdm p ch l e i) (hi:i<l.length) (hL:zp (zaS p ch l e i) 1099511627776):Ct Tryz.prog 296 [.dagg (zQ p),hE,.dat (.int .i64 ch),.dagg (z5 (l.getD i zi)),.dat (.int .i64 0),.dat (.bool false)] (mE (zaS p ch l e i)) (zag hE (mE (zaV p (zaS p ch l e i) ch (l.getD i zi) 0 false))):=by
 have hm:l.getD i zi∈l.drop i:=by
  rw [List.drop_eq_getElem_cons hi,List.getD_eq_getElem?_getD,List.getElem?_eq_getElem hi];exact List.mem_cons_self
 obtain ⟨s,hs⟩:=h.wt _ hm
 have ha:=h.inv.alive hs.i0 (.inr hs.st)
 exact zhm p _ ch _ 0 false s hL h.inv.prog hs.i0 ha hs.st (h.inv.plOk hs) (by have:=zaq h.inv.prog ha;omega)
set_option maxHeartbeats 8000000 in
theorem zkq (p:zn) (e:zz) (n ch:Int) (hL:zp e 1099511620000) (h:Inv p e (fun _=>False)) (hnr:0≤n∧n<e.gs.length) (hs:(e.gs.getD n.toNat zd).state=1) (hk:ch<e.chans.length) (hto:(e.gs.getD n.toNat zd).pc+1<zZ p (e.gs.getD n.toNat zd).proc) (hlw:(e.chans.getD ch.toNat zg).recvs.length+(e.chans.getD ch.toNat zg).sends.length≤1000):Ct Tryz.prog 279 [.dagg (zQ p),hE,.dat (.int .i64 n),.dat (.int .i64 ch)] (mE e) (zag hE (mE (closeE p e n ch))):=by
 have ha:=h.alive hnr (.inl hs)
 have hgl:=hL.gor hnr
 have hpc:=zaq h.prog ha
 have hov2:=zce (e.gs.getD n.toNat zd) 2 (by omega) (by omega)
 have hov1:=zce (e.gs.getD n.toNat zd) 1 (by omega) (by omega)
 have htl:=zaH (e.gs.getD n.toNat zd) ⟨3,ch,0,false⟩ (by omega) (by omega)
 have hover:∀ y,closeE p e n ch=setG e n (over (e.gs.getD n.toNat zd) y)→some (Blk.row 172 5 zd zH (e.gs.set n.toNat (over (e.gs.getD n.toNat zd) y)))=some (Blk.row 172 5 zd zH (closeE p e n ch).gs)∧some (Blk.row 191 5 zg zae e.chans)=some (Blk.row 191 5 zg zae (closeE p e n ch).chans)∧some (Blk.row 193 2 zj zO e.mus)=some (Blk.row 193 2 zj zO (closeE p e n ch).mus):=fun y hy=>by rw [hy];exact ⟨rfl,rfl,rfl⟩
 refine zD (rs:=[(.cell 8 45,45)]) za Tryz.func279 rfl rfl rfl (Nat.le_of_ble_eq_true rfl) rfl fun ho hm x hn hlent=>?_
 refine ze hn za rfl qS ?_ ?_<;>intro hc<;>first | (replace hc:=qC2 hc;try exact qX) | exact qF2 hc | skip
 ·obtain ⟨q1,q2,q3⟩:=hover 2 (by unfold closeE;simp only;rw [if_pos hc])
  refine qD hn za zu [.r (.dagg (zH (over (e.gs.getD n.toNat zd) 2))),.raw .no [(1000,some (.row 172 5 zd zH (e.gs.set n.toNat (over (e.gs.getD n.toNat zd) 2))))] none] rfl rfl ?_ ?_
  ·(try refine qM ?_);repeat' (first | exact trivial | assumption | assumption | omega | exact qV | refine And.intro ?_ ?_)
   exact zab _ hn za rfl ⟨_,_,rfl,rfl,rfl⟩ rfl rfl rfl rfl rfl (Nat.le_of_ble_eq_true rfl) rfl rfl
  refine zf hn za rfl ?_ ⟨_,hE,mE (closeE p e n ch),[],rfl,rfl,⟨q1,q2,q3,trivial⟩,rfl,rfl,rfl,rfl,rfl⟩
  exact qS
 have h0:¬ ch<0:=by omega
 have hk0:0≤ch∧ch<e.chans.length:=by omega
 have hcl:=hL.chan hk0
 have hco:=h.chanOk hk0
 by_cases hclo:(e.chans.getD ch.toNat zg).closed=true
 ·have hcc:=zkr (e.chans.getD ch.toNat zg) ⟨Nat.le_trans hcl.1 (by omega),Nat.le_trans hcl.2.1 (by omega),Nat.le_trans hcl.2.2 (by omega)⟩
  rw [zeF hco hclo] at hcc
  obtain ⟨q1,q2,q3⟩:=hover 1 (by unfold closeE;simp only;rw [if_neg h0,zeF hco hclo];rfl)
  refine zbs hn za rfl ?_ rfl [] ⟨_,zpf (zg,[],[],2),rfl,hcc,rfl,.inr (fun id hi=>zdl hi),?_⟩
  ·exact qS
  refine ze hn za rfl qS ?_ ?_<;>intro hc<;>first | (replace hc:=qC2 hc;try exact qX) | exact qF2 hc | skip
  all_goals (try (exfalso;simp at hc;done))
  refine qD hn za zu [.r (.dagg (zH (over (e.gs.getD n.toNat zd) 1))),.raw .no [(1000,some (.row 172 5 zd zH (e.gs.set n.toNat (over (e.gs.getD n.toNat zd) 1))))] none] rfl rfl ?_ ?_
  ·(try refine qM ?_);repeat' (first | exact trivial | assumption | assumption | omega | exact qV | refine And.intro ?_ ?_)
   exact zab _ hn za rfl ⟨_,_,rfl,rfl,rfl⟩ rfl rfl rfl rfl rfl (Nat.le_of_ble_eq_true rfl) rfl rfl
  refine zf hn za rfl ?_ ⟨_,hE,mE (closeE p e n ch),[],rfl,rfl,⟨q1,q2,q3,trivial⟩,rfl,rfl,rfl,rfl,rfl⟩
  exact qS
 have hclo:(e.chans.getD ch.toNat zg).closed=false:=by simpa only [Bool.not_eq_true] using hclo
 obtain ⟨j1,j2,j3⟩:=h.close0 hnr hs hk0 hto
 have hJ0:zdm p ch ((e.chans.getD ch.toNat zg).recvs++(e.chans.getD ch.toNat zg).sends) (zcy e n ch) 0:=⟨j1,j2,j3⟩
 have hL0:zp (zaS p ch ((e.chans.getD ch.toNat zg).recvs++(e.chans.getD ch.toNat zg).sends) (zcy e n ch) 0) (1099511620001+2*0):=zmF hL hnr hk0
 have hll:((e.chans.getD ch.toNat zg).recvs++(e.chans.getD ch.toNat zg).sends).length≤1000:=by rw [List.length_append];omega
 have hE1:closeE p e n ch=zaS p ch ((e.chans.getD ch.toNat zg).recvs++(e.chans.getD ch.toNat zg).sends) (zcy e n ch) ((e.chans.getD ch.toNat zg).recvs++(e.chans.getD ch.toNat zg).sends).length:=by
  unfold closeE;simp only;rw [if_neg h0,zfr hco hclo]
  unfold zaS
  rw [List.take_length];rfl
 refine ziS hn za [false] (zlh (e.chans.getD ch.toNat zg) ⟨Nat.le_trans hcl.1 (by omega),Nat.le_trans hcl.2.1 (by omega),Nat.le_trans hcl.2.2 (by omega)⟩ hco hclo) rfl ?_ rfl rfl rfl rfl rfl (zuP _) ?_
 ·exact qS
 refine ze hn za rfl qS ?_ ?_<;>intro hc<;>first | (replace hc:=qC2 hc;try exact qX) | exact qF2 hc | skip
 all_goals (try (exfalso;simp at hc;done))
 refine zaI hn za {e.chans.getD ch.toNat zg with recvs:=[],sends:=[],closed:=true} rfl ?_ rfl rfl rfl rfl rfl rfl (Nat.le_of_ble_eq_true rfl) rfl ?_;(first | (exact qS) | decide | (simp only [List.length_replicate,List.length_set];decide))
 refine qK hn za rfl rfl (by assumption) ?_
 have hp3:(tell (e.gs.getD n.toNat zd) ⟨3,ch,0,false⟩).pc=(e.gs.getD n.toNat zd).pc:=rfl
 refine zaI hn za {tell (e.gs.getD n.toNat zd) ⟨3,ch,0,false⟩ with pc:=(tell (e.gs.getD n.toNat zd) ⟨3,ch,0,false⟩).pc+1} rfl ?_ rfl rfl rfl rfl rfl rfl (Nat.le_of_ble_eq_true rfl) rfl ?_;(first | (exact qS) | decide | (simp only [List.length_replicate,List.length_set];decide))
 have hgs0:e.gs.set n.toNat {tell (e.gs.getD n.toNat zd) ⟨3,ch,0,false⟩ with pc:=(tell (e.gs.getD n.toNat zd) ⟨3,ch,0,false⟩).pc+1}=(zaS p ch ((e.chans.getD ch.toNat zg).recvs++(e.chans.getD ch.toNat zg).sends) (zcy e n ch) 0).gs:=by
  show _=e.gs.set n.toNat (zbg (e.gs.getD n.toNat zd) ⟨3,ch,0,false⟩)
  congr 1
  unfold zbg tell;rw [hs]
 refine zas hn za (e.chans.getD ch.toNat zg).sends rfl ?_ rfl rfl rfl rfl rfl rfl rfl rfl ?_ ?_;exact qS
 ·show (_+_)*24≤_;omega
 refine zM hn za rfl ?_ (fun (i:Nat) wT wM=>((72,.dat (.int .i64 i))::wT,mE (zaS p ch ((e.chans.getD ch.toNat zg).recvs++(e.chans.getD ch.toNat zg).sends) (zcy e n ch) i)++wM)) (fun i=>i≤((e.chans.getD ch.toNat zg).recvs++(e.chans.getD ch.toNat zg).sends).length∧zdm p ch ((e.chans.getD ch.toNat zg).recvs++(e.chans.getD ch.toNat zg).sends) (zcy e n ch) i∧zp (zaS p ch ((e.chans.getD ch.toNat zg).recvs++(e.chans.getD ch.toNat zg).sends) (zcy e n ch) i) (1099511620001+2*i)) (fun i=>((e.chans.getD ch.toNat zg).recvs++(e.chans.getD ch.toNat zg).sends).length-i) 0 ⟨Nat.zero_le _,hJ0,hL0⟩ (zt [] ?_ ?_ rfl) ?_
 ·exact qS
 ·exact qL
 ·refine ⟨congrArg (fun q=>some (Blk.row 172 5 zd zH q)) hgs0,rfl,rfl,?_⟩
  exact qL
 rintro i ⟨hi,hJ,hLi⟩
 refine ze hn za rfl qS ?_ ?_<;>intro hc<;>first | (replace hc:=qC2 hc;try exact qX) | exact qF2 hc | skip
 ·have hlt:i<((e.chans.getD ch.toNat zg).recvs++(e.chans.getD ch.toNat zg).sends).length:=by omega
  refine zbB hn za [false,true,false,false,false,false] (hJ.ct hlt (hLi.le (by omega))) rfl ?_ rfl rfl ⟨rfl,rfl,rfl,trivial⟩ rfl (fun i hi=>(by cases hi)) (.inl rfl) zdV ?_;exact qS;rintro r Mo ⟨rfl,rfl⟩;refine ⟨rfl,fun id hi=>.inl (zc9 (e1:=(zaV p (zaS p ch ((e.chans.getD ch.toNat zg).recvs++(e.chans.getD ch.toNat zg).sends) (zcy e n ch) i) ch (((e.chans.getD ch.toNat zg).recvs++(e.chans.getD ch.toNat zg).sends).getD i zi) 0 false)) hi),fun id hi=>(by first | exact zfW (e:=(zaV p (zaS p ch ((e.chans.getD ch.toNat zg).recvs++(e.chans.getD ch.toNat zg).sends) (zcy e n ch) i) ch (((e.chans.getD ch.toNat zg).recvs++(e.chans.getD ch.toNat zg).sends).getD i zi) 0 false)) hi | exact zeL (e:=(zaV p (zaS p ch ((e.chans.getD ch.toNat zg).recvs++(e.chans.getD ch.toNat zg).sends) (zcy e n ch) i) ch (((e.chans.getD ch.toNat zg).recvs++(e.chans.getD ch.toNat zg).sends).getD i zi) 0 false)) hi),?_⟩
  have hnx:=zdb (p:=p) (e:=zcy e n ch) (ch:=ch) hlt
  refine zx hn za rfl ?_ ⟨i+1,⟨?_,hJ.next hlt,hJ.lens hlt hLi⟩,?_,?_⟩
  ·exact qS
  ·omega
  ·show _-(i+1)<_-i;omega
  ·refine zt [] ?_ ?_ rfl
   ·exact qL
   ·rw [hnx]
    exact qL
 have hie:i=((e.chans.getD ch.toNat zg).recvs++(e.chans.getD ch.toNat zg).sends).length:=by omega
 subst hie
 rw [hE1]
 refine zf hn za rfl ?_ ⟨_,hE,mE (zaS p ch ((e.chans.getD ch.toNat zg).recvs++(e.chans.getD ch.toNat zg).sends) (zcy e n ch) ((e.chans.getD ch.toNat zg).recvs++(e.chans.getD ch.toNat zg).sends).length),[],rfl,rfl,⟨rfl,rfl,rfl,trivial⟩,rfl,rfl,rfl,rfl,rfl⟩
 exact qS
theorem zp.add {e:zz} {n:Nat} (h:zp e n) (a:zr):zp (zbD e a) (n+1):=by
 have hc:∀ k:Nat,zdR (e.chans.getD k zg) n:=fun k=>by
  by_cases hk:k<e.chans.length
  ·exact h.c k hk
  ·rw [zgl (by omega)];exact ⟨Nat.zero_le _,Nat.zero_le _,Nat.zero_le _⟩
 have hm:∀ k:Nat,(e.mus.getD k zj).wait.length≤n:=fun k=>by
  by_cases hk:k<e.mus.length
  ·exact h.m k hk
  ·rw [zgl (by omega)];exact Nat.zero_le _
 unfold zbD
 repeat' split
 ·exact (h.le (Nat.le_succ _)).setMu (by show (_++[a.w.g]).length≤_;have:=hm a.obj.toNat;rw [List.length_append,List.length_singleton];omega)
 ·obtain ⟨h1,h2,h3⟩:=hc a.obj.toNat
  exact (h.le (Nat.le_succ _)).setC ⟨Nat.le_succ_of_le h1,by show (_++[a.w]).length≤_;rw [List.length_append,List.length_singleton];omega,Nat.le_succ_of_le h3⟩
 ·obtain ⟨h1,h2,h3⟩:=hc a.obj.toNat
  exact (h.le (Nat.le_succ _)).setC ⟨Nat.le_succ_of_le h1,Nat.le_succ_of_le h2,by show (_++[a.w]).length≤_;rw [List.length_append,List.length_singleton];omega⟩
theorem zsv {m:zal} {g:Int} (h:zcs m=true) (h0:0≤g) (hw:g∉m.wait) (ho:m.owner≠g) (h1:m.owner≠-1):zcT m g=({m with wait:=m.wait++[g]},false,true):=by
 unfold zcT
 rw [if_pos ⟨h,h0,hw⟩,if_neg ho,if_neg h1]
set_option maxHeartbeats 8000000 in
theorem zhl (p:zn) (e:zz) (n:Int) (hL:zp e 1099511620000) (h:Inv p e (fun _=>False)) (hnr:0≤n∧n<e.gs.length) (hs:(e.gs.getD n.toNat zd).state=1) (hwc:zgG p e n):Ct Tryz.prog 276 [.dagg (zQ p),hE,.dat (.int .i64 n)] (mE e) (zag hE (mE (waitE p e n))):=by
 have ha:=h.alive hnr (.inl hs)
 have hgl:=hL.gor hnr
 have hJ0:=h.wait0 hnr hs hwc
 have hl4:=zef (n:=n) h.prog (ha.head (.inl hs))
 have hpl:Con Tryz.prog 121 [.dagg (zQ p),.dagg (zH ((e.gs.set n.toNat {e.gs.getD n.toNat zd with state:=2}).getD n.toNat zd)),.dat (.int .i64 n)] (.dat (zau (zw p (e.gs.getD n.toNat zd) n))):=by
  rw [zF (by omega)]
  exact zfN p {e.gs.getD n.toNat zd with state:=2} n h.prog ((ha.state 2).head (.inr rfl))
 have hln:(e.gs.set n.toNat {e.gs.getD n.toNat zd with state:=2}).length=e.gs.length:=List.length_set
 have hL0:zp (zaP (zw p (e.gs.getD n.toNat zd) n) (setG e n {e.gs.getD n.toNat zd with state:=2}) 0) (1099511620001+0):=(hL.le (by omega)).setG ⟨by show (e.gs.getD n.toNat zd).regs.length≤_;omega,by show (e.gs.getD n.toNat zd).trace.length≤_;omega⟩
 have hE1:waitE p e n=zaP (zw p (e.gs.getD n.toNat zd) n) (setG e n {e.gs.getD n.toNat zd with state:=2}) (zw p (e.gs.getD n.toNat zd) n).length:=by
  unfold waitE zaP;rw [List.take_length]
 rw [hE1]
 refine zD (rs:=[(.cell 6 45,45)]) za Tryz.func276 rfl rfl rfl (Nat.le_of_ble_eq_true rfl) rfl fun ho hm x hn hlent=>?_
 refine zaI hn za {e.gs.getD n.toNat zd with state:=2} rfl ?_ rfl rfl rfl rfl rfl rfl (Nat.le_of_ble_eq_true rfl) rfl ?_;(first | (exact qS) | decide | (simp only [List.length_replicate,List.length_set];decide))
 generalize hll:zw p (e.gs.getD n.toNat zd) n=l at *
 refine qD hn za zu [.r (.dat (zau l))] rfl rfl ?_ ?_
 ·(try refine qM ?_);repeat' (first | exact trivial | assumption | assumption | omega | exact qV | refine And.intro ?_ ?_)
  all_goals (rw [List.length_set];omega)
 refine zM hn za rfl ?_ (fun (i:Nat) wT wM=>((25,.dat (.int .i64 i))::wT,mE (zaP l (setG e n {e.gs.getD n.toNat zd with state:=2}) i)++wM)) (fun i=>i≤l.length∧zjh p n l (setG e n {e.gs.getD n.toNat zd with state:=2}) i∧zp (zaP l (setG e n {e.gs.getD n.toNat zd with state:=2}) i) (1099511620001+i)) (fun i=>l.length-i) 0 ⟨Nat.zero_le _,hJ0,hL0⟩ (zt [] ?_ ?_ rfl) ?_
 ·exact qS
 ·exact qL
 ·exact qL
 generalize setG e n {e.gs.getD n.toNat zd with state:=2}=e1 at *
 rintro i ⟨hi,hJ,hLi⟩
 refine ze hn za rfl qS ?_ ?_<;>intro hc<;>first | (replace hc:=qC2 hc;try exact qX) | exact qF2 hc | skip
 ·have hlt:i<l.length:=by omega
  obtain ⟨hxg,hcan⟩:=hJ.here hlt
  have hnx:=zeW (e:=e1) hlt
  have hJn:=hJ.next hlt
  have hLn:zp (zaP l e1 (i+1)) (1099511620001+(i+1)):=by rw [hnx];exact (hLi.add _)
  rw [hnx] at hLn
  have hinv:=hJ.inv
  generalize hei:zaP l e1 i=ei at *
  unfold zeD at hcan
  refine ze hn za rfl qS ?_ ?_<;>intro hc<;>first | (replace hc:=qC2 hc;try exact qX) | exact qF2 hc | skip
  ·rw [if_pos hc] at hcan
   obtain ⟨hob,⟨hg0,hnw,hno,hn1⟩,_⟩:=hcan
   obtain ⟨hmo,_⟩:=hinv.muOk hob
   have hml:=hLi.mut hob
   rw [hxg] at hg0 hnw hno
   have hlk:=zir (ei.mus.getD (l.getD i zq).obj.toNat zj) n (by omega)
   rw [zsv hmo hg0 hnw hno hn1] at hlk
   have hadd:zbD ei (l.getD i zq)=setMu ei (l.getD i zq).obj {ei.mus.getD (l.getD i zq).obj.toNat zj with wait:=(ei.mus.getD (l.getD i zq).obj.toNat zj).wait++[n]}:=by unfold zbD;rw [if_pos hc,hxg]
   refine qD hn za zu [.r (.tup [.dagg (zO {ei.mus.getD (l.getD i zq).obj.toNat zj with wait:=(ei.mus.getD (l.getD i zq).obj.toNat zj).wait++[n]}),.dat (.bool false),.dat (.bool true)]),.raw .no [(1002,some (.row 193 2 zj zO (ei.mus.set (l.getD i zq).obj.toNat {ei.mus.getD (l.getD i zq).obj.toNat zj with wait:=(ei.mus.getD (l.getD i zq).obj.toNat zj).wait++[n]})))] none] rfl rfl ?_ ?_
   ·(try refine qM ?_);repeat' (first | exact trivial | assumption | assumption | omega | exact qV | refine And.intro ?_ ?_)
    exact zab _ hn za rfl ⟨_,_,rfl,rfl,rfl⟩ rfl rfl rfl rfl rfl (Nat.le_of_ble_eq_true rfl) rfl rfl
   refine zx hn za rfl ?_ ⟨i+1,⟨hlt,hJn,by rw [hnx];exact hLn⟩,by show _-(i+1)<_-i;omega,?_⟩
   ·exact qS
   ·refine zt [] ?_ ?_ rfl
    ·exact qL
    ·rw [hnx,hadd]
     exact qL
  ·rw [if_neg (by rw [hc];decide)] at hcan
   obtain ⟨hob,_,_,_⟩:=hcan
   have hcl:=hLi.chan hob
   have hmf:=hc
   refine ze hn za rfl qS ?_ ?_<;>intro hc<;>first | (replace hc:=qC2 hc;try exact qX) | exact qF2 hc | skip
   ·have hadd:zbD ei (l.getD i zq)=setC ei (l.getD i zq).obj {ei.chans.getD (l.getD i zq).obj.toNat zg with sends:=(ei.chans.getD (l.getD i zq).obj.toNat zg).sends++[(l.getD i zq).w]}:=by unfold zbD;rw [if_neg (by rw [hmf];decide),if_pos hc]
    have hlc:=hcl.2.1
    refine qD hn za zu [.raw (.own 79) [(79,some (.row 197 3 zi z5 ([]:List zo)))] (some 79),.raw (.own 82) [(82,some (.row 197 3 zi z5 ([]++(ei.chans.getD (l.getD i zq).obj.toNat zg).sends))),(79,none)] (some 82),.raw (.own 85) [(85,some (.row 197 3 zi z5 [(l.getD i zq).w]))] (some 85),.raw (.own 86) [(86,some (.row 197 3 zi z5 ([]++(ei.chans.getD (l.getD i zq).obj.toNat zg).sends++[(l.getD i zq).w]))),(82,none)] (some 86)] rfl rfl ?_ ?_
    ·(try refine qM ?_);repeat' (first | exact trivial | assumption | assumption | omega | exact qV | refine And.intro ?_ ?_)
     exact zes _ hn za rfl ⟨rfl,_,_,_,rfl,rfl,rfl,rfl,rfl,rfl⟩ rfl rfl rfl rfl rfl rfl rfl (by simp only [List.length_cons,List.length_nil,List.length_append];omega)
    refine zaI hn za {ei.chans.getD (l.getD i zq).obj.toNat zg with sends:=(ei.chans.getD (l.getD i zq).obj.toNat zg).sends++[(l.getD i zq).w]} rfl ?_ rfl rfl rfl rfl rfl rfl (Nat.le_of_ble_eq_true rfl) rfl ?_;(first | (exact qS) | decide | (simp only [List.length_replicate,List.length_set];decide))
    refine zx hn za rfl ?_ ⟨i+1,⟨hlt,hJn,by rw [hnx];exact hLn⟩,by show _-(i+1)<_-i;omega,?_⟩
    ·exact qS
    ·refine zt [] ?_ ?_ rfl
     ·exact qL
     ·rw [hnx,hadd]
      exact qL
   ·have hadd:zbD ei (l.getD i zq)=setC ei (l.getD i zq).obj {ei.chans.getD (l.getD i zq).obj.toNat zg with recvs:=(ei.chans.getD (l.getD i zq).obj.toNat zg).recvs++[(l.getD i zq).w]}:=by unfold zbD;rw [if_neg (by rw [hmf];decide),if_neg (by rw [hc];decide)]
    have hlc:=hcl.2.2
    refine qD hn za zu [.raw (.own 35) [(35,some (.row 197 3 zi z5 ([]:List zo)))] (some 35),.raw (.own 38) [(38,some (.row 197 3 zi z5 ([]++(ei.chans.getD (l.getD i zq).obj.toNat zg).recvs))),(35,none)] (some 38),.raw (.own 41) [(41,some (.row 197 3 zi z5 [(l.getD i zq).w]))] (some 41),.raw (.own 42) [(42,some (.row 197 3 zi z5 ([]++(ei.chans.getD (l.getD i zq).obj.toNat zg).recvs++[(l.getD i zq).w]))),(38,none)] (some 42)] rfl rfl ?_ ?_
    ·(try refine qM ?_);repeat' (first | exact trivial | assumption | assumption | omega | exact qV | refine And.intro ?_ ?_)
     exact zes _ hn za rfl ⟨rfl,_,_,_,rfl,rfl,rfl,rfl,rfl,rfl⟩ rfl rfl rfl rfl rfl rfl rfl (by simp only [List.length_cons,List.length_nil,List.length_append];omega)
    refine zaI hn za {ei.chans.getD (l.getD i zq).obj.toNat zg with recvs:=(ei.chans.getD (l.getD i zq).obj.toNat zg).recvs++[(l.getD i zq).w]} rfl ?_ rfl rfl rfl rfl rfl rfl (Nat.le_of_ble_eq_true rfl) rfl ?_;(first | (exact qS) | decide | (simp only [List.length_replicate,List.length_set];decide))
    refine zx hn za rfl ?_ ⟨i+1,⟨hlt,hJn,by rw [hnx];exact hLn⟩,by show _-(i+1)<_-i;omega,?_⟩
    ·exact qS
    ·refine zt [] ?_ ?_ rfl
     ·exact qL
     ·rw [hnx,hadd]
      exact qL
 have hie:i=l.length:=by omega
 subst hie
 refine zf hn za rfl ?_ ⟨_,hE,mE (zaP l e1 l.length),[],rfl,rfl,⟨rfl,rfl,rfl,trivial⟩,rfl,rfl,rfl,rfl,rfl⟩
 exact qS
theorem zj8 (p:zn) (e:zz) (k:Int) (h0:0≤k∧k<p.sels.length) (hs:(p.sels.getD k.toNat zh).cases.length≤1048576):Ct Tryz.prog 184 [.dagg (zQ p),.dagg (zad e),.dat (.int .i64 k)] [] (zag (.own 501) [(501,some (.row 3 1 (0:Int) iC (zX e (p.sels.getD k.toNat zh).cases)))]):=by
 refine zD (rs:=[(.tmp 6,22)]) za Tryz.func184 rfl rfl rfl (Nat.le_of_ble_eq_true rfl) rfl fun ho hm x hn hlent=>?_
 refine zT hn za (0:Int) iC ([]:List Int) rfl ?_ rfl rfl rfl rfl rfl rfl rfl rfl rfl ?_;exact qS
 refine zM hn za rfl ?_ (fun (wI:Nat) wT wM=>((18,.dat (.int .i64 wI))::(7,.own 100)::([(10,.no)]++wT),(100,some ((fun i=>.row 3 1 (0:Int) iC (zL (zcP e (p.sels.getD k.toNat zh).cases) i)) wI))::([(10,none)]++wM))) (fun wI=>wI≤(p.sels.getD k.toNat zh).cases.length∧(fun _=>True) wI) (fun wI=>(p.sels.getD k.toNat zh).cases.length-wI) 0 ⟨Nat.zero_le _,?_⟩ (zt [(100,10),(10,999)] ?_ ?_ rfl) ?_;exact qS
 ·trivial
 ·exact qL
 ·exact qL
 rintro i ⟨hi,_⟩
 have hle:=zcb (zem e (p.sels.getD k.toNat zh).cases) i
 refine ze hn za rfl qS ?_ ?_<;>intro hc<;>first | (replace hc:=qC2 hc;try exact qX) | exact qF2 hc | skip
 ·have hlt:i<(p.sels.getD k.toNat zh).cases.length:=by omega
  refine qK hn za rfl rfl (by (first | exact zcx _ _ | assumption)) ?_
  refine ze hn za rfl qS ?_ ?_<;>intro hc<;>first | (replace hc:=qC2 hc;try exact qX) | exact qF2 hc | skip
  ·refine zT hn za (0:Int) iC [(i:Int)] rfl ?_ rfl rfl rfl rfl rfl rfl rfl rfl rfl ?_;exact qS
   refine zas hn za [(i:Int)] rfl ?_ rfl rfl rfl rfl rfl rfl rfl rfl ?_ ?_;exact qS
   ·show (_+1)*8≤_;omega
   refine zx hn za rfl qS ⟨i+1,⟨?_,?_⟩,?_,?_⟩
   ·omega
   ·trivial
   ·show (p.sels.getD k.toNat zh).cases.length-(i+1)<(p.sels.getD k.toNat zh).cases.length-i;omega
   ·refine zt [(100,29),(10,999)] qL ?_ rfl;repeat' (first | exact trivial | refine And.intro rfl ?_)
    refine And.intro (congrArg (fun q=>some (Blk.row 3 1 (0:Int) iC q)) ?_) ?_
    ·rw [z6,zcP,if_pos hc]
    ·exact qL
  ·refine zx hn za rfl qS ⟨i+1,⟨?_,?_⟩,?_,?_⟩
   ·omega
   ·trivial
   ·show (p.sels.getD k.toNat zh).cases.length-(i+1)<(p.sels.getD k.toNat zh).cases.length-i;omega
   ·refine zt [(10,999)] qL ?_ rfl;repeat' (first | exact trivial | refine And.intro rfl ?_)
    refine And.intro (congrArg (fun q=>some (Blk.row 3 1 (0:Int) iC q)) ?_) ?_
    ·rw [z6,zcP,if_neg (by rw [hc];exact Bool.false_ne_true),List.append_nil]
    ·exact qL
 ·have hie:i=(p.sels.getD k.toNat zh).cases.length:=by omega
  subst hie
  refine zf hn za rfl ?_ ⟨_,.own 501,[(501,some (.row 3 1 (0:Int) iC (zX e (p.sels.getD k.toNat zh).cases)))],[(501,100)],rfl,rfl,⟨rfl,trivial⟩,rfl,rfl,rfl,rfl,rfl⟩
  exact qS
section
variable {P:Program} {x:Cx} {tb:Tb} {R:Cx→Tl→Ml→Prop}
theorem zlm {n:Nat} (hn:x.n=n) (htb:zaJ P tb) {k:List It} {T:Tl} {M:Ml} {f:FuncId} {ags args:List LV} {id:Nat} {e:TypeId} {z:Nat} {α:Type} {d:α} {g:α→List C} {xs:List α} {dst:Option Nat} {s:Prop} {T1:Tl} {M1:Ml} {k1:List It} (fl:List Bool) (hc:Ct P f args [] (zag (.own id) [(id,some (.row e z d g xs))])) (ho:run tb n 1000 T M True k=.call f ags dst s T1 M1 k1) (hs:s) (hd:zaA n dst=true)
 (ha:zc4 (mm M1) fl ags=some args) (hfl:∀ y,zhC (g y)=true) (hnew:zf2 T1 M1 [] [(id,some (.row e z d g xs))]=true) (hsm:Nat.blt id 1000=true)
 (h:Wc P x R k1 (Ab.putd dst (.own id) T1) ((id,some (.row e z d g xs))::M1)):Wc P x R k T M:=by
 have h2:∀ {j:Nat},(mm [(id,some (Blk.row e z d g xs))] j).isSome=true→j=id:=fun {j} hj=>by
  rw [zI] at hj;unfold upd at hj
  split at hj
  ·assumption
  ·cases hj
 have h1:mm [(id,some (Blk.row e z d g xs))] id=some (.row e z d g xs):=by rw [zI];unfold upd;rw [if_pos rfl]
 refine zbB hn htb fl hc ho hs hd ha trivial rfl (fun i hi h=>by cases h) (.inr ?_) (fun i hi=>by cases hi) ?_
 ·rintro r Mo ⟨rfl,rfl⟩
  refine ⟨rfl,fun j e1 z1 α1 d1 f1 xs1 hj y hy=>?_,fun j t v hj=>?_⟩
  ·have:=h2 (j:=j) (by rw [hj];rfl)
   subst this
   rw [h1] at hj;cases hj
   exact hfl y
  ·have:=h2 (j:=j) (by rw [hj];rfl)
   subst this
   rw [h1] at hj;cases hj
 ·rintro r Mo ⟨rfl,rfl⟩
  refine ⟨hnew,fun i hi=>.inr fun hl=>?_,fun i hi=>?_,h⟩
  ·have:=h2 hi
   have h3:=x.big i hl
   have h4:id<1000:=Nat.blt_eq.mp hsm
   omega
  ·have:id=i:=hi
   subst this
   rw [h1];rfl
end
theorem zhA {e:zz} {n:Int} {i:zbl} {N:Nat} (hL:zp e N) (hnr:0≤n∧n<e.gs.length):zp (setG e n (tell (e.gs.getD n.toNat zd) i)) (N+1):=by
 have hgl:=hL.gor hnr
 have ht:=zcH (e.gs.getD n.toNat zd) i
 exact (hL.le (Nat.le_succ _)).setG ⟨by omega,by omega⟩
set_option maxHeartbeats 8000000 in
theorem zjc (p:zn) (e:zz) (n c:Int) (hL:zp e 1099511610000) (h:Inv p e (fun _=>False)) (hnr:0≤n∧n<e.gs.length) (hs:(e.gs.getD n.toNat zd).state=1) (hop:(zb p (e.gs.getD n.toNat zd)).op=11):Ct Tryz.prog 274 [.dagg (zQ p),hE,.dat (.int .i64 n),.dat (.int .i64 (zb p (e.gs.getD n.toNat zd)).a),.dat (.int .i64 c)] (mE e) (zag (.tup [hE,.dat (.int .i64 (chooseE p e n c).2)]) (mE (chooseE p e n c).1)):=by
 have ha:=h.alive hnr (.inl hs)
 have hi:=zaT h.prog ha.pc
 obtain ⟨hsel,h4,h5⟩:=hi.sel hop
 have hin:=hi.ins
 rw [zap] at hin
 have hia:0≤(zb p (e.gs.getD n.toNat zd)).a∧(zb p (e.gs.getD n.toNat zd)).a<p.sels.length:=by omega
 have hgl:=hL.gor hnr
 have hwS:=h.waitS (n:=n) hnr hs hop
 have hrl:=zcb (zem e (p.sels.getD (zb p (e.gs.getD n.toNat zd)).a.toNat zh).cases) (p.sels.getD (zb p (e.gs.getD n.toNat zd)).a.toNat zh).cases.length
 have hrl:(zX e (p.sels.getD (zb p (e.gs.getD n.toNat zd)).a.toNat zh).cases).length≤4:=by unfold zX;omega
 have hch:chooseE p e n c=(if 0<(zX e (p.sels.getD (zb p (e.gs.getD n.toNat zd)).a.toNat zh).cases).length then
  (throughE p (setG e n (tell (e.gs.getD n.toNat zd) ⟨4,(zb p (e.gs.getD n.toNat zd)).a,(zX e (p.sels.getD (zb p (e.gs.getD n.toNat zd)).a.toNat zh).cases).getD (zV c (zX e (p.sels.getD (zb p (e.gs.getD n.toNat zd)).a.toNat zh).cases).length).toNat 0,false⟩)) n ((p.sels.getD (zb p (e.gs.getD n.toNat zd)).a.toNat zh).cases.getD ((zX e (p.sels.getD (zb p (e.gs.getD n.toNat zd)).a.toNat zh).cases).getD (zV c (zX e (p.sels.getD (zb p (e.gs.getD n.toNat zd)).a.toNat zh).cases).length).toNat 0).toNat zE),(zX e (p.sels.getD (zb p (e.gs.getD n.toNat zd)).a.toNat zh).cases).getD (zV c (zX e (p.sels.getD (zb p (e.gs.getD n.toNat zd)).a.toNat zh).cases).length).toNat 0)
  else if (p.sels.getD (zb p (e.gs.getD n.toNat zd)).a.toNat zh).els<0 then (waitE p e n,-3)
  else (setG e n {tell (e.gs.getD n.toNat zd) ⟨4,(zb p (e.gs.getD n.toNat zd)).a,-1,false⟩ with pc:=(p.sels.getD (zb p (e.gs.getD n.toNat zd)).a.toNat zh).els},-1)):=rfl
 have hrc:=zj8 p e (zb p (e.gs.getD n.toNat zd)).a hia (by omega)
 generalize hat:(zb p (e.gs.getD n.toNat zd)).a=at_ at *
 generalize hrl0:zX e (p.sels.getD at_.toNat zh).cases=l at *
 refine zD (rs:=[(.cell 10 45,45),(.tmp 11,3)]) za Tryz.func274 rfl rfl rfl (Nat.le_of_ble_eq_true rfl) rfl fun ho hm x hn hlent=>?_
 refine zlm hn za [false,false,false] hrc rfl ?_ rfl rfl (fun _=>rfl) rfl rfl ?_
 ·exact qS
 have htm:=zaH (e.gs.getD n.toNat zd) ⟨4,at_,-1,false⟩ (by omega) (by omega)
 by_cases hl0:0<l.length
 ·have hm:=zg5 (c:=c) hl0
  have hk:=zfV (e:=e) (cs:=(p.sels.getD at_.toNat zh).cases) (k:=(l.getD (zV c l.length).toNat 0)) (by rw [hrl0];exact za6 (by omega))
  have htl:=zaH (e.gs.getD n.toNat zd) ⟨4,at_,(l.getD (zV c l.length).toNat 0),false⟩ (by omega) (by omega)
  have hmd:=zgJ c l.length (by omega)
  have hal:za8 p (tell (e.gs.getD n.toNat zd) ⟨4,at_,(l.getD (zV c l.length).toNat 0),false⟩):=ha.tell ⟨by rw [zcr,decide_eq_true_eq,zeA];simp [-List.getD_eq_getElem?_getD];omega,by simp,by simp⟩
  have h1:Inv p (setG e n (tell (e.gs.getD n.toNat zd) ⟨4,at_,(l.getD (zV c l.length).toNat 0),false⟩)) (fun _=>False):=h.go hnr hs (fun x _ hx=>hx) (hal.ok (.inl hs)) (by show (e.gs.getD n.toNat zd).state≠2;omega)
  have hget:(setG e n (tell (e.gs.getD n.toNat zd) ⟨4,at_,(l.getD (zV c l.length).toNat 0),false⟩)).gs.getD n.toNat zd=tell (e.gs.getD n.toNat zd) ⟨4,at_,(l.getD (zV c l.length).toNat 0),false⟩:=zF (by omega)
  have hnr1:0≤n∧n<(setG e n (tell (e.gs.getD n.toNat zd) ⟨4,at_,(l.getD (zV c l.length).toNat 0),false⟩)).gs.length:=by rw [show (setG e n (tell (e.gs.getD n.toNat zd) ⟨4,at_,(l.getD (zV c l.length).toNat 0),false⟩)).gs.length=e.gs.length from List.length_set];exact hnr
  have hs1:((setG e n (tell (e.gs.getD n.toNat zd) ⟨4,at_,(l.getD (zV c l.length).toNat 0),false⟩)).gs.getD n.toNat zd).state=1:=by rw [hget];exact hs
  have hL1:zp (setG e n (tell (e.gs.getD n.toNat zd) ⟨4,at_,(l.getD (zV c l.length).toNat 0),false⟩)) 1099511627770:=(zhA hL hnr).le (by omega)
  have hkr:=hk.2
  rw [zP,Bool.and_eq_true,decide_eq_true_eq] at hkr
  obtain ⟨hkc,hkr⟩:=hkr
  rw [hch,if_pos hl0]
  refine ze hn za rfl qS ?_ ?_<;>intro hc<;>first | (replace hc:=qC2 hc;try exact qX) | exact qF2 hc | skip
  all_goals (try (exfalso;omega))
  refine ze hn za rfl qS ?_ ?_<;>intro hc<;>first | (replace hc:=qC2 hc;try exact qX) | exact qF2 hc | skip
  refine qK hn za rfl rfl (by assumption) ?_
  refine qD hn za zu [.r (.dagg (zH (tell (e.gs.getD n.toNat zd) ⟨4,at_,(l.getD (zV c l.length).toNat 0),false⟩))),.raw .no [(1000,some (.row 172 5 zd zH (e.gs.set n.toNat (tell (e.gs.getD n.toNat zd) ⟨4,at_,(l.getD (zV c l.length).toNat 0),false⟩))))] none] rfl rfl ?_ ?_
  ·(try refine qM ?_);repeat' (first | exact trivial | assumption | assumption | omega | exact qV | refine And.intro ?_ ?_)
   exact zab _ hn za rfl ⟨_,_,rfl,rfl,rfl⟩ rfl rfl rfl rfl rfl (Nat.le_of_ble_eq_true rfl) rfl rfl
  refine ze hn za rfl qS ?_ ?_<;>intro hc<;>first | (replace hc:=qC2 hc;try exact qX) | exact qF2 hc | skip
  refine ze hn za rfl qS ?_ ?_<;>intro hc<;>first | (replace hc:=qC2 hc;try exact qX) | exact qF2 hc | skip
  ·rw [if_pos hc] at hkr
   have hthr:throughE p (setG e n (tell (e.gs.getD n.toNat zd) ⟨4,at_,(l.getD (zV c l.length).toNat 0),false⟩)) n ((p.sels.getD at_.toNat zh).cases.getD (l.getD (zV c l.length).toNat 0).toNat zE)=sendE p (setG e n (tell (e.gs.getD n.toNat zd) ⟨4,at_,(l.getD (zV c l.length).toNat 0),false⟩)) n ((p.sels.getD at_.toNat zh).cases.getD (l.getD (zV c l.length).toNat 0).toNat zE).chan ((p.sels.getD at_.toNat zh).cases.getD (l.getD (zV c l.length).toNat 0).toNat zE).reg ((p.sels.getD at_.toNat zh).cases.getD (l.getD (zV c l.length).toNat 0).toNat zE).to:=by unfold throughE;rw [if_pos hc]
   rw [hthr]
   refine zbB hn za [false,true,false,false,false,false] (zhu p (setG e n (tell (e.gs.getD n.toNat zd) ⟨4,at_,(l.getD (zV c l.length).toNat 0),false⟩)) n ((p.sels.getD at_.toNat zh).cases.getD (l.getD (zV c l.length).toNat 0).toNat zE).chan ((p.sels.getD at_.toNat zh).cases.getD (l.getD (zV c l.length).toNat 0).toNat zE).reg ((p.sels.getD at_.toNat zh).cases.getD (l.getD (zV c l.length).toNat 0).toNat zE).to hL1 h1 hnr1 hs1 hkc hkr) rfl ?_ rfl rfl ⟨rfl,rfl,rfl,trivial⟩ rfl (fun i hi=>(by cases hi)) (.inl rfl) zdV ?_;exact qS;rintro r Mo ⟨rfl,rfl⟩;refine ⟨rfl,fun id hi=>.inl (zc9 (e1:=(sendE p (setG e n (tell (e.gs.getD n.toNat zd) ⟨4,at_,(l.getD (zV c l.length).toNat 0),false⟩)) n ((p.sels.getD at_.toNat zh).cases.getD (l.getD (zV c l.length).toNat 0).toNat zE).chan ((p.sels.getD at_.toNat zh).cases.getD (l.getD (zV c l.length).toNat 0).toNat zE).reg ((p.sels.getD at_.toNat zh).cases.getD (l.getD (zV c l.length).toNat 0).toNat zE).to)) hi),fun id hi=>(by first | exact zfW (e:=(sendE p (setG e n (tell (e.gs.getD n.toNat zd) ⟨4,at_,(l.getD (zV c l.length).toNat 0),false⟩)) n ((p.sels.getD at_.toNat zh).cases.getD (l.getD (zV c l.length).toNat 0).toNat zE).chan ((p.sels.getD at_.toNat zh).cases.getD (l.getD (zV c l.length).toNat 0).toNat zE).reg ((p.sels.getD at_.toNat zh).cases.getD (l.getD (zV c l.length).toNat 0).toNat zE).to)) hi | exact zeL (e:=(sendE p (setG e n (tell (e.gs.getD n.toNat zd) ⟨4,at_,(l.getD (zV c l.length).toNat 0),false⟩)) n ((p.sels.getD at_.toNat zh).cases.getD (l.getD (zV c l.length).toNat 0).toNat zE).chan ((p.sels.getD at_.toNat zh).cases.getD (l.getD (zV c l.length).toNat 0).toNat zE).reg ((p.sels.getD at_.toNat zh).cases.getD (l.getD (zV c l.length).toNat 0).toNat zE).to)) hi),?_⟩
   refine zf hn za rfl ?_ ⟨_,.tup [hE,.dat (.int .i64 (l.getD (zV c l.length).toNat 0))],mE (sendE p (setG e n (tell (e.gs.getD n.toNat zd) ⟨4,at_,(l.getD (zV c l.length).toNat 0),false⟩)) n ((p.sels.getD at_.toNat zh).cases.getD (l.getD (zV c l.length).toNat 0).toNat zE).chan ((p.sels.getD at_.toNat zh).cases.getD (l.getD (zV c l.length).toNat 0).toNat zE).reg ((p.sels.getD at_.toNat zh).cases.getD (l.getD (zV c l.length).toNat 0).toNat zE).to),[],rfl,rfl,⟨rfl,rfl,rfl,trivial⟩,rfl,rfl,rfl,rfl,rfl⟩
   exact qS
  ·rw [if_neg (by rw [hc];decide)] at hkr
   have hthr:throughE p (setG e n (tell (e.gs.getD n.toNat zd) ⟨4,at_,(l.getD (zV c l.length).toNat 0),false⟩)) n ((p.sels.getD at_.toNat zh).cases.getD (l.getD (zV c l.length).toNat 0).toNat zE)=recvE p (setG e n (tell (e.gs.getD n.toNat zd) ⟨4,at_,(l.getD (zV c l.length).toNat 0),false⟩)) n ((p.sels.getD at_.toNat zh).cases.getD (l.getD (zV c l.length).toNat 0).toNat zE).chan ((p.sels.getD at_.toNat zh).cases.getD (l.getD (zV c l.length).toNat 0).toNat zE):=by unfold throughE;rw [if_neg (by rw [hc];decide)]
   rw [hthr]
   refine zbB hn za [false,true,false,false,false] (zhk p (setG e n (tell (e.gs.getD n.toNat zd) ⟨4,at_,(l.getD (zV c l.length).toNat 0),false⟩)) n ((p.sels.getD at_.toNat zh).cases.getD (l.getD (zV c l.length).toNat 0).toNat zE).chan ((p.sels.getD at_.toNat zh).cases.getD (l.getD (zV c l.length).toNat 0).toNat zE) hL1 h1 hnr1 hs1 hkc hkr) rfl ?_ rfl rfl ⟨rfl,rfl,rfl,trivial⟩ rfl (fun i hi=>(by cases hi)) (.inl rfl) zdV ?_;exact qS;rintro r Mo ⟨rfl,rfl⟩;refine ⟨rfl,fun id hi=>.inl (zc9 (e1:=(recvE p (setG e n (tell (e.gs.getD n.toNat zd) ⟨4,at_,(l.getD (zV c l.length).toNat 0),false⟩)) n ((p.sels.getD at_.toNat zh).cases.getD (l.getD (zV c l.length).toNat 0).toNat zE).chan ((p.sels.getD at_.toNat zh).cases.getD (l.getD (zV c l.length).toNat 0).toNat zE))) hi),fun id hi=>(by first | exact zfW (e:=(recvE p (setG e n (tell (e.gs.getD n.toNat zd) ⟨4,at_,(l.getD (zV c l.length).toNat 0),false⟩)) n ((p.sels.getD at_.toNat zh).cases.getD (l.getD (zV c l.length).toNat 0).toNat zE).chan ((p.sels.getD at_.toNat zh).cases.getD (l.getD (zV c l.length).toNat 0).toNat zE))) hi | exact zeL (e:=(recvE p (setG e n (tell (e.gs.getD n.toNat zd) ⟨4,at_,(l.getD (zV c l.length).toNat 0),false⟩)) n ((p.sels.getD at_.toNat zh).cases.getD (l.getD (zV c l.length).toNat 0).toNat zE).chan ((p.sels.getD at_.toNat zh).cases.getD (l.getD (zV c l.length).toNat 0).toNat zE))) hi),?_⟩
   refine zf hn za rfl ?_ ⟨_,.tup [hE,.dat (.int .i64 (l.getD (zV c l.length).toNat 0))],mE (recvE p (setG e n (tell (e.gs.getD n.toNat zd) ⟨4,at_,(l.getD (zV c l.length).toNat 0),false⟩)) n ((p.sels.getD at_.toNat zh).cases.getD (l.getD (zV c l.length).toNat 0).toNat zE).chan ((p.sels.getD at_.toNat zh).cases.getD (l.getD (zV c l.length).toNat 0).toNat zE)),[],rfl,rfl,⟨rfl,rfl,rfl,trivial⟩,rfl,rfl,rfl,rfl,rfl⟩
   exact qS
 ·rw [hch,if_neg hl0]
  refine ze hn za rfl qS ?_ ?_<;>intro hc<;>first | (replace hc:=qC2 hc;try exact qX) | exact qF2 hc | skip
  all_goals (try (exfalso;omega))
  refine ze hn za rfl qS ?_ ?_<;>intro hc<;>first | (replace hc:=qC2 hc;try exact qX) | exact qF2 hc | skip
  ·have hel:=hc
   rw [if_pos hel]
   have hwc:zgG p e n:=hwS hel (zkF (by rw [hrl0];exact hl0))
   refine zbB hn za [false,true,false] (zhl p e n (hL.le (by omega)) h hnr hs hwc) rfl ?_ rfl rfl ⟨rfl,rfl,rfl,trivial⟩ rfl (fun i hi=>(by cases hi)) (.inl rfl) zdV ?_;exact qS;rintro r Mo ⟨rfl,rfl⟩;refine ⟨rfl,fun id hi=>.inl (zc9 (e1:=(waitE p e n)) hi),fun id hi=>(by first | exact zfW (e:=(waitE p e n)) hi | exact zeL (e:=(waitE p e n)) hi),?_⟩
   refine zf hn za rfl ?_ ⟨_,.tup [hE,.dat (.int .i64 (-3))],mE (waitE p e n),[],rfl,rfl,⟨rfl,rfl,rfl,trivial⟩,rfl,rfl,rfl,rfl,rfl⟩
   exact qS
  ·have hel:=hc
   rw [if_neg (by omega)]
   refine ze hn za rfl qS ?_ ?_<;>intro hc<;>first | (replace hc:=qC2 hc;try exact qX) | exact qF2 hc | skip
   refine qD hn za zu [.r (.dagg (zH (tell (e.gs.getD n.toNat zd) ⟨4,at_,-1,false⟩))),.raw .no [(1000,some (.row 172 5 zd zH (e.gs.set n.toNat (tell (e.gs.getD n.toNat zd) ⟨4,at_,-1,false⟩))))] none] rfl rfl ?_ ?_
   ·(try refine qM ?_);repeat' (first | exact trivial | assumption | assumption | omega | exact qV | refine And.intro ?_ ?_)
    exact zab _ hn za rfl ⟨_,_,rfl,rfl,rfl⟩ rfl rfl rfl rfl rfl (Nat.le_of_ble_eq_true rfl) rfl rfl
   refine ze hn za rfl qS ?_ ?_<;>intro hc<;>first | (replace hc:=qC2 hc;try exact qX) | exact qF2 hc | skip
   all_goals (try (exfalso;simp at hc;done))
   have hln:(e.gs.set n.toNat (tell (e.gs.getD n.toNat zd) ⟨4,at_,-1,false⟩)).length=e.gs.length:=List.length_set
   have hset:(e.gs.set n.toNat (tell (e.gs.getD n.toNat zd) ⟨4,at_,-1,false⟩)).set n.toNat {(e.gs.set n.toNat (tell (e.gs.getD n.toNat zd) ⟨4,at_,-1,false⟩)).getD n.toNat zd with pc:=(p.sels.getD at_.toNat zh).els}=e.gs.set n.toNat {tell (e.gs.getD n.toNat zd) ⟨4,at_,-1,false⟩ with pc:=(p.sels.getD at_.toNat zh).els}:=by
    rw [zF (by omega),List.set_set]
   refine qD hn za zu [.raw .no [(1000,some (.row 172 5 zd zH ((e.gs.set n.toNat (tell (e.gs.getD n.toNat zd) ⟨4,at_,-1,false⟩)).set n.toNat {(e.gs.set n.toNat (tell (e.gs.getD n.toNat zd) ⟨4,at_,-1,false⟩)).getD n.toNat zd with pc:=(p.sels.getD at_.toNat zh).els})))] none] rfl rfl ?_ ?_
   ·(try refine qM ?_);repeat' (first | exact trivial | assumption | assumption | omega | exact qV | refine And.intro ?_ ?_)
    all_goals first
     | (rw [hln];omega)
     | exact zab _ hn za rfl ⟨_,_,rfl,rfl,rfl⟩ rfl rfl rfl rfl rfl (Nat.le_of_ble_eq_true rfl) rfl rfl
   refine zf hn za rfl ?_ ⟨_,.tup [hE,.dat (.int .i64 (-1))],mE (setG e n {tell (e.gs.getD n.toNat zd) ⟨4,at_,-1,false⟩ with pc:=(p.sels.getD at_.toNat zh).els}),[],rfl,rfl,⟨?_,rfl,rfl,trivial⟩,rfl,rfl,rfl,rfl,rfl⟩
   ·exact qS
   ·exact congrArg (fun q=>some (Blk.row 172 5 zd zH q)) hset
theorem zus {p:zn} {e:zz} (h:zay p e=true):(zeu e).length≤40:=by
 have hi:=zaM.1 h
 rw [zay,Bool.and_eq_true,Bool.and_eq_true,zlR,Bool.and_eq_true,decide_eq_true_eq] at h
 rw [← h.2.2.2]
 have hlen:=hi.len
 have hg:∀ i≤e.gs.length,(zL (zbU p e) i).length≤4*i:=fun i=>by
  induction i with
  | zero=>intro _;exact Nat.zero_le _
  | succ i ih=>
    intro hle
    have:=ih (by omega)
    rw [z6,List.length_append]
    have h4:(zbU p e i).length≤4:=by
     unfold zbU
     split
     ·rename_i hs
      have ha:=hi.alive (n:=(i:Int)) (by omega) (.inr (by rw [Int.toNat_natCast];exact hs))
      rw [Int.toNat_natCast] at ha
      exact zef hi.prog (ha.head (.inr hs))
     ·exact Nat.zero_le _
    omega
 have:=hg _ (Nat.le_refl _)
 unfold zdk
 omega
theorem zsa {α:Type} {f:Nat→List α} {n k:Nat} (h:k<n):(f k).length≤(zL f n).length:=by
 induction n with
 | zero=>omega
 | succ n ih=>
   rw [z6,List.length_append]
   by_cases hk:k=n
   ·subst hk;omega
   ·have:=ih (by omega);omega
theorem zqO {p:zn} {e:zz} (h:zay p e=true) (k:Nat):(e.chans.getD k zg).recvs.length+(e.chans.getD k zg).sends.length≤40:=by
 by_cases hk:k<e.chans.length
 ·have h1:=zus h
  rw [zeu,List.length_append] at h1
  have h2:=zsa (f:=zdy e) hk
  rw [zdy,List.length_append,List.length_map,List.length_map] at h2
  omega
 ·rw [zgl (by omega)];exact Nat.zero_le _
def zeS (p:zn) (e:zz) (n:Int):Bool:=
 let i:=zb p (e.gs.getD n.toNat zd)
 if i.op=8 then !zP e ⟨true,i.a,0,0,0⟩
 else if i.op=9 then !zP e ⟨false,i.a,0,0,0⟩
 else if i.op=12 then decide (0≤(e.mus.getD i.a.toNat zj).owner∧(e.mus.getD i.a.toNat zj).owner≠n)
 else false
set_option maxHeartbeats 4000000 in
theorem zhi (p:zn) (e:zz) (n:Int) (hok:zay p e=true) (hnr:0≤n∧n<e.gs.length) (hs:(e.gs.getD n.toNat zd).state=1) (hop:(zb p (e.gs.getD n.toNat zd)).op≠11):Con Tryz.prog 275 [.dagg (zQ p),.dagg (zad e),.dat (.int .i64 n)] (.dat (.bool (zeS p e n))):=by
 have h40:=zus hok
 have hi:=zaM.1 hok
 have ha:=hi.alive hnr (.inl hs)
 have hgh:=ha.head (.inl hs)
 have hin:=(zaT hi.prog ha.pc).ins
 rw [zap] at hin
 have hml:=hi.ml
 have hask:zod p e n=true:=by rw [zod,hok,decide_eq_true ⟨hnr.1,hnr.2,hs⟩];rfl
 have hcon:=zjB p e n (by omega)
 rw [hask] at hcon
 have hcr1:=zcx e ⟨true,(zb p (e.gs.getD n.toNat zd)).a,0,0,0⟩
 have hcr2:=zcx e ⟨false,(zb p (e.gs.getD n.toNat zd)).a,0,0,0⟩
 refine zk (rs:=[(.tmp 6,4)]) za Tryz.func275 rfl rfl rfl (Nat.le_of_ble_eq_true rfl) fun ho x hn=>?_
 refine zbs hn za rfl ?_ rfl [] ⟨_,.dat (.bool true),rfl,hcon,rfl,.inl rfl,?_⟩
 ·exact qS
 refine ze hn za rfl qS ?_ ?_<;>intro hc<;>first | (replace hc:=qC2 hc;try exact qX) | exact qF2 hc | skip
 all_goals (try (exfalso;simp at hc;done))
 refine qD hn za zu [.r (.dagg (zc7 (zb p (e.gs.getD n.toNat zd))))] rfl rfl ?_ ?_
 ·(try refine qM ?_);repeat' (first | exact trivial | (first | exact zcx _ _ | exact con_at_spec.l09At _ _ (by assumption) | assumption) | assumption | omega | exact qV | refine And.intro ?_ ?_)
 repeat' (first | (refine ze hn za rfl qS ?_ ?_<;>intro hc<;>first | (replace hc:=qC2 hc;try exact qX) | exact qF2 hc | skip) | refine zf hn za rfl qS ⟨_,rfl,?_⟩ | refine qK hn za rfl rfl (by (first | exact zcx _ _ | exact con_at_spec.l09At _ _ (by assumption) | assumption)) ?_)
 all_goals (refine congrArg (fun b=>LV.dat (.bool b)) (Eq.symm ?_);unfold zeS;dsimp only)
 all_goals first
  | (rw [if_pos (by omega)];done)
  | (rw [if_neg (by omega),if_pos (by omega)];done)
  | (rw [if_neg (by omega),if_neg (by omega),if_neg (by omega)];done)
  | (rw [if_neg (by omega),if_neg (by omega),if_pos (by omega)]
     first | exact decide_eq_true (by omega) | exact decide_eq_false (by omega) | (rw [Bool.eq_iff_iff,decide_eq_true_eq,Bool.not_eq_true',decide_eq_false_iff_not];exact ⟨fun h=>h.2,fun h=>⟨hc,h⟩⟩))
end Go.Proofs.YtjmefaihkblliaaGreat.Ab

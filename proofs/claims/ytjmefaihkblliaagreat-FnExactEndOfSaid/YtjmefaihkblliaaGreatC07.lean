/- Texts of one claim, joined: E53, E54, E55, E56, S11, E57, E58, E62, E59, E60, E61, E63, E64, E65, E66. Conditions: zas each says. -/
import Derived.Test.YtjmefaihkblliaaGreatC05
import Derived.Test.YtjmefaihkblliaaGreatC06
namespace Go.Proofs.YtjmefaihkblliaaGreat.Ab
open Go.RowKit
set_option linter.unusedVariables false
set_option linter.unusedSimpArgs false
set_option maxRecDepth 100000
theorem zsF {e:zz} {c:C} {i:Nat} (h:(LV.tup [hE,.dat c]).on i):(mm (mE e) i).isSome=true:=by
 obtain ⟨l,hl,hi⟩:=h
 rcases List.mem_cons.1 hl with rfl | hl
 ·exact zfW hi
 ·rw [List.mem_singleton.1 hl] at hi;exact hi.elim
theorem zp9 {p:zn} {e:zz} {n:Int} (h:Inv p e (fun _=>False)) (hnr:0≤n∧n<e.gs.length) (hs:(e.gs.getD n.toNat zd).state=1) (hb:zeS p e n=true) (c:Int):zgG p e n∧doE p e n c=(waitE p e n,-2):=by
 have hin:=(zaT h.prog (h.alive hnr (.inl hs)).pc).ins
 rw [zap] at hin
 have hml:=h.ml
 unfold zeS at hb
 dsimp only at hb
 unfold doE
 simp only
 split at hb
 ·rename_i h8
  have hr:zP e ⟨decide ((zb p (e.gs.getD n.toNat zd)).op=8),(zb p (e.gs.getD n.toNat zd)).a,(zb p (e.gs.getD n.toNat zd)).b,(zb p (e.gs.getD n.toNat zd)).c,(e.gs.getD n.toNat zd).pc+1⟩=false:=by
   rw [decide_eq_true h8];show zP e ⟨true,(zb p (e.gs.getD n.toNat zd)).a,0,0,0⟩=false;simpa [-List.getD_eq_getElem?_getD] using hb
  refine ⟨h.wait1 hnr hs (.inl h8) hr,?_⟩
  rw [if_neg (by omega),if_pos (.inl h8),if_neg (by rw [hr];decide)]
 ·split at hb
  ·rename_i h8 h9
   have hr:zP e ⟨decide ((zb p (e.gs.getD n.toNat zd)).op=8),(zb p (e.gs.getD n.toNat zd)).a,(zb p (e.gs.getD n.toNat zd)).b,(zb p (e.gs.getD n.toNat zd)).c,(e.gs.getD n.toNat zd).pc+1⟩=false:=by
    rw [decide_eq_false h8];show zP e ⟨false,(zb p (e.gs.getD n.toNat zd)).a,0,0,0⟩=false;simpa [-List.getD_eq_getElem?_getD] using hb
   refine ⟨h.wait1 hnr hs (.inr h9) hr,?_⟩
   rw [if_neg (by omega),if_pos (.inr h9),if_neg (by rw [hr];decide)]
  ·split at hb
   ·rename_i h8 h9 h12
    rw [decide_eq_true_eq] at hb
    refine ⟨h.waitL hnr hs h12 hb.2 (by omega),?_⟩
    rw [if_neg (by omega),if_neg (by omega),if_neg (by omega),if_pos h12,if_neg (by omega)]
   ·cases hb
theorem zsm {p:zn} {e:zz} {n:Int} (hb:zeS p e n=false):((zb p (e.gs.getD n.toNat zd)).op=8∨(zb p (e.gs.getD n.toNat zd)).op=9→zP e ⟨decide ((zb p (e.gs.getD n.toNat zd)).op=8),(zb p (e.gs.getD n.toNat zd)).a,(zb p (e.gs.getD n.toNat zd)).b,(zb p (e.gs.getD n.toNat zd)).c,(e.gs.getD n.toNat zd).pc+1⟩=true)∧((zb p (e.gs.getD n.toNat zd)).op=12→(e.mus.getD (zb p (e.gs.getD n.toNat zd)).a.toNat zj).owner<0∨(e.mus.getD (zb p (e.gs.getD n.toNat zd)).a.toNat zj).owner=n):=by
 unfold zeS at hb
 dsimp only at hb
 constructor
 ·intro h
  by_cases h8:(zb p (e.gs.getD n.toNat zd)).op=8
  ·rw [if_pos h8] at hb
   rw [decide_eq_true h8];show zP e ⟨true,(zb p (e.gs.getD n.toNat zd)).a,0,0,0⟩=true;simpa [-List.getD_eq_getElem?_getD] using hb
  ·rw [if_neg h8,if_pos (by omega)] at hb
   rw [decide_eq_false h8];show zP e ⟨false,(zb p (e.gs.getD n.toNat zd)).a,0,0,0⟩=true;simpa [-List.getD_eq_getElem?_getD] using hb
 ·intro h
  rw [if_neg (by omega),if_neg (by omega),if_pos h,decide_eq_false_iff_not] at hb
  omega
set_option maxHeartbeats 16000000 in
theorem znj (p:zn) (e:zz) (n c:Int) (hL:zp e 1099511600000) (hok:zay p e=true) (hnr:0≤n∧n<e.gs.length) (hs:(e.gs.getD n.toNat zd).state=1) (hsh:zbr (zb p (e.gs.getD n.toNat zd)).op=true) (hnsp:(zb p (e.gs.getD n.toNat zd)).op=14→e.gs.length=10):Ct Tryz.prog 248 [.dagg (zQ p),hE,.dat (.int .i64 n),.dat (.int .i64 c)] (mE e) (zag (.tup [hE,.dat (.int .i64 (doE p e n c).2)]) (mE (doE p e n c).1)):=by
 have h:=zaM.1 hok
 have ha:=h.alive hnr (.inl hs)
 have hgh:=ha.head (.inl hs)
 have hi:=zaT h.prog ha.pc
 have hin:=hi.ins
 rw [zap] at hin
 rw [zbr,decide_eq_true_eq] at hsh
 have hgl:=hL.gor hnr
 have hpc:=zaq h.prog ha
 have hlast:=hi.last
 have hcl:=h.cl
 have hml:=h.ml
 by_cases h11:(zb p (e.gs.getD n.toNat zd)).op=11
 ·have hdo:doE p e n c=chooseE p e n c:=by unfold doE;simp only;rw [if_pos h11]
  rw [hdo]
  refine zD (rs:=[(.cell 8 45,45),(.tmp 9,3)]) za Tryz.func248 rfl rfl rfl (Nat.le_of_ble_eq_true rfl) rfl fun ho hm x hn hlent=>?_
  refine qK hn za rfl rfl (by (first | exact con_at_spec.l09At _ _ (by assumption) | exact zR _ _ | assumption)) ?_
  refine ze hn za rfl qS ?_ ?_<;>intro hc<;>first | (replace hc:=qC2 hc;try exact qX) | exact qF2 hc | skip
  refine zbB hn za [false,true,false,false,false] (zjc p e n c (hL.le (by omega)) h hnr hs h11) rfl ?_ rfl rfl ⟨rfl,rfl,rfl,trivial⟩ rfl (fun i hi=>(by cases hi)) (.inl rfl) zdV ?_;exact qS;rintro r Mo ⟨rfl,rfl⟩;refine ⟨rfl,fun id hi=>.inl (zc9 (e1:=(chooseE p e n c).1) hi),fun id hi=>zsF (e:=(chooseE p e n c).1) hi,?_⟩
  refine zf hn za rfl ?_ ⟨_,.tup [hE,.dat (.int .i64 (chooseE p e n c).2)],mE (chooseE p e n c).1,[],rfl,rfl,⟨rfl,rfl,rfl,trivial⟩,rfl,rfl,rfl,rfl,rfl⟩
  exact qS
 have hbk:=zhi p e n hok hnr hs h11
 by_cases hbl:zeS p e n=true
 ·obtain ⟨hwc,hdo⟩:=zp9 h hnr hs hbl c
  rw [hdo]
  rw [hbl] at hbk
  refine zD (rs:=[(.cell 8 45,45),(.tmp 9,3)]) za Tryz.func248 rfl rfl rfl (Nat.le_of_ble_eq_true rfl) rfl fun ho hm x hn hlent=>?_
  refine qK hn za rfl rfl (by (first | exact con_at_spec.l09At _ _ (by assumption) | exact zR _ _ | assumption)) ?_
  refine ze hn za rfl qS ?_ ?_<;>intro hc<;>first | (replace hc:=qC2 hc;try exact qX) | exact qF2 hc | skip
  refine zbs hn za rfl ?_ rfl [] ⟨_,.dat (.bool true),rfl,hbk,rfl,.inl rfl,?_⟩
  ·exact qS
  refine ze hn za rfl qS ?_ ?_<;>intro hc<;>first | (replace hc:=qC2 hc;try exact qX) | exact qF2 hc | skip
  all_goals (try (exfalso;simp at hc;done))
  refine zbB hn za [false,true,false] (zhl p e n (hL.le (by omega)) h hnr hs hwc) rfl ?_ rfl rfl ⟨rfl,rfl,rfl,trivial⟩ rfl (fun i hi=>(by cases hi)) (.inl rfl) zdV ?_;exact qS;rintro r Mo ⟨rfl,rfl⟩;refine ⟨rfl,fun id hi=>.inl (zc9 (e1:=(waitE p e n)) hi),fun id hi=>(by first | exact zfW (e:=(waitE p e n)) hi | exact zeL (e:=(waitE p e n)) hi),?_⟩
  refine zf hn za rfl ?_ ⟨_,.tup [hE,.dat (.int .i64 (-2))],mE (waitE p e n),[],rfl,rfl,⟨rfl,rfl,rfl,trivial⟩,rfl,rfl,rfl,rfl,rfl⟩
  exact qS
 have hbl:zeS p e n=false:=by simpa only [Bool.not_eq_true] using hbl
 obtain ⟨hb1,hb2⟩:=zsm hbl
 rw [hbl] at hbk
 have hstart:True:=trivial
 by_cases h8:(zb p (e.gs.getD n.toNat zd)).op=8
 ·have hcr:=hb1 (.inl h8)
  have hdo:doE p e n c=(throughE p e n ⟨decide ((zb p (e.gs.getD n.toNat zd)).op=8),(zb p (e.gs.getD n.toNat zd)).a,(zb p (e.gs.getD n.toNat zd)).b,(zb p (e.gs.getD n.toNat zd)).c,(e.gs.getD n.toNat zd).pc+1⟩,-2):=by unfold doE;simp only;rw [if_neg h11,if_pos (.inl h8),if_pos hcr]
  have hth:throughE p e n ⟨decide ((zb p (e.gs.getD n.toNat zd)).op=8),(zb p (e.gs.getD n.toNat zd)).a,(zb p (e.gs.getD n.toNat zd)).b,(zb p (e.gs.getD n.toNat zd)).c,(e.gs.getD n.toNat zd).pc+1⟩=sendE p e n (zb p (e.gs.getD n.toNat zd)).a (zb p (e.gs.getD n.toNat zd)).b ((e.gs.getD n.toNat zd).pc+1):=by unfold throughE;rw [if_pos (decide_eq_true h8)]
  rw [hdo,hth]
  rw [zP,Bool.and_eq_true,decide_eq_true_eq,if_pos (decide_eq_true h8)] at hcr
  refine zD (rs:=[(.cell 8 45,45),(.tmp 9,3)]) za Tryz.func248 rfl rfl rfl (Nat.le_of_ble_eq_true rfl) rfl fun ho hm x hn hlent=>?_
  refine qK hn za rfl rfl (by (first | exact con_at_spec.l09At _ _ (by assumption) | exact zR _ _ | assumption)) ?_
  refine ze hn za rfl qS ?_ ?_<;>intro hc<;>first | (replace hc:=qC2 hc;try exact qX) | exact qF2 hc | skip
  refine zbs hn za rfl ?_ rfl [] ⟨_,.dat (.bool false),rfl,hbk,rfl,.inl rfl,?_⟩
  ·exact qS
  refine ze hn za rfl qS ?_ ?_<;>intro hc<;>first | (replace hc:=qC2 hc;try exact qX) | exact qF2 hc | skip
  all_goals (try (exfalso;simp at hc;done))
  refine ze hn za rfl qS ?_ ?_<;>intro hc<;>first | (replace hc:=qC2 hc;try exact qX) | exact qF2 hc | skip
  refine zbB hn za [false,true,false,false,false,false] (zhu p e n (zb p (e.gs.getD n.toNat zd)).a (zb p (e.gs.getD n.toNat zd)).b ((e.gs.getD n.toNat zd).pc+1) (hL.le (by omega)) h hnr hs hcr.1 hcr.2) rfl ?_ rfl rfl ⟨rfl,rfl,rfl,trivial⟩ rfl (fun i hi=>(by cases hi)) (.inl rfl) zdV ?_;exact qS;rintro r Mo ⟨rfl,rfl⟩;refine ⟨rfl,fun id hi=>.inl (zc9 (e1:=(sendE p e n (zb p (e.gs.getD n.toNat zd)).a (zb p (e.gs.getD n.toNat zd)).b ((e.gs.getD n.toNat zd).pc+1))) hi),fun id hi=>(by first | exact zfW (e:=(sendE p e n (zb p (e.gs.getD n.toNat zd)).a (zb p (e.gs.getD n.toNat zd)).b ((e.gs.getD n.toNat zd).pc+1))) hi | exact zeL (e:=(sendE p e n (zb p (e.gs.getD n.toNat zd)).a (zb p (e.gs.getD n.toNat zd)).b ((e.gs.getD n.toNat zd).pc+1))) hi),?_⟩
  refine zf hn za rfl ?_ ⟨_,.tup [hE,.dat (.int .i64 (-2))],mE (sendE p e n (zb p (e.gs.getD n.toNat zd)).a (zb p (e.gs.getD n.toNat zd)).b ((e.gs.getD n.toNat zd).pc+1)),[],rfl,rfl,⟨rfl,rfl,rfl,trivial⟩,rfl,rfl,rfl,rfl,rfl⟩
  exact qS
 by_cases h9:(zb p (e.gs.getD n.toNat zd)).op=9
 ·have hcr:=hb1 (.inr h9)
  have hdo:doE p e n c=(throughE p e n ⟨decide ((zb p (e.gs.getD n.toNat zd)).op=8),(zb p (e.gs.getD n.toNat zd)).a,(zb p (e.gs.getD n.toNat zd)).b,(zb p (e.gs.getD n.toNat zd)).c,(e.gs.getD n.toNat zd).pc+1⟩,-2):=by unfold doE;simp only;rw [if_neg h11,if_pos (.inr h9),if_pos hcr]
  have hth:throughE p e n ⟨decide ((zb p (e.gs.getD n.toNat zd)).op=8),(zb p (e.gs.getD n.toNat zd)).a,(zb p (e.gs.getD n.toNat zd)).b,(zb p (e.gs.getD n.toNat zd)).c,(e.gs.getD n.toNat zd).pc+1⟩=recvE p e n (zb p (e.gs.getD n.toNat zd)).a ⟨false,0,(zb p (e.gs.getD n.toNat zd)).b,(zb p (e.gs.getD n.toNat zd)).c,(e.gs.getD n.toNat zd).pc+1⟩:=by unfold throughE;rw [if_neg (by rw [decide_eq_false h8];exact Bool.false_ne_true)];rfl
  rw [hdo,hth]
  rw [zP,Bool.and_eq_true,decide_eq_true_eq,if_neg (by rw [decide_eq_false h8];exact Bool.false_ne_true)] at hcr
  refine zD (rs:=[(.cell 8 45,45),(.tmp 9,3)]) za Tryz.func248 rfl rfl rfl (Nat.le_of_ble_eq_true rfl) rfl fun ho hm x hn hlent=>?_
  refine qK hn za rfl rfl (by (first | exact con_at_spec.l09At _ _ (by assumption) | exact zR _ _ | assumption)) ?_
  refine ze hn za rfl qS ?_ ?_<;>intro hc<;>first | (replace hc:=qC2 hc;try exact qX) | exact qF2 hc | skip
  refine zbs hn za rfl ?_ rfl [] ⟨_,.dat (.bool false),rfl,hbk,rfl,.inl rfl,?_⟩
  ·exact qS
  refine ze hn za rfl qS ?_ ?_<;>intro hc<;>first | (replace hc:=qC2 hc;try exact qX) | exact qF2 hc | skip
  all_goals (try (exfalso;simp at hc;done))
  refine ze hn za rfl qS ?_ ?_<;>intro hc<;>first | (replace hc:=qC2 hc;try exact qX) | exact qF2 hc | skip
  refine ze hn za rfl qS ?_ ?_<;>intro hc<;>first | (replace hc:=qC2 hc;try exact qX) | exact qF2 hc | skip
  refine zbB hn za [false,true,false,false,false] (zhk p e n (zb p (e.gs.getD n.toNat zd)).a ⟨false,0,(zb p (e.gs.getD n.toNat zd)).b,(zb p (e.gs.getD n.toNat zd)).c,(e.gs.getD n.toNat zd).pc+1⟩ (hL.le (by omega)) h hnr hs hcr.1 hcr.2) rfl ?_ rfl rfl ⟨rfl,rfl,rfl,trivial⟩ rfl (fun i hi=>(by cases hi)) (.inl rfl) zdV ?_;exact qS;rintro r Mo ⟨rfl,rfl⟩;refine ⟨rfl,fun id hi=>.inl (zc9 (e1:=(recvE p e n (zb p (e.gs.getD n.toNat zd)).a ⟨false,0,(zb p (e.gs.getD n.toNat zd)).b,(zb p (e.gs.getD n.toNat zd)).c,(e.gs.getD n.toNat zd).pc+1⟩)) hi),fun id hi=>(by first | exact zfW (e:=(recvE p e n (zb p (e.gs.getD n.toNat zd)).a ⟨false,0,(zb p (e.gs.getD n.toNat zd)).b,(zb p (e.gs.getD n.toNat zd)).c,(e.gs.getD n.toNat zd).pc+1⟩)) hi | exact zeL (e:=(recvE p e n (zb p (e.gs.getD n.toNat zd)).a ⟨false,0,(zb p (e.gs.getD n.toNat zd)).b,(zb p (e.gs.getD n.toNat zd)).c,(e.gs.getD n.toNat zd).pc+1⟩)) hi),?_⟩
  refine zf hn za rfl ?_ ⟨_,.tup [hE,.dat (.int .i64 (-2))],mE (recvE p e n (zb p (e.gs.getD n.toNat zd)).a ⟨false,0,(zb p (e.gs.getD n.toNat zd)).b,(zb p (e.gs.getD n.toNat zd)).c,(e.gs.getD n.toNat zd).pc+1⟩),[],rfl,rfl,⟨rfl,rfl,rfl,trivial⟩,rfl,rfl,rfl,rfl,rfl⟩
  exact qS
 have hn89:¬ ((zb p (e.gs.getD n.toNat zd)).op=8∨(zb p (e.gs.getD n.toNat zd)).op=9):=by omega
 by_cases h10:(zb p (e.gs.getD n.toNat zd)).op=10
 ·have hdo:doE p e n c=(closeE p e n (zb p (e.gs.getD n.toNat zd)).a,-2):=by unfold doE;simp only;rw [if_neg h11,if_neg hn89,if_pos h10]
  rw [hdo]
  have hto:=hlast (by omega) (by omega)
  have h40:=zqO hok (zb p (e.gs.getD n.toNat zd)).a.toNat
  refine zD (rs:=[(.cell 8 45,45),(.tmp 9,3)]) za Tryz.func248 rfl rfl rfl (Nat.le_of_ble_eq_true rfl) rfl fun ho hm x hn hlent=>?_
  refine qK hn za rfl rfl (by (first | exact con_at_spec.l09At _ _ (by assumption) | exact zR _ _ | assumption)) ?_
  refine ze hn za rfl qS ?_ ?_<;>intro hc<;>first | (replace hc:=qC2 hc;try exact qX) | exact qF2 hc | skip
  refine zbs hn za rfl ?_ rfl [] ⟨_,.dat (.bool false),rfl,hbk,rfl,.inl rfl,?_⟩
  ·exact qS
  refine ze hn za rfl qS ?_ ?_<;>intro hc<;>first | (replace hc:=qC2 hc;try exact qX) | exact qF2 hc | skip
  all_goals (try (exfalso;simp at hc;done))
  refine ze hn za rfl qS ?_ ?_<;>intro hc<;>first | (replace hc:=qC2 hc;try exact qX) | exact qF2 hc | skip
  refine ze hn za rfl qS ?_ ?_<;>intro hc<;>first | (replace hc:=qC2 hc;try exact qX) | exact qF2 hc | skip
  refine ze hn za rfl qS ?_ ?_<;>intro hc<;>first | (replace hc:=qC2 hc;try exact qX) | exact qF2 hc | skip
  refine zbB hn za [false,true,false,false] (zkq p e n (zb p (e.gs.getD n.toNat zd)).a (hL.le (by omega)) h hnr hs (by omega) hto (by omega)) rfl ?_ rfl rfl ⟨rfl,rfl,rfl,trivial⟩ rfl (fun i hi=>(by cases hi)) (.inl rfl) zdV ?_;exact qS;rintro r Mo ⟨rfl,rfl⟩;refine ⟨rfl,fun id hi=>.inl (zc9 (e1:=(closeE p e n (zb p (e.gs.getD n.toNat zd)).a)) hi),fun id hi=>(by first | exact zfW (e:=(closeE p e n (zb p (e.gs.getD n.toNat zd)).a)) hi | exact zeL (e:=(closeE p e n (zb p (e.gs.getD n.toNat zd)).a)) hi),?_⟩
  refine zf hn za rfl ?_ ⟨_,.tup [hE,.dat (.int .i64 (-2))],mE (closeE p e n (zb p (e.gs.getD n.toNat zd)).a),[],rfl,rfl,⟨rfl,rfl,rfl,trivial⟩,rfl,rfl,rfl,rfl,rfl⟩
  exact qS
 by_cases h12:(zb p (e.gs.getD n.toNat zd)).op=12
 ·have how:=hb2 h12
  have hob:0≤(zb p (e.gs.getD n.toNat zd)).a∧(zb p (e.gs.getD n.toNat zd)).a<e.mus.length:=by omega
  obtain ⟨hmo,_⟩:=h.muOk hob
  have hmi:=zcG.1 hmo
  have hmn:=hL.mut hob
  have hdo:doE p e n c=(lockE e n (zb p (e.gs.getD n.toNat zd)).a,-2):=by unfold doE;simp only;rw [if_neg h11,if_neg hn89,if_neg h10,if_pos h12,if_pos (by omega)]
  rw [hdo]
  refine zD (rs:=[(.cell 8 45,45),(.tmp 9,3)]) za Tryz.func248 rfl rfl rfl (Nat.le_of_ble_eq_true rfl) rfl fun ho hm x hn hlent=>?_
  refine qK hn za rfl rfl (by (first | exact con_at_spec.l09At _ _ (by assumption) | exact zR _ _ | assumption)) ?_
  refine ze hn za rfl qS ?_ ?_<;>intro hc<;>first | (replace hc:=qC2 hc;try exact qX) | exact qF2 hc | skip
  refine zbs hn za rfl ?_ rfl [] ⟨_,.dat (.bool false),rfl,hbk,rfl,.inl rfl,?_⟩
  ·exact qS
  refine ze hn za rfl qS ?_ ?_<;>intro hc<;>first | (replace hc:=qC2 hc;try exact qX) | exact qF2 hc | skip
  all_goals (try (exfalso;simp at hc;done))
  refine ze hn za rfl qS ?_ ?_<;>intro hc<;>first | (replace hc:=qC2 hc;try exact qX) | exact qF2 hc | skip
  refine ze hn za rfl qS ?_ ?_<;>intro hc<;>first | (replace hc:=qC2 hc;try exact qX) | exact qF2 hc | skip
  refine ze hn za rfl qS ?_ ?_<;>intro hc<;>first | (replace hc:=qC2 hc;try exact qX) | exact qF2 hc | skip
  refine ze hn za rfl qS ?_ ?_<;>intro hc<;>first | (replace hc:=qC2 hc;try exact qX) | exact qF2 hc | skip
  refine zbB hn za [true,false,false] (zkW e n (zb p (e.gs.getD n.toNat zd)).a hnr hob (by omega) (by omega) (by omega) (by omega) hs) rfl ?_ rfl rfl ⟨rfl,rfl,rfl,trivial⟩ rfl (fun i hi=>(by cases hi)) (.inl rfl) zdV ?_;exact qS;rintro r Mo ⟨rfl,rfl⟩;refine ⟨rfl,fun id hi=>.inl (zc9 (e1:=(lockE e n (zb p (e.gs.getD n.toNat zd)).a)) hi),fun id hi=>(by first | exact zfW (e:=(lockE e n (zb p (e.gs.getD n.toNat zd)).a)) hi | exact zeL (e:=(lockE e n (zb p (e.gs.getD n.toNat zd)).a)) hi),?_⟩
  refine zf hn za rfl ?_ ⟨_,.tup [hE,.dat (.int .i64 (-2))],mE (lockE e n (zb p (e.gs.getD n.toNat zd)).a),[],rfl,rfl,⟨rfl,rfl,rfl,trivial⟩,rfl,rfl,rfl,rfl,rfl⟩
  exact qS
 by_cases h13:(zb p (e.gs.getD n.toNat zd)).op=13
 ·have hob:0≤(zb p (e.gs.getD n.toNat zd)).a∧(zb p (e.gs.getD n.toNat zd)).a<e.mus.length:=by omega
  have hdo:doE p e n c=(unlockE e n (zb p (e.gs.getD n.toNat zd)).a,-2):=by unfold doE;simp only;rw [if_neg h11,if_neg hn89,if_neg h10,if_neg h12,if_pos h13]
  rw [hdo]
  refine zD (rs:=[(.cell 8 45,45),(.tmp 9,3)]) za Tryz.func248 rfl rfl rfl (Nat.le_of_ble_eq_true rfl) rfl fun ho hm x hn hlent=>?_
  refine qK hn za rfl rfl (by (first | exact con_at_spec.l09At _ _ (by assumption) | exact zR _ _ | assumption)) ?_
  refine ze hn za rfl qS ?_ ?_<;>intro hc<;>first | (replace hc:=qC2 hc;try exact qX) | exact qF2 hc | skip
  refine zbs hn za rfl ?_ rfl [] ⟨_,.dat (.bool false),rfl,hbk,rfl,.inl rfl,?_⟩
  ·exact qS
  refine ze hn za rfl qS ?_ ?_<;>intro hc<;>first | (replace hc:=qC2 hc;try exact qX) | exact qF2 hc | skip
  all_goals (try (exfalso;simp at hc;done))
  refine ze hn za rfl qS ?_ ?_<;>intro hc<;>first | (replace hc:=qC2 hc;try exact qX) | exact qF2 hc | skip
  refine ze hn za rfl qS ?_ ?_<;>intro hc<;>first | (replace hc:=qC2 hc;try exact qX) | exact qF2 hc | skip
  refine ze hn za rfl qS ?_ ?_<;>intro hc<;>first | (replace hc:=qC2 hc;try exact qX) | exact qF2 hc | skip
  refine ze hn za rfl qS ?_ ?_<;>intro hc<;>first | (replace hc:=qC2 hc;try exact qX) | exact qF2 hc | skip
  refine ze hn za rfl qS ?_ ?_<;>intro hc<;>first | (replace hc:=qC2 hc;try exact qX) | exact qF2 hc | skip
  refine zbB hn za [true,false,false] (zjF p e n (zb p (e.gs.getD n.toNat zd)).a (hL.le (by omega)) h hnr hs hob) rfl ?_ rfl rfl ⟨rfl,rfl,rfl,trivial⟩ rfl (fun i hi=>(by cases hi)) (.inl rfl) zdV ?_;exact qS;rintro r Mo ⟨rfl,rfl⟩;refine ⟨rfl,fun id hi=>.inl (zc9 (e1:=(unlockE e n (zb p (e.gs.getD n.toNat zd)).a)) hi),fun id hi=>(by first | exact zfW (e:=(unlockE e n (zb p (e.gs.getD n.toNat zd)).a)) hi | exact zeL (e:=(unlockE e n (zb p (e.gs.getD n.toNat zd)).a)) hi),?_⟩
  refine zf hn za rfl ?_ ⟨_,.tup [hE,.dat (.int .i64 (-2))],mE (unlockE e n (zb p (e.gs.getD n.toNat zd)).a),[],rfl,rfl,⟨rfl,rfl,rfl,trivial⟩,rfl,rfl,rfl,rfl,rfl⟩
  exact qS
 by_cases h14:(zb p (e.gs.getD n.toNat zd)).op=14
 ·have h10g:=hnsp h14
  have hov:=zce (e.gs.getD n.toNat zd) 5 (by omega) (by omega)
  have hdo:doE p e n c=(setG e n (over (e.gs.getD n.toNat zd) 5),-2):=by
   unfold doE;simp only;rw [if_neg h11,if_neg hn89,if_neg h10,if_neg h12,if_neg h13,if_pos h14]
   unfold spawnE;simp only;rw [if_pos h10g]
  rw [hdo]
  refine zD (rs:=[(.cell 8 45,45),(.tmp 9,3)]) za Tryz.func248 rfl rfl rfl (Nat.le_of_ble_eq_true rfl) rfl fun ho hm x hn hlent=>?_
  refine qK hn za rfl rfl (by (first | exact con_at_spec.l09At _ _ (by assumption) | exact zR _ _ | assumption)) ?_
  refine ze hn za rfl qS ?_ ?_<;>intro hc<;>first | (replace hc:=qC2 hc;try exact qX) | exact qF2 hc | skip
  refine zbs hn za rfl ?_ rfl [] ⟨_,.dat (.bool false),rfl,hbk,rfl,.inl rfl,?_⟩
  ·exact qS
  refine ze hn za rfl qS ?_ ?_<;>intro hc<;>first | (replace hc:=qC2 hc;try exact qX) | exact qF2 hc | skip
  all_goals (try (exfalso;simp at hc;done))
  refine ze hn za rfl qS ?_ ?_<;>intro hc<;>first | (replace hc:=qC2 hc;try exact qX) | exact qF2 hc | skip
  refine ze hn za rfl qS ?_ ?_<;>intro hc<;>first | (replace hc:=qC2 hc;try exact qX) | exact qF2 hc | skip
  refine ze hn za rfl qS ?_ ?_<;>intro hc<;>first | (replace hc:=qC2 hc;try exact qX) | exact qF2 hc | skip
  refine ze hn za rfl qS ?_ ?_<;>intro hc<;>first | (replace hc:=qC2 hc;try exact qX) | exact qF2 hc | skip
  refine ze hn za rfl qS ?_ ?_<;>intro hc<;>first | (replace hc:=qC2 hc;try exact qX) | exact qF2 hc | skip
  refine ze hn za rfl qS ?_ ?_<;>intro hc<;>first | (replace hc:=qC2 hc;try exact qX) | exact qF2 hc | skip
  refine ze hn za rfl qS ?_ ?_<;>intro hc<;>first | (replace hc:=qC2 hc;try exact qX) | exact qF2 hc | skip
  refine qD hn za zu [.r (.dagg (zH (over (e.gs.getD n.toNat zd) 5))),.raw .no [(1000,some (.row 172 5 zd zH (e.gs.set n.toNat (over (e.gs.getD n.toNat zd) 5))))] none] rfl rfl ?_ ?_
  ·(try refine qM ?_);repeat' (first | exact trivial | (first | exact con_at_spec.l09At _ _ (by assumption) | exact zR _ _ | assumption) | assumption | omega | exact qV | refine And.intro ?_ ?_)
   exact zab _ hn za rfl ⟨_,_,rfl,rfl,rfl⟩ rfl rfl rfl rfl rfl (Nat.le_of_ble_eq_true rfl) rfl rfl
  refine zf hn za rfl ?_ ⟨_,.tup [hE,.dat (.int .i64 (-2))],mE (setG e n (over (e.gs.getD n.toNat zd) 5)),[],rfl,rfl,⟨rfl,rfl,rfl,trivial⟩,rfl,rfl,rfl,rfl,rfl⟩
  exact qS
 have h15:(zb p (e.gs.getD n.toNat zd)).op=15:=by omega
 have hdo:doE p e n c=(zbk e n ⟨8,0,regOf (e.gs.getD n.toNat zd) (zb p (e.gs.getD n.toNat zd)).a,false⟩,-2):=by
  unfold doE;simp only;rw [if_neg h11,if_neg hn89,if_neg h10,if_neg h12,if_neg h13,if_neg h14]
 rw [hdo]
 have hrg:=zR (e.gs.getD n.toNat zd) (zb p (e.gs.getD n.toNat zd)).a
 have htl:=zaH (e.gs.getD n.toNat zd) ⟨8,0,regOf (e.gs.getD n.toNat zd) (zb p (e.gs.getD n.toNat zd)).a,false⟩ (by omega) (by omega)
 have hln:(e.gs.set n.toNat (tell (e.gs.getD n.toNat zd) ⟨8,0,regOf (e.gs.getD n.toNat zd) (zb p (e.gs.getD n.toNat zd)).a,false⟩)).length=e.gs.length:=List.length_set
 have hpq:((e.gs.set n.toNat (tell (e.gs.getD n.toNat zd) ⟨8,0,regOf (e.gs.getD n.toNat zd) (zb p (e.gs.getD n.toNat zd)).a,false⟩)).getD n.toNat zd).pc=(e.gs.getD n.toNat zd).pc:=by rw [zF (by omega)];rfl
 have hset:=zlH (l:=e.gs) (i:=⟨8,0,regOf (e.gs.getD n.toNat zd) (zb p (e.gs.getD n.toNat zd)).a,false⟩) (show n.toNat<e.gs.length by omega) hs
 refine zD (rs:=[(.cell 8 45,45),(.tmp 9,3)]) za Tryz.func248 rfl rfl rfl (Nat.le_of_ble_eq_true rfl) rfl fun ho hm x hn hlent=>?_
 refine qK hn za rfl rfl (by (first | exact con_at_spec.l09At _ _ (by assumption) | exact zR _ _ | assumption)) ?_
 refine ze hn za rfl qS ?_ ?_<;>intro hc<;>first | (replace hc:=qC2 hc;try exact qX) | exact qF2 hc | skip
 refine zbs hn za rfl ?_ rfl [] ⟨_,.dat (.bool false),rfl,hbk,rfl,.inl rfl,?_⟩
 ·exact qS
 refine ze hn za rfl qS ?_ ?_<;>intro hc<;>first | (replace hc:=qC2 hc;try exact qX) | exact qF2 hc | skip
 all_goals (try (exfalso;simp at hc;done))
 refine ze hn za rfl qS ?_ ?_<;>intro hc<;>first | (replace hc:=qC2 hc;try exact qX) | exact qF2 hc | skip
 refine ze hn za rfl qS ?_ ?_<;>intro hc<;>first | (replace hc:=qC2 hc;try exact qX) | exact qF2 hc | skip
 refine ze hn za rfl qS ?_ ?_<;>intro hc<;>first | (replace hc:=qC2 hc;try exact qX) | exact qF2 hc | skip
 refine ze hn za rfl qS ?_ ?_<;>intro hc<;>first | (replace hc:=qC2 hc;try exact qX) | exact qF2 hc | skip
 refine ze hn za rfl qS ?_ ?_<;>intro hc<;>first | (replace hc:=qC2 hc;try exact qX) | exact qF2 hc | skip
 refine ze hn za rfl qS ?_ ?_<;>intro hc<;>first | (replace hc:=qC2 hc;try exact qX) | exact qF2 hc | skip
 refine ze hn za rfl qS ?_ ?_<;>intro hc<;>first | (replace hc:=qC2 hc;try exact qX) | exact qF2 hc | skip
 refine qD hn za zu [.r (.dat (.int .i64 (regOf (e.gs.getD n.toNat zd) (zb p (e.gs.getD n.toNat zd)).a))),.r (.dagg (zH (tell (e.gs.getD n.toNat zd) ⟨8,0,regOf (e.gs.getD n.toNat zd) (zb p (e.gs.getD n.toNat zd)).a,false⟩))),.raw .no [(1000,some (.row 172 5 zd zH (e.gs.set n.toNat (tell (e.gs.getD n.toNat zd) ⟨8,0,regOf (e.gs.getD n.toNat zd) (zb p (e.gs.getD n.toNat zd)).a,false⟩))))] none] rfl rfl ?_ ?_
 ·(try refine qM ?_);repeat' (first | exact trivial | (first | exact con_at_spec.l09At _ _ (by assumption) | exact zR _ _ | assumption) | assumption | omega | exact qV | refine And.intro ?_ ?_)
  exact zab _ hn za rfl ⟨_,_,rfl,rfl,rfl⟩ rfl rfl rfl rfl rfl (Nat.le_of_ble_eq_true rfl) rfl rfl
 refine zaI hn za {(e.gs.set n.toNat (tell (e.gs.getD n.toNat zd) ⟨8,0,regOf (e.gs.getD n.toNat zd) (zb p (e.gs.getD n.toNat zd)).a,false⟩)).getD n.toNat zd with pc:=((e.gs.set n.toNat (tell (e.gs.getD n.toNat zd) ⟨8,0,regOf (e.gs.getD n.toNat zd) (zb p (e.gs.getD n.toNat zd)).a,false⟩)).getD n.toNat zd).pc+1} rfl ?_ rfl rfl rfl rfl rfl rfl (Nat.le_of_ble_eq_true rfl) rfl ?_;(first | (exact qS) | decide | (simp only [List.length_replicate,List.length_set];decide))
 refine zf hn za rfl ?_ ⟨_,.tup [hE,.dat (.int .i64 (-2))],mE (zbk e n ⟨8,0,regOf (e.gs.getD n.toNat zd) (zb p (e.gs.getD n.toNat zd)).a,false⟩),[],rfl,rfl,⟨?_,rfl,rfl,trivial⟩,rfl,rfl,rfl,rfl,rfl⟩
 ·exact qS
 ·exact congrArg (fun q=>some (Blk.row 172 5 zd zH q)) hset
def hE4:LV:=.lagg [.own 504,.own 1001,.own 1002]
def mE4 (e:zz):Ml:=[(504,some (.row 172 5 zd zH e.gs)),(1001,some (.row 191 5 zg zae e.chans)),(1002,some (.row 193 2 zj zO e.mus))]
set_option maxHeartbeats 16000000 in
theorem zmz (p:zn) (e:zz) (n c:Int) (hL:zp e 1099511600000) (hok:zay p e=true) (hnr:0≤n∧n<e.gs.length) (hs:(e.gs.getD n.toNat zd).state=1) (h14:(zb p (e.gs.getD n.toNat zd)).op=14) (h10:e.gs.length≠10):Ct Tryz.prog 248 [.dagg (zQ p),hE,.dat (.int .i64 n),.dat (.int .i64 c)] (mE e) (zag (.tup [hE4,.dat (.int .i64 (doE p e n c).2)]) (mE4 (doE p e n c).1)):=by
 have h:=zaM.1 hok
 have ha:=h.alive hnr (.inl hs)
 have hgh:=ha.head (.inl hs)
 have hi:=zaT h.prog ha.pc
 have hin:=hi.ins
 rw [zap] at hin
 have hgl:=hL.gor hnr
 have hpc:=zaq h.prog ha
 have hlen:=h.len
 have hbk:=zhi p e n hok hnr hs (by omega)
 have hbl:zeS p e n=false:=by unfold zeS;dsimp only;rw [if_neg (by omega),if_neg (by omega),if_neg (by omega)]
 rw [hbl] at hbk
 have hrg:=zR (e.gs.getD n.toNat zd) (zb p (e.gs.getD n.toNat zd)).b
 have hnw:=zhj (zb p (e.gs.getD n.toNat zd)).a (regOf (e.gs.getD n.toNat zd) (zb p (e.gs.getD n.toNat zd)).b)
 have htl:=zaH (e.gs.getD n.toNat zd) ⟨7,(zb p (e.gs.getD n.toNat zd)).a,e.gs.length,false⟩ (by omega) (by omega)
 have hln:(e.gs.set n.toNat (tell (e.gs.getD n.toNat zd) ⟨7,(zb p (e.gs.getD n.toNat zd)).a,e.gs.length,false⟩)).length=e.gs.length:=List.length_set
 have hln2:(e.gs.set n.toNat (zbg (e.gs.getD n.toNat zd) ⟨7,(zb p (e.gs.getD n.toNat zd)).a,e.gs.length,false⟩)).length=e.gs.length:=List.length_set
 have hpq:((e.gs.set n.toNat (tell (e.gs.getD n.toNat zd) ⟨7,(zb p (e.gs.getD n.toNat zd)).a,e.gs.length,false⟩)).getD n.toNat zd).pc=(e.gs.getD n.toNat zd).pc:=by rw [zF (by omega)];rfl
 have hset:=zlH (l:=e.gs) (i:=⟨7,(zb p (e.gs.getD n.toNat zd)).a,e.gs.length,false⟩) (show n.toNat<e.gs.length by omega) hs
 have hdo:doE p e n c=({setG e n (zbg (e.gs.getD n.toNat zd) ⟨7,(zb p (e.gs.getD n.toNat zd)).a,e.gs.length,false⟩) with gs:=e.gs.set n.toNat (zbg (e.gs.getD n.toNat zd) ⟨7,(zb p (e.gs.getD n.toNat zd)).a,e.gs.length,false⟩)++[za5 (zb p (e.gs.getD n.toNat zd)).a (regOf (e.gs.getD n.toNat zd) (zb p (e.gs.getD n.toNat zd)).b)]},-2):=by
  unfold doE;simp only;rw [if_neg (by omega),if_neg (by omega),if_neg (by omega),if_neg (by omega),if_neg (by omega),if_pos h14]
  unfold spawnE;simp only;rw [if_neg h10];rfl
 rw [hdo]
 refine zD (rs:=[(.cell 8 45,45),(.tmp 9,3)]) za Tryz.func248 rfl rfl rfl (Nat.le_of_ble_eq_true rfl) rfl fun ho hm x hn hlent=>?_
 refine qK hn za rfl rfl (by (first | exact con_at_spec.l09At _ _ (by assumption) | exact zR _ _ | assumption)) ?_
 refine ze hn za rfl qS ?_ ?_<;>intro hc<;>first | (replace hc:=qC2 hc;try exact qX) | exact qF2 hc | skip
 refine zbs hn za rfl ?_ rfl [] ⟨_,.dat (.bool false),rfl,hbk,rfl,.inl rfl,?_⟩
 ·exact qS
 refine ze hn za rfl qS ?_ ?_<;>intro hc<;>first | (replace hc:=qC2 hc;try exact qX) | exact qF2 hc | skip
 all_goals (try (exfalso;simp at hc;done))
 refine ze hn za rfl qS ?_ ?_<;>intro hc<;>first | (replace hc:=qC2 hc;try exact qX) | exact qF2 hc | skip
 refine ze hn za rfl qS ?_ ?_<;>intro hc<;>first | (replace hc:=qC2 hc;try exact qX) | exact qF2 hc | skip
 refine ze hn za rfl qS ?_ ?_<;>intro hc<;>first | (replace hc:=qC2 hc;try exact qX) | exact qF2 hc | skip
 refine ze hn za rfl qS ?_ ?_<;>intro hc<;>first | (replace hc:=qC2 hc;try exact qX) | exact qF2 hc | skip
 refine ze hn za rfl qS ?_ ?_<;>intro hc<;>first | (replace hc:=qC2 hc;try exact qX) | exact qF2 hc | skip
 refine ze hn za rfl qS ?_ ?_<;>intro hc<;>first | (replace hc:=qC2 hc;try exact qX) | exact qF2 hc | skip
 refine ze hn za rfl qS ?_ ?_<;>intro hc<;>first | (replace hc:=qC2 hc;try exact qX) | exact qF2 hc | skip
 refine qD hn za zu [.r (.dagg (zH (tell (e.gs.getD n.toNat zd) ⟨7,(zb p (e.gs.getD n.toNat zd)).a,e.gs.length,false⟩))),.raw .no [(1000,some (.row 172 5 zd zH (e.gs.set n.toNat (tell (e.gs.getD n.toNat zd) ⟨7,(zb p (e.gs.getD n.toNat zd)).a,e.gs.length,false⟩))))] none] rfl rfl ?_ ?_
 ·(try refine qM ?_);repeat' (first | exact trivial | (first | exact con_at_spec.l09At _ _ (by assumption) | exact zR _ _ | assumption) | assumption | omega | exact qV | refine And.intro ?_ ?_)
  exact zab _ hn za rfl ⟨_,_,rfl,rfl,rfl⟩ rfl rfl rfl rfl rfl (Nat.le_of_ble_eq_true rfl) rfl rfl
 refine zaI hn za {(e.gs.set n.toNat (tell (e.gs.getD n.toNat zd) ⟨7,(zb p (e.gs.getD n.toNat zd)).a,e.gs.length,false⟩)).getD n.toNat zd with pc:=((e.gs.set n.toNat (tell (e.gs.getD n.toNat zd) ⟨7,(zb p (e.gs.getD n.toNat zd)).a,e.gs.length,false⟩)).getD n.toNat zd).pc+1} rfl ?_ rfl rfl rfl rfl rfl rfl (Nat.le_of_ble_eq_true rfl) rfl ?_;(first | (exact qS) | decide | (simp only [List.length_replicate,List.length_set];decide))
 rw [hset]
 refine qD hn za zu [.r (.dat (.int .i64 (regOf (e.gs.getD n.toNat zd) (zb p (e.gs.getD n.toNat zd)).b))),.r (.dagg (zH (za5 (zb p (e.gs.getD n.toNat zd)).a (regOf (e.gs.getD n.toNat zd) (zb p (e.gs.getD n.toNat zd)).b)))),.raw (.own 136) [(136,some (.row 172 5 zd zH [za5 (zb p (e.gs.getD n.toNat zd)).a (regOf (e.gs.getD n.toNat zd) (zb p (e.gs.getD n.toNat zd)).b)]))] (some 136),.raw (.own 137) [(137,some (.row 172 5 zd zH (e.gs.set n.toNat (zbg (e.gs.getD n.toNat zd) ⟨7,(zb p (e.gs.getD n.toNat zd)).a,e.gs.length,false⟩)++[za5 (zb p (e.gs.getD n.toNat zd)).a (regOf (e.gs.getD n.toNat zd) (zb p (e.gs.getD n.toNat zd)).b)]))),(1000,none)] (some 137)] rfl rfl ?_ ?_
 ·(try refine qM ?_);repeat' (first | exact trivial | (first | exact con_at_spec.l09At _ _ (by assumption) | exact zR _ _ | assumption) | assumption | omega | exact qV | refine And.intro ?_ ?_)
 refine zf hn za rfl ?_ ⟨_,.tup [hE4,.dat (.int .i64 (-2))],mE4 {setG e n (zbg (e.gs.getD n.toNat zd) ⟨7,(zb p (e.gs.getD n.toNat zd)).a,e.gs.length,false⟩) with gs:=e.gs.set n.toNat (zbg (e.gs.getD n.toNat zd) ⟨7,(zb p (e.gs.getD n.toNat zd)).a,e.gs.length,false⟩)++[za5 (zb p (e.gs.getD n.toNat zd)).a (regOf (e.gs.getD n.toNat zd) (zb p (e.gs.getD n.toNat zd)).b)]},[(504,137)],rfl,rfl,⟨rfl,rfl,rfl,trivial⟩,rfl,rfl,rfl,rfl,rfl⟩
 exact qS
theorem zs8 {e e1:zz} {id:Nat} (h:(mm (mE4 e1) id).isSome=true):(mm (mE e) id).isSome=true∨id<1000:=by
 unfold mE4 at h
 simp only [zI,upd] at h
 split at h
 ·rename_i hh;exact .inr (by omega)
 ·split at h
  ·rename_i hh;rw [hh];exact .inl rfl
  ·split at h
   ·rename_i hh;rw [hh];exact .inl rfl
   ·cases h
theorem zuA {e:zz} {l:LV} {i:Nat} (hl:l.on2 i→False) (h:(LV.tup [hE4,l]).on i):(mm (mE4 e) i).isSome=true:=by
 obtain ⟨l',hl',hi⟩:=h
 rcases List.mem_cons.1 hl' with rfl | hl'
 ·obtain ⟨l,hl,hi⟩:=hi
  rcases List.mem_cons.1 hl with rfl | hl
  ·have:504=i:=hi
   subst this;rfl
  ·rcases List.mem_cons.1 hl with rfl | hl
   ·have:1001=i:=hi
    subst this;rfl
   ·rw [List.mem_singleton.1 hl] at hi
    have:1002=i:=hi
    subst this;rfl
 ·rw [List.mem_singleton.1 hl'] at hi;exact (hl hi).elim
section
set_option maxHeartbeats 16000000 in
theorem zll (p:zn) (e:zz) (n c:Int) (hL:zp e 1099511600000) (hok:zay p e=true) (hnr:0≤n∧n<e.gs.length) (hs:(e.gs.getD n.toNat zd).state=1) (hnsp:(zb p (e.gs.getD n.toNat zd)).op=14→e.gs.length=10):Ct Tryz.prog 208 [.dagg (zQ p),hE,.dat (.int .i64 n),.dat (.int .i64 c)] (mE e) (zag (.tup [hE,.dagg (zdA (zbT p e n c).2)]) (mE (zbT p e n c).1)):=by
 have h:=zaM.1 hok
 have ha:=h.alive hnr (.inl hs)
 have hgh:=ha.head (.inl hs)
 have hin:=(zaT h.prog ha.pc).ins
 rw [zap] at hin
 have hgl:=hL.gor hnr
 have hpc:=zaq h.prog ha
 have hat:=con_at_spec.l09At p (e.gs.getD n.toNat zd) hgh
 have hob:=zhM (zb p (e.gs.getD n.toNat zd))
 have hshc:=zaB (zb p (e.gs.getD n.toNat zd)).op
 by_cases hsh:zbr (zb p (e.gs.getD n.toNat zd)).op=true
 ·have hst:zbT p e n c=((doE p e n c).1,⟨n,(zb p (e.gs.getD n.toNat zd)).op,zdz (zb p (e.gs.getD n.toNat zd)),(doE p e n c).2⟩):=by unfold zbT;simp only;rw [if_pos hsh]
  rw [hst]
  rw [hsh] at hshc
  refine zD (rs:=[(.cell 8 45,45),(.cell 9 144,144)]) za Tryz.func208 rfl rfl rfl (Nat.le_of_ble_eq_true rfl) rfl fun ho hm x hn hlent=>?_
  refine qD hn za zu [.r (.dagg (zc7 (zb p (e.gs.getD n.toNat zd))))] rfl rfl ?_ ?_
  ·(try refine qM ?_);repeat' (first | exact trivial | (first | exact zaB _ | exact con_at_spec.l09At _ _ (by assumption) | assumption) | assumption | omega | exact qV | refine And.intro ?_ ?_)
  refine qD hn za zu [.r (.dat (.int .i64 (zdz (zb p (e.gs.getD n.toNat zd)))))] rfl rfl ?_ ?_
  ·(try refine qM ?_);repeat' (first | exact trivial | (first | exact zaB _ | exact con_at_spec.l09At _ _ (by assumption) | assumption) | assumption | omega | exact qV | refine And.intro ?_ ?_)
  refine zbs hn za rfl ?_ rfl [] ⟨_,.dat (.bool true),rfl,hshc,rfl,.inl rfl,?_⟩
  ·exact qS
  refine ze hn za rfl qS ?_ ?_<;>intro hc<;>first | (replace hc:=qC2 hc;try exact qX) | exact qF2 hc | skip
  all_goals (try (exfalso;simp at hc;done))
  refine zbB hn za [false,true,false,false] (znj p e n c hL hok hnr hs hsh hnsp) rfl ?_ rfl rfl ⟨rfl,rfl,rfl,trivial⟩ rfl (fun i hi=>(by cases hi)) (.inl rfl) zdV ?_;exact qS;rintro r Mo ⟨rfl,rfl⟩;refine ⟨rfl,fun id hi=>.inl (zc9 (e1:=(doE p e n c).1) hi),fun id hi=>zsF (e:=(doE p e n c).1) hi,?_⟩
  refine qD hn za zu [] rfl rfl ?_ ?_
  ·(try refine qM ?_);repeat' (first | exact trivial | (first | exact zaB _ | exact con_at_spec.l09At _ _ (by assumption) | assumption) | assumption | omega | exact qV | refine And.intro ?_ ?_)
  refine zf hn za rfl ?_ ⟨_,.tup [hE,.dagg (zdA ⟨n,(zb p (e.gs.getD n.toNat zd)).op,zdz (zb p (e.gs.getD n.toNat zd)),(doE p e n c).2⟩)],mE (doE p e n c).1,[],rfl,rfl,⟨rfl,rfl,rfl,trivial⟩,rfl,rfl,rfl,rfl,rfl⟩
  exact qS
 ·have hst:zbT p e n c=(setG e n (zcN p (e.gs.getD n.toNat zd)),⟨n,(zb p (e.gs.getD n.toNat zd)).op,zdz (zb p (e.gs.getD n.toNat zd)),-2⟩):=by unfold zbT;simp only;rw [if_neg hsh]
  rw [hst]
  have hsh0:zbr (zb p (e.gs.getD n.toNat zd)).op=false:=by simpa only [Bool.not_eq_true] using hsh
  rw [hsh0] at hshc
  rw [zbr,decide_eq_true_eq] at hsh
  have hlc:=zks p (e.gs.getD n.toNat zd) h.prog hgh (by omega) (by omega) (by omega)
  refine zD (rs:=[(.cell 8 45,45),(.cell 9 144,144)]) za Tryz.func208 rfl rfl rfl (Nat.le_of_ble_eq_true rfl) rfl fun ho hm x hn hlent=>?_
  refine qD hn za zu [.r (.dagg (zc7 (zb p (e.gs.getD n.toNat zd))))] rfl rfl ?_ ?_
  ·(try refine qM ?_);repeat' (first | exact trivial | (first | exact zaB _ | exact con_at_spec.l09At _ _ (by assumption) | assumption) | assumption | omega | exact qV | refine And.intro ?_ ?_)
  refine qD hn za zu [.r (.dat (.int .i64 (zdz (zb p (e.gs.getD n.toNat zd)))))] rfl rfl ?_ ?_
  ·(try refine qM ?_);repeat' (first | exact trivial | (first | exact zaB _ | exact con_at_spec.l09At _ _ (by assumption) | assumption) | assumption | omega | exact qV | refine And.intro ?_ ?_)
  refine zbs hn za rfl ?_ rfl [] ⟨_,.dat (.bool false),rfl,hshc,rfl,.inl rfl,?_⟩
  ·exact qS
  refine ze hn za rfl qS ?_ ?_<;>intro hc<;>first | (replace hc:=qC2 hc;try exact qX) | exact qF2 hc | skip
  all_goals (try (exfalso;simp at hc;done))
  refine qD hn za zu [.r (.dagg (zH (zcN p (e.gs.getD n.toNat zd)))),.raw .no [(1000,some (.row 172 5 zd zH (e.gs.set n.toNat (zcN p (e.gs.getD n.toNat zd)))))] none] rfl rfl ?_ ?_
  ·(try refine qM ?_);repeat' (first | exact trivial | (first | exact zaB _ | exact con_at_spec.l09At _ _ (by assumption) | assumption) | assumption | omega | exact qV | refine And.intro ?_ ?_)
   exact zab _ hn za rfl ⟨_,_,rfl,rfl,rfl⟩ rfl rfl rfl rfl rfl (Nat.le_of_ble_eq_true rfl) rfl rfl
  refine qD hn za zu [] rfl rfl ?_ ?_
  ·(try refine qM ?_);repeat' (first | exact trivial | (first | exact zaB _ | exact con_at_spec.l09At _ _ (by assumption) | assumption) | assumption | omega | exact qV | refine And.intro ?_ ?_)
  refine zf hn za rfl ?_ ⟨_,.tup [hE,.dagg (zdA ⟨n,(zb p (e.gs.getD n.toNat zd)).op,zdz (zb p (e.gs.getD n.toNat zd)),-2⟩)],mE (setG e n (zcN p (e.gs.getD n.toNat zd))),[],rfl,rfl,⟨rfl,rfl,rfl,trivial⟩,rfl,rfl,rfl,rfl,rfl⟩
  exact qS
set_option maxHeartbeats 16000000 in
theorem zj5 (p:zn) (e:zz) (n c:Int) (hL:zp e 1099511600000) (hok:zay p e=true) (hnr:0≤n∧n<e.gs.length) (hs:(e.gs.getD n.toNat zd).state=1) (h14:(zb p (e.gs.getD n.toNat zd)).op=14) (h10:e.gs.length≠10):Ct Tryz.prog 208 [.dagg (zQ p),hE,.dat (.int .i64 n),.dat (.int .i64 c)] (mE e) (zag (.tup [hE4,.dagg (zdA (zbT p e n c).2)]) (mE4 (zbT p e n c).1)):=by
 have h:=zaM.1 hok
 have ha:=h.alive hnr (.inl hs)
 have hgh:=ha.head (.inl hs)
 have hat:=con_at_spec.l09At p (e.gs.getD n.toNat zd) hgh
 have hob:=zhM (zb p (e.gs.getD n.toNat zd))
 have hshc:=zaB (zb p (e.gs.getD n.toNat zd)).op
 have hsh:zbr (zb p (e.gs.getD n.toNat zd)).op=true:=by rw [zbr,decide_eq_true_eq];omega
 have hst:zbT p e n c=((doE p e n c).1,⟨n,(zb p (e.gs.getD n.toNat zd)).op,zdz (zb p (e.gs.getD n.toNat zd)),(doE p e n c).2⟩):=by unfold zbT;simp only;rw [if_pos hsh]
 rw [hst]
 rw [hsh] at hshc
 refine zD (rs:=[(.cell 8 45,45),(.cell 9 144,144)]) za Tryz.func208 rfl rfl rfl (Nat.le_of_ble_eq_true rfl) rfl fun ho hm x hn hlent=>?_
 refine qD hn za zu [.r (.dagg (zc7 (zb p (e.gs.getD n.toNat zd))))] rfl rfl ?_ ?_
 ·(try refine qM ?_);repeat' (first | exact trivial | (first | exact zaB _ | exact con_at_spec.l09At _ _ (by assumption) | assumption) | assumption | omega | exact qV | refine And.intro ?_ ?_)
 refine qD hn za zu [.r (.dat (.int .i64 (zdz (zb p (e.gs.getD n.toNat zd)))))] rfl rfl ?_ ?_
 ·(try refine qM ?_);repeat' (first | exact trivial | (first | exact zaB _ | exact con_at_spec.l09At _ _ (by assumption) | assumption) | assumption | omega | exact qV | refine And.intro ?_ ?_)
 refine zbs hn za rfl ?_ rfl [] ⟨_,.dat (.bool true),rfl,hshc,rfl,.inl rfl,?_⟩
 ·exact qS
 refine ze hn za rfl qS ?_ ?_<;>intro hc<;>first | (replace hc:=qC2 hc;try exact qX) | exact qF2 hc | skip
 all_goals (try (exfalso;simp at hc;done))
 refine zbB hn za [false,true,false,false] (zmz p e n c hL hok hnr hs h14 h10) rfl ?_ rfl rfl ⟨rfl,rfl,rfl,trivial⟩ rfl (fun i hi=>(by cases hi)) (.inl rfl) zdV ?_
 ·exact qS
 rintro r Mo ⟨rfl,rfl⟩
 refine ⟨rfl,fun id hi=>(zs8 (e:=e) hi).imp (fun h=>h) fun h1 hl=>by have:=x.big id hl;omega,fun id hi=>zuA (l:=.dat (.int .i64 (doE p e n c).2)) (fun h=>h) hi,?_⟩
 refine qD hn za zu [] rfl rfl ?_ ?_
 ·(try refine qM ?_);repeat' (first | exact trivial | (first | exact zaB _ | exact con_at_spec.l09At _ _ (by assumption) | assumption) | assumption | omega | exact qV | refine And.intro ?_ ?_)
 refine zf hn za rfl ?_ ⟨_,.tup [hE4,.dagg (zdA ⟨n,(zb p (e.gs.getD n.toNat zd)).op,zdz (zb p (e.gs.getD n.toNat zd)),(doE p e n c).2⟩)],mE4 (doE p e n c).1,[],rfl,rfl,⟨rfl,rfl,rfl,trivial⟩,rfl,rfl,rfl,rfl,rfl⟩
 exact qS
end
def zcl (e:zz) (k:zbR):Int:=(inState e 1).getD (zV k.g (inState e 1).length).toNat 0
def zff (p:zn) (e:zz) (k:zbR):zz×zeY×Bool:=if zay p e=true∧0<(inState e 1).length then ((zbT p e (zcl e k) k.c).1,(zbT p e (zcl e k) k.c).2,true) else (zoo,ziE,false)
def zwX:zz×zeY×Bool→LV
 | (e,d,b)=>.tup [.dagg (zad e),.dagg (zdA d),.dat (.bool b)]
theorem zsk {e:zz} {n:Int} (h:n∈inState e 1):(0≤n∧n<e.gs.length)∧(e.gs.getD n.toNat zd).state=1:=by
 obtain ⟨j,hj,hm⟩:=zcm.1 h
 unfold zeQ at hm
 split at hm
 ·rename_i hc
  rw [List.mem_singleton.1 hm]
  exact ⟨⟨by omega,by omega⟩,hc⟩
 ·cases hm
theorem zmi {e:zz} (k:zbR) (h:0<(inState e 1).length):(0≤zcl e k∧zcl e k<e.gs.length)∧(e.gs.getD (zcl e k).toNat zd).state=1:=by
 have hm:=zg5 (c:=k.g) h
 exact zsk (za6 (by omega))
def hE3:LV:=.lagg [.own 501,.own 502,.own 503]
def hE5:LV:=.lagg [.own 504,.own 502,.own 503]
def mE5 (e:zz):Ml:=[(504,some (.row 172 5 zd zH e.gs)),(502,some (.row 191 5 zg zae e.chans)),(503,some (.row 193 2 zj zO e.mus))]
theorem znm {e:zz}:∀ i∈zS (zhq e),rn [(1000,501),(1001,502),(1002,503)] (rn [(501,1000),(502,1001),(503,1002)] i)=i:=fun i hi=>by
 rcases List.mem_cons.1 hi with rfl | hi
 ·rfl
 ·rcases List.mem_cons.1 hi with rfl | hi
  ·rfl
  ·rw [List.mem_singleton.1 hi];rfl
theorem zqk {e:zz} {i:Nat} (h:hE3.on i):(mm (zhq e) i).isSome=true:=by
 obtain ⟨l,hl,hi⟩:=h
 rcases List.mem_cons.1 hl with rfl | hl
 ·have:501=i:=hi
  subst this;rfl
 ·rcases List.mem_cons.1 hl with rfl | hl
  ·have:502=i:=hi
   subst this;rfl
  ·rw [List.mem_singleton.1 hl] at hi
   have:503=i:=hi
   subst this;rfl
theorem zvL {e:zz} {i:Nat} (h:hE5.on i):(mm (mE5 e) i).isSome=true:=by
 obtain ⟨l,hl,hi⟩:=h
 rcases List.mem_cons.1 hl with rfl | hl
 ·have:504=i:=hi
  subst this;rfl
 ·rcases List.mem_cons.1 hl with rfl | hl
  ·have:502=i:=hi
   subst this;rfl
  ·rw [List.mem_singleton.1 hl] at hi
   have:503=i:=hi
   subst this;rfl
theorem zq6 {M:Ml} {l0:LV} {cs:List C} {i:Nat} (h0:l0.on2 i→(mm M i).isSome=true) (h:(LV.tup [l0,.dagg cs]).on i):(mm M i).isSome=true:=by
 obtain ⟨l,hl,hi⟩:=h
 rcases List.mem_cons.1 hl with rfl | hl
 ·exact h0 hi
 ·rw [List.mem_singleton.1 hl] at hi;exact hi.elim
theorem zsP {e:zz}:∀ id∈zS (zhq e),(mm (zhq e) id).isSome=true:=fun i hi=>by
 rcases List.mem_cons.1 hi with rfl | hi
 ·rfl
 ·rcases List.mem_cons.1 hi with rfl | hi
  ·rfl
  ·rw [List.mem_singleton.1 hi];rfl
set_option maxHeartbeats 16000000 in
theorem zni (p:zn) (e:zz) (k:zbR) (hs:(zeu e).length≤1048576) (hL:zp e 1099511600000) (hgs:e.gs.length≤1048576):Con Tryz.prog 150 [.dagg (zQ p),.dagg (zad e),.dagg (zpK k)] (zwX (zff p e k)):=by
 have hr:=zhP e hgs
 have hek:=zez p e hs
 by_cases hcc:¬ (zay p e=true∧0<(inState e 1).length)
 ·have hM:zff p e k=(zoo,ziE,false):=by unfold zff;rw [if_neg hcc]
  rw [hM]
  refine zk (rs:=[(.cell 6 45,45),(.cell 7 144,144),(.tmp 8,4)]) za Tryz.func150 rfl rfl rfl (Nat.le_of_ble_eq_true rfl) fun ho x hn=>?_
  refine qK hn za rfl rfl (by assumption) ?_
  refine qK hn za rfl rfl (by assumption) ?_
  refine ze hn za rfl qS ?_ ?_<;>intro hc<;>first | (replace hc:=qC2 hc;try exact qX) | exact qF2 hc | skip
  ·repeat' (first | (refine ze hn za rfl qS ?_ ?_<;>intro hc<;>first | (replace hc:=qC2 hc;try exact qX) | exact qF2 hc | skip) | refine zf hn za rfl qS ⟨_,rfl,?_⟩ | refine qK hn za rfl rfl (by assumption) ?_)
   all_goals rfl
  ·have hok:=hc
   refine ze hn za rfl qS ?_ ?_<;>intro hc<;>first | (replace hc:=qC2 hc;try exact qX) | exact qF2 hc | skip
   ·repeat' (first | (refine ze hn za rfl qS ?_ ?_<;>intro hc<;>first | (replace hc:=qC2 hc;try exact qX) | exact qF2 hc | skip) | refine zf hn za rfl qS ⟨_,rfl,?_⟩ | refine qK hn za rfl rfl (by assumption) ?_)
    all_goals rfl
   ·exact absurd ⟨hok,by omega⟩ hcc
 have hcc:=Decidable.not_not.1 hcc
 obtain ⟨hok,hlen⟩:=hcc
 have hM:zff p e k=((zbT p e (zcl e k) k.c).1,(zbT p e (zcl e k) k.c).2,true):=by unfold zff;rw [if_pos ⟨hok,hlen⟩]
 obtain ⟨hnr,hst⟩:=zmi k hlen
 have hmd:=zgJ k.g (inState e 1).length (by
   have:=zcb (zf1 e.gs 1) e.gs.length;have h2:(inState e 1).length≤e.gs.length:=by unfold inState;omega
   omega)
 have hml:=zg5 (c:=k.g) hlen
 have hcp:=zhs e (hL.le (by omega))
 rw [hM]
 by_cases hsp:(zb p (e.gs.getD (zcl e k).toNat zd)).op=14→e.gs.length=10
 ·have hct:=zll p e (zcl e k) k.c hL hok hnr hst hsp
  have hct3:=zs1 (args':=[.dagg (zQ p),hE3,.dat (.int .i64 (zcl e k)),.dat (.int .i64 k.c)]) (Mi':=zhq e) (Mo':=zhq (zbT p e (zcl e k) k.c).1) (r':=.tup [hE3,.dagg (zdA (zbT p e (zcl e k) k.c).2)]) [(1000,501),(1001,502),(1002,503)] [(501,1000),(502,1001),(503,1002)] hct rfl rfl ⟨rfl,rfl,rfl,trivial⟩ ⟨rfl,rfl,rfl,trivial⟩ ⟨rfl,rfl,rfl,trivial⟩ rfl rfl rfl rfl znm
  refine zk (rs:=[(.cell 6 45,45),(.cell 7 144,144),(.tmp 8,4)]) za Tryz.func150 rfl rfl rfl (Nat.le_of_ble_eq_true rfl) fun ho x hn=>?_
  refine qK hn za rfl rfl (by assumption) ?_
  refine qK hn za rfl rfl (by assumption) ?_
  refine ze hn za rfl qS ?_ ?_<;>intro hc<;>first | (replace hc:=qC2 hc;try exact qX) | exact qF2 hc | skip
  ·rw [hok] at hc;cases hc
  refine ze hn za rfl qS ?_ ?_<;>intro hc<;>first | (replace hc:=qC2 hc;try exact qX) | exact qF2 hc | skip
  refine qD hn za zu [.raw zq4 (zhq e++[(501,none),(501,none),(502,none),(503,none)]) (some 501),.r (.dat (.int .i64 (zV k.g (inState e 1).length))),.raw (.tup [hE3,.dagg (zdA (zbT p e (zcl e k) k.c).2)]) (zhq (zbT p e (zcl e k) k.c).1++[(501,none),(502,none),(503,none)]) none] rfl rfl ?_ ?_
  ·(try refine qM ?_);repeat' (first | exact trivial | assumption | assumption | omega | exact qV | refine And.intro ?_ ?_)
   ·exact zjs [false] hcp (fun i h=>zqk (e:=e) h) (fun i hi=>by cases hi) hn za rfl rfl rfl rfl rfl rfl rfl rfl trivial rfl rfl rfl rfl rfl rfl rfl
   ·exact zjs [false,true,false,false] hct3 (fun i h=>zq6 (l0:=hE3) (fun h0=>zqk (e:=(zbT p e (zcl e k) k.c).1) h0) h) zsP hn za rfl rfl rfl rfl rfl rfl rfl rfl ⟨rfl,rfl,rfl,trivial⟩ rfl rfl rfl rfl rfl rfl rfl
  refine qD hn za zu [] rfl rfl ?_ ?_
  ·(try refine qM ?_);repeat' (first | exact trivial | assumption | assumption | omega | exact qV | refine And.intro ?_ ?_)
  refine zf hn za rfl qS ⟨_,rfl,?_⟩
  rfl
 ·have h14:(zb p (e.gs.getD (zcl e k).toNat zd)).op=14:=Decidable.byContradiction fun h=>hsp fun hh=>absurd hh h
  have h10:e.gs.length≠10:=fun h=>hsp fun _=>h
  have hct:=zj5 p e (zcl e k) k.c hL hok hnr hst h14 h10
  have hct3:=zs1 (args':=[.dagg (zQ p),hE3,.dat (.int .i64 (zcl e k)),.dat (.int .i64 k.c)]) (Mi':=zhq e) (Mo':=mE5 (zbT p e (zcl e k) k.c).1) (r':=.tup [hE5,.dagg (zdA (zbT p e (zcl e k) k.c).2)]) [(1000,501),(1001,502),(1002,503)] [(501,1000),(502,1001),(503,1002)] hct rfl rfl ⟨rfl,rfl,rfl,trivial⟩ ⟨rfl,rfl,rfl,trivial⟩ ⟨rfl,rfl,rfl,trivial⟩ rfl rfl rfl rfl znm
  refine zk (rs:=[(.cell 6 45,45),(.cell 7 144,144),(.tmp 8,4)]) za Tryz.func150 rfl rfl rfl (Nat.le_of_ble_eq_true rfl) fun ho x hn=>?_
  refine qK hn za rfl rfl (by assumption) ?_
  refine qK hn za rfl rfl (by assumption) ?_
  refine ze hn za rfl qS ?_ ?_<;>intro hc<;>first | (replace hc:=qC2 hc;try exact qX) | exact qF2 hc | skip
  ·rw [hok] at hc;cases hc
  refine ze hn za rfl qS ?_ ?_<;>intro hc<;>first | (replace hc:=qC2 hc;try exact qX) | exact qF2 hc | skip
  refine qD hn za zu [.raw zq4 (zhq e++[(501,none),(501,none),(502,none),(503,none)]) (some 501),.r (.dat (.int .i64 (zV k.g (inState e 1).length))),.raw (.tup [hE5,.dagg (zdA (zbT p e (zcl e k) k.c).2)]) (mE5 (zbT p e (zcl e k) k.c).1++[(501,none),(502,none),(503,none),(504,none),(504,none)]) (some 504)] rfl rfl ?_ ?_
  ·(try refine qM ?_);repeat' (first | exact trivial | assumption | assumption | omega | exact qV | refine And.intro ?_ ?_)
   ·exact zjs [false] hcp (fun i h=>zqk (e:=e) h) (fun i hi=>by cases hi) hn za rfl rfl rfl rfl rfl rfl rfl rfl trivial rfl rfl rfl rfl rfl rfl rfl
   ·exact zjs [false,true,false,false] hct3 (fun i h=>zq6 (l0:=hE5) (fun h0=>zvL (e:=(zbT p e (zcl e k) k.c).1) h0) h) zsP hn za rfl rfl rfl rfl rfl rfl rfl rfl ⟨rfl,rfl,rfl,trivial⟩ rfl rfl rfl rfl rfl rfl rfl
  refine qD hn za zu [] rfl rfl ?_ ?_
  ·(try refine qM ?_);repeat' (first | exact trivial | assumption | assumption | omega | exact qV | refine And.intro ?_ ?_)
  refine zf hn za rfl qS ⟨_,rfl,?_⟩
  rfl
section
variable {p:zn} {e:zz} {N:Nat} {n:Int}
theorem ztc (g:zW) (i:zbl):(zbg g i).regs.length=g.regs.length∧(zbg g i).trace.length=g.trace.length+1:=zcH g i
theorem zp.over (h:zp e N) (hn:0≤n∧n<e.gs.length) (y:Int):zp (Ab.setG e n (Ab.over (e.gs.getD n.toNat zd) y)) (N+1):=by
 have h1:=zmK (e.gs.getD n.toNat zd) y
 have h2:=h.gor hn
 exact (h.le (by omega)).setG ⟨by omega,by omega⟩
theorem zp.goOn (h:zp e N) (hn:0≤n∧n<e.gs.length) (i:zbl):zp (zbk e n i) (N+1):=by
 have h1:=ztc (e.gs.getD n.toNat zd) i
 have h2:=h.gor hn
 exact (h.le (by omega)).setG ⟨by omega,by omega⟩
theorem zp.wakeIf (h:zp e N) {w:zo} (hw:0≤w.g→w.g<e.gs.length) (ch v:Int):zp (wakeIf p e ch w v) (N+2):=by
 unfold Ab.wakeIf
 split
 ·rename_i h0;exact h.wake ⟨h0,hw h0⟩ ch v true
 ·exact h.le (by omega)
theorem zp.through (h:zp e N) (hi:Inv p e (fun _=>False)) (hn:0≤n∧n<e.gs.length) (hs:(e.gs.getD n.toNat zd).state=1) {x:zaj} (hr:zP e x=true):zp (throughE p e n x) (N+4):=by
 rw [zP,Bool.and_eq_true,decide_eq_true_eq] at hr
 obtain ⟨hk,hr⟩:=hr
 have hco:=hi.chanOk hk
 have hcl:=h.chan hk
 have hg:=h.gor hn
 unfold throughE
 split
 ·rename_i hc
  rw [if_pos hc] at hr
  unfold sendE
  simp only
  by_cases hclo:(e.chans.getD x.chan.toNat zg).closed=true
  ·rw [if_pos hclo];exact (h.over hn 1).le (by omega)
  ·rw [if_neg hclo]
   rcases hl:zcn (e.chans.getD x.chan.toNat zg) (regOf (e.gs.getD n.toNat zd) x.reg) with ⟨c',w,k⟩
   have ht:=zcH (e.gs.getD n.toNat zd) ⟨1,x.chan,regOf (e.gs.getD n.toNat zd) x.reg,false⟩
   have h1:zp (Ab.setG (Ab.setC e x.chan c') n {tell (e.gs.getD n.toNat zd) ⟨1,x.chan,regOf (e.gs.getD n.toNat zd) x.reg,false⟩ with pc:=x.to}) (N+1):=
    ((h.le (by omega)).setC (ziK hcl hl)).setG ⟨by show (tell (e.gs.getD n.toNat zd) ⟨1,x.chan,regOf (e.gs.getD n.toNat zd) x.reg,false⟩).regs.length≤_;omega,by show (tell (e.gs.getD n.toNat zd) ⟨1,x.chan,regOf (e.gs.getD n.toNat zd) x.reg,false⟩).trace.length≤_;omega⟩
   refine (h1.wakeIf (fun h0=>?_) _ _).le (by omega)
   have:=zql hi hk.1 (by simpa only [Bool.not_eq_true] using hclo) hco hr ((hi.alive hn (.inl hs)).regOf _) hl h0
   show w.g<((e.gs.set n.toNat _).length:Int)
   rw [List.length_set];exact this.i0.2
 ·rename_i hc
  rw [if_neg hc] at hr
  unfold recvE
  rcases hl:za7 (e.chans.getD x.chan.toNat zg) with ⟨c',v,ok,w,k⟩
  have ht:=zlq (e.gs.getD n.toNat zd) x.chan v ok x.reg x.ok
  have h1:zp (Ab.setG (Ab.setC e x.chan c') n {zcj (e.gs.getD n.toNat zd) x.chan v ok x.reg x.ok with pc:=x.to}) (N+1):=
   ((h.le (by omega)).setC (zg9 hcl hl)).setG ⟨by show (zcj (e.gs.getD n.toNat zd) x.chan v ok x.reg x.ok).regs.length≤_;omega,by show (zcj (e.gs.getD n.toNat zd) x.chan v ok x.reg x.ok).trace.length≤_;omega⟩
  refine (h1.wakeIf (fun h0=>?_) _ _).le (by omega)
  have:=zqG hi hk.1 hco hr hl h0
  show w.g<((e.gs.set n.toNat _).length:Int)
  rw [List.length_set];exact this.i0.2
theorem zp.waitE (h:zp e N) (hi:Inv p e (fun _=>False)) (hn:0≤n∧n<e.gs.length) (hs:(e.gs.getD n.toNat zd).state=1):zp (waitE p e n) (N+5):=by
 have hg:=h.gor hn
 have h4:=zef (n:=n) hi.prog ((hi.alive hn (.inl hs)).head (.inl hs))
 have key:∀ (l:List zr) (e:zz) (N:Nat),zp e N→zp (l.foldl zbD e) (N+l.length):=fun l=>by
  induction l with
  | nil=>intro e N h;exact h
  | cons a l ih=>intro e N h;exact (ih _ _ (h.add a)).le (by rw [List.length_cons];omega)
 unfold Ab.waitE
 exact (key _ _ _ (h.setG ⟨by show (e.gs.getD n.toNat zd).regs.length≤_;omega,by show (e.gs.getD n.toNat zd).trace.length≤_;omega⟩)).le (by omega)
theorem zp.closeE (h:zp e N) (hok:zay p e=true) (hn:0≤n∧n<e.gs.length) (hs:(e.gs.getD n.toNat zd).state=1) {ch:Int} (hk:ch<e.chans.length) (hto:(e.gs.getD n.toNat zd).pc+1<zZ p (e.gs.getD n.toNat zd).proc):zp (closeE p e n ch) (N+90):=by
 have hi:=zaM.1 hok
 unfold Ab.closeE
 simp only
 by_cases h0:ch<0
 ·rw [if_pos h0];exact (h.over hn 2).le (by omega)
 rw [if_neg h0]
 have hk0:0≤ch∧ch<e.chans.length:=by omega
 have hco:=hi.chanOk hk0
 by_cases hclo:(e.chans.getD ch.toNat zg).closed=true
 ·rw [zeF hco hclo]
  exact (h.over hn 1).le (by omega)
 have hclo:(e.chans.getD ch.toNat zg).closed=false:=by simpa only [Bool.not_eq_true] using hclo
 rw [zfr hco hclo]
 show zp (((e.chans.getD ch.toNat zg).recvs++(e.chans.getD ch.toNat zg).sends).foldl (fun e w=>zaV p e ch w 0 false) (zcy e n ch)) _
 obtain ⟨j1,j2,j3⟩:=hi.close0 hn hs hk0 hto
 have h40:=zqO hok ch.toNat
 have hJ0:zdm p ch ((e.chans.getD ch.toNat zg).recvs++(e.chans.getD ch.toNat zg).sends) (zcy e n ch) 0:=⟨j1,j2,j3⟩
 have hl0:=zmF h hn hk0
 generalize hL:(e.chans.getD ch.toNat zg).recvs++(e.chans.getD ch.toNat zg).sends=l at *
 have hll:l.length≤40:=by rw [← hL,List.length_append];omega
 have key:∀ i≤l.length,zdm p ch l (zcy e n ch) i∧zp (zaS p ch l (zcy e n ch) i) (N+1+2*i):=fun i=>by
  induction i with
  | zero=>intro _;exact ⟨hJ0,hl0⟩
  | succ i ih=>
   intro hle
   obtain ⟨q1,q2⟩:=ih (by omega)
   exact ⟨q1.next (by omega),q1.lens (by omega) q2⟩
 have:=(key _ (Nat.le_refl _)).2
 unfold zaS at this
 rw [List.take_length] at this
 exact this.le (by omega)
theorem zrO (m:zal) (g:Int):(zcT m g).1.wait.length≤m.wait.length+1:=by
 unfold zcT
 repeat' split
 ·exact Nat.le_succ _
 ·exact Nat.le_succ _
 ·show (m.wait++[g]).length≤_;simp
 ·exact Nat.zero_le _
theorem zpk (m:zal) (g:Int):(zbF m g).1.wait.length≤m.wait.length:=by
 unfold zbF
 repeat' split
 ·show (m.wait.drop 1).length≤_;rw [List.length_drop];omega
 ·exact Nat.le_refl _
 ·exact Nat.zero_le _
theorem zp.doE (h:zp e N) (hok:zay p e=true) (hn:0≤n∧n<e.gs.length) (hs:(e.gs.getD n.toNat zd).state=1) (c:Int):zp (doE p e n c).1 (N+100):=by
 have hi:=zaM.1 hok
 have ha:=hi.alive hn (.inl hs)
 have hio:=zaT hi.prog ha.pc
 have hin:=hio.ins
 rw [zap] at hin
 have hlast:=hio.last
 have hcl:=hi.cl
 have hml:=hi.ml
 have hg:=h.gor hn
 unfold Ab.doE
 simp only
 by_cases h11:(zb p (e.gs.getD n.toNat zd)).op=11
 ·rw [if_pos h11]
  unfold chooseE
  simp only
  split
  ·rename_i hl
   have hm:=zg5 (c:=c) hl
   have hk:=zfV (za6 (d:=(0:Int)) (l:=zX e (p.sels.getD (zb p (e.gs.getD n.toNat zd)).a.toNat zh).cases) (i:=(zV c (zX e (p.sels.getD (zb p (e.gs.getD n.toNat zd)).a.toNat zh).cases).length).toNat) (by omega))
   generalize (zX e (p.sels.getD (zb p (e.gs.getD n.toNat zd)).a.toNat zh).cases).getD (zV c (zX e (p.sels.getD (zb p (e.gs.getD n.toNat zd)).a.toNat zh).cases).length).toNat 0=k at *
   have hal:za8 p (tell (e.gs.getD n.toNat zd) ⟨4,(zb p (e.gs.getD n.toNat zd)).a,k,false⟩):=ha.tell ⟨by rw [zcr,decide_eq_true_eq,zeA];simp [-List.getD_eq_getElem?_getD];omega,by simp,by simp⟩
   have h1:Inv p (Ab.setG e n (tell (e.gs.getD n.toNat zd) ⟨4,(zb p (e.gs.getD n.toNat zd)).a,k,false⟩)) (fun _=>False):=hi.go hn hs (fun x _ hx=>hx) (hal.ok (.inl hs)) (by show (e.gs.getD n.toNat zd).state≠2;omega)
   have hget:(Ab.setG e n (tell (e.gs.getD n.toNat zd) ⟨4,(zb p (e.gs.getD n.toNat zd)).a,k,false⟩)).gs.getD n.toNat zd=tell (e.gs.getD n.toNat zd) ⟨4,(zb p (e.gs.getD n.toNat zd)).a,k,false⟩:=zF (by omega)
   exact ((zhA h hn).through h1 (by rw [show (Ab.setG e n (tell (e.gs.getD n.toNat zd) ⟨4,(zb p (e.gs.getD n.toNat zd)).a,k,false⟩)).gs.length=e.gs.length from List.length_set];exact hn) (by rw [hget];exact hs) hk.2).le (by omega)
  ·split
   ·exact (h.waitE hi hn hs).le (by omega)
   ·have ht:=zcH (e.gs.getD n.toNat zd) ⟨4,(zb p (e.gs.getD n.toNat zd)).a,-1,false⟩
    exact (h.le (by omega)).setG ⟨by show (tell (e.gs.getD n.toNat zd) ⟨4,(zb p (e.gs.getD n.toNat zd)).a,-1,false⟩).regs.length≤_;omega,by show (tell (e.gs.getD n.toNat zd) ⟨4,(zb p (e.gs.getD n.toNat zd)).a,-1,false⟩).trace.length≤_;omega⟩
 rw [if_neg h11]
 by_cases h89:(zb p (e.gs.getD n.toNat zd)).op=8∨(zb p (e.gs.getD n.toNat zd)).op=9
 ·rw [if_pos h89]
  show zp (if _ then _ else _) _
  split
  ·rename_i hr;exact (h.through hi hn hs hr).le (by omega)
  ·exact (h.waitE hi hn hs).le (by omega)
 rw [if_neg h89]
 by_cases h10:(zb p (e.gs.getD n.toNat zd)).op=10
 ·rw [if_pos h10]
  exact (h.closeE hok hn hs (by omega) (hlast (by omega) (by omega))).le (by omega)
 rw [if_neg h10]
 by_cases h12:(zb p (e.gs.getD n.toNat zd)).op=12
 ·rw [if_pos h12]
  show zp (if _ then _ else _) _
  have hob:0≤(zb p (e.gs.getD n.toNat zd)).a∧(zb p (e.gs.getD n.toNat zd)).a<e.mus.length:=by omega
  split
  ·unfold lockE
   split
   ·exact (h.over hn 4).le (by omega)
   ·have hm:=zrO (e.mus.getD (zb p (e.gs.getD n.toNat zd)).a.toNat zj) n
    have hm2:=h.mut hob
    exact (((h.le (by omega:N≤N+1)).setMu (by omega)).goOn (e:=Ab.setMu e (zb p (e.gs.getD n.toNat zd)).a (zcT (e.mus.getD (zb p (e.gs.getD n.toNat zd)).a.toNat zj) n).1) hn _).le (by omega)
  ·exact (h.waitE hi hn hs).le (by omega)
 rw [if_neg h12]
 by_cases h13:(zb p (e.gs.getD n.toNat zd)).op=13
 ·rw [if_pos h13]
  have hob:0≤(zb p (e.gs.getD n.toNat zd)).a∧(zb p (e.gs.getD n.toNat zd)).a<e.mus.length:=by omega
  have hm:=zpk (e.mus.getD (zb p (e.gs.getD n.toNat zd)).a.toNat zj) n
  have hm2:=h.mut hob
  show zp (unlockE e n _) _
  unfold unlockE
  rcases hl:zbF (e.mus.getD (zb p (e.gs.getD n.toNat zd)).a.toNat zj) n with ⟨m',next,ok⟩
  rw [hl] at hm
  dsimp only at hm ⊢
  have h1:zp (Ab.setMu e (zb p (e.gs.getD n.toNat zd)).a m') N:=h.setMu (by omega)
  split
  ·exact (h.over hn 3).le (by omega)
  ·split
   ·exact (h1.goOn hn _).le (by omega)
   ·rename_i hnx
    by_cases hr:next<e.gs.length
    ·exact ((h1.goOn hn ⟨6,_,0,false⟩).goOn (n:=next) ⟨by omega,by show next<((e.gs.set n.toNat _).length:Int);rw [List.length_set];exact hr⟩ _).le (by omega)
    ·unfold zbk Ab.setG
     have h2:=h1.goOn hn ⟨6,(zb p (e.gs.getD n.toNat zd)).a,0,false⟩
     have hs2:∀ g:zW,(zbk (Ab.setMu e (zb p (e.gs.getD n.toNat zd)).a m') n ⟨6,(zb p (e.gs.getD n.toNat zd)).a,0,false⟩).gs.set next.toNat g=(zbk (Ab.setMu e (zb p (e.gs.getD n.toNat zd)).a m') n ⟨6,(zb p (e.gs.getD n.toNat zd)).a,0,false⟩).gs:=fun g=>
      List.set_eq_of_length_le (by show (e.gs.set n.toNat _).length≤_;rw [List.length_set];omega)
     have:=hs2
     unfold zbk Ab.setG at this h2
     dsimp only at this h2 ⊢
     rw [this]
     exact h2.le (by omega)
 rw [if_neg h13]
 by_cases h14:(zb p (e.gs.getD n.toNat zd)).op=14
 ·rw [if_pos h14]
  show zp (spawnE p e n _) _
  unfold spawnE
  simp only
  split
  ·exact (h.over hn 5).le (by omega)
  ·have h1:=h.goOn hn ⟨7,(zb p (e.gs.getD n.toNat zd)).a,e.gs.length,false⟩
   have hgs:=h1.gs
   refine ⟨?_,Nat.le_trans h1.chans (by omega),Nat.le_trans h1.mus (by omega),fun i hi=>?_,fun i hi=>(h1.le (by omega)).c i hi,fun i hi=>Nat.le_trans (h1.m i hi) (by omega)⟩
   ·show (_++[_]).length≤_
    rw [List.length_append,List.length_singleton]
    show (e.gs.set n.toNat _).length+1≤_
    rw [List.length_set]
    have:=h.gs;omega
   ·show ((_++[_]).getD i zd).regs.length≤_∧((_++[_]).getD i zd).trace.length≤_
    by_cases hlt:i<(Ab.setG e n (zbg (e.gs.getD n.toNat zd) ⟨7,(zb p (e.gs.getD n.toNat zd)).a,e.gs.length,false⟩)).gs.length
    ·rw [List.getD_eq_getElem?_getD,List.getElem?_append_left hlt,← List.getD_eq_getElem?_getD]
     have:=h1.g i hlt
     exact ⟨Nat.le_trans this.1 (by omega),Nat.le_trans this.2 (by omega)⟩
    ·rw [List.getD_eq_getElem?_getD,List.getElem?_append_right (by omega)]
     generalize i-(Ab.setG e n (zbg (e.gs.getD n.toNat zd) ⟨7,(zb p (e.gs.getD n.toNat zd)).a,e.gs.length,false⟩)).gs.length=j
     cases j with
     | zero=>
      show (za5 _ _).regs.length≤_∧(za5 _ _).trace.length≤_
      unfold za5
      split
      ·exact ⟨by show 6≤_;omega,Nat.zero_le _⟩
      ·exact ⟨Nat.zero_le _,Nat.zero_le _⟩
     | succ j=>exact ⟨Nat.zero_le _,Nat.zero_le _⟩
 rw [if_neg h14]
 exact (h.goOn hn _).le (by omega)
theorem zp.step (h:zp e N) (hok:zay p e=true) (hn:0≤n∧n<e.gs.length) (hs:(e.gs.getD n.toNat zd).state=1) (c:Int):zp (zbT p e n c).1 (N+100):=by
 have hg:=h.gor hn
 unfold zbT
 simp only
 split
 ·exact h.doE hok hn hs c
 ·have key:∀ g:zW,g.regs.length=(e.gs.getD n.toNat zd).regs.length→g.trace.length≤(e.gs.getD n.toNat zd).trace.length+1→zp (Ab.setG e n g) (N+100):=fun g h1 h2=>(h.le (by omega)).setG ⟨by omega,by omega⟩
  have hr:∀ a b,(zbq (e.gs.getD n.toNat zd) a b).regs.length=(e.gs.getD n.toNat zd).regs.length∧(zbq (e.gs.getD n.toNat zd) a b).trace.length≤(e.gs.getD n.toNat zd).trace.length+1:=fun a b=>by
   have:=zc8 (e.gs.getD n.toNat zd) a b
   exact ⟨this.1,by rw [this.2.1];omega⟩
  show zp (Ab.setG e n (zcN p (e.gs.getD n.toNat zd))) _
  unfold zcN
  repeat' split
  ·have:=zmK (e.gs.getD n.toNat zd) 0
   exact key _ this.1 (by omega)
  ·exact key _ rfl (Nat.le_succ _)
  ·exact key _ rfl (Nat.le_succ _)
  ·exact key _ rfl (Nat.le_succ _)
  ·exact key _ (hr _ _).1 (hr _ _).2
  ·exact key _ (hr _ _).1 (hr _ _).2
end
def zev (p:zn):zz→List zeY→List zbR→zz×List zeY
 | e,ds,[]=>(e,ds)
 | e,ds,k::l=>if (zff p e k).2.2=true then zev p (zff p e k).1 (ds++[(zff p e k).2.1]) l else (e,ds)
def zcR (p:zn) (e:zz) (l:List zbR):zz×List zeY:=if zay p e=true then zev p e [] l else (zoo,[])
def zth:zz×List zeY→LV
 | (e,ds)=>.tup [.dagg (zad e),.dat (zcU ds)]
theorem zl1 {p:zn} {e e':zz} {k:zbR} {d:zeY} (h:zff p e k=(e',d,true)) {N:Nat} (hL:zp e N):zay p e'=true∧zp e' (N+100):=by
 unfold zff at h
 split at h
 ·rename_i hc
  obtain ⟨hok,hlen⟩:=hc
  obtain ⟨hnr,hst⟩:=zmi k hlen
  cases h
  exact ⟨zuh hok hnr hst,hL.step hok hnr hst _⟩
 ·cases h
structure zt1 (p:zn) (e:zz) (l:List zbR) (N:Nat) (y:Nat×zz×List zeY):Prop where
 le:y.1≤l.length
 ok:zay p y.2.1=true
 len:zp y.2.1 (N+100*y.1)
 dl:y.2.2.length≤y.1
 eq:zev p y.2.1 y.2.2 (l.drop y.1)=zev p e [] l
set_option maxHeartbeats 8000000 in
theorem zmD (p:zn) (e:zz) (l:List zbR) (hs:(zeu e).length≤1048576) (hL:zp e 1000000000) (hl:l.length≤1000000000):Con Tryz.prog 82 [.dagg (zQ p),.dagg (zad e),.dat (zcz l)] (zth (zcR p e l)):=by
 have hek:=zez p e hs
 have hcp:Con Tryz.prog 149 [.dagg (zad e)] (.dagg (zad e)):=zmW (zhs e (hL.le (by omega))) fun r Mo hp=>by
  obtain ⟨rfl,rfl⟩:=hp
  rfl
 refine zk (rs:=[(.cell 6 45,45),(.tmp 7,80)]) za Tryz.func82 rfl rfl rfl (Nat.le_of_ble_eq_true rfl) fun ho x hn=>?_
 refine qK hn za rfl rfl (by assumption) ?_
 refine ze hn za rfl qS ?_ ?_<;>intro hc<;>first | (replace hc:=qC2 hc;try exact qX) | exact qF2 hc | skip
 ·rw [show zcR p e l=(zoo,[]) by unfold zcR;rw [if_neg (by rw [hc];decide)]]
  repeat' (first | (refine ze hn za rfl qS ?_ ?_<;>intro hc<;>first | (replace hc:=qC2 hc;try exact qX) | exact qF2 hc | skip) | refine zf hn za rfl qS ⟨_,rfl,?_⟩ | refine qK hn za rfl rfl (by assumption) ?_)
  all_goals rfl
 have hok:=hc
 rw [show zcR p e l=zev p e [] l by unfold zcR;rw [if_pos hok]]
 refine qK hn za rfl rfl (by assumption) ?_
 refine zT hn za ziE zdA ([]:List zeY) rfl ?_ rfl rfl rfl rfl rfl rfl rfl rfl rfl ?_;exact qS
 refine zM hn za rfl ?_ (fun (y:Nat×zz×List zeY) wT wM=>((25,.dat (.int .i64 y.1))::(9,.own 100)::(22,.no)::wT,(100,some (.row 144 4 ziE zdA y.2.2))::(8,some (.box 45 (.dagg (zad y.2.1))))::(22,none)::wM)) (zt1 p e l 1000000000) (fun y=>l.length-y.1) (0,e,[]) ⟨Nat.zero_le _,hok,hL,Nat.le_refl _,rfl⟩ (zt [(100,22),(22,999)] ?_ ?_ rfl) ?_
 ·exact qS
 ·exact qL
 ·exact qL
 rintro ⟨i,ei,ds⟩ ⟨hi,hoki,hLi,hdl,heq⟩
 dsimp only at hi hoki hLi hdl heq
 refine ze hn za rfl qS ?_ ?_<;>intro hc<;>first | (replace hc:=qC2 hc;try exact qX) | exact qF2 hc | skip
 ·have hlt:i<l.length:=by omega
  have hd:l.drop i=l.getD i zfh::l.drop (i+1):=by
   rw [List.drop_eq_getElem_cons hlt,List.getD_eq_getElem?_getD,List.getElem?_eq_getElem hlt];rfl
  have h40:=zus hoki
  have hgs:=(zaM.1 hoki).len
  have hst:=zni p ei (l.getD i zfh) (by omega) (hLi.le (by omega)) (by omega)
  rcases hm:zff p ei (l.getD i zfh) with ⟨e',d,ok⟩
  rw [hm] at hst
  rw [hd,zev,hm] at heq
  dsimp only at heq
  refine zbs hn za rfl ?_ rfl [] ⟨_,.tup [.dagg (zad e'),.dagg (zdA d),.dat (.bool ok)],rfl,hst,rfl,.inr (fun id hi=>zdl hi),?_⟩
  ·exact qS
  refine ze hn za rfl qS ?_ ?_<;>intro hc<;>first | (replace hc:=qC2 hc;try exact qX) | exact qF2 hc | skip
  ·rw [if_neg (by rw [hc];decide)] at heq
   rw [← heq]
   refine zf hn za rfl qS ⟨_,rfl,?_⟩
   rfl
  ·rw [if_pos hc] at heq
   rw [hc] at hm
   obtain ⟨hok',hL'⟩:=zl1 hm hLi
   refine zT hn za ziE zdA [d] rfl ?_ rfl rfl rfl rfl rfl rfl rfl rfl rfl ?_;exact qS
   refine zas hn za [d] rfl ?_ rfl rfl rfl rfl rfl rfl rfl rfl ?_ ?_;exact qS
   ·show (ds.length+1)*32≤_;omega
   refine zx hn za rfl ?_ ⟨(i+1,e',ds++[d]),⟨hlt,hok',hL'.le (by show 1000000000+100*i+100≤1000000000+100*(i+1);omega),by show (ds++[d]).length≤i+1;rw [List.length_append,List.length_singleton];omega,heq⟩,by show l.length-(i+1)<l.length-i;omega,?_⟩
   ·exact qS
   ·refine zt [(100,43),(43,999)] ?_ ?_ rfl
    ·exact qL
    ·exact qL
 have hie:i=l.length:=by omega
 subst hie
 rw [List.drop_length] at heq
 have heq:(ei,ds)=zev p e [] l:=heq
 rw [← heq]
 refine zf hn za rfl qS ⟨_,rfl,?_⟩
 rfl
def zgV (p:zn) (e:zz):Int:=if zay p e=true then (if 0<(inState e 1).length then 1 else if 0<(inState e 2).length then 3 else 2) else 0
set_option maxHeartbeats 4000000 in
theorem zk2 (p:zn) (e:zz) (hs:(zeu e).length≤1048576) (hgs:e.gs.length≤1048576):Con Tryz.prog 84 [.dagg (zQ p),.dagg (zad e)] (.dat (.int .i64 (zgV p e))):=by
 have hek:=zez p e hs
 have hr:=zhP e hgs
 have ha:=zld e hgs
 refine zk (rs:=[(.tmp 4,3)]) za Tryz.func84 rfl rfl rfl (Nat.le_of_ble_eq_true rfl) fun ho x hn=>?_
 repeat' (first | (refine ze hn za rfl qS ?_ ?_<;>intro hc<;>first | (replace hc:=qC2 hc;try exact qX) | exact qF2 hc | skip) | refine zf hn za rfl qS ⟨_,rfl,?_⟩ | refine qK hn za rfl rfl (by assumption) ?_)
 all_goals (refine congrArg (fun i=>LV.dat (.int .i64 i)) (Eq.symm ?_);unfold zgV)
 ·rw [if_neg (by rw [hc];decide)]
 all_goals (rw [if_pos (by assumption)])
 ·rw [if_pos (by omega)]
 ·rw [if_neg (by omega),if_pos (by omega)]
 ·rw [if_neg (by omega),if_neg (by omega)]
def zch (c:Int):zY:=⟨c,[],[],[],false⟩
def zbj:zal:=⟨-1,[]⟩
def zbe (p:zn):zz:=if zaa p=true then ⟨[za5 0 0],p.caps.map zch,List.replicate p.mus.toNat zbj⟩ else zoo
theorem zi5:Con Tryz.prog 152 [] (.dagg (zO zbj)):=by
 refine zk (rs:=[(.cell 0 193,193)]) za Tryz.func152 rfl rfl rfl (Nat.le_of_ble_eq_true rfl) fun ho x hn=>?_
 repeat' (first | (refine ze hn za rfl qS ?_ ?_<;>intro hc<;>first | (replace hc:=qC2 hc;try exact qX) | exact qF2 hc | skip) | refine zf hn za rfl qS ⟨_,rfl,?_⟩ | refine qK hn za rfl rfl (by assumption) ?_)
 rfl
theorem zjo:Con Tryz.prog 157 [] (.dagg (zO zbj)):=by
 refine zk (rs:=[(.cell 0 193,193)]) za Tryz.func157 rfl rfl rfl (Nat.le_of_ble_eq_true rfl) fun ho x hn=>?_
 repeat' (first | (refine ze hn za rfl qS ?_ ?_<;>intro hc<;>first | (replace hc:=qC2 hc;try exact qX) | exact qF2 hc | skip) | refine zf hn za rfl qS ⟨_,rfl,?_⟩ | refine qK hn za rfl rfl (by assumption) ?_)
 rfl
theorem zil {l:List Int} {i:Nat} (h:i<l.length):(l.take (i+1)).map zch=(l.take i).map zch++[zch (l.getD i 0)]:=by
 rw [List.take_add_one,List.getElem?_eq_getElem h,List.map_append,List.getD_eq_getElem?_getD,List.getElem?_eq_getElem h];rfl
set_option maxHeartbeats 8000000 in
theorem zkR (p:zn):Con Tryz.prog 83 [.dagg (zQ p)] (.dagg (zad (zbe p))):=by
 have hpo:=zaC p
 have hgn:=zhj 0 0
 have hmn:=zi5
 refine zk (rs:=[(.cell 2 45,45)]) za Tryz.func83 rfl rfl rfl (Nat.le_of_ble_eq_true rfl) fun ho x hn=>?_
 refine qK hn za rfl rfl (by (first | exact zaC _ | assumption)) ?_
 refine ze hn za rfl qS ?_ ?_<;>intro hc<;>first | (replace hc:=qC2 hc;try exact qX) | exact qF2 hc | skip
 ·rw [show zbe p=zoo by unfold zbe;rw [if_neg (by rw [hc];decide)]]
  repeat' (first | (refine ze hn za rfl qS ?_ ?_<;>intro hc<;>first | (replace hc:=qC2 hc;try exact qX) | exact qF2 hc | skip) | refine zf hn za rfl qS ⟨_,rfl,?_⟩ | refine qK hn za rfl rfl (by (first | exact zaC _ | assumption)) ?_)
  all_goals rfl
 have hok:=hc
 have hq:=hok
 rw [zaa,Bool.and_eq_true,zdZ,decide_eq_true_eq] at hq
 have hmu:0≤p.mus∧p.mus≤4:=by omega
 have hcl:p.caps.length≤6:=by omega
 clear hc hq
 refine qK hn za rfl rfl (by (first | exact zaC _ | assumption)) ?_
 refine zT hn za zd zH [za5 0 0] rfl ?_ rfl rfl rfl rfl rfl rfl rfl rfl rfl ?_;exact qS
 refine zM hn za rfl ?_ (fun (y:Bool×Nat) wT wM=>match y with
  | (false,_)=>((17,.dat (.int .i64 0))::wT,wM)
  | (true,i)=>((17,.dat (.int .i64 (i:Int)))::(26,.no)::(25,.no)::wT,(100,some (.row 191 5 zg zae ((p.caps.take i).map zch)))::(3,some (.box 45 (.lagg [.own 12,.own 100,.nil (zm [])])))::(26,none)::(25,none)::wM)) (fun y=>y.2≤p.caps.length∧(y.1=false→y.2=0)) (fun y=>p.caps.length-y.2) (false,0) ⟨Nat.zero_le _,fun _=>rfl⟩ (zt [] ?_ ?_ rfl) ?_
 ·exact qS
 ·exact qL
 ·exact qL
 rintro ⟨b,i⟩ ⟨hi,hb⟩
 cases b
 ·have hi0:i=0:=hb rfl
  subst hi0
  refine ze hn za rfl qS ?_ ?_<;>intro hc<;>first | (replace hc:=qC2 hc;try exact qX) | exact qF2 hc | skip
  ·refine zT hn za zg zae [zch (p.caps.getD 0 0)] rfl ?_ rfl rfl rfl rfl rfl rfl rfl rfl rfl ?_;exact qS
   refine zi6 hn za [zch (p.caps.getD 0 0)] rfl ?_ (.inr rfl) rfl rfl rfl rfl rfl rfl rfl (Nat.le_of_ble_eq_true rfl) (Nat.le_of_ble_eq_true rfl) ?_;exact qS
   refine zx hn za rfl ?_ ⟨(true,1),⟨by show 1≤p.caps.length;omega,fun h=>by cases h⟩,by show p.caps.length-1<p.caps.length-0;omega,?_⟩
   ·exact qS
   ·refine zt [(100,26),(26,999)] ?_ ?_ rfl
    ·exact qL
    ·refine And.intro (congrArg (fun q=>some (Blk.row 191 5 zg zae q)) (zil (l:=p.caps) (i:=0) (by omega)).symm) ?_
     exact qL
  ·have hc0:p.caps.map zch=[]:=by rw [List.length_eq_zero_iff.1 (show p.caps.length=0 by omega)];rfl
   clear hc hi hb
   refine zM hn za rfl ?_ (fun (y:Bool×Nat) wT wM=>match y with
    | (false,_)=>((6,.dat (.int .i64 0))::wT,wM)
    | (true,i)=>((6,.dat (.int .i64 (i:Int)))::(39,.no)::(38,.no)::wT,(101,some (.row 193 2 zj zO (List.replicate i zbj)))::(3,some (.box 45 (.lagg [.own 12,.nil (zy []),.own 101])))::(39,none)::(38,none)::wM)) (fun y=>(y.2:Int)≤p.mus∧(y.1=false→y.2=0)) (fun y=>p.mus.toNat-y.2) (false,0) ⟨hmu.1,fun _=>rfl⟩ (zt [] ?_ ?_ rfl) ?_
   ·exact qS
   ·exact qL
   ·exact qL
   rintro ⟨b,i⟩ ⟨hi,hb⟩
   cases b
   ·have hi0:i=0:=hb rfl
    subst hi0
    refine ze hn za rfl qS ?_ ?_<;>intro hc<;>first | (replace hc:=qC2 hc;try exact qX) | exact qF2 hc | skip
    ·refine qD hn za zu [.r (.dagg (zO zbj)),.raw (.own 38) [(38,some (.row 193 2 zj zO [zbj]))] (some 38),.raw (.own 39) [(39,some (.row 193 2 zj zO [zbj]))] (some 39)] rfl rfl ?_ ?_
     ·(try refine qM ?_);repeat' (first | exact trivial | (first | exact zaC _ | assumption) | assumption | omega | exact qV | refine And.intro ?_ ?_)
      all_goals exact zfu [zbj] hn za rfl ⟨rfl,_,_,_,rfl,rfl,rfl,rfl,rfl,rfl⟩ (.inr rfl) rfl rfl rfl rfl (by decide) rfl rfl (by decide)
     refine zx hn za rfl ?_ ⟨(true,1),⟨by show ((1:Nat):Int)≤p.mus;omega,fun h=>by cases h⟩,by show p.mus.toNat-1<p.mus.toNat-0;omega,?_⟩
     ·exact qS
     ·refine zt [(101,39),(39,999)] ?_ ?_ rfl
      ·exact qL
      ·exact qL
    ·have hm0:p.mus.toNat=0:=by omega
     rw [show zbe p=⟨[za5 0 0],p.caps.map zch,[]⟩ by unfold zbe;rw [if_pos hok,hm0];rfl]
     rw [hc0]
     refine zf hn za rfl qS ⟨_,rfl,?_⟩
     rfl
   ·have hi:(i:Int)≤p.mus:=hi
    refine ze hn za rfl qS ?_ ?_<;>intro hc<;>first | (replace hc:=qC2 hc;try exact qX) | exact qF2 hc | skip
    ·refine qD hn za zu [.r (.dagg (zO zbj)),.raw (.own 38) [(38,some (.row 193 2 zj zO [zbj]))] (some 38),.raw (.own 39) [(39,some (.row 193 2 zj zO (List.replicate i zbj++[zbj]))),(101,none)] (some 39)] rfl rfl ?_ ?_
     ·(try refine qM ?_);repeat' (first | exact trivial | (first | exact zaC _ | assumption) | assumption | omega | exact qV | refine And.intro ?_ ?_)
      all_goals exact zes _ hn za rfl ⟨rfl,_,_,_,rfl,rfl,rfl,rfl,rfl,rfl⟩ rfl rfl rfl rfl rfl rfl rfl (by simp only [List.length_replicate,List.length_cons,List.length_nil];omega)
     refine zx hn za rfl ?_ ⟨(true,i+1),⟨by show ((i+1:Nat):Int)≤p.mus;omega,fun h=>by cases h⟩,by show p.mus.toNat-(i+1)<p.mus.toNat-i;omega,?_⟩
     ·exact qS
     ·refine zt [(101,39),(39,999)] ?_ ?_ rfl
      ·exact qL
      ·refine And.intro (congrArg (fun q=>some (Blk.row 193 2 zj zO q)) (List.replicate_succ').symm) ?_
       exact qL
    ·have hm0:p.mus.toNat=i:=by omega
     rw [show zbe p=⟨[za5 0 0],p.caps.map zch,List.replicate i zbj⟩ by unfold zbe;rw [if_pos hok,hm0]]
     rw [hc0]
     refine zf hn za rfl qS ⟨_,rfl,?_⟩
     rfl
 ·have hi:i≤p.caps.length:=hi
  refine ze hn za rfl qS ?_ ?_<;>intro hc<;>first | (replace hc:=qC2 hc;try exact qX) | exact qF2 hc | skip
  ·have hlt:i<p.caps.length:=by omega
   refine zT hn za zg zae [zch (p.caps.getD i 0)] rfl ?_ rfl rfl rfl rfl rfl rfl rfl rfl rfl ?_;exact qS
   refine zas hn za [zch (p.caps.getD i 0)] rfl ?_ rfl rfl rfl rfl rfl rfl rfl rfl ?_ ?_;exact qS
   ·show (((p.caps.take i).map zch).length+1)*88≤_
    rw [List.length_map,List.length_take];omega
   refine zx hn za rfl ?_ ⟨(true,i+1),⟨hlt,fun h=>by cases h⟩,by show p.caps.length-(i+1)<p.caps.length-i;omega,?_⟩
   ·exact qS
   ·refine zt [(100,26),(26,999)] ?_ ?_ rfl
    ·exact qL
    ·refine And.intro (congrArg (fun q=>some (Blk.row 191 5 zg zae q)) (zil hlt).symm) ?_
     exact qL
  ·have hie:i=p.caps.length:=by omega
   subst hie
   have hc1:(p.caps.take p.caps.length).map zch=p.caps.map zch:=by rw [List.take_length]
   clear hc hi hb
   refine zM hn za rfl ?_ (fun (y:Bool×Nat) wT wM=>match y with
    | (false,_)=>((6,.dat (.int .i64 0))::wT,wM)
    | (true,i)=>((6,.dat (.int .i64 (i:Int)))::(39,.no)::(38,.no)::wT,(101,some (.row 193 2 zj zO (List.replicate i zbj)))::(3,some (.box 45 (.lagg [.own 12,.own 100,.own 101])))::(39,none)::(38,none)::wM)) (fun y=>(y.2:Int)≤p.mus∧(y.1=false→y.2=0)) (fun y=>p.mus.toNat-y.2) (false,0) ⟨hmu.1,fun _=>rfl⟩ (zt [] ?_ ?_ rfl) ?_
   ·exact qS
   ·exact qL
   ·exact qL
   rintro ⟨b,i⟩ ⟨hi,hb⟩
   cases b
   ·have hi0:i=0:=hb rfl
    subst hi0
    refine ze hn za rfl qS ?_ ?_<;>intro hc<;>first | (replace hc:=qC2 hc;try exact qX) | exact qF2 hc | skip
    ·refine qD hn za zu [.r (.dagg (zO zbj)),.raw (.own 38) [(38,some (.row 193 2 zj zO [zbj]))] (some 38),.raw (.own 39) [(39,some (.row 193 2 zj zO [zbj]))] (some 39)] rfl rfl ?_ ?_
     ·(try refine qM ?_);repeat' (first | exact trivial | (first | exact zaC _ | assumption) | assumption | omega | exact qV | refine And.intro ?_ ?_)
      all_goals exact zfu [zbj] hn za rfl ⟨rfl,_,_,_,rfl,rfl,rfl,rfl,rfl,rfl⟩ (.inr rfl) rfl rfl rfl rfl (by decide) rfl rfl (by decide)
     refine zx hn za rfl ?_ ⟨(true,1),⟨by show ((1:Nat):Int)≤p.mus;omega,fun h=>by cases h⟩,by show p.mus.toNat-1<p.mus.toNat-0;omega,?_⟩
     ·exact qS
     ·refine zt [(101,39),(39,999)] ?_ ?_ rfl
      ·exact qL
      ·exact qL
    ·have hm0:p.mus.toNat=0:=by omega
     rw [show zbe p=⟨[za5 0 0],p.caps.map zch,[]⟩ by unfold zbe;rw [if_pos hok,hm0];rfl]
     rw [← hc1]
     refine zf hn za rfl qS ⟨_,rfl,?_⟩
     rfl
   ·have hi:(i:Int)≤p.mus:=hi
    refine ze hn za rfl qS ?_ ?_<;>intro hc<;>first | (replace hc:=qC2 hc;try exact qX) | exact qF2 hc | skip
    ·refine qD hn za zu [.r (.dagg (zO zbj)),.raw (.own 38) [(38,some (.row 193 2 zj zO [zbj]))] (some 38),.raw (.own 39) [(39,some (.row 193 2 zj zO (List.replicate i zbj++[zbj]))),(101,none)] (some 39)] rfl rfl ?_ ?_
     ·(try refine qM ?_);repeat' (first | exact trivial | (first | exact zaC _ | assumption) | assumption | omega | exact qV | refine And.intro ?_ ?_)
      all_goals exact zes _ hn za rfl ⟨rfl,_,_,_,rfl,rfl,rfl,rfl,rfl,rfl⟩ rfl rfl rfl rfl rfl rfl rfl (by simp only [List.length_replicate,List.length_cons,List.length_nil];omega)
     refine zx hn za rfl ?_ ⟨(true,i+1),⟨by show ((i+1:Nat):Int)≤p.mus;omega,fun h=>by cases h⟩,by show p.mus.toNat-(i+1)<p.mus.toNat-i;omega,?_⟩
     ·exact qS
     ·refine zt [(101,39),(39,999)] ?_ ?_ rfl
      ·exact qL
      ·refine And.intro (congrArg (fun q=>some (Blk.row 193 2 zj zO q)) (List.replicate_succ').symm) ?_
       exact qL
    ·have hm0:p.mus.toNat=i:=by omega
     rw [show zbe p=⟨[za5 0 0],p.caps.map zch,List.replicate i zbj⟩ by unfold zbe;rw [if_pos hok,hm0]]
     rw [← hc1]
     refine zf hn za rfl qS ⟨_,rfl,?_⟩
     rfl
set_option maxHeartbeats 8000000 in
theorem zk6 (p:zn):Con Tryz.prog 87 [.dagg (zQ p)] (.dagg (zad (zbe p))):=by
 have hpo:=zG p
 have hgn:=zhp 0 0
 have hmn:=zjo
 refine zk (rs:=[(.cell 2 45,45)]) za Tryz.func87 rfl rfl rfl (Nat.le_of_ble_eq_true rfl) fun ho x hn=>?_
 refine qK hn za rfl rfl (by (first | exact zG _ | assumption)) ?_
 refine ze hn za rfl qS ?_ ?_<;>intro hc<;>first | (replace hc:=qC2 hc;try exact qX) | exact qF2 hc | skip
 ·rw [show zbe p=zoo by unfold zbe;rw [if_neg (by rw [hc];decide)]]
  repeat' (first | (refine ze hn za rfl qS ?_ ?_<;>intro hc<;>first | (replace hc:=qC2 hc;try exact qX) | exact qF2 hc | skip) | refine zf hn za rfl qS ⟨_,rfl,?_⟩ | refine qK hn za rfl rfl (by (first | exact zG _ | assumption)) ?_)
  all_goals rfl
 have hok:=hc
 have hq:=hok
 rw [zaa,Bool.and_eq_true,zdZ,decide_eq_true_eq] at hq
 have hmu:0≤p.mus∧p.mus≤4:=by omega
 have hcl:p.caps.length≤6:=by omega
 clear hc hq
 refine qK hn za rfl rfl (by (first | exact zG _ | assumption)) ?_
 refine zT hn za zd zH [za5 0 0] rfl ?_ rfl rfl rfl rfl rfl rfl rfl rfl rfl ?_;exact qS
 refine zM hn za rfl ?_ (fun (y:Bool×Nat) wT wM=>match y with
  | (false,_)=>((16,.dat (.int .i64 0))::wT,wM)
  | (true,i)=>((16,.dat (.int .i64 (i:Int)))::(25,.no)::(24,.no)::wT,(100,some (.row 191 5 zg zae ((p.caps.take i).map zch)))::(3,some (.box 45 (.lagg [.own 11,.own 100,.nil (zm [])])))::(25,none)::(24,none)::wM)) (fun y=>y.2≤p.caps.length∧(y.1=false→y.2=0)) (fun y=>p.caps.length-y.2) (false,0) ⟨Nat.zero_le _,fun _=>rfl⟩ (zt [] ?_ ?_ rfl) ?_
 ·exact qS
 ·exact qL
 ·exact qL
 rintro ⟨b,i⟩ ⟨hi,hb⟩
 cases b
 ·have hi0:i=0:=hb rfl
  subst hi0
  refine ze hn za rfl qS ?_ ?_<;>intro hc<;>first | (replace hc:=qC2 hc;try exact qX) | exact qF2 hc | skip
  ·refine zT hn za zg zae [zch (p.caps.getD 0 0)] rfl ?_ rfl rfl rfl rfl rfl rfl rfl rfl rfl ?_;exact qS
   refine zi6 hn za [zch (p.caps.getD 0 0)] rfl ?_ (.inr rfl) rfl rfl rfl rfl rfl rfl rfl (Nat.le_of_ble_eq_true rfl) (Nat.le_of_ble_eq_true rfl) ?_;exact qS
   refine zx hn za rfl ?_ ⟨(true,1),⟨by show 1≤p.caps.length;omega,fun h=>by cases h⟩,by show p.caps.length-1<p.caps.length-0;omega,?_⟩
   ·exact qS
   ·refine zt [(100,25),(25,999)] ?_ ?_ rfl
    ·exact qL
    ·refine And.intro (congrArg (fun q=>some (Blk.row 191 5 zg zae q)) (zil (l:=p.caps) (i:=0) (by omega)).symm) ?_
     exact qL
  ·have hc0:p.caps.map zch=[]:=by rw [List.length_eq_zero_iff.1 (show p.caps.length=0 by omega)];rfl
   clear hc hi hb
   refine zM hn za rfl ?_ (fun (y:Bool×Nat) wT wM=>match y with
    | (false,_)=>((30,.dat (.int .i64 0))::wT,wM)
    | (true,i)=>((30,.dat (.int .i64 (i:Int)))::(36,.no)::(35,.no)::wT,(101,some (.row 193 2 zj zO (List.replicate i zbj)))::(3,some (.box 45 (.lagg [.own 11,.nil (zy []),.own 101])))::(36,none)::(35,none)::wM)) (fun y=>(y.2:Int)≤p.mus∧(y.1=false→y.2=0)) (fun y=>p.mus.toNat-y.2) (false,0) ⟨hmu.1,fun _=>rfl⟩ (zt [] ?_ ?_ rfl) ?_
   ·exact qS
   ·exact qL
   ·exact qL
   rintro ⟨b,i⟩ ⟨hi,hb⟩
   cases b
   ·have hi0:i=0:=hb rfl
    subst hi0
    refine ze hn za rfl qS ?_ ?_<;>intro hc<;>first | (replace hc:=qC2 hc;try exact qX) | exact qF2 hc | skip
    ·refine qD hn za zu [.r (.dagg (zO zbj)),.raw (.own 35) [(35,some (.row 193 2 zj zO [zbj]))] (some 35),.raw (.own 36) [(36,some (.row 193 2 zj zO [zbj]))] (some 36)] rfl rfl ?_ ?_
     ·(try refine qM ?_);repeat' (first | exact trivial | (first | exact zG _ | assumption) | assumption | omega | exact qV | refine And.intro ?_ ?_)
      all_goals exact zfu [zbj] hn za rfl ⟨rfl,_,_,_,rfl,rfl,rfl,rfl,rfl,rfl⟩ (.inr rfl) rfl rfl rfl rfl (by decide) rfl rfl (by decide)
     refine zx hn za rfl ?_ ⟨(true,1),⟨by show ((1:Nat):Int)≤p.mus;omega,fun h=>by cases h⟩,by show p.mus.toNat-1<p.mus.toNat-0;omega,?_⟩
     ·exact qS
     ·refine zt [(101,36),(36,999)] ?_ ?_ rfl
      ·exact qL
      ·exact qL
    ·have hm0:p.mus.toNat=0:=by omega
     rw [show zbe p=⟨[za5 0 0],p.caps.map zch,[]⟩ by unfold zbe;rw [if_pos hok,hm0];rfl]
     rw [hc0]
     refine zf hn za rfl qS ⟨_,rfl,?_⟩
     rfl
   ·have hi:(i:Int)≤p.mus:=hi
    refine ze hn za rfl qS ?_ ?_<;>intro hc<;>first | (replace hc:=qC2 hc;try exact qX) | exact qF2 hc | skip
    ·refine qD hn za zu [.r (.dagg (zO zbj)),.raw (.own 35) [(35,some (.row 193 2 zj zO [zbj]))] (some 35),.raw (.own 36) [(36,some (.row 193 2 zj zO (List.replicate i zbj++[zbj]))),(101,none)] (some 36)] rfl rfl ?_ ?_
     ·(try refine qM ?_);repeat' (first | exact trivial | (first | exact zG _ | assumption) | assumption | omega | exact qV | refine And.intro ?_ ?_)
      all_goals exact zes _ hn za rfl ⟨rfl,_,_,_,rfl,rfl,rfl,rfl,rfl,rfl⟩ rfl rfl rfl rfl rfl rfl rfl (by simp only [List.length_replicate,List.length_cons,List.length_nil];omega)
     refine zx hn za rfl ?_ ⟨(true,i+1),⟨by show ((i+1:Nat):Int)≤p.mus;omega,fun h=>by cases h⟩,by show p.mus.toNat-(i+1)<p.mus.toNat-i;omega,?_⟩
     ·exact qS
     ·refine zt [(101,36),(36,999)] ?_ ?_ rfl
      ·exact qL
      ·refine And.intro (congrArg (fun q=>some (Blk.row 193 2 zj zO q)) (List.replicate_succ').symm) ?_
       exact qL
    ·have hm0:p.mus.toNat=i:=by omega
     rw [show zbe p=⟨[za5 0 0],p.caps.map zch,List.replicate i zbj⟩ by unfold zbe;rw [if_pos hok,hm0]]
     rw [hc0]
     refine zf hn za rfl qS ⟨_,rfl,?_⟩
     rfl
 ·have hi:i≤p.caps.length:=hi
  refine ze hn za rfl qS ?_ ?_<;>intro hc<;>first | (replace hc:=qC2 hc;try exact qX) | exact qF2 hc | skip
  ·have hlt:i<p.caps.length:=by omega
   refine zT hn za zg zae [zch (p.caps.getD i 0)] rfl ?_ rfl rfl rfl rfl rfl rfl rfl rfl rfl ?_;exact qS
   refine zas hn za [zch (p.caps.getD i 0)] rfl ?_ rfl rfl rfl rfl rfl rfl rfl rfl ?_ ?_;exact qS
   ·show (((p.caps.take i).map zch).length+1)*88≤_
    rw [List.length_map,List.length_take];omega
   refine zx hn za rfl ?_ ⟨(true,i+1),⟨hlt,fun h=>by cases h⟩,by show p.caps.length-(i+1)<p.caps.length-i;omega,?_⟩
   ·exact qS
   ·refine zt [(100,25),(25,999)] ?_ ?_ rfl
    ·exact qL
    ·refine And.intro (congrArg (fun q=>some (Blk.row 191 5 zg zae q)) (zil hlt).symm) ?_
     exact qL
  ·have hie:i=p.caps.length:=by omega
   subst hie
   have hc1:(p.caps.take p.caps.length).map zch=p.caps.map zch:=by rw [List.take_length]
   clear hc hi hb
   refine zM hn za rfl ?_ (fun (y:Bool×Nat) wT wM=>match y with
    | (false,_)=>((30,.dat (.int .i64 0))::wT,wM)
    | (true,i)=>((30,.dat (.int .i64 (i:Int)))::(36,.no)::(35,.no)::wT,(101,some (.row 193 2 zj zO (List.replicate i zbj)))::(3,some (.box 45 (.lagg [.own 11,.own 100,.own 101])))::(36,none)::(35,none)::wM)) (fun y=>(y.2:Int)≤p.mus∧(y.1=false→y.2=0)) (fun y=>p.mus.toNat-y.2) (false,0) ⟨hmu.1,fun _=>rfl⟩ (zt [] ?_ ?_ rfl) ?_
   ·exact qS
   ·exact qL
   ·exact qL
   rintro ⟨b,i⟩ ⟨hi,hb⟩
   cases b
   ·have hi0:i=0:=hb rfl
    subst hi0
    refine ze hn za rfl qS ?_ ?_<;>intro hc<;>first | (replace hc:=qC2 hc;try exact qX) | exact qF2 hc | skip
    ·refine qD hn za zu [.r (.dagg (zO zbj)),.raw (.own 35) [(35,some (.row 193 2 zj zO [zbj]))] (some 35),.raw (.own 36) [(36,some (.row 193 2 zj zO [zbj]))] (some 36)] rfl rfl ?_ ?_
     ·(try refine qM ?_);repeat' (first | exact trivial | (first | exact zG _ | assumption) | assumption | omega | exact qV | refine And.intro ?_ ?_)
      all_goals exact zfu [zbj] hn za rfl ⟨rfl,_,_,_,rfl,rfl,rfl,rfl,rfl,rfl⟩ (.inr rfl) rfl rfl rfl rfl (by decide) rfl rfl (by decide)
     refine zx hn za rfl ?_ ⟨(true,1),⟨by show ((1:Nat):Int)≤p.mus;omega,fun h=>by cases h⟩,by show p.mus.toNat-1<p.mus.toNat-0;omega,?_⟩
     ·exact qS
     ·refine zt [(101,36),(36,999)] ?_ ?_ rfl
      ·exact qL
      ·exact qL
    ·have hm0:p.mus.toNat=0:=by omega
     rw [show zbe p=⟨[za5 0 0],p.caps.map zch,[]⟩ by unfold zbe;rw [if_pos hok,hm0];rfl]
     rw [← hc1]
     refine zf hn za rfl qS ⟨_,rfl,?_⟩
     rfl
   ·have hi:(i:Int)≤p.mus:=hi
    refine ze hn za rfl qS ?_ ?_<;>intro hc<;>first | (replace hc:=qC2 hc;try exact qX) | exact qF2 hc | skip
    ·refine qD hn za zu [.r (.dagg (zO zbj)),.raw (.own 35) [(35,some (.row 193 2 zj zO [zbj]))] (some 35),.raw (.own 36) [(36,some (.row 193 2 zj zO (List.replicate i zbj++[zbj]))),(101,none)] (some 36)] rfl rfl ?_ ?_
     ·(try refine qM ?_);repeat' (first | exact trivial | (first | exact zG _ | assumption) | assumption | omega | exact qV | refine And.intro ?_ ?_)
      all_goals exact zes _ hn za rfl ⟨rfl,_,_,_,rfl,rfl,rfl,rfl,rfl,rfl⟩ rfl rfl rfl rfl rfl rfl rfl (by simp only [List.length_replicate,List.length_cons,List.length_nil];omega)
     refine zx hn za rfl ?_ ⟨(true,i+1),⟨by show ((i+1:Nat):Int)≤p.mus;omega,fun h=>by cases h⟩,by show p.mus.toNat-(i+1)<p.mus.toNat-i;omega,?_⟩
     ·exact qS
     ·refine zt [(101,36),(36,999)] ?_ ?_ rfl
      ·exact qL
      ·refine And.intro (congrArg (fun q=>some (Blk.row 193 2 zj zO q)) (List.replicate_succ').symm) ?_
       exact qL
    ·have hm0:p.mus.toNat=i:=by omega
     rw [show zbe p=⟨[za5 0 0],p.caps.map zch,List.replicate i zbj⟩ by unfold zbe;rw [if_pos hok,hm0]]
     rw [← hc1]
     refine zf hn za rfl qS ⟨_,rfl,?_⟩
     rfl
def zjm:Ml→Bool
 | []=>true
 | (_,some _)::r=>zjm r
 | (_,none)::_=>false
theorem zaL {id:Nat}:∀ {M:Ml},zjm M=true→id∈zS M→(mm M id).isSome=true
 | [],_,h=>by cases h
 | (k,some b)::r,ha,h=>by
  rw [zI];unfold upd
  split
  ·rfl
  ·rename_i hne
   rcases List.mem_cons.1 h with h | h
   ·exact absurd h hne
   ·exact zaL (M:=r) ha h
 | (k,none)::r,ha,_=>by cases ha
theorem zaX {Mi Mo:Ml} (h1:zjm Mi=true) (h2:zla (zS Mo) (zS Mi)=true) {id:Nat} (h:(mm Mo id).isSome=true):(mm Mi id).isSome=true:=zaL h1 (zex h2 id (zbW h))
theorem zbS {Mo:Ml} {ls:List LV} (h1:zjm Mo=true) (h2:zla (lk3 ls) (zS Mo)=true) {id:Nat} (h:(LV.tup ls).on id):(mm Mo id).isSome=true:=zaL h1 (zex h2 id (zdl h))
def hEc (c2:C):LV:=.lagg [.own 1000,.own 1001,.dat c2]
def mEc (e:zz):Ml:=[(1000,some (.row 172 5 zd zH e.gs)),(1001,some (.row 191 5 zg zae e.chans))]
def hEm (c1:C):LV:=.lagg [.own 1000,.dat c1,.own 1002]
def mEm (e:zz):Ml:=[(1000,some (.row 172 5 zd zH e.gs)),(1002,some (.row 193 2 zj zO e.mus))]
def hEg (c1 c2:C):LV:=.lagg [.own 1000,.dat c1,.dat c2]
def mEg (e:zz):Ml:=[(1000,some (.row 172 5 zd zH e.gs))]
set_option maxHeartbeats 4000000 in
theorem zm6 (c2:C) (e:zz) (n:Int) (h:zp e 1099511627776):Ct Tryz.prog 302 [hEc c2,.dat (.int .i64 n)] (mEc e) (zag (.tup []) (mEc (zfM e n))):=by
 obtain ⟨hg,hc0,hm0,hgs,hcs,hms⟩:=h
 have hn0:∀ i,(zbC e.chans n i).length=e.chans.length:=zl8 e.chans n
 refine zD (rs:=[]) za Tryz.func302 rfl rfl rfl (Nat.le_of_ble_eq_true rfl) rfl fun ho hm x hn hlent=>?_
 refine zM hn za rfl ?_ (fun (i:Nat) wT wM=>((8,.dat (.int .i64 i))::wT,(1001,some (.row 191 5 zg zae (zbC e.chans n i)))::wM)) (fun i=>i≤e.chans.length) (fun i=>e.chans.length-i) 0 (Nat.zero_le _) (zt [] ?_ ?_ rfl) ?_
 ·exact qS
 ·exact qL
 ·exact qL
 rintro i hi
 have hni:=hn0 i
 refine ze hn za rfl qS ?_ ?_<;>intro hc<;>first | (replace hc:=qC2 hc;try exact qX) | exact qF2 hc | skip
 ·have hlt:i<e.chans.length:=by omega
  have hget:=zl6 (n:=n) hlt
  obtain ⟨h1,h2,h3⟩:=hcs i hlt
  have hk1:=ziA (e.chans.getD i zg).sends n (by omega)
  have hk2:=ziA (e.chans.getD i zg).recvs n (by omega)
  have hg2:((zbC e.chans n i).set i {(zbC e.chans n i).getD i zg with sends:=zat ((zbC e.chans n i).getD i zg).sends n}).getD i zg={(zbC e.chans n i).getD i zg with sends:=zat ((zbC e.chans n i).getD i zg).sends n}:=by
   rw [List.getD_eq_getElem?_getD,List.getElem?_set_self (by omega)];rfl
  have hk3:Con Tryz.prog 307 [.dat (zB (((zbC e.chans n i).set i {(zbC e.chans n i).getD i zg with sends:=zat ((zbC e.chans n i).getD i zg).sends n}).getD i zg).recvs),.dat (.int .i64 n)] (.dat (zB (zat (e.chans.getD i zg).recvs n))):=by
   rw [hg2,hget];exact hk2
  rw [← hget] at hk1
  have hl2:((zbC e.chans n i).set i {(zbC e.chans n i).getD i zg with sends:=zat ((zbC e.chans n i).getD i zg).sends n}).length=e.chans.length:=by rw [List.length_set];exact hni
  refine qD hn za zu [.r (.dat (zB (zat ((zbC e.chans n i).getD i zg).sends n))),.raw .no [(1001,some (.row 191 5 zg zae ((zbC e.chans n i).set i {(zbC e.chans n i).getD i zg with sends:=zat ((zbC e.chans n i).getD i zg).sends n})))] none] rfl rfl ?_ ?_
  ·(try refine qM ?_);repeat' (first | exact trivial | assumption | assumption | omega | exact qV | refine And.intro ?_ ?_)
   exact zab _ hn za rfl ⟨_,_,rfl,rfl,rfl⟩ rfl rfl rfl rfl rfl (Nat.le_of_ble_eq_true rfl) rfl rfl
  generalize hys:(zbC e.chans n i).set i {(zbC e.chans n i).getD i zg with sends:=zat ((zbC e.chans n i).getD i zg).sends n}=ys at *
  refine qD hn za zu [.r (.dat (zB (zat (e.chans.getD i zg).recvs n))),.raw .no [(1001,some (.row 191 5 zg zae (ys.set i {ys.getD i zg with recvs:=zat (e.chans.getD i zg).recvs n})))] none] rfl rfl ?_ ?_
  ·(try refine qM ?_);repeat' (first | exact trivial | assumption | assumption | omega | exact qV | refine And.intro ?_ ?_)
   exact zab _ hn za rfl ⟨_,_,rfl,rfl,rfl⟩ rfl rfl rfl rfl rfl (Nat.le_of_ble_eq_true rfl) rfl rfl
  refine zx hn za rfl ?_ ⟨i+1,?_,?_,?_⟩
  ·exact qS
  ·show i+1≤e.chans.length;omega
  ·show e.chans.length-(i+1)<e.chans.length-i;omega
  ·refine zt [] ?_ ?_ rfl
   ·exact qL
   ·refine And.intro (congrArg (fun q=>some (Blk.row 191 5 zg zae q)) ?_) ?_
    ·rw [hg2,← hys,List.set_set,← zmL hlt,hget];rfl
    ·exact qL
 have hie:i=e.chans.length:=by omega
 subst hie
 refine zf hn za rfl ?_ ⟨_,.tup [],mEc (zfM e n),[],rfl,rfl,⟨?_,?_,trivial⟩,rfl,rfl,rfl,rfl,rfl⟩
 ·exact qS
 ·rfl
 ·refine congrArg (fun q=>some (Blk.row 191 5 zg zae q)) ?_
  unfold zbC
  rw [List.take_length,List.drop_length,List.append_nil];rfl
set_option maxHeartbeats 4000000 in
theorem zm0 (c2:C) (e:zz) (n:Int) (i:zbl) (hb:0≤n∧n<e.gs.length) (h1:(e.gs.getD n.toNat zd).regs.length≤2199023255551) (h2:(e.gs.getD n.toNat zd).trace.length≤2199023255551) (h3:0≤(e.gs.getD n.toNat zd).pc∧(e.gs.getD n.toNat zd).pc≤1099511627776):Ct Tryz.prog 259 [hEc c2,.dat (.int .i64 n),.dagg (zd0 i)] (mEc e) (zag (.tup []) (mEc (setG e n (zbg (e.gs.getD n.toNat zd) i)))):=by
 have hk:=zbP (e.gs.getD n.toNat zd) i h1 h2
 have hp:(tell (e.gs.getD n.toNat zd) i).pc=(e.gs.getD n.toNat zd).pc:=rfl
 refine zD (rs:=[]) za Tryz.func259 rfl rfl rfl (Nat.le_of_ble_eq_true rfl) rfl fun ho hm x hn hlent=>?_
 refine qD hn za zu [.r (.dagg (zH (tell (e.gs.getD n.toNat zd) i)))] rfl rfl ?_ ?_
 ·(try refine qM ?_);repeat' (first | exact trivial | assumption | assumption | omega | exact qV | refine And.intro ?_ ?_)
 refine zaI hn za (zbg (e.gs.getD n.toNat zd) i) rfl ?_ rfl rfl rfl rfl rfl rfl (Nat.le_of_ble_eq_true rfl) rfl ?_;(first | (exact qS) | decide | (simp only [List.length_replicate,List.length_set];decide))
 refine zf hn za rfl ?_ ⟨_,.tup [],mEc (setG e n (zbg (e.gs.getD n.toNat zd) i)),[],rfl,rfl,⟨?_,?_,trivial⟩,rfl,rfl,rfl,rfl,rfl⟩
 ·exact qS
 ·rfl
 ·rfl
set_option maxHeartbeats 4000000 in
theorem zgf (c1:C) (e:zz) (n:Int) (i:zbl) (hb:0≤n∧n<e.gs.length) (h1:(e.gs.getD n.toNat zd).regs.length≤2199023255551) (h2:(e.gs.getD n.toNat zd).trace.length≤2199023255551) (h3:0≤(e.gs.getD n.toNat zd).pc∧(e.gs.getD n.toNat zd).pc≤1099511627776):Ct Tryz.prog 259 [hEm c1,.dat (.int .i64 n),.dagg (zd0 i)] (mEm e) (zag (.tup []) (mEm (setG e n (zbg (e.gs.getD n.toNat zd) i)))):=by
 have hk:=zbP (e.gs.getD n.toNat zd) i h1 h2
 have hp:(tell (e.gs.getD n.toNat zd) i).pc=(e.gs.getD n.toNat zd).pc:=rfl
 refine zD (rs:=[]) za Tryz.func259 rfl rfl rfl (Nat.le_of_ble_eq_true rfl) rfl fun ho hm x hn hlent=>?_
 refine qD hn za zu [.r (.dagg (zH (tell (e.gs.getD n.toNat zd) i)))] rfl rfl ?_ ?_
 ·(try refine qM ?_);repeat' (first | exact trivial | assumption | assumption | omega | exact qV | refine And.intro ?_ ?_)
 refine zaI hn za (zbg (e.gs.getD n.toNat zd) i) rfl ?_ rfl rfl rfl rfl rfl rfl (Nat.le_of_ble_eq_true rfl) rfl ?_;(first | (exact qS) | decide | (simp only [List.length_replicate,List.length_set];decide))
 refine zf hn za rfl ?_ ⟨_,.tup [],mEm (setG e n (zbg (e.gs.getD n.toNat zd) i)),[],rfl,rfl,⟨?_,?_,trivial⟩,rfl,rfl,rfl,rfl,rfl⟩
 ·exact qS
 ·rfl
 ·rfl
set_option maxHeartbeats 4000000 in
theorem zit (c1 c2:C) (e:zz) (n:Int) (i:zbl) (hb:0≤n∧n<e.gs.length) (h1:(e.gs.getD n.toNat zd).regs.length≤2199023255551) (h2:(e.gs.getD n.toNat zd).trace.length≤2199023255551) (h3:0≤(e.gs.getD n.toNat zd).pc∧(e.gs.getD n.toNat zd).pc≤1099511627776):Ct Tryz.prog 259 [hEg c1 c2,.dat (.int .i64 n),.dagg (zd0 i)] (mEg e) (zag (.tup []) (mEg (setG e n (zbg (e.gs.getD n.toNat zd) i)))):=by
 have hk:=zbP (e.gs.getD n.toNat zd) i h1 h2
 have hp:(tell (e.gs.getD n.toNat zd) i).pc=(e.gs.getD n.toNat zd).pc:=rfl
 refine zD (rs:=[]) za Tryz.func259 rfl rfl rfl (Nat.le_of_ble_eq_true rfl) rfl fun ho hm x hn hlent=>?_
 refine qD hn za zu [.r (.dagg (zH (tell (e.gs.getD n.toNat zd) i)))] rfl rfl ?_ ?_
 ·(try refine qM ?_);repeat' (first | exact trivial | assumption | assumption | omega | exact qV | refine And.intro ?_ ?_)
 refine zaI hn za (zbg (e.gs.getD n.toNat zd) i) rfl ?_ rfl rfl rfl rfl rfl rfl (Nat.le_of_ble_eq_true rfl) rfl ?_;(first | (exact qS) | decide | (simp only [List.length_replicate,List.length_set];decide))
 refine zf hn za rfl ?_ ⟨_,.tup [],mEg (setG e n (zbg (e.gs.getD n.toNat zd) i)),[],rfl,rfl,⟨?_,trivial⟩,rfl,rfl,rfl,rfl,rfl⟩
 ·exact qS
 ·rfl
theorem zom (c2:C) (e:zz) (n:Int) (h:zp e 1099511627776):Ct Tryz.prog 302 [hEc c2,.dat (.int .i64 n)] (mEc e) (zag (.tup []) [(1000,some (.row 172 5 zd zH e.gs)),(1001,some (.row 191 5 zg zae (zfM e n).chans))]):=zm6 c2 e n h
set_option maxHeartbeats 16000000 in
theorem zjg (c2:C) (p:zn) (e:zz) (ch:Int) (w:zo) (v:Int) (ok send:Bool) (hL:zp e 1099511627776) (hp:zaa p=true) (hw:0≤w.g∧w.g<e.gs.length) (ha:za8 p (e.gs.getD w.g.toNat zd)) (hs:(e.gs.getD w.g.toNat zd).state=2) (hpl:ztk p (e.gs.getD w.g.toNat zd) ch send w) (hpc:(e.gs.getD w.g.toNat zd).pc≤1048576):Ct Tryz.prog 288 [.dagg (zQ p),hEc c2,.dagg (zam ⟨false,ch,send,w⟩),.dat (.int .i64 v),.dat (.bool ok)] (mEc e) (zag (.tup []) (mEc (zaV p e ch w v ok))):=by
 have hgl:=hL.gor hw
 have hgh:=(ha.state 1).head (.inl rfl)
 have hat:Con Tryz.prog 138 [.dagg (zQ p),.dagg (zH {(e.gs.getD w.g.toNat zd) with state:=1})] (.dagg (zc7 (zb p (e.gs.getD w.g.toNat zd)))):=con_at_impl.instr p _ hgh
 have ha0:=hpl.a0
 have hcas:=hpl.cas
 have hpc0:=ha.pc
 refine zD (rs:=[]) za Tryz.func288 rfl rfl rfl (Nat.le_of_ble_eq_true rfl) rfl fun ho hm x hn hlent=>?_
 refine zbB hn za [true,false] (zom c2 e w.g hL) rfl ?_ rfl rfl (by repeat' (first | exact trivial | refine And.intro rfl ?_)) rfl (fun i hi=>(by cases hi)) (.inl rfl) (fun i hi=>zaL rfl hi) ?_;exact qS;rintro r Mo ⟨rfl,rfl⟩;refine ⟨rfl,fun id hi=>.inl (zaX rfl rfl hi),fun id hi=>zbS rfl rfl hi,?_⟩
 refine qK hn za rfl rfl (by (first | exact con_at_impl.instr _ _ (by assumption) | assumption)) ?_
 refine qD hn za zu [] rfl rfl ?_ ?_
 ·(try refine qM ?_);repeat' (first | exact trivial | (first | exact con_at_impl.instr _ _ (by assumption) | assumption) | assumption | omega | exact qV | refine And.intro ?_ ?_)
 refine ze hn za rfl qS ?_ ?_<;>intro hc<;>first | (replace hc:=qC2 hc;try exact qX) | exact qF2 hc | skip
 ·obtain ⟨h11,hcl⟩:=hcas.2 (by omega)
  have h0:=ha0 h11
  have hx:zaE p (e.gs.getD w.g.toNat zd) w=(p.sels.getD (zb p (e.gs.getD w.g.toNat zd)).a.toNat zh).cases.getD w.cas.toNat zE:=by
   unfold zaE;rw [if_pos (by omega)]
  have hk:=zbP {(e.gs.getD w.g.toNat zd) with state:=1} ⟨4,(zb p (e.gs.getD w.g.toNat zd)).a,w.cas,false⟩ (by show (e.gs.getD w.g.toNat zd).regs.length≤_;omega) (by show (e.gs.getD w.g.toNat zd).trace.length≤_;omega)
  refine qD hn za zu [] rfl rfl ?_ ?_
  ·(try refine qM ?_);repeat' (first | exact trivial | (first | exact con_at_impl.instr _ _ (by assumption) | assumption) | assumption | omega | exact qV | refine And.intro ?_ ?_)
  refine qD hn za zu [] rfl rfl ?_ ?_
  ·(try refine qM ?_);repeat' (first | exact trivial | (first | exact con_at_impl.instr _ _ (by assumption) | assumption) | assumption | omega | exact qV | refine And.intro ?_ ?_)
  refine qK hn za rfl rfl (by (first | exact con_at_impl.instr _ _ (by assumption) | assumption)) ?_
  ((
 have hlen:((tell {(e.gs.getD w.g.toNat zd) with state:=1} ⟨4,(zb p (e.gs.getD w.g.toNat zd)).a,w.cas,false⟩):zW).regs.length≤2199023255551∧((tell {(e.gs.getD w.g.toNat zd) with state:=1} ⟨4,(zb p (e.gs.getD w.g.toNat zd)).a,w.cas,false⟩):zW).trace.length≤2199023255551:=⟨Nat.le_trans (Nat.le_of_eq (zcH (e.gs.getD w.g.toNat zd) ⟨4,(zb p (e.gs.getD w.g.toNat zd)).a,w.cas,false⟩).1) (by omega),Nat.le_trans (Nat.le_of_eq (zcH (e.gs.getD w.g.toNat zd) ⟨4,(zb p (e.gs.getD w.g.toNat zd)).a,w.cas,false⟩).2) (by omega)⟩
 have hov:=zbO (tell {(e.gs.getD w.g.toNat zd) with state:=1} ⟨4,(zb p (e.gs.getD w.g.toNat zd)).a,w.cas,false⟩) 1 hlen.1 hlen.2
 have htl:=zgb (tell {(e.gs.getD w.g.toNat zd) with state:=1} ⟨4,(zb p (e.gs.getD w.g.toNat zd)).a,w.cas,false⟩) ch w.val hlen.1 hlen.2
 have hgo:=zhc (tell {(e.gs.getD w.g.toNat zd) with state:=1} ⟨4,(zb p (e.gs.getD w.g.toNat zd)).a,w.cas,false⟩) ch v ok (((p.sels.getD (zb p (e.gs.getD w.g.toNat zd)).a.toNat zh).cases.getD w.cas.toNat zE)).reg (((p.sels.getD (zb p (e.gs.getD w.g.toNat zd)).a.toNat zh).cases.getD w.cas.toNat zE)).ok hlen.1 hlen.2
 have hovp:(over (tell {(e.gs.getD w.g.toNat zd) with state:=1} ⟨4,(zb p (e.gs.getD w.g.toNat zd)).a,w.cas,false⟩) 1).pc=(e.gs.getD w.g.toNat zd).pc:=rfl
 have hwk:∀ G,zeH p (e.gs.getD w.g.toNat zd) ch w v ok=G→some (Blk.row 172 5 zd zH (e.gs.set w.g.toNat G))=some (Blk.row 172 5 zd zH (zaV p e ch w v ok).gs):=fun G hG=>by rw [← hG];rfl
 cases send
 ·have hsnd:(((p.sels.getD (zb p (e.gs.getD w.g.toNat zd)).a.toNat zh).cases.getD w.cas.toNat zE)).send=false:=hx ▸ hpl.snd
  refine ze hn za rfl qS ?_ ?_<;>intro hc<;>first | (replace hc:=qC2 hc;try exact qX) | exact qF2 hc | skip
  all_goals (try (exfalso;simp at hc;done))
  refine ze hn za rfl qS ?_ ?_<;>intro hc<;>first | (replace hc:=qC2 hc;try exact qX) | exact qF2 hc | skip
  all_goals (try (exfalso;simp at hc;done))
  refine qK hn za rfl rfl (by (first | exact con_at_impl.instr _ _ (by assumption) | assumption)) ?_
  refine zaI hn za {zcj (tell {(e.gs.getD w.g.toNat zd) with state:=1} ⟨4,(zb p (e.gs.getD w.g.toNat zd)).a,w.cas,false⟩) ch v ok (((p.sels.getD (zb p (e.gs.getD w.g.toNat zd)).a.toNat zh).cases.getD w.cas.toNat zE)).reg (((p.sels.getD (zb p (e.gs.getD w.g.toNat zd)).a.toNat zh).cases.getD w.cas.toNat zE)).ok with pc:=(((p.sels.getD (zb p (e.gs.getD w.g.toNat zd)).a.toNat zh).cases.getD w.cas.toNat zE)).to} rfl ?_ rfl rfl rfl rfl rfl rfl (Nat.le_of_ble_eq_true rfl) rfl ?_;(first | (exact qS) | decide | (simp only [List.length_replicate,List.length_set];decide))
  refine zf hn za rfl ?_ ⟨_,.tup [],mEc (zaV p e ch w v ok),[],rfl,rfl,⟨?_,rfl,trivial⟩,rfl,rfl,rfl,rfl,rfl⟩
  ·exact qS
  ·exact hwk _ (by rw [zdf hx (if_pos (by omega)),hsnd];rfl)
 ·have hsnd:(((p.sels.getD (zb p (e.gs.getD w.g.toNat zd)).a.toNat zh).cases.getD w.cas.toNat zE)).send=true:=hx ▸ hpl.snd
  refine ze hn za rfl qS ?_ ?_<;>intro hc<;>first | (replace hc:=qC2 hc;try exact qX) | exact qF2 hc | skip
  all_goals (try (exfalso;simp at hc;done))
  refine ze hn za rfl qS ?_ ?_<;>intro hc<;>first | (replace hc:=qC2 hc;try exact qX) | exact qF2 hc | skip
  ·have hok:=hc
   refine qK hn za rfl rfl (by (first | exact con_at_impl.instr _ _ (by assumption) | assumption)) ?_
   refine zaI hn za {over (tell {(e.gs.getD w.g.toNat zd) with state:=1} ⟨4,(zb p (e.gs.getD w.g.toNat zd)).a,w.cas,false⟩) 1 with pc:=(over (tell {(e.gs.getD w.g.toNat zd) with state:=1} ⟨4,(zb p (e.gs.getD w.g.toNat zd)).a,w.cas,false⟩) 1).pc} rfl ?_ rfl rfl rfl rfl rfl rfl (Nat.le_of_ble_eq_true rfl) rfl ?_;(first | (exact qS) | decide | (simp only [List.length_replicate,List.length_set];decide))
   refine zf hn za rfl ?_ ⟨_,.tup [],mEc (zaV p e ch w v ok),[],rfl,rfl,⟨?_,rfl,trivial⟩,rfl,rfl,rfl,rfl,rfl⟩
   ·exact qS
   ·exact hwk _ (by rw [zdf hx (if_pos (by omega)),hsnd,hok];rfl)
  ·have hok:=hc
   refine ze hn za rfl qS ?_ ?_<;>intro hc<;>first | (replace hc:=qC2 hc;try exact qX) | exact qF2 hc | skip
   all_goals (try (exfalso;simp at hc;done))
   refine qK hn za rfl rfl (by (first | exact con_at_impl.instr _ _ (by assumption) | assumption)) ?_
   refine zaI hn za {tell (tell {(e.gs.getD w.g.toNat zd) with state:=1} ⟨4,(zb p (e.gs.getD w.g.toNat zd)).a,w.cas,false⟩) ⟨1,ch,w.val,false⟩ with pc:=(((p.sels.getD (zb p (e.gs.getD w.g.toNat zd)).a.toNat zh).cases.getD w.cas.toNat zE)).to} rfl ?_ rfl rfl rfl rfl rfl rfl (Nat.le_of_ble_eq_true rfl) rfl ?_;(first | (exact qS) | decide | (simp only [List.length_replicate,List.length_set];decide))
   refine zf hn za rfl ?_ ⟨_,.tup [],mEc (zaV p e ch w v ok),[],rfl,rfl,⟨?_,rfl,trivial⟩,rfl,rfl,rfl,rfl,rfl⟩
   ·exact qS
   ·exact hwk _ (by rw [zdf hx (if_pos (by omega)),hsnd,hok];rfl)))
 ·have hx:zaE p (e.gs.getD w.g.toNat zd) w=⟨decide ((zb p (e.gs.getD w.g.toNat zd)).op=8),0,(zb p (e.gs.getD w.g.toNat zd)).b,(zb p (e.gs.getD w.g.toNat zd)).c,(e.gs.getD w.g.toNat zd).pc+1⟩:=by
   unfold zaE;rw [if_neg (by omega)]
  ((
 have hlen:({(e.gs.getD w.g.toNat zd) with state:=1}:zW).regs.length≤2199023255551∧({(e.gs.getD w.g.toNat zd) with state:=1}:zW).trace.length≤2199023255551:=⟨by show (e.gs.getD w.g.toNat zd).regs.length≤_;omega,by show (e.gs.getD w.g.toNat zd).trace.length≤_;omega⟩
 have hov:=zbO {(e.gs.getD w.g.toNat zd) with state:=1} 1 hlen.1 hlen.2
 have htl:=zgb {(e.gs.getD w.g.toNat zd) with state:=1} ch w.val hlen.1 hlen.2
 have hgo:=zhc {(e.gs.getD w.g.toNat zd) with state:=1} ch v ok ((⟨decide ((zb p (e.gs.getD w.g.toNat zd)).op=8),0,(zb p (e.gs.getD w.g.toNat zd)).b,(zb p (e.gs.getD w.g.toNat zd)).c,(e.gs.getD w.g.toNat zd).pc+1⟩:zaj)).reg ((⟨decide ((zb p (e.gs.getD w.g.toNat zd)).op=8),0,(zb p (e.gs.getD w.g.toNat zd)).b,(zb p (e.gs.getD w.g.toNat zd)).c,(e.gs.getD w.g.toNat zd).pc+1⟩:zaj)).ok hlen.1 hlen.2
 have hovp:(over {(e.gs.getD w.g.toNat zd) with state:=1} 1).pc=(e.gs.getD w.g.toNat zd).pc:=rfl
 have hwk:∀ G,zeH p (e.gs.getD w.g.toNat zd) ch w v ok=G→some (Blk.row 172 5 zd zH (e.gs.set w.g.toNat G))=some (Blk.row 172 5 zd zH (zaV p e ch w v ok).gs):=fun G hG=>by rw [← hG];rfl
 cases send
 ·have hsnd:((⟨decide ((zb p (e.gs.getD w.g.toNat zd)).op=8),0,(zb p (e.gs.getD w.g.toNat zd)).b,(zb p (e.gs.getD w.g.toNat zd)).c,(e.gs.getD w.g.toNat zd).pc+1⟩:zaj)).send=false:=hx ▸ hpl.snd
  refine ze hn za rfl qS ?_ ?_<;>intro hc<;>first | (replace hc:=qC2 hc;try exact qX) | exact qF2 hc | skip
  all_goals (try (exfalso;simp at hc;done))
  refine ze hn za rfl qS ?_ ?_<;>intro hc<;>first | (replace hc:=qC2 hc;try exact qX) | exact qF2 hc | skip
  all_goals (try (exfalso;simp at hc;done))
  refine qK hn za rfl rfl (by (first | exact con_at_impl.instr _ _ (by assumption) | assumption)) ?_
  refine zaI hn za {zcj {(e.gs.getD w.g.toNat zd) with state:=1} ch v ok ((⟨decide ((zb p (e.gs.getD w.g.toNat zd)).op=8),0,(zb p (e.gs.getD w.g.toNat zd)).b,(zb p (e.gs.getD w.g.toNat zd)).c,(e.gs.getD w.g.toNat zd).pc+1⟩:zaj)).reg ((⟨decide ((zb p (e.gs.getD w.g.toNat zd)).op=8),0,(zb p (e.gs.getD w.g.toNat zd)).b,(zb p (e.gs.getD w.g.toNat zd)).c,(e.gs.getD w.g.toNat zd).pc+1⟩:zaj)).ok with pc:=((⟨decide ((zb p (e.gs.getD w.g.toNat zd)).op=8),0,(zb p (e.gs.getD w.g.toNat zd)).b,(zb p (e.gs.getD w.g.toNat zd)).c,(e.gs.getD w.g.toNat zd).pc+1⟩:zaj)).to} rfl ?_ rfl rfl rfl rfl rfl rfl (Nat.le_of_ble_eq_true rfl) rfl ?_;(first | (exact qS) | decide | (simp only [List.length_replicate,List.length_set];decide))
  refine zf hn za rfl ?_ ⟨_,.tup [],mEc (zaV p e ch w v ok),[],rfl,rfl,⟨?_,rfl,trivial⟩,rfl,rfl,rfl,rfl,rfl⟩
  ·exact qS
  ·exact hwk _ (by rw [zdf hx (if_neg (by omega)),hsnd];rfl)
 ·have hsnd:((⟨decide ((zb p (e.gs.getD w.g.toNat zd)).op=8),0,(zb p (e.gs.getD w.g.toNat zd)).b,(zb p (e.gs.getD w.g.toNat zd)).c,(e.gs.getD w.g.toNat zd).pc+1⟩:zaj)).send=true:=hx ▸ hpl.snd
  refine ze hn za rfl qS ?_ ?_<;>intro hc<;>first | (replace hc:=qC2 hc;try exact qX) | exact qF2 hc | skip
  all_goals (try (exfalso;simp at hc;done))
  refine ze hn za rfl qS ?_ ?_<;>intro hc<;>first | (replace hc:=qC2 hc;try exact qX) | exact qF2 hc | skip
  ·have hok:=hc
   refine qK hn za rfl rfl (by (first | exact con_at_impl.instr _ _ (by assumption) | assumption)) ?_
   refine zaI hn za {over {(e.gs.getD w.g.toNat zd) with state:=1} 1 with pc:=(over {(e.gs.getD w.g.toNat zd) with state:=1} 1).pc} rfl ?_ rfl rfl rfl rfl rfl rfl (Nat.le_of_ble_eq_true rfl) rfl ?_;(first | (exact qS) | decide | (simp only [List.length_replicate,List.length_set];decide))
   refine zf hn za rfl ?_ ⟨_,.tup [],mEc (zaV p e ch w v ok),[],rfl,rfl,⟨?_,rfl,trivial⟩,rfl,rfl,rfl,rfl,rfl⟩
   ·exact qS
   ·exact hwk _ (by rw [zdf hx (if_neg (by omega)),hsnd,hok];rfl)
  ·have hok:=hc
   refine ze hn za rfl qS ?_ ?_<;>intro hc<;>first | (replace hc:=qC2 hc;try exact qX) | exact qF2 hc | skip
   all_goals (try (exfalso;simp at hc;done))
   refine qK hn za rfl rfl (by (first | exact con_at_impl.instr _ _ (by assumption) | assumption)) ?_
   refine zaI hn za {tell {(e.gs.getD w.g.toNat zd) with state:=1} ⟨1,ch,w.val,false⟩ with pc:=((⟨decide ((zb p (e.gs.getD w.g.toNat zd)).op=8),0,(zb p (e.gs.getD w.g.toNat zd)).b,(zb p (e.gs.getD w.g.toNat zd)).c,(e.gs.getD w.g.toNat zd).pc+1⟩:zaj)).to} rfl ?_ rfl rfl rfl rfl rfl rfl (Nat.le_of_ble_eq_true rfl) rfl ?_;(first | (exact qS) | decide | (simp only [List.length_replicate,List.length_set];decide))
   refine zf hn za rfl ?_ ⟨_,.tup [],mEc (zaV p e ch w v ok),[],rfl,rfl,⟨?_,rfl,trivial⟩,rfl,rfl,rfl,rfl,rfl⟩
   ·exact qS
   ·exact hwk _ (by rw [zdf hx (if_neg (by omega)),hsnd,hok];rfl)))
theorem zgK (g:zW) (r:Int):Con Tryz.prog 260 [.dagg (zH g),.dat (.int .i64 r)] (.dat (.int .i64 (regOf g r))):=by
 refine zk (rs:=[(.tmp 4,3)]) za Tryz.func260 rfl rfl rfl (Nat.le_of_ble_eq_true rfl) fun ho x hn=>?_
 refine qK hn za rfl rfl (by (first | exact zN _ _ _ | assumption)) ?_
 refine ze hn za rfl qS ?_ ?_<;>intro hc<;>first | (replace hc:=qC2 hc;try exact qX) | exact qF2 hc | skip
 ·refine zf hn za rfl qS ⟨_,rfl,?_⟩
  rw [regOf,if_neg (by omega)];rfl
 ·refine zf hn za rfl qS ⟨_,rfl,?_⟩
  rw [regOf,if_pos (by omega)];rfl
theorem zvl {p:zn} {e:zz} {ch v:Int} {w:zo} {ok:Bool} (h:(zaE p (e.gs.getD w.g.toNat zd) w).send=true):zaV p e ch w v ok=zaV p e ch w 0 ok:=by
 unfold zaV zeH
 simp only
 rw [h,if_pos rfl,if_pos rfl]
theorem ziz (c2:C) {p:zn} {e:zz} (h:Inv p e (fun _=>False)) {n ch v:Int} {ok send:Bool} {w:zo} {c:zY} {g:zW} (hn:0≤n) (hs:(e.gs.getD n.toNat zd).state=1) (hw:zcO p e ch send w) (hL:zp (setG (setC e ch c) n g) 1099511627776):Ct Tryz.prog 288 [.dagg (zQ p),hEc c2,.dagg (zam ⟨false,ch,send,w⟩),.dat (.int .i64 v),.dat (.bool ok)] (mEc (setG (setC e ch c) n g)) (zag (.tup []) (mEc (zaV p (setG (setC e ch c) n g) ch w v ok))):=by
 have hne:=hw.ne hs
 have hi:=hw.i0
 have hg:(setG (setC e ch c) n g).gs.getD w.g.toNat zd=e.gs.getD w.g.toNat zd:=z4 (by omega)
 have hl:(setG (setC e ch c) n g).gs.length=e.gs.length:=List.length_set
 have ha:=h.alive hi (.inr hw.st)
 exact zjg c2 p _ ch w v ok send hL h.prog (by rw [hl];exact hi) (by rw [hg];exact ha) (by rw [hg];exact hw.st) (by rw [hg];exact h.plOk hw) (by rw [hg];have:=zaq h.prog ha;omega)
set_option maxHeartbeats 16000000 in
theorem zfb (c2:C) (p:zn) (e:zz) (n:Int) (x1:zaj) (hL:zp e 1099511627770) (h:Inv p e (fun _=>False)) (hnr:0≤n∧n<e.gs.length) (hs:(e.gs.getD n.toNat zd).state=1) (hr:zP e x1=true):Ct Tryz.prog 255 [.dagg (zQ p),hEc c2,.dat (.int .i64 n),.dagg (zkw x1)] (mEc e) (zag (.tup []) (mEc (throughE p e n x1))):=by
 rw [zP,Bool.and_eq_true,decide_eq_true_eq] at hr
 obtain ⟨hk,hr⟩:=hr
 have ha:=h.alive hnr (.inl hs)
 have hgl:=hL.gor hnr
 have hcl:=hL.chan hk
 have hco:=h.chanOk hk
 have hv:=ha.regOf x1.reg
 have hcl2:zdR (e.chans.getD x1.chan.toNat zg) 2199023255551:=⟨Nat.le_trans hcl.1 (by omega),Nat.le_trans hcl.2.1 (by omega),Nat.le_trans hcl.2.2 (by omega)⟩
 have hrg:=zgK (e.gs.getD n.toNat zd) x1.reg
 by_cases hsd:x1.send=true
 ·rw [if_pos hsd] at hr
  have hth:throughE p e n x1=sendE p e n x1.chan x1.reg x1.to:=by unfold throughE;rw [if_pos hsd]
  rw [hth]
  have hov:=zbO (e.gs.getD n.toNat zd) 1 (by omega) (by omega)
  have hst:=zk9 (e.chans.getD x1.chan.toNat zg) (regOf (e.gs.getD n.toNat zd) x1.reg) hcl2
  have htl:=zgb (e.gs.getD n.toNat zd) x1.chan (regOf (e.gs.getD n.toNat zd) x1.reg) (by omega) (by omega)
  have htn:=zcH (e.gs.getD n.toNat zd) ⟨1,x1.chan,regOf (e.gs.getD n.toNat zd) x1.reg,false⟩
  rcases hl:zcn (e.chans.getD x1.chan.toNat zg) (regOf (e.gs.getD n.toNat zd) x1.reg) with ⟨c',w,k⟩
  rw [hl] at hst
  have hlc:=ziK hcl hl
  refine zD (rs:=[]) za Tryz.func255 rfl rfl rfl (Nat.le_of_ble_eq_true rfl) rfl fun ho hm x hn hlent=>?_
  refine ze hn za rfl qS ?_ ?_<;>intro hc<;>first | (replace hc:=qC2 hc;try exact qX) | exact qF2 hc | skip
  all_goals (try (exfalso;rw [hsd] at hc;cases hc;done))
  refine ze hn za rfl qS ?_ ?_<;>intro hc<;>first | (replace hc:=qC2 hc;try exact qX) | exact qF2 hc | skip
  ·have hE1:sendE p e n x1.chan x1.reg x1.to=setG e n (over (e.gs.getD n.toNat zd) 1):=by unfold sendE;simp only;rw [if_pos hc]
   rw [hE1]
   refine qD hn za zu [.r (.dagg (zH (over (e.gs.getD n.toNat zd) 1))),.raw .no [(1000,some (.row 172 5 zd zH (e.gs.set n.toNat (over (e.gs.getD n.toNat zd) 1))))] none] rfl rfl ?_ ?_
   ·(try refine qM ?_);repeat' (first | exact trivial | assumption | assumption | omega | exact qV | refine And.intro ?_ ?_)
    exact zab _ hn za rfl ⟨_,_,rfl,rfl,rfl⟩ rfl rfl rfl rfl rfl (Nat.le_of_ble_eq_true rfl) rfl rfl
   refine zf hn za rfl ?_ ⟨_,.tup [],mEc (setG e n (over (e.gs.getD n.toNat zd) 1)),[],rfl,rfl,⟨rfl,rfl,trivial⟩,rfl,rfl,rfl,rfl,rfl⟩
   exact qS
  ·have hclo:=hc
   have hE1:sendE p e n x1.chan x1.reg x1.to=wakeIf p (setG (setC e x1.chan c') n {tell (e.gs.getD n.toNat zd) ⟨1,x1.chan,regOf (e.gs.getD n.toNat zd) x1.reg,false⟩ with pc:=x1.to}) x1.chan w (regOf (e.gs.getD n.toNat zd) x1.reg):=by unfold sendE;simp only;rw [if_neg (by rw [hclo];decide),hl]
   have hLn:zp (setG (setC e x1.chan c') n {tell (e.gs.getD n.toNat zd) ⟨1,x1.chan,regOf (e.gs.getD n.toNat zd) x1.reg,false⟩ with pc:=x1.to}) 1099511627776:=
    ((hL.le (by omega)).setC ⟨Nat.le_trans hlc.1 (by omega),Nat.le_trans hlc.2.1 (by omega),Nat.le_trans hlc.2.2 (by omega)⟩).setG ⟨by show (tell (e.gs.getD n.toNat zd) ⟨1,x1.chan,regOf (e.gs.getD n.toNat zd) x1.reg,false⟩).regs.length≤_;omega,by show (tell (e.gs.getD n.toNat zd) ⟨1,x1.chan,regOf (e.gs.getD n.toNat zd) x1.reg,false⟩).trace.length≤_;omega⟩
   rw [hE1]
   refine qK hn za rfl rfl (by assumption) ?_
   refine ze hn za rfl qS ?_ ?_<;>intro hc<;>first | (replace hc:=qC2 hc;try exact qX) | exact qF2 hc | skip
   all_goals (try (exfalso;rw [hsd] at hc;cases hc;done))
   refine qD hn za zu [.r (.tup [.dagg (zae c'),.dagg (z5 w),.dat (.int .i64 k)]),.raw .no [(1001,some (.row 191 5 zg zae (e.chans.set x1.chan.toNat c')))] none] rfl rfl ?_ ?_
   ·(try refine qM ?_);repeat' (first | exact trivial | assumption | assumption | omega | exact qV | refine And.intro ?_ ?_)
    exact zab _ hn za rfl ⟨_,_,rfl,rfl,rfl⟩ rfl rfl rfl rfl rfl (Nat.le_of_ble_eq_true rfl) rfl rfl
   refine qK hn za rfl rfl (by assumption) ?_
   refine zaI hn za {tell (e.gs.getD n.toNat zd) ⟨1,x1.chan,regOf (e.gs.getD n.toNat zd) x1.reg,false⟩ with pc:=x1.to} rfl ?_ rfl rfl rfl rfl rfl rfl (Nat.le_of_ble_eq_true rfl) rfl ?_;(first | (exact qS) | decide | (simp only [List.length_replicate,List.length_set];decide))
   refine ze hn za rfl qS ?_ ?_<;>intro hc<;>first | (replace hc:=qC2 hc;try exact qX) | exact qF2 hc | skip
   ·have hw0:=zql h hk.1 hclo hco hr hv hl hc
    rw [wakeIf,if_pos hc]
    have hcw:=ziz c2 (v:=regOf (e.gs.getD n.toNat zd) x1.reg) (ok:=true) h hnr.1 hs hw0 hLn
    rw [show (⟨false,x1.chan,false,w⟩:zr)=⟨false,x1.chan,!x1.send,w⟩ by rw [hsd];rfl] at hcw
    refine zbB hn za [false,true,false,false,false] hcw rfl ?_ rfl rfl (by repeat' (first | exact trivial | refine And.intro rfl ?_)) rfl (fun i hi=>(by cases hi)) (.inl rfl) (fun i hi=>zaL rfl hi) ?_;exact qS;rintro r Mo ⟨rfl,rfl⟩;refine ⟨rfl,fun id hi=>.inl (zaX rfl rfl hi),fun id hi=>zbS rfl rfl hi,?_⟩
    refine zf hn za rfl ?_ ⟨_,.tup [],mEc (zaV p (setG (setC e x1.chan c') n {tell (e.gs.getD n.toNat zd) ⟨1,x1.chan,regOf (e.gs.getD n.toNat zd) x1.reg,false⟩ with pc:=x1.to}) x1.chan w (regOf (e.gs.getD n.toNat zd) x1.reg) true),[],rfl,rfl,⟨rfl,rfl,trivial⟩,rfl,rfl,rfl,rfl,rfl⟩
    exact qS
   ·rw [wakeIf,if_neg (by omega)]
    refine zf hn za rfl ?_ ⟨_,.tup [],mEc (setG (setC e x1.chan c') n {tell (e.gs.getD n.toNat zd) ⟨1,x1.chan,regOf (e.gs.getD n.toNat zd) x1.reg,false⟩ with pc:=x1.to}),[],rfl,rfl,⟨rfl,rfl,trivial⟩,rfl,rfl,rfl,rfl,rfl⟩
    exact qS
 ·rw [if_neg hsd] at hr
  have hth:throughE p e n x1=recvE p e n x1.chan x1:=by unfold throughE;rw [if_neg hsd]
  have hsd0:x1.send=false:=by simpa only [Bool.not_eq_true] using hsd
  rw [hth]
  have hrv:=zi0 (e.chans.getD x1.chan.toNat zg) hcl2
  rcases hl:za7 (e.chans.getD x1.chan.toNat zg) with ⟨c',v,ok,w,k⟩
  rw [hl] at hrv
  have hlc:=zg9 hcl hl
  have hgo:=zhc (e.gs.getD n.toNat zd) x1.chan v ok x1.reg x1.ok (by omega) (by omega)
  have hgn:=zlq (e.gs.getD n.toNat zd) x1.chan v ok x1.reg x1.ok
  have hE1:recvE p e n x1.chan x1=wakeIf p (setG (setC e x1.chan c') n {zcj (e.gs.getD n.toNat zd) x1.chan v ok x1.reg x1.ok with pc:=x1.to}) x1.chan w 0:=by unfold recvE;rw [hl]
  have hLn:zp (setG (setC e x1.chan c') n {zcj (e.gs.getD n.toNat zd) x1.chan v ok x1.reg x1.ok with pc:=x1.to}) 1099511627776:=
   ((hL.le (by omega)).setC ⟨Nat.le_trans hlc.1 (by omega),Nat.le_trans hlc.2.1 (by omega),Nat.le_trans hlc.2.2 (by omega)⟩).setG ⟨by show (zcj (e.gs.getD n.toNat zd) x1.chan v ok x1.reg x1.ok).regs.length≤_;omega,by show (zcj (e.gs.getD n.toNat zd) x1.chan v ok x1.reg x1.ok).trace.length≤_;omega⟩
  rw [hE1]
  refine zD (rs:=[]) za Tryz.func255 rfl rfl rfl (Nat.le_of_ble_eq_true rfl) rfl fun ho hm x hn hlent=>?_
  refine ze hn za rfl qS ?_ ?_<;>intro hc<;>first | (replace hc:=qC2 hc;try exact qX) | exact qF2 hc | skip
  all_goals (try (exfalso;rw [hsd0] at hc;cases hc;done))
  refine qK hn za rfl rfl (by assumption) ?_
  refine ze hn za rfl qS ?_ ?_<;>intro hc<;>first | (replace hc:=qC2 hc;try exact qX) | exact qF2 hc | skip
  all_goals (try (exfalso;rw [hsd0] at hc;cases hc;done))
  refine qD hn za zu [.r (.tup [.dagg (zae c'),.dat (.int .i64 v),.dat (.bool ok),.dagg (z5 w),.dat (.int .i64 k)]),.raw .no [(1001,some (.row 191 5 zg zae (e.chans.set x1.chan.toNat c')))] none] rfl rfl ?_ ?_
  ·(try refine qM ?_);repeat' (first | exact trivial | assumption | assumption | omega | exact qV | refine And.intro ?_ ?_)
   exact zab _ hn za rfl ⟨_,_,rfl,rfl,rfl⟩ rfl rfl rfl rfl rfl (Nat.le_of_ble_eq_true rfl) rfl rfl
  refine qK hn za rfl rfl (by assumption) ?_
  refine zaI hn za {zcj (e.gs.getD n.toNat zd) x1.chan v ok x1.reg x1.ok with pc:=x1.to} rfl ?_ rfl rfl rfl rfl rfl rfl (Nat.le_of_ble_eq_true rfl) rfl ?_;(first | (exact qS) | decide | (simp only [List.length_replicate,List.length_set];decide))
  refine ze hn za rfl qS ?_ ?_<;>intro hc<;>first | (replace hc:=qC2 hc;try exact qX) | exact qF2 hc | skip
  ·have hw0:=zqG h hk.1 hco hr hl hc
   have hne:=hw0.ne hs
   have hwv:zaV p (setG (setC e x1.chan c') n {zcj (e.gs.getD n.toNat zd) x1.chan v ok x1.reg x1.ok with pc:=x1.to}) x1.chan w v true=zaV p (setG (setC e x1.chan c') n {zcj (e.gs.getD n.toNat zd) x1.chan v ok x1.reg x1.ok with pc:=x1.to}) x1.chan w 0 true:=zvl (by
    rw [show (setG (setC e x1.chan c') n {zcj (e.gs.getD n.toNat zd) x1.chan v ok x1.reg x1.ok with pc:=x1.to}).gs.getD w.g.toNat zd=e.gs.getD w.g.toNat zd from z4 (by have:=hw0.i0;omega)]
    exact (h.plOk hw0).snd)
   rw [wakeIf,if_pos hc,← hwv]
   have hcw:=ziz c2 (v:=v) (ok:=true) h hnr.1 hs hw0 hLn
   rw [show (⟨false,x1.chan,true,w⟩:zr)=⟨false,x1.chan,!x1.send,w⟩ by rw [hsd0];rfl] at hcw
   refine zbB hn za [false,true,false,false,false] hcw rfl ?_ rfl rfl (by repeat' (first | exact trivial | refine And.intro rfl ?_)) rfl (fun i hi=>(by cases hi)) (.inl rfl) (fun i hi=>zaL rfl hi) ?_;exact qS;rintro r Mo ⟨rfl,rfl⟩;refine ⟨rfl,fun id hi=>.inl (zaX rfl rfl hi),fun id hi=>zbS rfl rfl hi,?_⟩
   refine zf hn za rfl ?_ ⟨_,.tup [],mEc (zaV p (setG (setC e x1.chan c') n {zcj (e.gs.getD n.toNat zd) x1.chan v ok x1.reg x1.ok with pc:=x1.to}) x1.chan w v true),[],rfl,rfl,⟨rfl,rfl,trivial⟩,rfl,rfl,rfl,rfl,rfl⟩
   exact qS
  ·rw [wakeIf,if_neg (by omega)]
   refine zf hn za rfl ?_ ⟨_,.tup [],mEc (setG (setC e x1.chan c') n {zcj (e.gs.getD n.toNat zd) x1.chan v ok x1.reg x1.ok with pc:=x1.to}),[],rfl,rfl,⟨rfl,rfl,trivial⟩,rfl,rfl,rfl,rfl,rfl⟩
   exact qS
theorem zgR {p:zn} {e:zz} {ch:Int} {l:List zo} (h0:zdm p ch l e 0):∀ i≤l.length,zdm p ch l e i∧∀ w∈l.drop i,(zaS p ch l e i).gs.getD w.g.toNat zd=e.gs.getD w.g.toNat zd
 | 0,_=>⟨h0,fun w _=>rfl⟩
 | i+1,hi=>by
  obtain ⟨h1,h2⟩:=zgR h0 i (by omega)
  have hlt:i<l.length:=by omega
  refine ⟨h1.next hlt,fun w hw=>?_⟩
  have hd:l.drop i=l.getD i zi::l.drop (i+1):=by
   rw [List.drop_eq_getElem_cons hlt,List.getD_eq_getElem?_getD,List.getElem?_eq_getElem hlt];rfl
  have hpw:=h1.pw
  have hwt:=h1.wt
  rw [hd] at h2 hpw hwt
  rw [List.pairwise_cons] at hpw
  obtain ⟨s,hs⟩:=hwt _ List.mem_cons_self
  obtain ⟨s1,hs1⟩:=hwt w (List.mem_cons_of_mem _ hw)
  have hne:=hpw.1 w hw
  have:=hs.i0
  have:=hs1.i0
  rw [zdb hlt,zrA _ _ _ _ (by omega)]
  exact h2 w (List.mem_cons_of_mem _ hw)
theorem zdm.ctI (c2:C) {p:zn} {e:zz} {ch:Int} {l:List zo} {i:Nat} {w:zo} {send:Bool} (h0:zdm p ch l e 0) (hi:i<l.length) (hw:l.getD i zi=w) (hL:zp (zaS p ch l e i) 1099511627776) (hsd:(zaE p (e.gs.getD w.g.toNat zd) w).send=send):Ct Tryz.prog 288 [.dagg (zQ p),hEc c2,.dagg (zam ⟨false,ch,send,w⟩),.dat (.int .i64 0),.dat (.bool false)] (mEc (zaS p ch l e i)) (zag (.tup []) (mEc (zaV p (zaS p ch l e i) ch w 0 false))):=by
 subst hw
 obtain ⟨h,hg⟩:=zgR h0 i (by omega)
 have hm:l.getD i zi∈l.drop i:=by
  rw [List.drop_eq_getElem_cons hi,List.getD_eq_getElem?_getD,List.getElem?_eq_getElem hi];exact List.mem_cons_self
 obtain ⟨s,hs⟩:=h.wt _ hm
 have ha:=h.inv.alive hs.i0 (.inr hs.st)
 have hpl:=h.inv.plOk hs
 have hse:s=send:=by rw [← hsd,← hg _ hm];exact hpl.snd.symm
 subst hse
 exact zjg c2 p _ ch _ 0 false s hL h.inv.prog hs.i0 ha hs.st hpl (by have:=zaq h.inv.prog ha;omega)
set_option maxHeartbeats 16000000 in
theorem zo2 (c2:C) (p:zn) (e:zz) (n ch:Int) (hL:zp e 1099511620000) (hok:zay p e=true) (hnr:0≤n∧n<e.gs.length) (hs:(e.gs.getD n.toNat zd).state=1) (hk:ch<e.chans.length) (hto:(e.gs.getD n.toNat zd).pc+1<zZ p (e.gs.getD n.toNat zd).proc):Ct Tryz.prog 257 [.dagg (zQ p),hEc c2,.dat (.int .i64 n),.dat (.int .i64 ch)] (mEc e) (zag (.tup []) (mEc (closeE p e n ch))):=by
 have h:=zaM.1 hok
 have ha:=h.alive hnr (.inl hs)
 have hgl:=hL.gor hnr
 have hpc:=zaq h.prog ha
 have h40:=zqO hok ch.toNat
 have hov2:=zbO (e.gs.getD n.toNat zd) 2 (by omega) (by omega)
 have hov1:=zbO (e.gs.getD n.toNat zd) 1 (by omega) (by omega)
 have hover:∀ y,closeE p e n ch=setG e n (over (e.gs.getD n.toNat zd) y)→some (Blk.row 172 5 zd zH (e.gs.set n.toNat (over (e.gs.getD n.toNat zd) y)))=some (Blk.row 172 5 zd zH (closeE p e n ch).gs)∧some (Blk.row 191 5 zg zae e.chans)=some (Blk.row 191 5 zg zae (closeE p e n ch).chans):=fun y hy=>by rw [hy];exact ⟨rfl,rfl⟩
 refine zD (rs:=[]) za Tryz.func257 rfl rfl rfl (Nat.le_of_ble_eq_true rfl) rfl fun ho hm x hn hlent=>?_
 refine ze hn za rfl qS ?_ ?_<;>intro hc<;>first | (replace hc:=qC2 hc;try exact qX) | exact qF2 hc | skip
 ·obtain ⟨q1,q2⟩:=hover 2 (by unfold closeE;simp only;rw [if_pos hc])
  refine qD hn za zu [.r (.dagg (zH (over (e.gs.getD n.toNat zd) 2))),.raw .no [(1000,some (.row 172 5 zd zH (e.gs.set n.toNat (over (e.gs.getD n.toNat zd) 2))))] none] rfl rfl ?_ ?_
  ·(try refine qM ?_);repeat' (first | exact trivial | assumption | assumption | omega | exact qV | refine And.intro ?_ ?_)
   exact zab _ hn za rfl ⟨_,_,rfl,rfl,rfl⟩ rfl rfl rfl rfl rfl (Nat.le_of_ble_eq_true rfl) rfl rfl
  refine zf hn za rfl ?_ ⟨_,.tup [],mEc (closeE p e n ch),[],rfl,rfl,⟨q1,q2,trivial⟩,rfl,rfl,rfl,rfl,rfl⟩
  exact qS
 have h0:¬ ch<0:=by omega
 have hk0:0≤ch∧ch<e.chans.length:=by omega
 have hcl:=hL.chan hk0
 have hco:=h.chanOk hk0
 have hcc:=zkl (e.chans.getD ch.toNat zg) ⟨Nat.le_trans hcl.1 (by omega),Nat.le_trans hcl.2.1 (by omega),Nat.le_trans hcl.2.2 (by omega)⟩
 by_cases hclo:(e.chans.getD ch.toNat zg).closed=true
 ·rw [zeF hco hclo] at hcc
  obtain ⟨q1,q2⟩:=hover 1 (by unfold closeE;simp only;rw [if_neg h0,zeF hco hclo];rfl)
  refine zbs hn za rfl ?_ rfl [] ⟨_,zpf (zg,[],[],2),rfl,hcc,rfl,.inr (fun id hi=>zdl hi),?_⟩
  ·exact qS
  refine ze hn za rfl qS ?_ ?_<;>intro hc<;>first | (replace hc:=qC2 hc;try exact qX) | exact qF2 hc | skip
  all_goals (try (exfalso;simp at hc;done))
  refine qD hn za zu [.r (.dagg (zH (over (e.gs.getD n.toNat zd) 1))),.raw .no [(1000,some (.row 172 5 zd zH (e.gs.set n.toNat (over (e.gs.getD n.toNat zd) 1))))] none] rfl rfl ?_ ?_
  ·(try refine qM ?_);repeat' (first | exact trivial | assumption | assumption | omega | exact qV | refine And.intro ?_ ?_)
   exact zab _ hn za rfl ⟨_,_,rfl,rfl,rfl⟩ rfl rfl rfl rfl rfl (Nat.le_of_ble_eq_true rfl) rfl rfl
  refine zf hn za rfl ?_ ⟨_,.tup [],mEc (closeE p e n ch),[],rfl,rfl,⟨q1,q2,trivial⟩,rfl,rfl,rfl,rfl,rfl⟩
  exact qS
 have hclo:(e.chans.getD ch.toNat zg).closed=false:=by simpa only [Bool.not_eq_true] using hclo
 rw [zfr hco hclo] at hcc
 obtain ⟨j1,j2,j3⟩:=h.close0 hnr hs hk0 hto
 have hJ0:zdm p ch ((e.chans.getD ch.toNat zg).recvs++(e.chans.getD ch.toNat zg).sends) (zcy e n ch) 0:=⟨j1,j2,j3⟩
 have hLa:∀ i≤((e.chans.getD ch.toNat zg).recvs++(e.chans.getD ch.toNat zg).sends).length,zp (zaS p ch ((e.chans.getD ch.toNat zg).recvs++(e.chans.getD ch.toNat zg).sends) (zcy e n ch) i) (1099511620001+2*i):=fun i=>by
  induction i with
  | zero=>intro _;exact zmF hL hnr hk0
  | succ i ih=>intro hi;exact ((zgR hJ0 i (by omega)).1).lens (by omega) (ih (by omega))
 have hll:((e.chans.getD ch.toNat zg).recvs++(e.chans.getD ch.toNat zg).sends).length=(e.chans.getD ch.toNat zg).recvs.length+(e.chans.getD ch.toNat zg).sends.length:=List.length_append
 have hE1:closeE p e n ch=(zaS p ch ((e.chans.getD ch.toNat zg).recvs++(e.chans.getD ch.toNat zg).sends) (zcy e n ch) ((e.chans.getD ch.toNat zg).recvs++(e.chans.getD ch.toNat zg).sends).length):=by
  unfold closeE;simp only;rw [if_neg h0,zfr hco hclo]
  unfold zaS
  rw [List.take_length];rfl
 have hsame:∀ w:zo,w.g≠n→0≤w.g→(zcy e n ch).gs.getD w.g.toNat zd=e.gs.getD w.g.toNat zd:=fun w hne h0=>z4 (by omega)
 have hcR:∀ w∈(e.chans.getD ch.toNat zg).recvs,(zaE p ((zcy e n ch).gs.getD w.g.toNat zd) w).send=false:=fun w hw=>by
  have hww:=h.recvW hk0.1 hw id
  rw [hsame w (hww.ne hs) hww.i0.1];exact (h.plOk hww).snd
 have hcS:∀ w∈(e.chans.getD ch.toNat zg).sends,(zaE p ((zcy e n ch).gs.getD w.g.toNat zd) w).send=true:=fun w hw=>by
  have hww:=h.sendW hk0.1 hw id
  rw [hsame w (hww.ne hs) hww.i0.1];exact (h.plOk hww).snd
 refine zbs hn za rfl ?_ rfl [] ⟨_,zpf ({e.chans.getD ch.toNat zg with recvs:=[],sends:=[],closed:=true},(e.chans.getD ch.toNat zg).recvs,(e.chans.getD ch.toNat zg).sends,0),rfl,hcc,rfl,.inr (fun id hi=>zdl hi),?_⟩
 ·exact qS
 refine ze hn za rfl qS ?_ ?_<;>intro hc<;>first | (replace hc:=qC2 hc;try exact qX) | exact qF2 hc | skip
 all_goals (try (exfalso;simp at hc;done))
 refine zaI hn za {e.chans.getD ch.toNat zg with recvs:=[],sends:=[],closed:=true} rfl ?_ rfl rfl rfl rfl rfl rfl (Nat.le_of_ble_eq_true rfl) rfl ?_;(first | (exact qS) | decide | (simp only [List.length_replicate,List.length_set];decide))
 refine zbB hn za [true,false,false] (zm0 c2 (setC e ch {e.chans.getD ch.toNat zg with recvs:=[],sends:=[],closed:=true}) n ⟨3,ch,0,false⟩ hnr (by show (e.gs.getD n.toNat zd).regs.length≤_;omega) (by show (e.gs.getD n.toNat zd).trace.length≤_;omega) (by show 0≤(e.gs.getD n.toNat zd).pc∧(e.gs.getD n.toNat zd).pc≤_;omega)) rfl ?_ rfl rfl (by repeat' (first | exact trivial | refine And.intro rfl ?_)) rfl (fun i hi=>(by cases hi)) (.inl rfl) (fun i hi=>zaL rfl hi) ?_;exact qS;rintro r Mo ⟨rfl,rfl⟩;refine ⟨rfl,fun id hi=>.inl (zaX rfl rfl hi),fun id hi=>zbS rfl rfl hi,?_⟩
 refine zM hn za rfl ?_ (fun (i:Nat) wT wM=>((63,.dat (.int .i64 i))::wT,mEc (zaS p ch ((e.chans.getD ch.toNat zg).recvs++(e.chans.getD ch.toNat zg).sends) (zcy e n ch) i)++wM)) (fun i=>i≤(e.chans.getD ch.toNat zg).recvs.length) (fun i=>(e.chans.getD ch.toNat zg).recvs.length-i) 0 (Nat.zero_le _) (zt [] ?_ ?_ rfl) ?_
 ·exact qS
 ·exact qL
 ·exact qL
 rintro i hi
 refine ze hn za rfl qS ?_ ?_<;>intro hc<;>first | (replace hc:=qC2 hc;try exact qX) | exact qF2 hc | skip
 ·have hlt:i<(e.chans.getD ch.toNat zg).recvs.length:=by omega
  have hget:((e.chans.getD ch.toNat zg).recvs++(e.chans.getD ch.toNat zg).sends).getD i zi=(e.chans.getD ch.toNat zg).recvs.getD i zi:=by
   rw [List.getD_eq_getElem?_getD,List.getElem?_append_left hlt,← List.getD_eq_getElem?_getD]
  have hct:=zdm.ctI c2 hJ0 (by omega) hget ((hLa i (by omega)).le (by omega)) (hcR _ (za6 hlt))
  have hnx:=zdb (p:=p) (e:=zcy e n ch) (ch:=ch) (l:=((e.chans.getD ch.toNat zg).recvs++(e.chans.getD ch.toNat zg).sends)) (i:=i) (by omega)
  rw [hget] at hnx
  refine zbB hn za [false,true,false,false,false] hct rfl ?_ rfl rfl (by repeat' (first | exact trivial | refine And.intro rfl ?_)) rfl (fun i hi=>(by cases hi)) (.inl rfl) (fun i hi=>zaL rfl hi) ?_;exact qS;rintro r Mo ⟨rfl,rfl⟩;refine ⟨rfl,fun id hi=>.inl (zaX rfl rfl hi),fun id hi=>zbS rfl rfl hi,?_⟩
  refine zx hn za rfl ?_ ⟨i+1,hlt,by show _-(i+1)<_-i;omega,?_⟩
  ·exact qS
  ·refine zt [] ?_ ?_ rfl
   ·exact qL
   ·rw [hnx]
    exact qL
 have hie:i=(e.chans.getD ch.toNat zg).recvs.length:=by omega
 subst hie
 clear hc hi
 refine zM hn za rfl ?_ (fun (j:Nat) wT wM=>((76,.dat (.int .i64 j))::wT,mEc (zaS p ch ((e.chans.getD ch.toNat zg).recvs++(e.chans.getD ch.toNat zg).sends) (zcy e n ch) ((e.chans.getD ch.toNat zg).recvs.length+j))++wM)) (fun j=>j≤(e.chans.getD ch.toNat zg).sends.length) (fun j=>(e.chans.getD ch.toNat zg).sends.length-j) 0 (Nat.zero_le _) (zt [] ?_ ?_ rfl) ?_
 ·exact qS
 ·exact qL
 ·exact qL
 rintro j hj
 refine ze hn za rfl qS ?_ ?_<;>intro hc<;>first | (replace hc:=qC2 hc;try exact qX) | exact qF2 hc | skip
 ·have hlt:j<(e.chans.getD ch.toNat zg).sends.length:=by omega
  have hget:((e.chans.getD ch.toNat zg).recvs++(e.chans.getD ch.toNat zg).sends).getD ((e.chans.getD ch.toNat zg).recvs.length+j) zi=(e.chans.getD ch.toNat zg).sends.getD j zi:=by
   rw [List.getD_eq_getElem?_getD,List.getElem?_append_right (by omega),Nat.add_sub_cancel_left,← List.getD_eq_getElem?_getD]
  have hct:=zdm.ctI c2 hJ0 (by omega) hget ((hLa _ (by omega)).le (by omega)) (hcS _ (za6 hlt))
  have hnx:=zdb (p:=p) (e:=zcy e n ch) (ch:=ch) (l:=((e.chans.getD ch.toNat zg).recvs++(e.chans.getD ch.toNat zg).sends)) (i:=(e.chans.getD ch.toNat zg).recvs.length+j) (by omega)
  rw [hget] at hnx
  refine zbB hn za [false,true,false,false,false] hct rfl ?_ rfl rfl (by repeat' (first | exact trivial | refine And.intro rfl ?_)) rfl (fun i hi=>(by cases hi)) (.inl rfl) (fun i hi=>zaL rfl hi) ?_;exact qS;rintro r Mo ⟨rfl,rfl⟩;refine ⟨rfl,fun id hi=>.inl (zaX rfl rfl hi),fun id hi=>zbS rfl rfl hi,?_⟩
  refine zx hn za rfl ?_ ⟨j+1,hlt,by show _-(j+1)<_-j;omega,?_⟩
  ·exact qS
  ·refine zt [] ?_ ?_ rfl
   ·exact qL
   ·rw [← Nat.add_assoc,hnx]
    exact qL
 have hje:j=(e.chans.getD ch.toNat zg).sends.length:=by omega
 subst hje
 rw [hE1,hll]
 refine zf hn za rfl ?_ ⟨_,.tup [],mEc (zaS p ch ((e.chans.getD ch.toNat zg).recvs++(e.chans.getD ch.toNat zg).sends) (zcy e n ch) ((e.chans.getD ch.toNat zg).recvs.length+(e.chans.getD ch.toNat zg).sends.length)),[],rfl,rfl,⟨rfl,rfl,trivial⟩,rfl,rfl,rfl,rfl,rfl⟩
 exact qS
theorem zpZ {p:zn} {e:zz} (h:Inv p e (fun _=>False)) {n mu next:Int} {m':zal} {ok:Bool} (hs:(e.gs.getD n.toNat zd).state=1) (hk:0≤mu∧mu<e.mus.length) (hl:zbF (e.mus.getD mu.toNat zj) n=(m',next,ok)) (hok:ok=true) (h0:0≤next):next≠n∧(0≤next∧next<e.gs.length)∧(e.gs.getD next.toNat zd).state=2:=by
 unfold zbF at hl
 split at hl
 ·rename_i hcc
  split at hl
  ·rename_i hwl
   have hnx:next=(e.mus.getD mu.toNat zj).wait.getD 0 0:=by cases hl;rfl
   have hmem:=za6 (d:=(0:Int)) hwl
   rw [← hnx] at hmem
   have hat:0<atA e ⟨true,mu,false,⟨next,-1,0⟩⟩:=by
    unfold atA
    rw [if_neg (by show ¬ mu<0;omega),if_pos rfl,if_pos ⟨rfl,rfl,rfl⟩]
    exact zhY.2 hmem
   rw [h.cnt _ id] at hat
   obtain ⟨ha0,hast,_⟩:=zhy hat
   refine ⟨fun hh=>?_,ha0,hast⟩
   have hast:(e.gs.getD next.toNat zd).state=2:=hast
   rw [hh] at hast;omega
  ·have:next=-1:=by cases hl;rfl
   omega
 ·cases hl;cases hok
set_option maxHeartbeats 16000000 in
theorem zlP (c1:C) (p:zn) (e:zz) (n:Int) (i:zaD) (hL:zp e 1099511620000) (h:Inv p e (fun _=>False)) (hnr:0≤n∧n<e.gs.length) (hs:(e.gs.getD n.toNat zd).state=1) (hk:0≤i.a∧i.a<e.mus.length) (hop:i.op=13):Ct Tryz.prog 258 [.dagg (zQ p),hEm c1,.dat (.int .i64 n),.dagg (zc7 i)] (mEm e) (zag (.tup []) (mEm (unlockE e n i.a))):=by
 have ha:=h.alive hnr (.inl hs)
 have hgl:=hL.gor hnr
 have hml:=hL.mut hk
 have hpc:=zaq h.prog ha
 have hlk:=zlg (e.mus.getD i.a.toNat zj) n (by omega)
 have hov:=zbO (e.gs.getD n.toNat zd) 3 (by omega) (by omega)
 rcases hl:zbF (e.mus.getD i.a.toNat zj) n with ⟨m',next,ok⟩
 rw [hl] at hlk
 refine zD (rs:=[]) za Tryz.func258 rfl rfl rfl (Nat.le_of_ble_eq_true rfl) rfl fun ho hm x hn hlent=>?_
 refine ze hn za rfl qS ?_ ?_<;>intro hc<;>first | (replace hc:=qC2 hc;try exact qX) | exact qF2 hc | skip
 refine zbs hn za rfl ?_ rfl [] ⟨_,.tup [.dagg (zO m'),.dat (.int .i64 next),.dat (.bool ok)],rfl,hlk,rfl,.inr (fun id hi=>zdl hi),?_⟩
 ·exact qS
 refine ze hn za rfl qS ?_ ?_<;>intro hc<;>first | (replace hc:=qC2 hc;try exact qX) | exact qF2 hc | skip
 ·have hE1:unlockE e n i.a=setG e n (over (e.gs.getD n.toNat zd) 3):=by unfold unlockE;rw [hl];dsimp only;rw [if_pos hc]
  rw [hE1]
  refine qD hn za zu [.r (.dagg (zH (over (e.gs.getD n.toNat zd) 3))),.raw .no [(1000,some (.row 172 5 zd zH (e.gs.set n.toNat (over (e.gs.getD n.toNat zd) 3))))] none] rfl rfl ?_ ?_
  ·(try refine qM ?_);repeat' (first | exact trivial | assumption | assumption | omega | exact qV | refine And.intro ?_ ?_)
   exact zab _ hn za rfl ⟨_,_,rfl,rfl,rfl⟩ rfl rfl rfl rfl rfl (Nat.le_of_ble_eq_true rfl) rfl rfl
  refine zf hn za rfl ?_ ⟨_,.tup [],mEm (setG e n (over (e.gs.getD n.toNat zd) 3)),[],rfl,rfl,⟨rfl,rfl,trivial⟩,rfl,rfl,rfl,rfl,rfl⟩
  exact qS
 have hok:=hc
 have hnx:=zpZ h hs hk hl hok
 have hE1:unlockE e n i.a=if next<0 then zbk (setMu e i.a m') n ⟨6,i.a,0,false⟩ else zbk (zbk (setMu e i.a m') n ⟨6,i.a,0,false⟩) next ⟨5,i.a,0,false⟩:=by unfold unlockE;rw [hl];dsimp only;rw [if_neg (by rw [hok];decide)]
 rw [hE1]
 refine zaI hn za m' rfl ?_ rfl rfl rfl rfl rfl rfl (Nat.le_of_ble_eq_true rfl) rfl ?_;(first | (exact qS) | decide | (simp only [List.length_replicate,List.length_set];decide))
 refine zbB hn za [true,false,false] (zgf c1 (setMu e i.a m') n ⟨6,i.a,0,false⟩ hnr (by show (e.gs.getD n.toNat zd).regs.length≤_;omega) (by show (e.gs.getD n.toNat zd).trace.length≤_;omega) (by show 0≤(e.gs.getD n.toNat zd).pc∧(e.gs.getD n.toNat zd).pc≤_;omega)) rfl ?_ rfl rfl (by repeat' (first | exact trivial | refine And.intro rfl ?_)) rfl (fun i hi=>(by cases hi)) (.inl rfl) (fun i hi=>zaL rfl hi) ?_;exact qS;rintro r Mo ⟨rfl,rfl⟩;refine ⟨rfl,fun id hi=>.inl (zaX rfl rfl hi),fun id hi=>zbS rfl rfl hi,?_⟩
 refine ze hn za rfl qS ?_ ?_<;>intro hc<;>first | (replace hc:=qC2 hc;try exact qX) | exact qF2 hc | skip
 ·obtain ⟨hne,hnr1,hst1⟩:=hnx hc
  rw [if_neg (by omega)]
  have hget:(zbk (setMu e i.a m') n ⟨6,i.a,0,false⟩).gs.getD next.toNat zd=e.gs.getD next.toNat zd:=z4 (by omega)
  have hlen:(zbk (setMu e i.a m') n ⟨6,i.a,0,false⟩).gs.length=e.gs.length:=List.length_set
  have hgl2:=hL.gor hnr1
  have hpc2:=zaq h.prog (h.alive hnr1 (.inr hst1))
  refine zbB hn za [true,false,false] (zgf c1 (zbk (setMu e i.a m') n ⟨6,i.a,0,false⟩) next ⟨5,i.a,0,false⟩ (by rw [hlen];exact hnr1) (by rw [hget];omega) (by rw [hget];omega) (by rw [hget];omega)) rfl ?_ rfl rfl (by repeat' (first | exact trivial | refine And.intro rfl ?_)) rfl (fun i hi=>(by cases hi)) (.inl rfl) (fun i hi=>zaL rfl hi) ?_;exact qS;rintro r Mo ⟨rfl,rfl⟩;refine ⟨rfl,fun id hi=>.inl (zaX rfl rfl hi),fun id hi=>zbS rfl rfl hi,?_⟩
  refine zf hn za rfl ?_ ⟨_,.tup [],mEm (zbk (zbk (setMu e i.a m') n ⟨6,i.a,0,false⟩) next ⟨5,i.a,0,false⟩),[],rfl,rfl,⟨rfl,rfl,trivial⟩,rfl,rfl,rfl,rfl,rfl⟩
  exact qS
 ·rw [if_pos (by omega)]
  refine zf hn za rfl ?_ ⟨_,.tup [],mEm (zbk (setMu e i.a m') n ⟨6,i.a,0,false⟩),[],rfl,rfl,⟨rfl,rfl,trivial⟩,rfl,rfl,rfl,rfl,rfl⟩
  exact qS
set_option maxHeartbeats 16000000 in
theorem zmo (c1:C) (p:zn) (e:zz) (n:Int) (i:zaD) (hL:zp e 1099511620000) (h:Inv p e (fun _=>False)) (hnr:0≤n∧n<e.gs.length) (hs:(e.gs.getD n.toNat zd).state=1) (hk:0≤i.a∧i.a<e.mus.length) (hop:i.op=12) (how:(e.mus.getD i.a.toNat zj).owner=n∨(e.mus.getD i.a.toNat zj).owner=-1):Ct Tryz.prog 258 [.dagg (zQ p),hEm c1,.dat (.int .i64 n),.dagg (zc7 i)] (mEm e) (zag (.tup []) (mEm (lockE e n i.a))):=by
 have ha:=h.alive hnr (.inl hs)
 have hgl:=hL.gor hnr
 have hml:=hL.mut hk
 have hpc:=zaq h.prog ha
 have hlk:=znb (e.mus.getD i.a.toNat zj) n (by omega)
 have hov:=zbO (e.gs.getD n.toNat zd) 4 (by omega) (by omega)
 rcases hl:zcT (e.mus.getD i.a.toNat zj) n with ⟨m',a',b'⟩
 rw [hl] at hlk
 refine zD (rs:=[]) za Tryz.func258 rfl rfl rfl (Nat.le_of_ble_eq_true rfl) rfl fun ho hm x hn hlent=>?_
 refine ze hn za rfl qS ?_ ?_<;>intro hc<;>first | (replace hc:=qC2 hc;try exact qX) | exact qF2 hc | skip
 refine ze hn za rfl qS ?_ ?_<;>intro hc<;>first | (replace hc:=qC2 hc;try exact qX) | exact qF2 hc | skip
 ·have hE1:lockE e n i.a=setG e n (over (e.gs.getD n.toNat zd) 4):=by unfold lockE;rw [if_pos hc]
  rw [hE1]
  refine qD hn za zu [.r (.dagg (zH (over (e.gs.getD n.toNat zd) 4))),.raw .no [(1000,some (.row 172 5 zd zH (e.gs.set n.toNat (over (e.gs.getD n.toNat zd) 4))))] none] rfl rfl ?_ ?_
  ·(try refine qM ?_);repeat' (first | exact trivial | assumption | assumption | omega | exact qV | refine And.intro ?_ ?_)
   exact zab _ hn za rfl ⟨_,_,rfl,rfl,rfl⟩ rfl rfl rfl rfl rfl (Nat.le_of_ble_eq_true rfl) rfl rfl
  refine zf hn za rfl ?_ ⟨_,.tup [],mEm (setG e n (over (e.gs.getD n.toNat zd) 4)),[],rfl,rfl,⟨rfl,rfl,trivial⟩,rfl,rfl,rfl,rfl,rfl⟩
  exact qS
 ·have hE1:lockE e n i.a=zbk (setMu e i.a m') n ⟨5,i.a,0,false⟩:=by unfold lockE;rw [if_neg hc,hl];rfl
  rw [hE1]
  refine ze hn za rfl qS ?_ ?_<;>intro hc<;>first | (replace hc:=qC2 hc;try exact qX) | exact qF2 hc | skip
  refine qD hn za zu [.r (.tup [.dagg (zO m'),.dat (.bool a'),.dat (.bool b')]),.raw .no [(1002,some (.row 193 2 zj zO (e.mus.set i.a.toNat m')))] none] rfl rfl ?_ ?_
  ·(try refine qM ?_);repeat' (first | exact trivial | assumption | assumption | omega | exact qV | refine And.intro ?_ ?_)
   exact zab _ hn za rfl ⟨_,_,rfl,rfl,rfl⟩ rfl rfl rfl rfl rfl (Nat.le_of_ble_eq_true rfl) rfl rfl
  refine zbB hn za [true,false,false] (zgf c1 (setMu e i.a m') n ⟨5,i.a,0,false⟩ hnr (by show (e.gs.getD n.toNat zd).regs.length≤_;omega) (by show (e.gs.getD n.toNat zd).trace.length≤_;omega) (by show 0≤(e.gs.getD n.toNat zd).pc∧(e.gs.getD n.toNat zd).pc≤_;omega)) rfl ?_ rfl rfl (by repeat' (first | exact trivial | refine And.intro rfl ?_)) rfl (fun i hi=>(by cases hi)) (.inl rfl) (fun i hi=>zaL rfl hi) ?_;exact qS;rintro r Mo ⟨rfl,rfl⟩;refine ⟨rfl,fun id hi=>.inl (zaX rfl rfl hi),fun id hi=>zbS rfl rfl hi,?_⟩
  refine zf hn za rfl ?_ ⟨_,.tup [],mEm (zbk (setMu e i.a m') n ⟨5,i.a,0,false⟩),[],rfl,rfl,⟨rfl,rfl,trivial⟩,rfl,rfl,rfl,rfl,rfl⟩
  exact qS
section
variable {P:Program} {x:Cx} {tb:Tb} {R:Cx→Tl→Ml→Prop} {n:Nat} {T:Tl} {M:Ml} {o:Oper} {k:List It} {all:List Oper}
theorem zp2 {c:Call} {f:FuncId} {ags args:List LV} {Mi Mo E:Ml} {r:LV} {new:Option Nat} {ms:List Nat} (fl:List Bool) (hc:Ct P f args Mi (fun r' Mo'=>r'=r∧Mo'=Mo)) (honr:∀ id,r.on id→(mm Mo id).isSome=true) (hkl:∀ id∈zS Mi,(mm Mi id).isSome=true)
 (hn:x.n=n) (htb:zaJ P tb) (hdo:zaA n o.dst=true) (h:gst all o T=.yes) (hop:o.op=.call c) (hcal:c.callee=.value (.func f)) (ha:zdQ tb T c.args.toList c.argTypes.toList=some ags)
 (hav:zc4 (mm M) fl ags=some args) (hms:zla (lk3 ags) ms=true) (hkm:zla (zS Mi) ms=true) (hsub:LeM (rn []) M Mi) (hro:zdD Mi=true) (hdi:zg7 fl ags=[])
 (hdis:ztL ms (En.news ⟨o.dst,r,E,new,zbb all o,ms⟩)=true) (hnw:zla (zS Mo) (zS Mi++En.news ⟨o.dst,r,E,new,zbb all o,ms⟩)=true) (hbig:∀ id∈zS Mo,(mm Mi id).isSome=true∨id<1000)
 (hfr:zmC T M (En.news ⟨o.dst,r,E,new,zbb all o,ms⟩)=true) (hE:E=Mo++dropM (zS Mi) (dropM (En.news ⟨o.dst,r,E,new,zbb all o,ms⟩) [])) :
 zeV P x all o ⟨o.dst,r,E,new,zbb all o,ms⟩ T M:=
 zrp hn htb hdo h hop hcal ha fl hc hav (fun l hl id hi=>zex hms id (zdl ⟨l,hl,hi⟩)) (zex hkm) hsub hro hdi (zof hdis) (fun id hi=>List.mem_append.1 (zex hnw id hi)) hbig honr hkl (zkm hfr) fun M' id=>by
  generalize En.news ⟨o.dst,r,E,new,zbb all o,ms⟩=N at *
  rw [hE,List.append_assoc,← zgq,← zgq,List.nil_append]
theorem zh6 {t:TypeId} {d i kf:Nat} {q:Operand} {cs:List C} {c:C} (hn:x.n=n) (hdo:zaA n o.dst=true) (hop:o.op=.field t q kf) (hd:o.dst=some d) (hv:val T q=.dagg cs) (hc:cs[i]? = some c)
 (hrun:∀ us:List Value,us.length=cs.length→∀ v,us[i]? = some v→∀ w,(Instr.field t (.agg us.toArray) kf).run P w=.ok v w) (h:Wc P x R k ((d,.dat c)::T) M):OpW P x R o k T M:=fun m a w hr=>by
 have hq:=zah hr q
 rw [hv] at hq
 obtain ⟨us,hu,hlen,hall⟩:=hq
 have hlt:=(List.getElem?_eq_some_iff.1 hc).1
 rw [← hlen] at hlt
 have hui:=List.getElem?_eq_getElem hlt
 unfold Oper.wp
 rw [show (execOp a.eval o).run P w=.ok (.value us[i]) w by simp only [execOp,hop,hu,Sem.run_bind,hrun us hlen _ hui,Result.andThen_ok,Sem.run_pure]]
 show Ka P x R k .normal (a.put o.dst _) w
 rw [hd]
 exact h m _ w (hr.putd (d:=some d) (l:=.dat c) hn (hd ▸ hdo) (hall i _ c hui hc))
end
theorem zrk:∀ us:List Value,us.length=4→∀ v,us[1]? = some v→∀ w,(Instr.field 203 (.agg us.toArray) 1).run Tryz.prog w=.ok v w
 | [a,b,c,d],_,v,hv,w=>by cases hv;kernel_rfl
theorem zee (e:zz) (s:zax) (hs:s.cases.length≤1048576):Ct Tryz.prog 139 [.dagg (zad e),.dagg (zey s)] [] (zag (.own 501) [(501,some (.row 3 1 (0:Int) iC (zX e s.cases)))]):=by
 refine zD (rs:=[(.tmp 4,22)]) za Tryz.func139 rfl rfl rfl (Nat.le_of_ble_eq_true rfl) rfl fun ho hm x hn hlent=>?_
 refine zT hn za (0:Int) iC ([]:List Int) rfl ?_ rfl rfl rfl rfl rfl rfl rfl rfl rfl ?_;exact qS
 refine zM hn za rfl ?_ (fun (wI:Nat) wT wM=>((12,.dat (.int .i64 wI))::(5,.own 100)::([(8,.no)]++wT),(100,some ((fun i=>.row 3 1 (0:Int) iC (zL (zcP e s.cases) i)) wI))::([(8,none)]++wM))) (fun wI=>wI≤s.cases.length∧(fun _=>True) wI) (fun wI=>s.cases.length-wI) 0 ⟨Nat.zero_le _,?_⟩ (zt [(100,8),(8,999)] ?_ ?_ rfl) ?_;exact qS
 ·trivial
 ·exact qL
 ·exact qL
 rintro i ⟨hi,_⟩
 have hle:=zcb (zem e s.cases) i
 refine ze hn za rfl qS ?_ ?_<;>intro hc<;>first | (replace hc:=qC2 hc;try exact qX) | exact qF2 hc | skip
 ·have hlt:i<s.cases.length:=by omega
  refine qK hn za rfl rfl (by (first | exact zC _ _ | assumption)) ?_
  refine ze hn za rfl qS ?_ ?_<;>intro hc<;>first | (replace hc:=qC2 hc;try exact qX) | exact qF2 hc | skip
  ·refine zT hn za (0:Int) iC [(i:Int)] rfl ?_ rfl rfl rfl rfl rfl rfl rfl rfl rfl ?_;exact qS
   refine zas hn za [(i:Int)] rfl ?_ rfl rfl rfl rfl rfl rfl rfl rfl ?_ ?_;exact qS
   ·show (_+1)*8≤_;omega
   refine zx hn za rfl qS ⟨i+1,⟨?_,?_⟩,?_,?_⟩
   ·omega
   ·trivial
   ·show s.cases.length-(i+1)<s.cases.length-i;omega
   ·refine zt [(100,23),(8,999)] qL ?_ rfl;repeat' (first | exact trivial | refine And.intro rfl ?_)
    refine And.intro (congrArg (fun q=>some (Blk.row 3 1 (0:Int) iC q)) ?_) ?_
    ·rw [z6,zcP,if_pos hc]
    ·exact qL
  ·refine zx hn za rfl qS ⟨i+1,⟨?_,?_⟩,?_,?_⟩
   ·omega
   ·trivial
   ·show s.cases.length-(i+1)<s.cases.length-i;omega
   ·refine zt [(8,999)] qL ?_ rfl;repeat' (first | exact trivial | refine And.intro rfl ?_)
    refine And.intro (congrArg (fun q=>some (Blk.row 3 1 (0:Int) iC q)) ?_) ?_
    ·rw [z6,zcP,if_neg (by rw [hc];exact Bool.false_ne_true),List.append_nil]
    ·exact qL
 ·have hie:i=s.cases.length:=by omega
  subst hie
  refine zf hn za rfl ?_ ⟨_,.own 501,[(501,some (.row 3 1 (0:Int) iC (zX e s.cases)))],[(501,100)],rfl,rfl,⟨rfl,trivial⟩,rfl,rfl,rfl,rfl,rfl⟩
  exact qS
set_option maxHeartbeats 16000000 in
theorem zkX (p:zn) (e:zz) (n c:Int) (hL:zp e 1099511610000) (h:Inv p e (fun _=>False)) (hnr:0≤n∧n<e.gs.length) (hs:(e.gs.getD n.toNat zd).state=1) (hop:(zb p (e.gs.getD n.toNat zd)).op=11) (hl0:0<(zX e (p.sels.getD (zb p (e.gs.getD n.toNat zd)).a.toNat zh).cases).length):Ct Tryz.prog 254 [.dagg (zQ p),hEc (zm e.mus),.dat (.int .i64 n),.dat (.int .i64 c)] (mEc e) (zag (.dat (.int .i64 (chooseE p e n c).2)) (mEc (chooseE p e n c).1)):=by
 have ha:=h.alive hnr (.inl hs)
 have hgh:=ha.head (.inl hs)
 have hi:=zaT h.prog ha.pc
 obtain ⟨hsel,h4,h5⟩:=hi.sel hop
 have hin:=hi.ins
 rw [zap] at hin
 have hia:0≤(zb p (e.gs.getD n.toNat zd)).a∧(zb p (e.gs.getD n.toNat zd)).a<p.sels.length:=by omega
 have hgl:=hL.gor hnr
 have hat0:=con_at_impl.instr p (e.gs.getD n.toNat zd) hgh
 have hrl:=zcb (zem e (p.sels.getD (zb p (e.gs.getD n.toNat zd)).a.toNat zh).cases) (p.sels.getD (zb p (e.gs.getD n.toNat zd)).a.toNat zh).cases.length
 have hrl:(zX e (p.sels.getD (zb p (e.gs.getD n.toNat zd)).a.toNat zh).cases).length≤4:=by unfold zX;omega
 have hrc:=zee e (p.sels.getD (zb p (e.gs.getD n.toNat zd)).a.toNat zh) (by omega)
 have hch:chooseE p e n c=(throughE p (setG e n (tell (e.gs.getD n.toNat zd) ⟨4,(zb p (e.gs.getD n.toNat zd)).a,(zX e (p.sels.getD (zb p (e.gs.getD n.toNat zd)).a.toNat zh).cases).getD (zV c (zX e (p.sels.getD (zb p (e.gs.getD n.toNat zd)).a.toNat zh).cases).length).toNat 0,false⟩)) n ((p.sels.getD (zb p (e.gs.getD n.toNat zd)).a.toNat zh).cases.getD ((zX e (p.sels.getD (zb p (e.gs.getD n.toNat zd)).a.toNat zh).cases).getD (zV c (zX e (p.sels.getD (zb p (e.gs.getD n.toNat zd)).a.toNat zh).cases).length).toNat 0).toNat zE),(zX e (p.sels.getD (zb p (e.gs.getD n.toNat zd)).a.toNat zh).cases).getD (zV c (zX e (p.sels.getD (zb p (e.gs.getD n.toNat zd)).a.toNat zh).cases).length).toNat 0):=by
  unfold chooseE;simp only;rw [if_pos hl0]
 rw [hch]
 have hm:=zg5 (c:=c) hl0
 have hk:=zfV (e:=e) (za6 (d:=(0:Int)) (l:=zX e (p.sels.getD (zb p (e.gs.getD n.toNat zd)).a.toNat zh).cases) (i:=(zV c (zX e (p.sels.getD (zb p (e.gs.getD n.toNat zd)).a.toNat zh).cases).length).toNat) (by omega))
 generalize hrl0:zX e (p.sels.getD (zb p (e.gs.getD n.toNat zd)).a.toNat zh).cases=l at *
 have htl:=zbP (e.gs.getD n.toNat zd) ⟨4,(zb p (e.gs.getD n.toNat zd)).a,(l.getD (zV c l.length).toNat 0),false⟩ (by omega) (by omega)
 have hmd:=zfs c l.length (by omega)
 have hal:za8 p (tell (e.gs.getD n.toNat zd) ⟨4,(zb p (e.gs.getD n.toNat zd)).a,(l.getD (zV c l.length).toNat 0),false⟩):=ha.tell ⟨by rw [zcr,decide_eq_true_eq,zeA];simp [-List.getD_eq_getElem?_getD];omega,by simp,by simp⟩
 have h1:Inv p (setG e n (tell (e.gs.getD n.toNat zd) ⟨4,(zb p (e.gs.getD n.toNat zd)).a,(l.getD (zV c l.length).toNat 0),false⟩)) (fun _=>False):=h.go hnr hs (fun x _ hx=>hx) (hal.ok (.inl hs)) (by show (e.gs.getD n.toNat zd).state≠2;omega)
 have hget:(setG e n (tell (e.gs.getD n.toNat zd) ⟨4,(zb p (e.gs.getD n.toNat zd)).a,(l.getD (zV c l.length).toNat 0),false⟩)).gs.getD n.toNat zd=tell (e.gs.getD n.toNat zd) ⟨4,(zb p (e.gs.getD n.toNat zd)).a,(l.getD (zV c l.length).toNat 0),false⟩:=zF (by omega)
 have hnr1:0≤n∧n<(setG e n (tell (e.gs.getD n.toNat zd) ⟨4,(zb p (e.gs.getD n.toNat zd)).a,(l.getD (zV c l.length).toNat 0),false⟩)).gs.length:=by rw [show (setG e n (tell (e.gs.getD n.toNat zd) ⟨4,(zb p (e.gs.getD n.toNat zd)).a,(l.getD (zV c l.length).toNat 0),false⟩)).gs.length=e.gs.length from List.length_set];exact hnr
 have hs1:((setG e n (tell (e.gs.getD n.toNat zd) ⟨4,(zb p (e.gs.getD n.toNat zd)).a,(l.getD (zV c l.length).toNat 0),false⟩)).gs.getD n.toNat zd).state=1:=by rw [hget];exact hs
 have hL1:zp (setG e n (tell (e.gs.getD n.toNat zd) ⟨4,(zb p (e.gs.getD n.toNat zd)).a,(l.getD (zV c l.length).toNat 0),false⟩)) 1099511627770:=(zhA hL hnr).le (by omega)
 have hcr:zP (setG e n (tell (e.gs.getD n.toNat zd) ⟨4,(zb p (e.gs.getD n.toNat zd)).a,(l.getD (zV c l.length).toNat 0),false⟩)) ((p.sels.getD (zb p (e.gs.getD n.toNat zd)).a.toNat zh).cases.getD (l.getD (zV c l.length).toNat 0).toNat zE)=true:=hk.2
 refine zD (rs:=[(.tmp 8,3)]) za Tryz.func254 rfl rfl rfl (Nat.le_of_ble_eq_true rfl) rfl fun ho hm x hn hlent=>?_
 refine qK hn za rfl rfl (by (first | exact con_at_impl.instr _ _ (by assumption) | assumption)) ?_
 refine zdU hn za rfl ?_ rfl (zh6 hn rfl rfl rfl rfl (i:=1) rfl zrk ?_)
 ·exact qS
 refine zlm hn za [false,false] hrc rfl ?_ rfl rfl (fun _=>rfl) rfl rfl ?_
 ·exact qS
 refine ze hn za rfl qS ?_ ?_<;>intro hc<;>first | (replace hc:=qC2 hc;try exact qX) | exact qF2 hc | skip
 refine qK hn za rfl rfl (by (first | exact con_at_impl.instr _ _ (by assumption) | assumption)) ?_
 refine qD hn za zu [.r (.dagg (zH (tell (e.gs.getD n.toNat zd) ⟨4,(zb p (e.gs.getD n.toNat zd)).a,(l.getD (zV c l.length).toNat 0),false⟩))),.raw .no [(1000,some (.row 172 5 zd zH (e.gs.set n.toNat (tell (e.gs.getD n.toNat zd) ⟨4,(zb p (e.gs.getD n.toNat zd)).a,(l.getD (zV c l.length).toNat 0),false⟩))))] none] rfl rfl ?_ ?_
 ·(try refine qM ?_);repeat' (first | exact trivial | (first | exact con_at_impl.instr _ _ (by assumption) | assumption) | assumption | omega | exact qV | refine And.intro ?_ ?_)
  exact zab _ hn za rfl ⟨_,_,rfl,rfl,rfl⟩ rfl rfl rfl rfl rfl (Nat.le_of_ble_eq_true rfl) rfl rfl
 refine qD hn za zu [.raw (.tup []) (mEc (throughE p (setG e n (tell (e.gs.getD n.toNat zd) ⟨4,(zb p (e.gs.getD n.toNat zd)).a,(l.getD (zV c l.length).toNat 0),false⟩)) n ((p.sels.getD (zb p (e.gs.getD n.toNat zd)).a.toNat zh).cases.getD (l.getD (zV c l.length).toNat 0).toNat zE))++[(1000,none),(1001,none)]) none] rfl rfl ?_ ?_
 ·(try refine qM ?_);repeat' (first | exact trivial | (first | exact con_at_impl.instr _ _ (by assumption) | assumption) | assumption | omega | exact qV | refine And.intro ?_ ?_)
  exact zp2 [false,true,false,false] (zfb (zm e.mus) p (setG e n (tell (e.gs.getD n.toNat zd) ⟨4,(zb p (e.gs.getD n.toNat zd)).a,(l.getD (zV c l.length).toNat 0),false⟩)) n ((p.sels.getD (zb p (e.gs.getD n.toNat zd)).a.toNat zh).cases.getD (l.getD (zV c l.length).toNat 0).toNat zE) hL1 h1 hnr1 hs1 hcr) (fun i h=>zbS rfl rfl h) (fun i hi=>zaL rfl hi) hn za rfl rfl rfl rfl rfl rfl rfl rfl (by repeat' (first | exact trivial | refine And.intro rfl ?_)) rfl rfl rfl rfl (fun id hi=>.inl (zaL rfl (zex rfl id hi))) rfl rfl
 refine zf hn za rfl ?_ ⟨_,.dat (.int .i64 (l.getD (zV c l.length).toNat 0)),mEc (throughE p (setG e n (tell (e.gs.getD n.toNat zd) ⟨4,(zb p (e.gs.getD n.toNat zd)).a,(l.getD (zV c l.length).toNat 0),false⟩)) n ((p.sels.getD (zb p (e.gs.getD n.toNat zd)).a.toNat zh).cases.getD (l.getD (zV c l.length).toNat 0).toNat zE)),[],rfl,rfl,⟨rfl,rfl,trivial⟩,rfl,rfl,rfl,rfl,rfl⟩
 exact qS
set_option maxHeartbeats 16000000 in
theorem zkY (p:zn) (e:zz) (n c:Int) (hL:zp e 1099511610000) (h:Inv p e (fun _=>False)) (hnr:0≤n∧n<e.gs.length) (hs:(e.gs.getD n.toNat zd).state=1) (hop:(zb p (e.gs.getD n.toNat zd)).op=11) (hl0:¬ 0<(zX e (p.sels.getD (zb p (e.gs.getD n.toNat zd)).a.toNat zh).cases).length) (hel:¬ (p.sels.getD (zb p (e.gs.getD n.toNat zd)).a.toNat zh).els<0):Ct Tryz.prog 254 [.dagg (zQ p),hEg (zy e.chans) (zm e.mus),.dat (.int .i64 n),.dat (.int .i64 c)] (mEg e) (zag (.dat (.int .i64 (chooseE p e n c).2)) (mEg (chooseE p e n c).1)):=by
 have ha:=h.alive hnr (.inl hs)
 have hgh:=ha.head (.inl hs)
 have hi:=zaT h.prog ha.pc
 obtain ⟨hsel,h4,h5⟩:=hi.sel hop
 have hin:=hi.ins
 rw [zap] at hin
 have hia:0≤(zb p (e.gs.getD n.toNat zd)).a∧(zb p (e.gs.getD n.toNat zd)).a<p.sels.length:=by omega
 have hgl:=hL.gor hnr
 have hat0:=con_at_impl.instr p (e.gs.getD n.toNat zd) hgh
 have hrl:=zcb (zem e (p.sels.getD (zb p (e.gs.getD n.toNat zd)).a.toNat zh).cases) (p.sels.getD (zb p (e.gs.getD n.toNat zd)).a.toNat zh).cases.length
 have hrl:(zX e (p.sels.getD (zb p (e.gs.getD n.toNat zd)).a.toNat zh).cases).length≤4:=by unfold zX;omega
 have hrc:=zee e (p.sels.getD (zb p (e.gs.getD n.toNat zd)).a.toNat zh) (by omega)
 have hch:chooseE p e n c=(setG e n {tell (e.gs.getD n.toNat zd) ⟨4,(zb p (e.gs.getD n.toNat zd)).a,-1,false⟩ with pc:=(p.sels.getD (zb p (e.gs.getD n.toNat zd)).a.toNat zh).els},-1):=by
  unfold chooseE;simp only;rw [if_neg hl0,if_neg hel]
 rw [hch]
 have htl:=zbP (e.gs.getD n.toNat zd) ⟨4,(zb p (e.gs.getD n.toNat zd)).a,-1,false⟩ (by omega) (by omega)
 generalize hrl0:zX e (p.sels.getD (zb p (e.gs.getD n.toNat zd)).a.toNat zh).cases=l at *
 refine zD (rs:=[(.tmp 8,3)]) za Tryz.func254 rfl rfl rfl (Nat.le_of_ble_eq_true rfl) rfl fun ho hm x hn hlent=>?_
 refine qK hn za rfl rfl (by (first | exact con_at_impl.instr _ _ (by assumption) | assumption)) ?_
 refine zdU hn za rfl ?_ rfl (zh6 hn rfl rfl rfl rfl (i:=1) rfl zrk ?_)
 ·exact qS
 refine zlm hn za [false,false] hrc rfl ?_ rfl rfl (fun _=>rfl) rfl rfl ?_
 ·exact qS
 refine ze hn za rfl qS ?_ ?_<;>intro hc<;>first | (replace hc:=qC2 hc;try exact qX) | exact qF2 hc | skip
 refine ze hn za rfl qS ?_ ?_<;>intro hc<;>first | (replace hc:=qC2 hc;try exact qX) | exact qF2 hc | skip
 refine qK hn za rfl rfl (by (first | exact con_at_impl.instr _ _ (by assumption) | assumption)) ?_
 refine zaI hn za {tell (e.gs.getD n.toNat zd) ⟨4,(zb p (e.gs.getD n.toNat zd)).a,-1,false⟩ with pc:=(p.sels.getD (zb p (e.gs.getD n.toNat zd)).a.toNat zh).els} rfl ?_ rfl rfl rfl rfl rfl rfl (Nat.le_of_ble_eq_true rfl) rfl ?_;(first | (exact qS) | decide | (simp only [List.length_replicate,List.length_set];decide))
 refine zf hn za rfl ?_ ⟨_,.dat (.int .i64 (-1)),mEg (setG e n {tell (e.gs.getD n.toNat zd) ⟨4,(zb p (e.gs.getD n.toNat zd)).a,-1,false⟩ with pc:=(p.sels.getD (zb p (e.gs.getD n.toNat zd)).a.toNat zh).els}),[],rfl,rfl,⟨rfl,trivial⟩,rfl,rfl,rfl,rfl,rfl⟩
 exact qS
structure zcW where
 cap:Int
 buf:Value
 sends:Value
 recvs:Value
 closed:Bool
def zle:Value:=.slice none 0 0
def dXC:zcW:=⟨0,zle,zle,zle,false⟩
def cXC (c:zcW):List C:=[.int .i64 c.cap,.val c.buf,.val c.sends,.val c.recvs,.bool c.closed]
def wC:Value ⊕ List Int→C
 | .inl v=>.val v
 | .inr l=>zbc l
structure zdt where
 owner:Int
 wait:Value ⊕ List Int
def dXM:zdt:=⟨0,.inl zle⟩
def cXM (c:zdt):List C:=[.int .i64 c.owner,wC c.wait]
structure zky (Pv:Nat→Obj→Prop) (tg:Nat→Nat) (q:Nat) (c:zY) (xc:zcW):Prop where
 cap:xc.cap=c.cap
 closed:xc.closed=c.closed
 buf:Qv Pv (fun b=>tg b=q) 3 1 iC c.buf xc.buf
 sends:Qv Pv (fun b=>tg b=q+1) 197 3 z5 c.sends xc.sends
 recvs:Qv Pv (fun b=>tg b=q+2) 197 3 z5 c.recvs xc.recvs
structure zo5 (Pv:Nat→Obj→Prop) (tg:Nat→Nat) (q:Nat) (c:zal) (xc:zdt):Prop where
 owner:xc.owner=c.owner
 wait:∃ v,xc.wait=.inl v∧Qv Pv (fun b=>tg b=q) 3 1 iC c.wait v
theorem zky.mono {Pv Pv':Nat→Obj→Prop} {tg tg':Nat→Nat} {q q':Nat} {c:zY} {xc:zcW} (h:zky Pv tg q c xc) (h1:∀ b o,(tg b=q∨tg b=q+1∨tg b=q+2)→Pv b o→Pv' b o∧tg' b+q=tg b+q'):zky Pv' tg' q' c xc:=
 ⟨h.cap,h.closed,h.buf.mono fun b o hg hp=>by obtain ⟨h2,h3⟩:=h1 b o (.inl hg) hp;exact ⟨h2,by omega⟩,h.sends.mono fun b o hg hp=>by obtain ⟨h2,h3⟩:=h1 b o (.inr (.inl hg)) hp;exact ⟨h2,by omega⟩,h.recvs.mono fun b o hg hp=>by obtain ⟨h2,h3⟩:=h1 b o (.inr (.inr hg)) hp;exact ⟨h2,by omega⟩⟩
theorem zo5.mono {Pv Pv':Nat→Obj→Prop} {tg tg':Nat→Nat} {q q':Nat} {c:zal} {xc:zdt} (h:zo5 Pv tg q c xc) (h1:∀ b o,tg b=q→Pv b o→Pv' b o∧tg' b=q'):zo5 Pv' tg' q' c xc:=
 ⟨h.owner,h.wait.imp fun v hv=>⟨hv.1,hv.2.mono h1⟩⟩
open Classical in
theorem zfY (c:zY) (h:zdR c 2199023255552):CtG Tryz.prog 212 [.dagg (zae c)] [] zip (fun r Mo Po=>∃ xc:zcW,r=.dagg (cXC xc)∧Mo=[]∧∃ tg,zky Po tg 0 c xc):=by
 refine zgs (rs:=[(.cell 2 191,191)]) za Tryz.func212 rfl rfl rfl (Nat.le_of_ble_eq_true rfl) rfl fun ho hm x Pi hn hlent hPi hpre=>?_
 refine zqh (vA:=fun v=>.dat (.val v)) hn za [false] (zgD (zda c.buf h.1) (fun _ _=>rfl)) (fun _ _ h=>h) rfl ?_ rfl rfl rfl ?_
 ·exact qS
 intro v1 P1 x1 q1 hx1 k1 n1 d1
 have hn1:=hx1.n.trans hn
 refine zqh (vA:=fun v=>.dat (.val v)) hn1 za [false] (zgD (zd4 c.sends h.2.1) (fun _ _=>rfl)) (fun _ _ h=>h) rfl ?_ rfl rfl rfl ?_
 ·exact qS
 intro v2 P2 x2 q2 hx2 k2 n2 d2
 have hn2:=hx2.n.trans hn1
 refine zqh (vA:=fun v=>.dat (.val v)) hn2 za [false] (zgD (zd4 c.recvs h.2.2) (fun _ _=>rfl)) (fun _ _ h=>h) rfl ?_ rfl rfl rfl ?_
 ·exact qS
 intro v3 P3 x3 q3 hx3 k3 n3 d3
 have hn3:=hx3.n.trans hn2
 refine zf hn3 za rfl ?_ ⟨_,.dagg (cXC ⟨c.cap,v1,v2,v3,c.closed⟩),[],[],fun b o=>P1 b o∨P2 b o∨P3 b o,rfl,rfl,trivial,rfl,rfl,rfl,?_,⟨⟨c.cap,v1,v2,v3,c.closed⟩,rfl,rfl,fun b=>if ∃ o,P1 b o then 0 else if ∃ o,P2 b o then 1 else 2,⟨rfl,rfl,q1.mono fun b o _ hp=>⟨.inl hp,?_⟩,q2.mono fun b o _ hp=>⟨.inr (.inl hp),?_⟩,q3.mono fun b o _ hp=>⟨.inr (.inr hp),?_⟩⟩⟩⟩
 ·exact qS
 ·rintro b o (hp | hp | hp)
  ·exact k3 b o (k2 b o (n1 b o hp))
  ·exact k3 b o (n2 b o hp)
  ·exact n3 b o hp
 ·exact if_pos ⟨o,hp⟩
 ·show (if ∃ o,P1 b o then 0 else if ∃ o,P2 b o then 1 else 2)=0+1
  rw [if_neg fun ⟨o',h'⟩=>d2 b o o' hp (n1 b o' h'),if_pos ⟨o,hp⟩]
 ·show (if ∃ o,P1 b o then 0 else if ∃ o,P2 b o then 1 else 2)=0+2
  rw [if_neg fun ⟨o',h'⟩=>d3 b o o' hp (k2 b o' (n1 b o' h')),if_neg fun ⟨o',h'⟩=>d3 b o o' hp (n2 b o' h')]
section
variable {P:Program} {x:Cx} {R:Cx→Tl→Ml→Prop} {k:List It} {T:Tl} {M:Ml}
theorem znp {id:Nat} {e:TypeId} {z:Nat} {α β:Type} {d:α} {f:α→List C} {xs:List α} (d':β) (f':β→List C) (xs':List β) (hM:mm M id=some (.row e z d f xs)) (hmap:xs'.map f'=xs.map f) (h:Wc P x R k T ((id,some (.row e z d' f' xs'))::M)):Wc P x R k T M:=by
 intro m a w hr
 have hl:xs'.length=xs.length:=by have:=congrArg List.length hmap;simpa using this
 have hget:∀ (i:Nat) y',xs'[i]? = some y'→∃ y,xs[i]? = some y∧f y=f' y':=fun i y' hi=>by
  have:(xs'.map f')[i]? = (xs.map f)[i]?:=by rw [hmap]
  rw [List.getElem?_map,List.getElem?_map,hi] at this
  obtain ⟨y,hy,he⟩:=Option.map_eq_some_iff.1 this.symm
  exact ⟨y,hy,he⟩
 have hup:=hr.upd id (some (.row e z d' f' xs')) (B:=m.blk id) (O:=m.off id) (c:=m.cap id) (w1:=w) ⟨Nat.le_refl _,fun _ _ _=>rfl⟩ ⟨rfl,rfl,rfl⟩ (fun _=>.inl ⟨by rw [hM];rfl,rfl⟩)
  (.inl fun _=>⟨by rw [hM];rfl,Mp.set_blk ..,Mp.set_off ..,Mp.set_cap ..,by unfold zJ;rw [zac,hM];show some xs'.length=some xs.length;rw [hl],by unfold zbt;rw [zac,hM]⟩) (fun b hb hmv hke=>by
   cases hb
   obtain ⟨us,hu,a1,a2,a3,a4,a5,a6,a7⟩:=hr.blk id _ hM
   refine ⟨us,by rw [Mp.set_blk];exact hu,by rw [Mp.set_off,Mp.set_cap];exact a1,by rw [Mp.set_cap,hl];exact a2,by rw [Mp.set_cap];exact a3,a4,fun y' hy=>?_,trivial,fun i y' j c hi hj=>?_⟩
   ·obtain ⟨i,hi⟩:=List.mem_iff_getElem?.1 hy
    obtain ⟨y,h1,h2⟩:=hget i y' hi
    rw [← h2];exact a5 y (List.mem_of_getElem? h1)
   ·obtain ⟨y,h1,h2⟩:=hget i y' hi
    obtain ⟨u,h3,h4⟩:=a7 i y j c h1 (by rw [h2];exact hj)
    exact ⟨u,by rw [Mp.set_off];exact h3,hmv.dat h4⟩)
 rw [zhS,← zI] at hup
 exact h m a w hup
end
structure CpC (Pv:Nat→Obj→Prop) (tg:Nat→Nat) (cs:List zY) (i:Nat) (xs:List zcW):Prop where
 le:i≤cs.length
 len:xs.length=i
 q:∀ k<i,zky Pv tg (4*k) (cs.getD k zg) (xs.getD k dXC)
structure CpM (Pv:Nat→Obj→Prop) (tg:Nat→Nat) (ms:List zal) (i:Nat) (xs:List zdt):Prop where
 le:i≤ms.length
 len:xs.length=ms.length
 q:∀ k<i,zo5 Pv tg (4*k+3) (ms.getD k zj) (xs.getD k dXM)
 r:∀ k<ms.length,i≤k→xs.getD k dXM=⟨(ms.getD k zj).owner,.inr (ms.getD k zj).wait⟩
section
variable {Pv Pv' Po:Nat→Obj→Prop} {tg t1:Nat→Nat} {cs:List zY} {ms:List zal} {i:Nat} {xs:List zcW} {ys:List zdt}
open Classical in
noncomputable def tgN (Po:Nat→Obj→Prop) (t1 tg:Nat→Nat) (b:Nat):Nat:=if ∃ o,Po b o then t1 b else tg b
theorem zq7 {b:Nat} {o:Obj} (h:Po b o):tgN Po t1 tg b=t1 b:=if_pos ⟨o,h⟩
theorem zrr {b:Nat} {o:Obj} (hd:∀ b o o',Po b o→¬ Pv b o') (h:Pv b o):tgN Po t1 tg b=tg b:=if_neg fun ⟨o',h'⟩=>hd b o' o h' h
theorem CpC.mono (h:CpC Pv tg cs i xs) (h1:∀ b o,Pv b o→Pv' b o) (hd:∀ b o o',Po b o→¬ Pv b o'):CpC Pv' (tgN Po t1 tg) cs i xs:=
 ⟨h.le,h.len,fun k hk=>(h.q k hk).mono fun b o _ hp=>⟨h1 b o hp,by rw [zrr hd hp]⟩⟩
theorem CpM.mono (h:CpM Pv tg ms i ys) (h1:∀ b o,Pv b o→Pv' b o) (hd:∀ b o o',Po b o→¬ Pv b o'):CpM Pv' (tgN Po t1 tg) ms i ys:=
 ⟨h.le,h.len,fun k hk=>(h.q k hk).mono fun b o hg hp=>⟨h1 b o hp,by rw [zrr hd hp];exact hg⟩,h.r⟩
theorem CpC.next (h:CpC Pv tg cs i xs) (h1:∀ b o,Pv b o→Pv' b o) (h2:∀ b o,Po b o→Pv' b o) (hd:∀ b o o',Po b o→¬ Pv b o') (hi:i<cs.length) {xc:zcW} (hq:zky Po t1 0 (cs.getD i zg) xc):CpC Pv' (tgN Po (fun b=>t1 b+4*i) tg) cs (i+1) (xs++[xc]):=by
 refine ⟨hi,by rw [List.length_append,h.len];rfl,fun k hk=>?_⟩
 rcases Nat.lt_or_ge k i with hk' | hk'
 ·rw [show (xs++[xc]).getD k dXC=xs.getD k dXC by rw [List.getD_eq_getElem?_getD,List.getD_eq_getElem?_getD,List.getElem?_append_left (by rw [h.len];exact hk')]]
  exact (h.mono h1 hd).q k hk'
 ·have:k=i:=by omega
  subst this
  rw [show (xs++[xc]).getD k dXC=xc by rw [List.getD_eq_getElem?_getD,List.getElem?_append_right (by rw [h.len];omega),h.len,Nat.sub_self];rfl]
  exact hq.mono fun b o _ hp=>⟨h2 b o hp,by rw [zq7 hp];omega⟩
theorem CpM.next (h:CpM Pv tg ms i ys) (h1:∀ b o,Pv b o→Pv' b o) (h2:∀ b o,Po b o→Pv' b o) (hd:∀ b o o',Po b o→¬ Pv b o') (hi:i<ms.length) {v:Value} (hq:Qv Po (fun _=>True) 3 1 iC (ms.getD i zj).wait v):CpM Pv' (tgN Po (fun _=>4*i+3) tg) ms (i+1) (ys.set i {ys.getD i dXM with wait:=.inl v}):=by
 have hr:=h.r i hi (Nat.le_refl _)
 have hl:=h.len
 refine ⟨hi,by rw [List.length_set];exact h.len,fun k hk=>?_,fun k hk hik=>?_⟩
 ·by_cases hki:k=i
  ·subst hki
   rw [zF (by omega)]
   exact ⟨by rw [hr],v,rfl,hq.mono fun b o _ hp=>⟨h2 b o hp,zq7 hp⟩⟩
  ·rw [z4 (fun h=>hki h.symm)]
   exact (h.mono h1 hd).q k (by omega)
 ·rw [z4 (by omega)]
  exact h.r k hk (by omega)
end
def zi2 (ms:List zal):List zdt:=ms.map fun m=>⟨m.owner,.inr m.wait⟩
def lnC:LV:=.nil (zy [])
def lnM:LV:=.nil (zm [])
structure zsJ (e:zz) (r:LV) (Mo:Ml) (Po:Nat→Obj→Prop) (xcs:List zcW) (xms:List zdt) (tg:Nat→Nat) (lc lm:LV) (Mc Mm:Ml):Prop where
 c:CpC Po tg e.chans e.chans.length xcs
 m:CpM Po tg e.mus e.mus.length xms
 r:r=.lagg [.own 501,lc,lm]
 Mo:Mo=(501,some (.row 172 5 zd zH e.gs))::(Mc++Mm)
 sc:(lc=.own 502∧Mc=[(502,some (.row 191 5 dXC cXC xcs))])∨(e.chans=[]∧lc=lnC∧Mc=[])
 sm:(lm=.own 503∧Mm=[(503,some (.row 193 2 dXM cXM xms))])∨(e.mus=[]∧lm=lnM∧Mm=[])
set_option maxHeartbeats 16000000 in
theorem zcV (e:zz) (hL:zp e 1099511627776) (hg0:0<e.gs.length):CtG Tryz.prog 154 [.dagg (zad e)] [] zip (fun r Mo Po=>∃ xcs xms tg lc lm Mc Mm,zsJ e r Mo Po xcs xms tg lc lm Mc Mm):=by
 have hgl:=hL.gs
 have hcl:=hL.chans
 have hml:=hL.mus
 refine zgs (rs:=[(.cell 2 45,45)]) za Tryz.func154 rfl rfl rfl (Nat.le_of_ble_eq_true rfl) rfl fun ho hm x Pi hn hlent hPi hpre=>?_
 refine zgi hn za 200 [false] (zmR e.mus (by omega)) rfl ?_ rfl rfl rfl rfl rfl ?_ ?_
 ·exact qS
 ·refine zM hn za rfl ?_ (fun (i:Nat) wT wM=>match i with
   | 0=>((16,.dat (.int .i64 ((0:Nat):Int)))::wT,(3,some (.box 45 (.lagg [.nil (zbI []),.nil (zy []),.own 200])))::wM)
   | j+1=>((16,.dat (.int .i64 ((j+1:Nat):Int)))::wT,(3,some (.box 45 (.lagg [.own 300,.nil (zy []),.own 200])))::(300,some (.row 172 5 zd zH (e.gs.take (j+1))))::wM)) (fun i=>i≤e.gs.length) (fun i=>e.gs.length-i) 0 (Nat.zero_le _) (zt [] ?_ ?_ rfl) ?_
  ·exact qS
  ·exact qL
  ·exact qL
  intro i hi
  have hround:∀ i<e.gs.length,Con Tryz.prog 211 [.dagg (zH (e.gs.getD i zd))] (.dagg (zH (e.gs.getD i zd))):=fun i hi=>zgu _ (by have:=(hL.g i hi).1;omega) (by have:=(hL.g i hi).2;omega)
  cases i with
  | zero=>
   have hcg:=hround 0 hg0
   have htk:e.gs.take 1=[e.gs.getD 0 zd]:=by rw [ze1 zd hg0];rfl
   refine ze hn za rfl qS ?_ ?_<;>intro hc<;>first | (replace hc:=qC2 hc;try exact qX) | exact qF2 hc | skip
   refine qD hn za zu [.r (.dagg (zH (e.gs.getD 0 zd))),.raw (.own 24) [(24,some (.row 172 5 zd zH [e.gs.getD 0 zd]))] (some 24),.raw (.own 25) [(25,some (.row 172 5 zd zH [e.gs.getD 0 zd]))] (some 25)] rfl rfl ?_ ?_
   ·(try refine qM ?_);repeat' (first | exact trivial | assumption | assumption | omega | exact qV | refine And.intro ?_ ?_)
    exact zfu [e.gs.getD 0 zd] hn za rfl ⟨rfl,_,_,_,rfl,rfl,rfl,rfl,rfl,rfl⟩ (.inr rfl) rfl rfl rfl rfl (by simp) rfl rfl (by simp)
   refine zx hn za rfl ?_ ⟨1,hg0,by omega,?_⟩
   ·exact qS
   ·refine zt [(300,25)] ?_ ?_ rfl
    ·exact qL
    ·show LeM _ _ ((3,_)::(300,some (.row 172 5 zd zH (e.gs.take 1)))::_)
     rw [htk];exact qL
  | succ i=>
  refine ze hn za rfl qS ?_ ?_<;>intro hc<;>first | (replace hc:=qC2 hc;try exact qX) | exact qF2 hc | skip
  ·have hlt:i+1<e.gs.length:=by omega
   have hcg:=hround (i+1) hlt
   have htk:(e.gs.take (i+1)).length=i+1:=by rw [List.length_take];omega
   refine qD hn za zu [.r (.dagg (zH (e.gs.getD (i+1) zd))),.raw (.own 24) [(24,some (.row 172 5 zd zH [e.gs.getD (i+1) zd]))] (some 24),.raw (.own 25) [(25,some (.row 172 5 zd zH (e.gs.take (i+1)++[e.gs.getD (i+1) zd]))),(300,none)] (some 25)] rfl rfl ?_ ?_
   ·(try refine qM ?_);repeat' (first | exact trivial | assumption | assumption | omega | exact qV | refine And.intro ?_ ?_)
   refine zx hn za rfl ?_ ⟨i+1+1,by omega,by omega,?_⟩
   ·exact qS
   ·refine zt [(300,25)] ?_ ?_ rfl
    ·exact qL
    ·show LeM _ _ ((3,_)::(300,some (.row 172 5 zd zH (e.gs.take (i+1+1))))::_)
     rw [ze1 zd hlt];exact qL
  have hie:i+1=e.gs.length:=by omega
  have htake:e.gs.take (i+1)=e.gs:=by rw [hie,List.take_length]
  clear hround
  refine zcB hn za rfl ?_ (fun (y:Nat×List zcW×(Nat→Nat)) wT wM=>match y with
   | (0,_,_)=>((31,.dat (.int .i64 ((0:Nat):Int)))::wT,(3,some (.box 45 (.lagg [.own 300,.nil (zy []),.own 200])))::wM)
   | (j+1,xs,_)=>((31,.dat (.int .i64 ((j+1:Nat):Int)))::wT,(3,some (.box 45 (.lagg [.own 300,.own 301,.own 200])))::(301,some (.row 191 5 dXC cXC xs))::wM)) (fun y x=>CpC (z7 x) y.2.2 e.chans y.1 y.2.1) (fun y=>e.chans.length-y.1) (0,[],fun _=>0) ⟨Nat.zero_le _,rfl,fun k hk=>by omega⟩ (zt [] ?_ ?_ rfl) ?_
  ·exact qS
  ·exact qL
  ·exact qL
  rintro ⟨i,xs,tg⟩ x1 hx1 hcp
  have hcp:CpC (z7 x1) tg e.chans i xs:=hcp
  have hn1:=hx1.n.trans hn
  have hn:=hn1
  have hcall:∀ i<e.chans.length,CtG Tryz.prog 212 [.dagg (zae (e.chans.getD i zg))] [] zip (fun r Mo Po=>∃ xc:zcW,r=.dagg (cXC xc)∧Mo=[]∧∃ tg,zky Po tg 0 (e.chans.getD i zg) xc):=fun i hi=>zfY _ (by obtain ⟨h1,h2,h3⟩:=hL.c i hi;exact ⟨by omega,by omega,by omega⟩)
  cases i with
  | zero=>
   refine ze hn za rfl ?_ (fun hc=>?_) (fun hc=>?_);exact qS;all_goals (try simp only [decide_eq_true_eq,decide_eq_false_iff_not,Bool.not_eq_true',Bool.not_eq_false',Int.not_lt,Int.not_le,Int.toNat_natCast] at hc)
   ·have hlt:0<e.chans.length:=by simpa using hc
    refine zew (Y:=zcW) dXC hn1 za zu rfl ?_ 3 rfl rfl [] (fun _=>rfl) ?_ (fun xc=>.dagg (cXC xc)) rfl (fun xc=>[.raw (.own 39) [(39,some (.row 191 5 dXC cXC [xc]))] (some 39),.raw (.own 40) [(40,some (.row 191 5 dXC cXC [xc]))] (some 40)]) (fun _ _=>rfl) ?_ rfl (fun _=>rfl) ?_ (fun xc x2=>Sib x1 x2∧∃ tg',CpC (z7 x2) tg' e.chans 1 (xs++[xc])) (fun _ _ h=>h.1) (zkt [false] (hcall 0 hlt) (fun _ _ h=>h) hn1 za rfl rfl rfl rfl rfl rfl rfl _ ?_) ?_
    ·exact qS
    ·intro x2 hx2;((try refine qM ?_);repeat' (first | exact trivial | assumption | assumption | omega | exact qV | refine And.intro ?_ ?_))
    ·intro xc x2 hx2
     have hn2:=hx2.n.trans hn1
     refine ⟨⟨trivial,zgA _ _ hn2 za rfl rfl rfl rfl rfl rfl rfl rfl rfl rfl rfl⟩,zmk [xc] hn2 za rfl ⟨rfl,_,_,_,rfl,rfl,rfl,rfl,rfl,rfl⟩ ⟨_,rfl⟩ rfl rfl rfl rfl (by simp) rfl rfl (by simp)⟩
    ·((intro _;repeat' (first | exact trivial | exact rfl | refine And.intro ?_ ?_)))
    ·rintro xc Po x2 ⟨t1,hq⟩ hx2 k1 n1 d1
     exact ⟨hx2,_,hcp.next k1 n1 d1 hlt hq⟩
    ·rintro xc x2 ⟨hx2,tg',hq⟩
     have hn2:=hx2.n.trans hn1
     have hx0:xs=[]:=List.length_eq_zero_iff.1 hcp.len
     subst hx0
     refine zx hn2 za rfl ?_ ⟨(1,[xc],tg'),hq,by show _-1<_-0;omega,?_⟩
     ·exact qS
     ·refine zt [(301,40)] ?_ ?_ rfl
      ·exact qL
      ·exact qL
   ·have hz:e.chans=[]:=List.length_eq_zero_iff.1 (by omega)
    have hcp':CpC (z7 x1) tg e.chans e.chans.length xs:=by rw [hz];rw [hz] at hcp;exact hcp
    refine znp dXM cXM (zi2 e.mus) (id:=200) rfl (by rw [zi2,List.map_map];rfl) ?_
    refine zcB hn1 za rfl ?_ (fun (y:Nat×List zdt×(Nat→Nat)) wT wM=>((46,.dat (.int .i64 (y.1:Nat)))::wT,(200,some (.row 193 2 dXM cXM y.2.1))::wM)) (fun y x=>CpC (z7 x) y.2.2 e.chans e.chans.length xs∧CpM (z7 x) y.2.2 e.mus y.1 y.2.1) (fun y=>e.mus.length-y.1) (0,zi2 e.mus,tg) ⟨hcp',Nat.zero_le _,by rw [zi2,List.length_map],fun k hk=>by omega,fun k hk _=>by rw [zi2,List.getD_eq_getElem?_getD,List.getElem?_map,List.getElem?_eq_getElem hk,List.getD_eq_getElem?_getD,List.getElem?_eq_getElem hk];rfl⟩ (zt [] ?_ ?_ rfl) ?_
    ·exact qS
    ·exact qL
    ·exact qL
    have hxl:(zi2 e.mus).length=e.mus.length:=by rw [zi2,List.length_map]
    rintro ⟨i,ys,tg2⟩ x3 hx3 ⟨hcc,hcm⟩
    have hcc:CpC (z7 x3) tg2 e.chans e.chans.length xs:=hcc
    have hcm:CpM (z7 x3) tg2 e.mus i ys:=hcm
    have hn3:=hx3.n.trans hn1
    have hn:=hn3
    have hly:=hcm.len
    refine ze hn za rfl qS ?_ ?_<;>intro hc<;>first | (replace hc:=qC2 hc;try exact qX) | exact qF2 hc | skip
    ·have hlt:i<e.mus.length:=by omega
     have hri:=hcm.r i hlt (Nat.le_refl _)
     have hcall:CtG Tryz.prog 213 [.dat (wC (ys.getD i dXM).wait)] [] zip (fun r Mo Po=>∃ v,r=.dat (.val v)∧Mo=[]∧Qv Po (fun _=>True) 3 1 iC (e.mus.getD i zj).wait v):=by
      rw [hri]
      exact zgD (zda _ (by have:=hL.m i hlt;omega)) (fun _ _=>rfl)
     refine zew (Y:=Value) zle hn3 za zu rfl ?_ 9 rfl rfl [] (fun _=>rfl) ?_ (fun v=>.dat (.val v)) rfl (fun v=>[.raw .no [(200,some (.row 193 2 dXM cXM (ys.set i {ys.getD i dXM with wait:=.inl v})))] none]) (fun _ _=>rfl) ?_ ?_ ?_ ?_ (fun v x4=>Sib x3 x4∧∃ tg',CpC (z7 x4) tg' e.chans e.chans.length xs∧CpM (z7 x4) tg' e.mus (i+1) (ys.set i {ys.getD i dXM with wait:=.inl v})) (fun _ _ h=>h.1) ?_ ?_
     ·exact qS
     ·intro x4 hx4;((try refine qM ?_);repeat' (first | exact trivial | assumption | assumption | omega | exact qV | refine And.intro ?_ ?_))
     ·intro v x4 hx4
      have hn4:=hx4.n.trans hn3
      (try refine qM ?_);repeat' (first | exact trivial | assumption | assumption | omega | exact qV | refine And.intro ?_ ?_)
      exact zab _ hn4 za rfl ⟨_,_,rfl,rfl,rfl⟩ rfl rfl rfl rfl rfl (Nat.le_of_ble_eq_true rfl) rfl rfl
     ·kernel_rfl
     ·intro v;kernel_rfl
     ·((intro _;repeat' (first | exact trivial | exact rfl | refine And.intro ?_ ?_)))
     ·refine zkt [false] hcall (fun _ _ h=>h) hn3 za rfl rfl rfl rfl rfl rfl rfl _ ?_
      rintro v Po x4 hq hx4 k1 n1 d1
      exact ⟨hx4,_,hcc.mono k1 d1,hcm.next k1 n1 d1 hlt hq⟩
     ·rintro v x4 ⟨hx4,tg',hq1,hq2⟩
      have hn4:=hx4.n.trans hn3
      refine zx hn4 za rfl ?_ ⟨(i+1,_,tg'),⟨hq1,hq2⟩,by show _-(i+1)<_-i;omega,?_⟩
      ·exact qS
      ·refine zt [] ?_ ?_ rfl
       ·exact qL
       ·exact qL
    have hie:i=e.mus.length:=by have:=hcm.le;omega
    subst hie
    refine zf hn3 za rfl ?_ ⟨_,.lagg [.own 501,lnC,.own 503],(501,some (.row 172 5 zd zH e.gs))::[(503,some (.row 193 2 dXM cXM ys))],[(501,300),(502,301),(503,200)],z7 x3,rfl,rfl,⟨?_,?_,trivial⟩,rfl,rfl,rfl,fun _ _ h=>h,xs,ys,tg2,lnC,.own 503,[],[(503,some (.row 193 2 dXM cXM ys))],hcc,hcm,rfl,rfl,.inr ⟨hz,rfl,rfl⟩,.inl ⟨rfl,rfl⟩⟩
    ·exact qS
    ·exact congrArg (fun l=>some (Blk.row 172 5 zd zH l)) htake
    ·rfl
  | succ i=>
  refine ze hn za rfl qS ?_ ?_<;>intro hc<;>first | (replace hc:=qC2 hc;try exact qX) | exact qF2 hc | skip
  ·have hlt:i+1<e.chans.length:=by omega
   have hlx:=hcp.len
   refine zew (Y:=zcW) dXC hn1 za zu rfl ?_ 3 rfl rfl [] (fun _=>rfl) ?_ (fun xc=>.dagg (cXC xc)) rfl (fun xc=>[.raw (.own 39) [(39,some (.row 191 5 dXC cXC [xc]))] (some 39),.raw (.own 40) [(40,some (.row 191 5 dXC cXC (xs++[xc]))),(301,none)] (some 40)]) (fun _ _=>rfl) ?_ rfl (fun _=>rfl) ?_ (fun xc x2=>Sib x1 x2∧∃ tg',CpC (z7 x2) tg' e.chans (i+1+1) (xs++[xc])) (fun _ _ h=>h.1) (zkt [false] (hcall (i+1) hlt) (fun _ _ h=>h) hn1 za rfl rfl rfl rfl rfl rfl rfl _ ?_) ?_
   ·exact qS
   ·intro x2 hx2;((try refine qM ?_);repeat' (first | exact trivial | assumption | assumption | omega | exact qV | refine And.intro ?_ ?_))
   ·intro xc x2 hx2
    have hn2:=hx2.n.trans hn1
    exact ⟨⟨trivial,zgA _ _ hn2 za rfl rfl rfl rfl rfl rfl rfl rfl rfl rfl rfl⟩,zes _ hn2 za rfl ⟨rfl,_,_,_,rfl,rfl,rfl,rfl,rfl,rfl⟩ rfl rfl rfl rfl rfl rfl rfl (by rw [hlx];simp only [List.length_cons,List.length_nil];show _*88≤_;omega)⟩
   ·((intro _;repeat' (first | exact trivial | exact rfl | refine And.intro ?_ ?_)))
   ·rintro xc Po x2 ⟨t1,hq⟩ hx2 k1 n1 d1
    exact ⟨hx2,_,hcp.next k1 n1 d1 hlt hq⟩
   ·rintro xc x2 ⟨hx2,tg',hq⟩
    have hn2:=hx2.n.trans hn1
    refine zx hn2 za rfl ?_ ⟨(i+1+1,xs++[xc],tg'),hq,by show _-(i+1+1)<_-(i+1);omega,?_⟩
    ·exact qS
    ·refine zt [(301,40)] ?_ ?_ rfl
     ·exact qL
     ·exact qL
  have hie:i+1=e.chans.length:=by have:=hcp.le;omega
  have hcp':CpC (z7 x1) tg e.chans e.chans.length xs:=hie ▸ hcp
  clear hcp
  refine znp dXM cXM (zi2 e.mus) (id:=200) rfl (by rw [zi2,List.map_map];rfl) ?_
  refine zcB hn1 za rfl ?_ (fun (y:Nat×List zdt×(Nat→Nat)) wT wM=>((46,.dat (.int .i64 (y.1:Nat)))::wT,(200,some (.row 193 2 dXM cXM y.2.1))::wM)) (fun y x=>CpC (z7 x) y.2.2 e.chans e.chans.length xs∧CpM (z7 x) y.2.2 e.mus y.1 y.2.1) (fun y=>e.mus.length-y.1) (0,zi2 e.mus,tg) ⟨hcp',Nat.zero_le _,by rw [zi2,List.length_map],fun k hk=>by omega,fun k hk _=>by rw [zi2,List.getD_eq_getElem?_getD,List.getElem?_map,List.getElem?_eq_getElem hk,List.getD_eq_getElem?_getD,List.getElem?_eq_getElem hk];rfl⟩ (zt [] ?_ ?_ rfl) ?_
  ·exact qS
  ·exact qL
  ·exact qL
  have hxl:(zi2 e.mus).length=e.mus.length:=by rw [zi2,List.length_map]
  rintro ⟨i,ys,tg2⟩ x3 hx3 ⟨hcc,hcm⟩
  have hcc:CpC (z7 x3) tg2 e.chans e.chans.length xs:=hcc
  have hcm:CpM (z7 x3) tg2 e.mus i ys:=hcm
  have hn3:=hx3.n.trans hn1
  have hn:=hn3
  have hly:=hcm.len
  refine ze hn za rfl qS ?_ ?_<;>intro hc<;>first | (replace hc:=qC2 hc;try exact qX) | exact qF2 hc | skip
  ·have hlt:i<e.mus.length:=by omega
   have hri:=hcm.r i hlt (Nat.le_refl _)
   have hcall:CtG Tryz.prog 213 [.dat (wC (ys.getD i dXM).wait)] [] zip (fun r Mo Po=>∃ v,r=.dat (.val v)∧Mo=[]∧Qv Po (fun _=>True) 3 1 iC (e.mus.getD i zj).wait v):=by
    rw [hri]
    exact zgD (zda _ (by have:=hL.m i hlt;omega)) (fun _ _=>rfl)
   refine zew (Y:=Value) zle hn3 za zu rfl ?_ 9 rfl rfl [] (fun _=>rfl) ?_ (fun v=>.dat (.val v)) rfl (fun v=>[.raw .no [(200,some (.row 193 2 dXM cXM (ys.set i {ys.getD i dXM with wait:=.inl v})))] none]) (fun _ _=>rfl) ?_ ?_ ?_ ?_ (fun v x4=>Sib x3 x4∧∃ tg',CpC (z7 x4) tg' e.chans e.chans.length xs∧CpM (z7 x4) tg' e.mus (i+1) (ys.set i {ys.getD i dXM with wait:=.inl v})) (fun _ _ h=>h.1) ?_ ?_
   ·exact qS
   ·intro x4 hx4;((try refine qM ?_);repeat' (first | exact trivial | assumption | assumption | omega | exact qV | refine And.intro ?_ ?_))
   ·intro v x4 hx4
    have hn4:=hx4.n.trans hn3
    (try refine qM ?_);repeat' (first | exact trivial | assumption | assumption | omega | exact qV | refine And.intro ?_ ?_)
    exact zab _ hn4 za rfl ⟨_,_,rfl,rfl,rfl⟩ rfl rfl rfl rfl rfl (Nat.le_of_ble_eq_true rfl) rfl rfl
   ·kernel_rfl
   ·intro v;kernel_rfl
   ·((intro _;repeat' (first | exact trivial | exact rfl | refine And.intro ?_ ?_)))
   ·refine zkt [false] hcall (fun _ _ h=>h) hn3 za rfl rfl rfl rfl rfl rfl rfl _ ?_
    rintro v Po x4 hq hx4 k1 n1 d1
    exact ⟨hx4,_,hcc.mono k1 d1,hcm.next k1 n1 d1 hlt hq⟩
   ·rintro v x4 ⟨hx4,tg',hq1,hq2⟩
    have hn4:=hx4.n.trans hn3
    refine zx hn4 za rfl ?_ ⟨(i+1,_,tg'),⟨hq1,hq2⟩,by show _-(i+1)<_-i;omega,?_⟩
    ·exact qS
    ·refine zt [] ?_ ?_ rfl
     ·exact qL
     ·exact qL
  have hie:i=e.mus.length:=by have:=hcm.le;omega
  subst hie
  refine zf hn3 za rfl ?_ ⟨_,.lagg [.own 501,.own 502,.own 503],(501,some (.row 172 5 zd zH e.gs))::[(502,some (.row 191 5 dXC cXC xs)),(503,some (.row 193 2 dXM cXM ys))],[(501,300),(502,301),(503,200)],z7 x3,rfl,rfl,⟨?_,?_,?_,trivial⟩,rfl,rfl,rfl,fun _ _ h=>h,xs,ys,tg2,.own 502,.own 503,[(502,some (.row 191 5 dXC cXC xs))],[(503,some (.row 193 2 dXM cXM ys))],hcc,hcm,rfl,rfl,.inl ⟨rfl,rfl⟩,.inl ⟨rfl,rfl⟩⟩
  ·exact qS
  ·exact congrArg (fun l=>some (Blk.row 172 5 zd zH l)) htake
  ·rfl
  ·rfl
 ·intro hm0
  refine zM hn za rfl ?_ (fun (i:Nat) wT wM=>match i with
   | 0=>((16,.dat (.int .i64 ((0:Nat):Int)))::wT,(3,some (.box 45 (.lagg [.nil (zbI []),.nil (zy []),.nil (zm [])])))::wM)
   | j+1=>((16,.dat (.int .i64 ((j+1:Nat):Int)))::wT,(3,some (.box 45 (.lagg [.own 300,.nil (zy []),.nil (zm [])])))::(300,some (.row 172 5 zd zH (e.gs.take (j+1))))::wM)) (fun i=>i≤e.gs.length) (fun i=>e.gs.length-i) 0 (Nat.zero_le _) (zt [] ?_ ?_ rfl) ?_
  ·exact qS
  ·exact qL
  ·exact qL
  intro i hi
  have hround:∀ i<e.gs.length,Con Tryz.prog 211 [.dagg (zH (e.gs.getD i zd))] (.dagg (zH (e.gs.getD i zd))):=fun i hi=>zgu _ (by have:=(hL.g i hi).1;omega) (by have:=(hL.g i hi).2;omega)
  cases i with
  | zero=>
   have hcg:=hround 0 hg0
   have htk:e.gs.take 1=[e.gs.getD 0 zd]:=by rw [ze1 zd hg0];rfl
   refine ze hn za rfl qS ?_ ?_<;>intro hc<;>first | (replace hc:=qC2 hc;try exact qX) | exact qF2 hc | skip
   refine qD hn za zu [.r (.dagg (zH (e.gs.getD 0 zd))),.raw (.own 24) [(24,some (.row 172 5 zd zH [e.gs.getD 0 zd]))] (some 24),.raw (.own 25) [(25,some (.row 172 5 zd zH [e.gs.getD 0 zd]))] (some 25)] rfl rfl ?_ ?_
   ·(try refine qM ?_);repeat' (first | exact trivial | assumption | assumption | omega | exact qV | refine And.intro ?_ ?_)
    exact zfu [e.gs.getD 0 zd] hn za rfl ⟨rfl,_,_,_,rfl,rfl,rfl,rfl,rfl,rfl⟩ (.inr rfl) rfl rfl rfl rfl (by simp) rfl rfl (by simp)
   refine zx hn za rfl ?_ ⟨1,hg0,by omega,?_⟩
   ·exact qS
   ·refine zt [(300,25)] ?_ ?_ rfl
    ·exact qL
    ·show LeM _ _ ((3,_)::(300,some (.row 172 5 zd zH (e.gs.take 1)))::_)
     rw [htk];exact qL
  | succ i=>
  refine ze hn za rfl qS ?_ ?_<;>intro hc<;>first | (replace hc:=qC2 hc;try exact qX) | exact qF2 hc | skip
  ·have hlt:i+1<e.gs.length:=by omega
   have hcg:=hround (i+1) hlt
   have htk:(e.gs.take (i+1)).length=i+1:=by rw [List.length_take];omega
   refine qD hn za zu [.r (.dagg (zH (e.gs.getD (i+1) zd))),.raw (.own 24) [(24,some (.row 172 5 zd zH [e.gs.getD (i+1) zd]))] (some 24),.raw (.own 25) [(25,some (.row 172 5 zd zH (e.gs.take (i+1)++[e.gs.getD (i+1) zd]))),(300,none)] (some 25)] rfl rfl ?_ ?_
   ·(try refine qM ?_);repeat' (first | exact trivial | assumption | assumption | omega | exact qV | refine And.intro ?_ ?_)
   refine zx hn za rfl ?_ ⟨i+1+1,by omega,by omega,?_⟩
   ·exact qS
   ·refine zt [(300,25)] ?_ ?_ rfl
    ·exact qL
    ·show LeM _ _ ((3,_)::(300,some (.row 172 5 zd zH (e.gs.take (i+1+1))))::_)
     rw [ze1 zd hlt];exact qL
  have hie:i+1=e.gs.length:=by omega
  have htake:e.gs.take (i+1)=e.gs:=by rw [hie,List.take_length]
  clear hround
  refine zcB hn za rfl ?_ (fun (y:Nat×List zcW×(Nat→Nat)) wT wM=>match y with
   | (0,_,_)=>((31,.dat (.int .i64 ((0:Nat):Int)))::wT,(3,some (.box 45 (.lagg [.own 300,.nil (zy []),.nil (zm [])])))::wM)
   | (j+1,xs,_)=>((31,.dat (.int .i64 ((j+1:Nat):Int)))::wT,(3,some (.box 45 (.lagg [.own 300,.own 301,.nil (zm [])])))::(301,some (.row 191 5 dXC cXC xs))::wM)) (fun y x=>CpC (z7 x) y.2.2 e.chans y.1 y.2.1) (fun y=>e.chans.length-y.1) (0,[],fun _=>0) ⟨Nat.zero_le _,rfl,fun k hk=>by omega⟩ (zt [] ?_ ?_ rfl) ?_
  ·exact qS
  ·exact qL
  ·exact qL
  rintro ⟨i,xs,tg⟩ x1 hx1 hcp
  have hcp:CpC (z7 x1) tg e.chans i xs:=hcp
  have hn1:=hx1.n.trans hn
  have hn:=hn1
  have hcall:∀ i<e.chans.length,CtG Tryz.prog 212 [.dagg (zae (e.chans.getD i zg))] [] zip (fun r Mo Po=>∃ xc:zcW,r=.dagg (cXC xc)∧Mo=[]∧∃ tg,zky Po tg 0 (e.chans.getD i zg) xc):=fun i hi=>zfY _ (by obtain ⟨h1,h2,h3⟩:=hL.c i hi;exact ⟨by omega,by omega,by omega⟩)
  cases i with
  | zero=>
   refine ze hn za rfl ?_ (fun hc=>?_) (fun hc=>?_);exact qS;all_goals (try simp only [decide_eq_true_eq,decide_eq_false_iff_not,Bool.not_eq_true',Bool.not_eq_false',Int.not_lt,Int.not_le,Int.toNat_natCast] at hc)
   ·have hlt:0<e.chans.length:=by simpa using hc
    refine zew (Y:=zcW) dXC hn1 za zu rfl ?_ 3 rfl rfl [] (fun _=>rfl) ?_ (fun xc=>.dagg (cXC xc)) rfl (fun xc=>[.raw (.own 39) [(39,some (.row 191 5 dXC cXC [xc]))] (some 39),.raw (.own 40) [(40,some (.row 191 5 dXC cXC [xc]))] (some 40)]) (fun _ _=>rfl) ?_ rfl (fun _=>rfl) ?_ (fun xc x2=>Sib x1 x2∧∃ tg',CpC (z7 x2) tg' e.chans 1 (xs++[xc])) (fun _ _ h=>h.1) (zkt [false] (hcall 0 hlt) (fun _ _ h=>h) hn1 za rfl rfl rfl rfl rfl rfl rfl _ ?_) ?_
    ·exact qS
    ·intro x2 hx2;((try refine qM ?_);repeat' (first | exact trivial | assumption | assumption | omega | exact qV | refine And.intro ?_ ?_))
    ·intro xc x2 hx2
     have hn2:=hx2.n.trans hn1
     refine ⟨⟨trivial,zgA _ _ hn2 za rfl rfl rfl rfl rfl rfl rfl rfl rfl rfl rfl⟩,zmk [xc] hn2 za rfl ⟨rfl,_,_,_,rfl,rfl,rfl,rfl,rfl,rfl⟩ ⟨_,rfl⟩ rfl rfl rfl rfl (by simp) rfl rfl (by simp)⟩
    ·((intro _;repeat' (first | exact trivial | exact rfl | refine And.intro ?_ ?_)))
    ·rintro xc Po x2 ⟨t1,hq⟩ hx2 k1 n1 d1
     exact ⟨hx2,_,hcp.next k1 n1 d1 hlt hq⟩
    ·rintro xc x2 ⟨hx2,tg',hq⟩
     have hn2:=hx2.n.trans hn1
     have hx0:xs=[]:=List.length_eq_zero_iff.1 hcp.len
     subst hx0
     refine zx hn2 za rfl ?_ ⟨(1,[xc],tg'),hq,by show _-1<_-0;omega,?_⟩
     ·exact qS
     ·refine zt [(301,40)] ?_ ?_ rfl
      ·exact qL
      ·exact qL
   ·have hz:e.chans=[]:=List.length_eq_zero_iff.1 (by omega)
    have hcp':CpC (z7 x1) tg e.chans e.chans.length xs:=by rw [hz];rw [hz] at hcp;exact hcp
    refine zM hn1 za rfl ?_ (fun (y:Nat) wT wM=>((46,.dat (.int .i64 (y:Nat)))::wT,wM)) (fun y=>y=0) (fun y=>y) 0 rfl (zt [] ?_ ?_ rfl) ?_
    ·exact qS
    ·exact qL
    ·exact qL
    rintro i rfl
    refine ze hn za rfl qS ?_ ?_<;>intro hc<;>first | (replace hc:=qC2 hc;try exact qX) | exact qF2 hc | skip
    refine zf hn1 za rfl ?_ ⟨_,.lagg [.own 501,lnC,lnM],(501,some (.row 172 5 zd zH e.gs))::[],[(501,300),(502,301)],z7 x1,rfl,rfl,⟨?_,trivial⟩,rfl,rfl,rfl,fun _ _ h=>h,xs,[],tg,lnC,lnM,[],[],hcp',⟨Nat.le_refl _,(by rw [hm0];rfl),fun k hk=>(by rw [hm0] at hk;cases hk),fun k hk=>(by rw [hm0] at hk;cases hk)⟩,rfl,rfl,.inr ⟨hz,rfl,rfl⟩,.inr ⟨hm0,rfl,rfl⟩⟩
    ·exact qS
    ·exact congrArg (fun l=>some (Blk.row 172 5 zd zH l)) htake
  | succ i=>
  refine ze hn za rfl qS ?_ ?_<;>intro hc<;>first | (replace hc:=qC2 hc;try exact qX) | exact qF2 hc | skip
  ·have hlt:i+1<e.chans.length:=by omega
   have hlx:=hcp.len
   refine zew (Y:=zcW) dXC hn1 za zu rfl ?_ 3 rfl rfl [] (fun _=>rfl) ?_ (fun xc=>.dagg (cXC xc)) rfl (fun xc=>[.raw (.own 39) [(39,some (.row 191 5 dXC cXC [xc]))] (some 39),.raw (.own 40) [(40,some (.row 191 5 dXC cXC (xs++[xc]))),(301,none)] (some 40)]) (fun _ _=>rfl) ?_ rfl (fun _=>rfl) ?_ (fun xc x2=>Sib x1 x2∧∃ tg',CpC (z7 x2) tg' e.chans (i+1+1) (xs++[xc])) (fun _ _ h=>h.1) (zkt [false] (hcall (i+1) hlt) (fun _ _ h=>h) hn1 za rfl rfl rfl rfl rfl rfl rfl _ ?_) ?_
   ·exact qS
   ·intro x2 hx2;((try refine qM ?_);repeat' (first | exact trivial | assumption | assumption | omega | exact qV | refine And.intro ?_ ?_))
   ·intro xc x2 hx2
    have hn2:=hx2.n.trans hn1
    exact ⟨⟨trivial,zgA _ _ hn2 za rfl rfl rfl rfl rfl rfl rfl rfl rfl rfl rfl⟩,zes _ hn2 za rfl ⟨rfl,_,_,_,rfl,rfl,rfl,rfl,rfl,rfl⟩ rfl rfl rfl rfl rfl rfl rfl (by rw [hlx];simp only [List.length_cons,List.length_nil];show _*88≤_;omega)⟩
   ·((intro _;repeat' (first | exact trivial | exact rfl | refine And.intro ?_ ?_)))
   ·rintro xc Po x2 ⟨t1,hq⟩ hx2 k1 n1 d1
    exact ⟨hx2,_,hcp.next k1 n1 d1 hlt hq⟩
   ·rintro xc x2 ⟨hx2,tg',hq⟩
    have hn2:=hx2.n.trans hn1
    refine zx hn2 za rfl ?_ ⟨(i+1+1,xs++[xc],tg'),hq,by show _-(i+1+1)<_-(i+1);omega,?_⟩
    ·exact qS
    ·refine zt [(301,40)] ?_ ?_ rfl
     ·exact qL
     ·exact qL
  have hie:i+1=e.chans.length:=by have:=hcp.le;omega
  have hcp':CpC (z7 x1) tg e.chans e.chans.length xs:=hie ▸ hcp
  clear hcp
  refine zM hn1 za rfl ?_ (fun (y:Nat) wT wM=>((46,.dat (.int .i64 (y:Nat)))::wT,wM)) (fun y=>y=0) (fun y=>y) 0 rfl (zt [] ?_ ?_ rfl) ?_
  ·exact qS
  ·exact qL
  ·exact qL
  rintro i rfl
  refine ze hn za rfl qS ?_ ?_<;>intro hc<;>first | (replace hc:=qC2 hc;try exact qX) | exact qF2 hc | skip
  refine zf hn1 za rfl ?_ ⟨_,.lagg [.own 501,.own 502,lnM],(501,some (.row 172 5 zd zH e.gs))::[(502,some (.row 191 5 dXC cXC xs))],[(501,300),(502,301)],z7 x1,rfl,rfl,⟨?_,?_,trivial⟩,rfl,rfl,rfl,fun _ _ h=>h,xs,[],tg,.own 502,lnM,[(502,some (.row 191 5 dXC cXC xs))],[],hcp',⟨Nat.le_refl _,(by rw [hm0];rfl),fun k hk=>(by rw [hm0] at hk;cases hk),fun k hk=>(by rw [hm0] at hk;cases hk)⟩,rfl,rfl,.inl ⟨rfl,rfl⟩,.inr ⟨hm0,rfl,rfl⟩⟩
  ·exact qS
  ·exact congrArg (fun l=>some (Blk.row 172 5 zd zH l)) htake
  ·rfl
end Go.Proofs.YtjmefaihkblliaaGreat.Ab

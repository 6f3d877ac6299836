/- The law FnExactEndOf returns true at every argument. Conditions: none. -/
import Derived.Deep.RegionHeld3
import Derived.Deep.CutRange
import Derived.Test.YtjmefaihkblliaaGreatC08
namespace Go.Proofs.YtjmefaihkblliaaGreat.Wd
open Go.RowKit
open Go.Proofs.YtjmefaihkblliaaGreat.Ab (zaj zax zaD zcZ zn zo zY zal zbl zW zz zbR)
set_option linter.unusedVariables false
set_option linter.unusedSimpArgs false
set_option maxHeartbeats 4000000
set_option maxRecDepth 100000
theorem zsD (a0:zn) (a1:List zbR) (cs0:List Value) (A1:Option Addr) (c1:Nat) (w:World) (h0:zd3.K w a0 cs0) (h1:zdP.Row w A1 a1) (l1:a1.length≤c1) :
 Calls Tryz.prog 4 #[.agg cs0.toArray,.slice A1 a1.length c1] w fun e w'=>e=.returned (.bool true)∧Below w.heap.size w w':=by
 obtain ⟨Ea0_0,ea0_0,Ea0_1,ea0_1,Ea0_2,ea0_2,rfl,l0_0,r0_0,l0_1,r0_1,l0_2,r0_2⟩:=zjG h0
 have R0_0:=Lib.hid r0_0;clear r0_0
 have R0_1:=Lib.hid r0_1;clear r0_1
 have R0_2:=Lib.hid r0_2;clear r0_2
 have R1:=Lib.hid h1
 clear h0 h1
 by_cases hc0:((zdF a0:Nat):Int)≤1048576
 rotate_left
 ·go_enter Tryz.func4,Tryz.ntmps4
  go_wp2_with fail
  refine (zjC (zgL a0 [_,_,_,_] (1048576) _ (zgC _ _ l0_0 (R0_0.out.below bel) l0_1 (R0_1.out.below bel) l0_2 (R0_2.out.below bel)) (by omega) (by omega)) rfl (by omega)).mono ?_
  rintro e ws0 ⟨rfl,hbs0⟩
  have f0_0_0:ws0.cell? ⟨w.heap.size,0,none⟩=some (.slice Ea0_0 a0.caps.length ea0_0):=by obtain ⟨C,D⟩:=zbV hbs0;go_simp
  have f0_1_0:ws0.cell? ⟨w.heap.size,1,none⟩=some (.int .i64 a0.mus):=by obtain ⟨C,D⟩:=zbV hbs0;go_simp
  have f0_2_0:ws0.cell? ⟨w.heap.size,2,none⟩=some (.slice Ea0_1 a0.sels.length ea0_1):=by obtain ⟨C,D⟩:=zbV hbs0;go_simp
  have f0_3_0:ws0.cell? ⟨w.heap.size,3,none⟩=some (.slice Ea0_2 a0.procs.length ea0_2):=by obtain ⟨C,D⟩:=zbV hbs0;go_simp
  have z0_ws0:w.heap.size<ws0.heap.size:=World.block_lt_of_cell? _ _ f0_0_0
  go_wp2
  go_ret
  exact ⟨rfl,bel⟩
 by_cases hc1:((zdF a0:Nat):Int)+((a1.length:Nat):Int)≤1048576
 rotate_left
 ·have t0:decide (1048576-((zdF a0:Nat):Int)<0)=false:=by simp;omega
  go_enter Tryz.func4,Tryz.ntmps4
  go_wp2_with fail
  refine (zeJ (zgL a0 [_,_,_,_] (1048576) _ (zgC _ _ l0_0 (R0_0.out.below bel) l0_1 (R0_1.out.below bel) l0_2 (R0_2.out.below bel)) (by omega) (by omega)) rfl (by omega)).mono ?_
  rintro e ws0 ⟨rfl,hbs0⟩
  have f0_0_1:ws0.cell? ⟨w.heap.size,0,none⟩=some (.slice Ea0_0 a0.caps.length ea0_0):=by obtain ⟨C,D⟩:=zbV hbs0;go_simp
  have f0_1_1:ws0.cell? ⟨w.heap.size,1,none⟩=some (.int .i64 a0.mus):=by obtain ⟨C,D⟩:=zbV hbs0;go_simp
  have f0_2_1:ws0.cell? ⟨w.heap.size,2,none⟩=some (.slice Ea0_1 a0.sels.length ea0_1):=by obtain ⟨C,D⟩:=zbV hbs0;go_simp
  have f0_3_1:ws0.cell? ⟨w.heap.size,3,none⟩=some (.slice Ea0_2 a0.procs.length ea0_2):=by obtain ⟨C,D⟩:=zbV hbs0;go_simp
  have z0_ws0:w.heap.size<ws0.heap.size:=World.block_lt_of_cell? _ _ f0_0_1
  go_wp2_with fail
  refine (zjC (ziG a1 _ _ (1048576-((zdF a0:Nat):Int)) _ (R1.out.below bel) (by omega) (by omega)) rfl (by omega)).mono ?_
  rintro e ws1 ⟨rfl,hbs1⟩
  have hk2:Below ws0.heap.size ws0 ws1:=bel
  have f0_0_2:=zaf hk2 f0_0_1
  have f0_1_2:=zaf hk2 f0_1_1
  have f0_2_2:=zaf hk2 f0_2_1
  have f0_3_2:=zaf hk2 f0_3_1
  clear f0_0_1 f0_1_1 f0_2_1 f0_3_1 z0_ws0
  have z0_ws1:w.heap.size<ws1.heap.size:=World.block_lt_of_cell? _ _ f0_0_2
  go_wp2
  go_ret
  exact ⟨rfl,bel⟩
 have t0:decide (1048576-((zdF a0:Nat):Int)<0)=false:=by simp;omega
 have t1:decide (1048576-((zdF a0:Nat):Int)-((a1.length:Nat):Int)<0)=false:=by simp;omega
 go_enter Tryz.func4,Tryz.ntmps4
 go_wp2_with fail
 refine (zeJ (zgL a0 [_,_,_,_] (1048576) _ (zgC _ _ l0_0 (R0_0.out.below bel) l0_1 (R0_1.out.below bel) l0_2 (R0_2.out.below bel)) (by omega) (by omega)) rfl (by omega)).mono ?_
 rintro e ws0 ⟨rfl,hbs0⟩
 have f0_0_3:ws0.cell? ⟨w.heap.size,0,none⟩=some (.slice Ea0_0 a0.caps.length ea0_0):=by obtain ⟨C,D⟩:=zbV hbs0;go_simp
 have f0_1_3:ws0.cell? ⟨w.heap.size,1,none⟩=some (.int .i64 a0.mus):=by obtain ⟨C,D⟩:=zbV hbs0;go_simp
 have f0_2_3:ws0.cell? ⟨w.heap.size,2,none⟩=some (.slice Ea0_1 a0.sels.length ea0_1):=by obtain ⟨C,D⟩:=zbV hbs0;go_simp
 have f0_3_3:ws0.cell? ⟨w.heap.size,3,none⟩=some (.slice Ea0_2 a0.procs.length ea0_2):=by obtain ⟨C,D⟩:=zbV hbs0;go_simp
 have z0_ws0:w.heap.size<ws0.heap.size:=World.block_lt_of_cell? _ _ f0_0_3
 go_wp2_with fail
 refine (zeJ (ziG a1 _ _ (1048576-((zdF a0:Nat):Int)) _ (R1.out.below bel) (by omega) (by omega)) rfl (by omega)).mono ?_
 rintro e ws1 ⟨rfl,hbs1⟩
 have hk4:Below ws0.heap.size ws0 ws1:=bel
 have f0_0_4:=zaf hk4 f0_0_3
 have f0_1_4:=zaf hk4 f0_1_3
 have f0_2_4:=zaf hk4 f0_2_3
 have f0_3_4:=zaf hk4 f0_3_3
 clear f0_0_3 f0_1_3 f0_2_3 f0_3_3 z0_ws0
 have z0_ws1:w.heap.size<ws1.heap.size:=World.block_lt_of_cell? _ _ f0_0_4
 go_wp2_with fail
 go_at_call 14;(refine (zgO a0 [_,_,_,_] _ (zgC _ _ l0_0 (R0_0.out.below bel) l0_1 (R0_1.out.below bel) l0_2 (R0_2.out.below bel)) (by omega)).mono ?_);rintro e wp0 ⟨csp0,bp0,rfl,op0,frp0,hbp0⟩;have Op0:=Lib.hid op0;have Frp0:=Lib.hid frp0;clear frp0;obtain ⟨Ep0_0,ep0_0,yp0_0,Ep0_1,ep0_1,yp0_1,Ep0_2,ep0_2,yp0_2,rfl,rfl,qp0_0,qp0_1,qp0_2⟩:=zoQ op0;clear op0;clear qp0_0 qp0_1 qp0_2
 have hk5:Below ws1.heap.size ws1 wp0:=bel
 have f0_0_5:=zaf hk5 f0_0_4
 have f0_1_5:=zaf hk5 f0_1_4
 have f0_2_5:=zaf hk5 f0_2_4
 have f0_3_5:=zaf hk5 f0_3_4
 clear f0_0_4 f0_1_4 f0_2_4 f0_3_4 z0_ws1
 have z0_wp0:w.heap.size<wp0.heap.size:=World.block_lt_of_cell? _ _ f0_0_5
 go_wp2_with fail
 go_at_call 26;(refine (zf8 a1 _ _ _ (R1.out.below bel) (by omega)).mono ?_);rintro e wp1 ⟨Ep1,ep1,bp1,rfl,op1,frp1,hbp1⟩;have Op1:=Lib.hid op1;have Frp1:=Lib.hid frp1;clear frp1 op1
 have hk6:Below wp0.heap.size wp0 wp1:=bel
 have f0_0_6:=zaf hk6 f0_0_5
 have f0_1_6:=zaf hk6 f0_1_5
 have f0_2_6:=zaf hk6 f0_2_5
 have f0_3_6:=zaf hk6 f0_3_5
 clear f0_0_5 f0_1_5 f0_2_5 f0_3_5 z0_wp0
 have z0_wp1:w.heap.size<wp1.heap.size:=World.block_lt_of_cell? _ _ f0_0_6
 go_wp2_with fail
 go_at_call 25;(refine (zka a0 a1 [_,_,_,_] _ _ _ (zu2 (d:=zd3) bel Op0.out) (zrv bel Op1.out) (by omega) (by omega)).mono ?_);rintro e wq ⟨rfl,hbq⟩
 have hk7:Below wp1.heap.size wp1 wq:=bel
 have f0_0_7:=zaf hk7 f0_0_6
 have f0_1_7:=zaf hk7 f0_1_6
 have f0_2_7:=zaf hk7 f0_2_6
 have f0_3_7:=zaf hk7 f0_3_6
 clear f0_0_6 f0_1_6 f0_2_6 f0_3_6 z0_wp1
 have z0_wq:w.heap.size<wq.heap.size:=World.block_lt_of_cell? _ _ f0_0_7
 go_wp2_with fail
 go_at_call 14;(refine (zgO a0 [_,_,_,_] _ (zgC _ _ l0_0 (R0_0.out.below bel) l0_1 (R0_1.out.below bel) l0_2 (R0_2.out.below bel)) (by omega)).mono ?_);rintro e wx0 ⟨csx0,bx0,rfl,ox0,frx0,hbx0⟩;have Ox0:=Lib.hid ox0;have Frx0:=Lib.hid frx0;clear frx0;obtain ⟨Ex0_0,ex0_0,yx0_0,Ex0_1,ex0_1,yx0_1,Ex0_2,ex0_2,yx0_2,rfl,rfl,qx0_0,qx0_1,qx0_2⟩:=zoQ ox0;clear ox0;clear qx0_0 qx0_1 qx0_2
 have hk8:Below wq.heap.size wq wx0:=bel
 have f0_0_8:=zaf hk8 f0_0_7
 have f0_1_8:=zaf hk8 f0_1_7
 have f0_2_8:=zaf hk8 f0_2_7
 have f0_3_8:=zaf hk8 f0_3_7
 clear f0_0_7 f0_1_7 f0_2_7 f0_3_7 z0_wq
 have z0_wx0:w.heap.size<wx0.heap.size:=World.block_lt_of_cell? _ _ f0_0_8
 go_wp2_with fail
 go_at_call 26;(refine (zf8 a1 _ _ _ (R1.out.below bel) (by omega)).mono ?_);rintro e wx1 ⟨Ex1,ex1,bx1,rfl,ox1,frx1,hbx1⟩;have Ox1:=Lib.hid ox1;have Frx1:=Lib.hid frx1;clear frx1 ox1
 have hk9:Below wx0.heap.size wx0 wx1:=bel
 have f0_0_9:=zaf hk9 f0_0_8
 have f0_1_9:=zaf hk9 f0_1_8
 have f0_2_9:=zaf hk9 f0_2_8
 have f0_3_9:=zaf hk9 f0_3_8
 have f1_0_9:wx1.cell? ⟨wx0.heap.size,0,none⟩=some (.slice Ex0_0 a0.caps.length ex0_0):=by obtain ⟨C,D⟩:=zbV hbx1;go_simp
 have f1_1_9:wx1.cell? ⟨wx0.heap.size,1,none⟩=some (.int .i64 a0.mus):=by obtain ⟨C,D⟩:=zbV hbx1;go_simp
 have f1_2_9:wx1.cell? ⟨wx0.heap.size,2,none⟩=some (.slice Ex0_1 a0.sels.length ex0_1):=by obtain ⟨C,D⟩:=zbV hbx1;go_simp
 have f1_3_9:wx1.cell? ⟨wx0.heap.size,3,none⟩=some (.slice Ex0_2 a0.procs.length ex0_2):=by obtain ⟨C,D⟩:=zbV hbx1;go_simp
 clear f0_0_8 f0_1_8 f0_2_8 f0_3_8 z0_wx0
 have z0_wx1:w.heap.size<wx1.heap.size:=World.block_lt_of_cell? _ _ f0_0_9
 have z1_wx1:wx0.heap.size<wx1.heap.size:=World.block_lt_of_cell? _ _ f1_0_9
 go_wp2_with fail
 go_at_call 27;(refine (zkn a0 a1 [_,_,_,_] _ _ _ (zu2 (d:=zd3) bel Ox0.out) (zrv bel Ox1.out) (by omega) (by omega)).mono ?_);rintro e wi ⟨rfl,hbi⟩
 have hk10:Below wx1.heap.size wx1 wi:=bel
 have f0_0_10:=zaf hk10 f0_0_9
 have f0_1_10:=zaf hk10 f0_1_9
 have f0_2_10:=zaf hk10 f0_2_9
 have f0_3_10:=zaf hk10 f0_3_9
 have f1_0_10:=zaf hk10 f1_0_9
 have f1_1_10:=zaf hk10 f1_1_9
 have f1_2_10:=zaf hk10 f1_2_9
 have f1_3_10:=zaf hk10 f1_3_9
 clear f0_0_9 f0_1_9 f0_2_9 f0_3_9 f1_0_9 f1_1_9 f1_2_9 f1_3_9 z0_wx1 z1_wx1
 have z0_wi:w.heap.size<wi.heap.size:=World.block_lt_of_cell? _ _ f0_0_10
 have z1_wi:wx0.heap.size<wi.heap.size:=World.block_lt_of_cell? _ _ f1_0_10
 go_wp2_with fail
 refine zuR ?_
 intro W11 hW11
 have hbW11:Below wi.heap.size wi W11:=by rw [hW11];exact bel
 have f0_0_11:=zaf hbW11 f0_0_10
 have f0_1_11:=zaf hbW11 f0_1_10
 have f0_2_11:=zaf hbW11 f0_2_10
 have f0_3_11:=zaf hbW11 f0_3_10
 have f1_0_11:=zaf hbW11 f1_0_10
 have f1_1_11:=zaf hbW11 f1_1_10
 have f1_2_11:=zaf hbW11 f1_2_10
 have f1_3_11:=zaf hbW11 f1_3_10
 clear hW11
 clear f0_0_10 f0_1_10 f0_2_10 f0_3_10 f1_0_10 f1_1_10 f1_2_10 f1_3_10 z0_wi z1_wi
 have z0_W11:w.heap.size<W11.heap.size:=World.block_lt_of_cell? _ _ f0_0_11
 have z1_W11:wx0.heap.size<W11.heap.size:=World.block_lt_of_cell? _ _ f1_0_11
 go_region_held3 (fun w'=>w'.cell? ⟨w.heap.size,0,none⟩=some (.slice Ea0_0 a0.caps.length ea0_0)∧w'.cell? ⟨w.heap.size,1,none⟩=some (.int .i64 a0.mus)∧w'.cell? ⟨w.heap.size,2,none⟩=some (.slice Ea0_1 a0.sels.length ea0_1)∧w'.cell? ⟨w.heap.size,3,none⟩=some (.slice Ea0_2 a0.procs.length ea0_2)∧w'.cell? ⟨wx0.heap.size,0,none⟩=some (.slice Ex0_0 a0.caps.length ex0_0)∧w'.cell? ⟨wx0.heap.size,1,none⟩=some (.int .i64 a0.mus)∧w'.cell? ⟨wx0.heap.size,2,none⟩=some (.slice Ex0_1 a0.sels.length ex0_1)∧w'.cell? ⟨wx0.heap.size,3,none⟩=some (.slice Ex0_2 a0.procs.length ex0_2)) (exact ⟨zaf bel f0_0_11,zaf bel f0_1_11,zaf bel f0_2_11,zaf bel f0_3_11,zaf bel f1_0_11,zaf bel f1_1_11,zaf bel f1_2_11,zaf bel f1_3_11⟩)
  (first
   | (go_at_call 14;(with_reducible refine (zgO a0 [_,_,_,_] _ (zgC _ _ l0_0 (R0_0.out.below bel) l0_1 (R0_1.out.below bel) l0_2 (R0_2.out.below bel)) (by omega)).mono ?_);rintro e we0 ⟨cse0,be0,rfl,oe0,fre0,hbe0⟩;have Oe0:=Lib.hid oe0;have Fre0:=Lib.hid fre0;clear fre0;obtain ⟨Ee0_0,ee0_0,ye0_0,Ee0_1,ee0_1,ye0_1,Ee0_2,ee0_2,ye0_2,rfl,rfl,qe0_0,qe0_1,qe0_2⟩:=zoQ oe0;clear oe0;clear qe0_0 qe0_1 qe0_2)
   | (go_at_call 18;(with_reducible refine (zoW a0 a0 [_,_,_,_] [_,_,_,_] _ (zd3.K_below bel (zd3.O_K Ox0.out)) (zd3.K_below bel (zd3.O_K Oe0.out))).mono ?_);rintro e wr0 ⟨rfl,hbr0⟩))
 have hk12:Below W11.heap.size W11 wr0:=bel
 have f0_0_12:=zaf hk12 f0_0_11
 have f0_1_12:=zaf hk12 f0_1_11
 have f0_2_12:=zaf hk12 f0_2_11
 have f0_3_12:=zaf hk12 f0_3_11
 have f1_0_12:=zaf hk12 f1_0_11
 have f1_1_12:=zaf hk12 f1_1_11
 have f1_2_12:=zaf hk12 f1_2_11
 have f1_3_12:=zaf hk12 f1_3_11
 clear f0_0_11 f0_1_11 f0_2_11 f0_3_11 f1_0_11 f1_1_11 f1_2_11 f1_3_11 z0_W11 z1_W11
 have z0_wr0:w.heap.size<wr0.heap.size:=World.block_lt_of_cell? _ _ f0_0_12
 have z1_wr0:wx0.heap.size<wr0.heap.size:=World.block_lt_of_cell? _ _ f1_0_12
 go_wp2_with fail
 go_at_call 26;(refine (zf8 a1 _ _ _ (R1.out.below bel) (by omega)).mono ?_);rintro e we1 ⟨Ee1,ee1,be1,rfl,oe1,fre1,hbe1⟩;have Oe1:=Lib.hid oe1;have Fre1:=Lib.hid fre1;clear fre1 oe1
 have hk13:Below wr0.heap.size wr0 we1:=bel
 have f0_0_13:=zaf hk13 f0_0_12
 have f0_1_13:=zaf hk13 f0_1_12
 have f0_2_13:=zaf hk13 f0_2_12
 have f0_3_13:=zaf hk13 f0_3_12
 have f1_0_13:=zaf hk13 f1_0_12
 have f1_1_13:=zaf hk13 f1_1_12
 have f1_2_13:=zaf hk13 f1_2_12
 have f1_3_13:=zaf hk13 f1_3_12
 clear f0_0_12 f0_1_12 f0_2_12 f0_3_12 f1_0_12 f1_1_12 f1_2_12 f1_3_12 z0_wr0 z1_wr0
 have z0_we1:w.heap.size<we1.heap.size:=World.block_lt_of_cell? _ _ f0_0_13
 have z1_we1:wx0.heap.size<we1.heap.size:=World.block_lt_of_cell? _ _ f1_0_13
 go_wp2_with fail
 go_at_call 17;(refine (znf _ _ _ _ _ _ _ ((ztF Ox1.out).2.below bel) ((ztF Oe1.out).2.below bel)).mono ?_);rintro e wr1 ⟨rfl,hbr1⟩
 have hk14:Below we1.heap.size we1 wr1:=bel
 have f0_0_14:=zaf hk14 f0_0_13
 have f0_1_14:=zaf hk14 f0_1_13
 have f0_2_14:=zaf hk14 f0_2_13
 have f0_3_14:=zaf hk14 f0_3_13
 have f1_0_14:=zaf hk14 f1_0_13
 have f1_1_14:=zaf hk14 f1_1_13
 have f1_2_14:=zaf hk14 f1_2_13
 have f1_3_14:=zaf hk14 f1_3_13
 clear f0_0_13 f0_1_13 f0_2_13 f0_3_13 f1_0_13 f1_1_13 f1_2_13 f1_3_13 z0_we1 z1_we1
 have z0_wr1:w.heap.size<wr1.heap.size:=World.block_lt_of_cell? _ _ f0_0_14
 have z1_wr1:wx0.heap.size<wr1.heap.size:=World.block_lt_of_cell? _ _ f1_0_14
 go_wp2
 go_ret
 exact ⟨rfl,bel⟩
end Go.Proofs.YtjmefaihkblliaaGreat.Wd

/- Texts of one claim, joined: AbT, AbU, AbV, AbX, AbW, AbTy, Ty, OpE. Conditions: zas each says. -/
import Derived.Laws.StructEq
import Derived.Test.YtjmefaihkblliaaGreatProg
import Derived.Test.YtjmefaihkblliaaGreatC00
import Derived.Test.YtjmefaihkblliaaGreatC01
namespace Go.Proofs.YtjmefaihkblliaaGreat.Ab
open Go.RowKit
set_option linter.unusedVariables false
set_option linter.unusedSimpArgs false
structure zn5 (x x1:Cx) (w w1:World):Prop where
 sib:Sib x x1
 s0:∀ k,x1.S0 k↔(x.S0 k∨(w.heap.size≤k∧k<w1.heap.size))
 own:∀ k,x1.own0 k→(x.own0 k∨x.w0.heap.size≤k)∧¬ x1.S0 k
 w0:x1.w0=w1
section
variable {P:Program} {x x1:Cx} {tb:Tb} {R:Cx→Tl→Ml→Prop} {n:Nat} {o:Oper} {T:Tl} {M:Ml} {k:List It} {w w1:World} {b:Nat} {q q':Obj}
theorem zn5.old (hl:zn5 x x1 w w1) (hp:z7 x b q) (h:w1.heap[b]? = some q'):z7 x1 b q':=
 ⟨(hl.s0 b).2 (.inl hp.s0),fun h=>(hl.own b h).2 ((hl.s0 b).2 (.inl hp.s0)),by rw [hl.sib.ow,hl.sib.oo];exact hp.new,by rw [hl.sib.oS];exact hp.no,by rw [hl.w0];exact h⟩
theorem zn5.fresh (hl:zn5 x x1 w w1) {T:Nat→LV} {M:Mem} {m:Mp} {a:Act} (hr:Rel x T M m a w) (h1:w.heap.size≤b) (h:w1.heap[b]? = some q):z7 x1 b q:=by
 have hlt:=(Array.getElem?_eq_some_iff.1 h).1
 have hs:x1.S0 b:=(hl.s0 b).2 (.inr ⟨h1,hlt⟩)
 have h2:=x.p3.size
 have h3:=hr.same.size
 refine ⟨hs,fun h=>(hl.own b h).2 hs,.inl (by rw [hl.sib.ow];omega),fun ho=>?_,by rw [hl.w0];exact h⟩
 rw [hl.sib.oS] at ho
 have:=hr.s0 b (x.p1 b ho)
 omega
theorem zmq {T:Nat→LV} {M:Mem} {m:Mp} {a:Act} (hr:Rel x T M m a w) (hc:Chg x w w1):∃ x1,zn5 x x1 w w1∧Rel x1 T M m a w1:=by
 obtain ⟨x1,h1,h2,h3,h4,h5⟩:=zv4 hr hc
 exact ⟨x1,⟨h1,h2,h3,h4⟩,h5⟩
theorem zqM (hn:x.n=n) (hdo:zaA n o.dst=true) (h:∀ m a w,Rel x (tm T) (mm M) m a w→∃ nx v w1,(execOp a.eval o).run P w=.ok nx w1∧(nx=.value v∨(nx=.skip∧v=undef))∧Chg x w w1∧∀ x1,zn5 x x1 w w1→Rel x1 (tm T) (mm M) m a w1→∃ l,R3 x1.S0 (mm M) m w1 v l∧Wc P x1 R k (putd o.dst l T) M):OpW P x R o k T M:=by
 intro m a w hr
 obtain ⟨nx,v,w1,hrun,hnx,hc,hk⟩:=h m a w hr
 obtain ⟨x1,hl,hr1⟩:=zmq hr hc
 obtain ⟨l,hv,hwc⟩:=hk x1 hl hr1
 have hgo:Ka P x R k .normal (a.put o.dst v) w1:=Ka.base hl.sib _ _ _ _ (hwc m _ w1 (hr1.putd (hl.sib.n.trans hn) hdo hv))
 unfold Oper.wp
 rw [hrun]
 rcases hnx with rfl | ⟨rfl,rfl⟩
 ·exact hgo
 ·exact hgo
theorem zdU (hn:x.n=n) (htb:zaJ P tb) {all l:List Oper} {s:Prop} {T1:Tl} {M1:Ml} {k1:List It} (ho:run tb n 1000 T M True k=.bad s T1 M1 (.ops all (o::l)::k1)) (hs:s) (hg:o.guard=none) (h:OpW P x R o (.ops all l::k1) T1 M1):Wc P x R k T M:=
 go hn htb ho ⟨hs,ziO hg h⟩
theorem zcB {n:Nat} (hn:x.n=n) (htb:zaJ P tb) {c:Code} {s:Prop} {T1 Ts:Tl} {M1 Ms:Ml} {k1:List It} (ho:run tb n 1000 T M True k=.loop c s T1 Ts M1 Ms k1) (hs:s) {α:Type} (I:α→Tl→Ml→Tl×Ml) (Q:α→Cx→Prop) (μ:α→Nat) (y0:α) (h0:Q y0 x) (hle:Le x T1 M1 (I y0 Ts Ms).1 (I y0 Ts Ms).2)
 (h:∀ y x1,Sib x x1→Q y x1→Wc P x1 R (.code c::.stop (fun x2 T1 M1=>∃ y1,Q y1 x2∧μ y1<μ y∧Le x2 T1 M1 (I y1 Ts Ms).1 (I y1 Ts Ms).2)::k1) (I y Ts Ms).1 (I y Ts Ms).2):Wc P x R k T M:=by
 refine go hn htb ho ⟨hs,fun m a w hr=>?_⟩
 show (Code.loop c).wp P (Ka P x R k1) a w
 refine wp_loop_ghost (fun n a w=>∃ y x1,Sib x x1∧Q y x1∧μ y=n∧∃ m,Rel x1 (tm (I y Ts Ms).1) (mm (I y Ts Ms).2) m a w) (μ y0) ⟨y0,x,.refl x,h0,rfl,hle m a w hr⟩ ?_
 rintro n a w ⟨y,x1,hx,hq,rfl,m,hr⟩
 refine wp_mono (h y x1 hx hq m a w hr) fun e a1 w1 he=>?_
 rcases Ka.bad he with rfl | ⟨i,rfl⟩ | rfl
 ·obtain ⟨x2,hx2,T1,M1,m1,hr1,y1,hq1,hlt,hle1⟩:=he
  obtain ⟨m2,hr2⟩:=hle1 m1 a1 w1 hr1
  exact ⟨μ y1,hlt,y1,x2,hx.trans hx2,hq1,rfl,m2,hr2⟩
 ·exact Ka.base hx _ _ _ _ he
 ·show Ka P x R k1 .ret a1 w1
  rw [Ka.ret]
  exact zhJ.base hx he
/-! ### maps and their iterators -/
theorem zrg {m:Mp} {a:Act} (hr:Rel x (tm T) (mm M) m a w) (o:Obj):Chg x w (w.alloc o):=
 ⟨by rw [World.size_alloc];omega,fun k hk=>.inl (by show (w.heap.push o)[k]? = _;rw [Array.getElem?_push_lt hk,Array.getElem?_eq_getElem hk]),rfl,rfl,rfl⟩
theorem znr (w:World) (o:Obj):(w.alloc o).heap[w.heap.size]? = some o:=by
 show (w.heap.push o)[w.heap.size]? = _
 rw [Array.getElem?_push_size]
theorem znW {w:World} {o:Obj} {k:Nat} {q:Obj} (h:w.heap[k]? = some q):(w.alloc o).heap[k]? = some q:=by
 have hk:=(Array.getElem?_eq_some_iff.1 h).1
 show (w.heap.push o)[k]? = _
 rw [Array.getElem?_push_lt hk,← Array.getElem?_eq_getElem hk];exact h
theorem zpL {t:TypeId} {d:Nat} (hn:x.n=n) (hdo:zaA n o.dst=true) (hop:o.op=.makeMap t none) (hd:o.dst=some d)
 (h:∀ x1 b,Sib x x1→z7 x1 b (.map #[] 0)→(∀ b' o',z7 x b' o'→z7 x1 b' o')→Wc P x1 R k ((d,.dat (.val (.map (some b))))::T) M):OpW P x R o k T M:=
 zqM hn hdo fun m a w hr=>⟨.value (.map (some w.heap.size)),.map (some w.heap.size),w.alloc (.map #[] 0),by
  simp only [execOp,hop,Option.map_none,Instr.makeMap,Sem.run_bind,run_newObj_alloc,Result.andThen_ok,Sem.run_pure],.inl rfl,zrg hr _,fun x1 hl hr1=>⟨.dat (.val (.map (some w.heap.size))),Rf.val _ rfl,by
   rw [hd]
   exact h x1 _ hl.sib (hl.fresh hr (Nat.le_refl _) (znr _ _)) fun b' o' hp=>hl.old hp (znW (hp.now hr))⟩⟩
theorem zed {S:Nat→Prop} {w:World} {v u:Value} (h:Rf S w v (.val u)):v=u:=by cases h;rfl
theorem zrS {t kt et:TypeId} {d b c:Nat} {es:Array MapEntry} {p:Operand} (hn:x.n=n) (hdo:zaA n o.dst=true) (hop:o.op=.range t p) (hd:o.dst=some d) (hp:val T p=.dat (.val (.map (some b)))) (hb:z7 x b (.map es c)) (ht:P.underlying t=some (.map kt et))
 (h:∀ x1 r,Sib x x1→z7 x1 r (.mapIter (some b) c #[] c)→(∀ b' o',z7 x b' o'→z7 x1 b' o')→Wc P x1 R k ((d,.dat (.val (.pointer (some ⟨r,0,none⟩))))::T) M):OpW P x R o k T M:=
 zqM hn hdo fun m a w hr=>⟨.value (.pointer (some ⟨w.heap.size,0,none⟩)),.pointer (some ⟨w.heap.size,0,none⟩),w.alloc (.mapIter (some b) c #[] c),by
  have hv:=zah hr p
  rw [hp] at hv
  have hv:a.eval p=_:=zed hv
  simp only [execOp,hop,hv,Sem.run_bind,run_range_map w t kt et b es c ht (hb.now hr),Result.andThen_ok,Sem.run_pure],.inl rfl,zrg hr _,fun x1 hl hr1=>⟨.dat (.val (.pointer (some ⟨w.heap.size,0,none⟩))),Rf.val _ rfl,by
   rw [hd]
   exact h x1 _ hl.sib (hl.fresh hr (Nat.le_refl _) (znr _ _)) fun b' o' hp=>hl.old hp (znW (hp.now hr))⟩⟩
theorem ztJ {w:World} {b:Nat} {o:Obj} (h:b<w.heap.size):(ChangeMaps.setBlock w b o).heap[b]? = some o:=by simp [ChangeMaps.setBlock,h]
theorem znG {w:World} {b k:Nat} {o:Obj} (h:k≠b):(ChangeMaps.setBlock w b o).heap[k]? = w.heap[k]?:=by
 simp only [ChangeMaps.setBlock];rw [Array.getElem?_setIfInBounds_ne (fun e=>h e.symm)]
theorem zuL {b:Nat} {q:Obj} (hb:z7 x b q) (w1:World) (h1:w1=w∨w1=w.drew) (o:Obj):Chg x w (ChangeMaps.setBlock w1 b o):=by
 have h:w1.heap=w.heap∧w1.os=w.os∧w1.tape=w.tape∧w1.output=w.output:=by rcases h1 with rfl | rfl<;>exact ⟨rfl,rfl,rfl,rfl⟩
 refine ⟨?_,fun k hk=>?_,h.2.1,h.2.2.1,h.2.2.2⟩
 ·simp [ChangeMaps.setBlock,h.1]
 ·by_cases hkb:k=b
  ·subst hkb;exact .inr ⟨hb.s0,hb.new⟩
  ·exact .inl (by rw [znG hkb,h.1])
theorem zsO:Chg x w w:=⟨Nat.le_refl _,fun _ _=>.inl rfl,rfl,rfl,rfl⟩
theorem ztV {d r b c:Nat} {es:Array MapEntry} {seen:Array Nat} {p:Operand} (hn:x.n=n) (hdo:zaA n o.dst=true) (hop:o.op=.next p false) (hd:o.dst=some d) (hp:val T p=.dat (.val (.pointer (some ⟨r,0,none⟩)))) (hit:z7 x r (.mapIter (some b) c seen c)) (hb:z7 x b (.map es c)) (hold:∀ e∈es.toList,e.born<c)
 (h0:(leftOf es seen).size=0→∀ x1,Sib x x1→(∀ b' o',z7 x b' o'→z7 x1 b' o')→Wc P x1 R k ((d,.tup [.known false])::T) M)
 (h1:∀ e∈(leftOf es seen).toList,∀ x1,Sib x x1→z7 x1 r (.mapIter (some b) c (seen.push e.born) c)→(∀ b' o',b'≠r→z7 x b' o'→z7 x1 b' o')→Wc P x1 R k ((d,.tup [.known true,.no,.no])::T) M):OpW P x R o k T M:=
 zqM hn hdo fun m a w hr=>by
  have hv:=zah hr p
  rw [hp] at hv
  have hv:a.eval p=_:=zed hv
  rcases run_next_at (P:=P) w o.type r b c c seen es c (hit.now hr) (hb.now hr) hold (Nat.le_refl _) with ⟨hz,hrun⟩ | ⟨e,he,w1,hw1,hrun⟩
  ·refine ⟨_,.tuple #[.bool false],w,by simp only [execOp,hop,hv,Sem.run_bind,hrun,Result.andThen_ok,Sem.run_pure],.inl rfl,zsO,fun x1 hl hr1=>⟨.tup [.known false],⟨[.bool false],rfl,rfl,fun j u l hu hl=>?_⟩,?_⟩⟩
   ·cases j with
    | zero=>cases hu;cases hl;exact rfl
    | succ j=>cases hu
   ·rw [hd]
    exact h0 hz x1 hl.sib fun b' o' hp=>hl.old hp (hp.now hr)
  ·refine ⟨_,.tuple #[.bool true,e.key,e.val],ChangeMaps.setBlock w1 r (.mapIter (some b) c (seen.push e.born) c),by simp only [execOp,hop,hv,Sem.run_bind,hrun,Result.andThen_ok,Sem.run_pure],.inl rfl,zuL hit w1 hw1 _,fun x1 hl hr1=>⟨.tup [.known true,.no,.no],⟨[.bool true,e.key,e.val],rfl,rfl,fun j u l hu hl=>?_⟩,?_⟩⟩
   ·match j with
    | 0=>cases hu;cases hl;exact rfl
    | 1=>cases hl;exact trivial
    | 2=>cases hl;exact trivial
    | j+3=>cases hl
   ·rw [hd]
    have hlt:=(Array.getElem?_eq_some_iff.1 (hit.now hr)).1
    have hh:w1.heap=w.heap:=by rcases hw1 with rfl | rfl<;>rfl
    refine h1 e he x1 hl.sib (hl.old hit (ztJ (by rw [hh];exact hlt))) fun b' o' hne hp=>hl.old hp ?_
    rw [znG hne,hh];exact hp.now hr
theorem zr0 {d r b c:Nat} {v:Int} {es:Array MapEntry} {seen:Array Nat} {p:Operand} {e:MapEntry} (hn:x.n=n) (hdo:zaA n o.dst=true) (hop:o.op=.entry p) (hd:o.dst=some d) (hp:val T p=.dat (.val (.pointer (some ⟨r,0,none⟩)))) (hit:z7 x r (.mapIter (some b) c (seen.push e.born) c)) (hb:z7 x b (.map es c)) (he:e∈es.toList) (hnd:(es.toList.map (·.born)).Nodup) (hv:e.val=.int .i64 v)
 (h:Wc P x R k ((d,.tup [.no,.dat (.int .i64 v)])::T) M):OpW P x R o k T M:=fun m a w hr=>by
 have hpv:=zah hr p
 rw [hp] at hpv
 have hpv:a.eval p=_:=zed hpv
 have hrun:=run_entry_at (P:=P) w r b c seen es c e (hit.now hr) (hb.now hr) he hnd
 unfold Oper.wp
 rw [show (execOp a.eval o).run P w=.ok (.value (.tuple #[e.key,e.val])) w by simp only [execOp,hop,hpv,Sem.run_bind,hrun,Result.andThen_ok,Sem.run_pure]]
 show Ka P x R k .normal (a.put o.dst _) w
 rw [hd]
 refine h m _ w (hr.putd (d:=some d) (l:=.tup [.no,.dat (.int .i64 v)]) hn (hd ▸ hdo) ⟨[e.key,e.val],rfl,rfl,fun j u l hu hl=>?_⟩)
 match j with
 | 0=>cases hl;exact trivial
 | 1=>
   cases hu;cases hl
   rw [hv];exact Rf.int _ _
 | j+2=>cases hl
end
open Go.RowKit
set_option linter.unusedVariables false
set_option linter.unusedSimpArgs false
structure Fam (x:Cx) (b:Nat) (q:Obj) (x1:Cx):Prop where
 sib:Sib x x1
 map:z7 x1 b q
 oth:∀ b' o',b'≠b→z7 x b' o'→z7 x1 b' o'
section
variable {P:Program} {x:Cx} {tb:Tb} {R:Cx→Tl→Ml→Prop} {n:Nat} {o:Oper} {T:Tl} {M:Ml} {k:List It} {b:Nat} {ob:Nat→Obj}
def Gx (x:Cx) (b:Nat) (q:Obj) (T:Nat→LV) (M:Mem) (a:Act) (w:World):Prop:=∃ x1 m,Fam x b q x1∧Rel x1 T M m a w
structure zp4 (P:Program) (x:Cx) (b:Nat) (ob:Nat→Obj) (M:Ml) (all:List Oper) (o:Oper) (e:En) (lo hi d:Nat) (T:Tl):Prop where
 dst:e.dst=o.dst
 ok:∀ T',(∀ t∈e.ts,tm T' t=tm T t)→∀ p,lo≤p→p≤hi→∀ a w,Gx x b (ob p) (tm T') (mm M) a w→OpG P all o (fun a w=>Gx x b (ob (p+d)) (tm (putd e.dst e.val T')) (mm M) a w) a w
def zfL (iM iS:Nat) (listed:Nat→Bool):Nat:=(if listed iM then 1 else 0)+(if listed iS then 1 else 0)
theorem zpY (iM iS:Nat) (listed:Array Bool):zfL iM iS (fun j=>listed.getD j false)=(if listed.getD iM false then 1 else 0)+(if listed.getD iS false then 1 else 0):=rfl
theorem zr3 {id:Nat} {ops:Array Oper} {lg:List En} (hmix:P.follows .mixedOrders=true) (hac:acB ops.toList 0=true) (hlen:lg.length=ops.size) (hord:zlk (ze4 [] ops.toList) [] lg 0=true) {iL iM iS:Nat} (hM:iM≠iS)
 (hanc:∃ al,(ze4 [] ops.toList)[iS]? = some al∧iL∈al∧iM∈al)
 (hd:∀ (i:Nat) o e,ops.toList[i]? = some o→lg[i]? = some e→e.mem=[]∧zp4 P x b ob M ops.toList o e (if i=iS then 1 else 0) (if i=iS then 1 else if i=iM then 0 else if i=iL then 1 else 2) (if i=iS∨i=iM then 1 else 0) (zaQ lg (pre i) 0 T))
 (h0:Fam x b (ob 0) x) (h:∀ x1,Fam x b (ob 2) x1→Wc P x1 R k (zaQ lg (fun _=>true) 0 T) M) (hS:iS<ops.size) (hMs:iM<ops.size):Wc P x R (.code (.region id ops true)::k) T M:=by
 intro m0 a0 w0 hr0
 show (Code.region id ops true).wp P (Ka P x R k) a0 w0
 have hac':=zos hac
 simp only [Nat.zero_add] at hac'
 have hget:∀ (i:Nat) o,ops[i]? = some o→ops.toList[i]? = some o:=fun i o ho=>by rw [Array.getElem?_toList];exact ho
 have han:=zi1 (all:=ops.toList) (l:=ops.toList) (acc:=[]) (fun i o ho=>by simpa using ho) (fun i q hq=>by cases hq)
 have hord':=zly (an:=ze4 [] ops.toList) (prev:=[]) (k:=0) (l:=lg) rfl hord
 simp only [Nat.zero_add,List.nil_append] at hord'
 refine wp_region_any hmix (zkd (fun listed a w=>zox ops.toList (fun j=>listed.getD j false)∧Gx x b (ob (zfL iM iS (fun j=>listed.getD j false))) (tm (zaQ lg (fun j=>listed.getD j false) 0 T)) (mm M) a w) ?_ ?_ ?_ ops.size _ a0 _ (by simp) ?_ ?_)
 ·intro listed i a w hsz hi hinv
  obtain ⟨hdown,hG⟩:=hinv
  obtain ⟨hlt,o,ho,hall⟩:=mem_ready.1 hi
  have hio:=(Array.getElem?_eq_some_iff.1 ho).1
  have hbi:listed.getD i false=false:=by
   rw [Array.getD_eq_getD_getElem?,Array.getElem?_eq_getElem (by omega)] at hlt ⊢;exact hlt
  have hdeps:∀ q∈zhw o,listed.getD q false=true:=fun q hq=>by
   obtain ⟨e,he,hb,rfl⟩:=zgn.1 hq
   exact hall e he hb
  obtain ⟨e,he⟩:∃ e,lg[i]? = some e:=⟨lg[i]'(by omega),List.getElem?_eq_getElem _⟩
  obtain ⟨hmem0,hD⟩:=hd i o e (hget i o ho) he
  have agree:∀ (j:Nat) e',lg[j]? = some e'→zbz e' e=true→listed.getD j false=pre i j:=fun j e' hj hc=>by
   rcases Nat.lt_trichotomy j i with hji | hji | hji
   ·obtain ⟨al,hal,hmem⟩:=hord' i e he
    have:=han i al hal j (hmem j e' hji hj hc) (fun j=>listed.getD j false) hdown (fun o' ho' q hq=>by
     rw [hget i o ho] at ho';cases ho';exact hdeps q hq)
    rw [zhr.2 hji];exact this
   ·subst hji
    rw [hbi,zfg.2 (by omega)]
   ·rw [zfg.2 (by omega)]
    cases hbj:listed.getD j false with
    | false=>rfl
    | true=>
      obtain ⟨al,hal,hmem⟩:=hord' j e' hj
      have:=han j al hal i (hmem i e hji he (by rw [zgd];exact hc)) (fun j=>listed.getD j false) hdown (fun o' ho' q hq=>hdown j o' ho' hbj q hq)
      rw [hbi] at this;cases this
  have hts:∀ t∈e.ts,tm (zaQ lg (fun j=>listed.getD j false) 0 T) t=tm (zaQ lg (pre i) 0 T) t:=fun t ht=>by
   rw [zdE,zdE]
   refine zco fun j e' hj hw=>?_
   rw [Nat.zero_add];exact agree j e' hj (zme hw ht)
  -- the zfL
  obtain ⟨al,hal,hLin,hMin⟩:=hanc
  have hS1:listed.getD iS false=true→listed.getD iL false=true∧listed.getD iM false=true:=fun hs=>
   ⟨han iS al hal iL hLin (fun j=>listed.getD j false) hdown (fun o' ho' q hq=>hdown iS o' ho' hs q hq),han iS al hal iM hMin (fun j=>listed.getD j false) hdown (fun o' ho' q hq=>hdown iS o' ho' hs q hq)⟩
  have hS2:i=iS→listed.getD iM false=true:=fun hs=>by
   subst hs
   exact han i al hal iM hMin (fun j=>listed.getD j false) hdown (fun o' ho' q hq=>by rw [hget i o ho] at ho';cases ho';exact hdeps q hq)
  have hlo:(if i=iS then 1 else 0)≤zfL iM iS (fun j=>listed.getD j false):=by
   unfold zfL
   split
   ·rename_i hs;simp only [hS2 hs,if_true];omega
   ·omega
  have hhi:zfL iM iS (fun j=>listed.getD j false)≤(if i=iS then 1 else if i=iM then 0 else if i=iL then 1 else 2):=by
   unfold zfL
   by_cases h1:i=iS
   ·rw [if_pos h1]
    have:listed.getD iS false=false:=h1 ▸ hbi
    simp only [this,Bool.false_eq_true,if_false]
    split<;>omega
   ·rw [if_neg h1]
    by_cases h2:i=iM
    ·rw [if_pos h2]
     have hm:listed.getD iM false=false:=h2 ▸ hbi
     have hs:listed.getD iS false=false:=by
      cases hs:listed.getD iS false with
      | false=>rfl
      | true=>rw [(hS1 hs).2] at hm;cases hm
     simp [hm,hs]
    ·rw [if_neg h2]
     by_cases h3:i=iL
     ·rw [if_pos h3]
      have hm:listed.getD iL false=false:=h3 ▸ hbi
      have hs:listed.getD iS false=false:=by
       cases hs:listed.getD iS false with
       | false=>rfl
       | true=>rw [(hS1 hs).1] at hm;cases hm
      simp only [hs,Bool.false_eq_true,if_false]
      split<;>omega
     ·rw [if_neg h3];split<;>split<;>omega
  have hg:=hD.ok _ hts _ hlo hhi a w hG
  have hb':∀ j,(listed.setIfInBounds i true).getD j false=true↔(listed.getD j false=true∨j=i):=fun j=>by
   rw [zfH]
   constructor
   ·rintro (h | ⟨h,_⟩)
    ·exact .inl h
    ·exact .inr h
   ·rintro (h | h)
    ·exact .inl h
    ·exact .inr ⟨h,by omega⟩
  have hbe:∀ j,j≠i→(listed.setIfInBounds i true).getD j false=listed.getD j false:=fun j hj=>by
   rw [Bool.eq_iff_iff,hb']
   exact ⟨fun h=>h.resolve_right hj,.inl⟩
  have hbt:(listed.setIfInBounds i true).getD i false=true:=(hb' i).2 (.inr rfl)
  have hph:zfL iM iS (fun j=>(listed.setIfInBounds i true).getD j false)=zfL iM iS (fun j=>listed.getD j false)+(if i=iS∨i=iM then 1 else 0):=by
   rw [zpY,zpY]
   by_cases h1:i=iS
   ·subst h1
    rw [hbe iM hM,hbt,hbi,if_pos (Or.inl rfl)]
    simp
   ·by_cases h2:i=iM
    ·subst h2
     rw [hbe iS (fun e=>hM e.symm),hbt,hbi,if_pos (Or.inr rfl)]
     simp only [if_true,Bool.false_eq_true,if_false]
     omega
    ·rw [hbe iM (fun e=>h2 e.symm),hbe iS (fun e=>h1 e.symm),if_neg (c:=i=iS∨i=iM) (fun hh=>hh.elim h1 h2)];rfl
  have hK:∀ a' w',Gx x b (ob (zfL iM iS (fun j=>listed.getD j false)+(if i=iS∨i=iM then 1 else 0))) (tm (putd e.dst e.val (zaQ lg (fun j=>listed.getD j false) 0 T))) (mm M) a' w'→
   zox ops.toList (fun j=>(listed.setIfInBounds i true).getD j false)∧Gx x b (ob (zfL iM iS (fun j=>(listed.setIfInBounds i true).getD j false))) (tm (zaQ lg (fun j=>(listed.setIfInBounds i true).getD j false) 0 T)) (mm M) a' w':=by
   intro a' w' hr'
   refine ⟨fun j o' ho' hbj q hq=>?_,?_⟩
   ·rcases (hb' j).1 hbj with h | h
    ·exact (hb' q).2 (.inl (hdown j o' ho' h q hq))
    ·subst h
     rw [hget j o ho] at ho';cases ho'
     exact (hb' q).2 (.inl (hdeps q hq))
   ·have eT:tm (putd e.dst e.val (zaQ lg (fun j=>listed.getD j false) 0 T))=tm (zaQ lg (fun j=>(listed.setIfInBounds i true).getD j false) 0 T):=by
     funext t
     rw [zlx _ _ _ e rfl rfl,zdE,zdE]
     cases hw:wT t e with
     | none=>
       show last _ _ _ _ _=_
       refine zco fun j e' hj hw'=>?_
       rw [Nat.zero_add]
       refine (hbe j fun hji=>?_).symm
       subst hji
       rw [he] at hj;cases hj;exact hw' hw
     | some v=>
       show v=_
       refine (zih (j0:=i) he hw (by rw [Nat.zero_add];exact hbt) (fun j e' hij hj hw'=>?_)).symm
       rw [Nat.zero_add,hbe j (by omega),agree j e' hj (zkj hw' (by rw [hw];exact fun h=>by cases h)),zfg.2 (by omega)]
    rw [← eT,hph];exact hr'
  unfold OpG at hg
  rw [Array.toArray_toList] at hg
  show wpOp P ops (Ka P x R k) i _ a w
  unfold wpOp
  simp only [ho]
  split
  ·rename_i hw
   rw [if_pos hw] at hg
   exact .inl (zek hg hK)
  ·rename_i hw
   rw [if_neg hw] at hg
   exact hK _ _ hg
 ·rintro listed a w hsz hall ⟨_,x1,m,hf,hr⟩
  have hp:zfL iM iS (fun j=>listed.getD j false)=2:=by unfold zfL;simp only [hall iM hMs,hall iS hS,if_true]
  rw [hp] at hf
  rw [zea (b':=fun _=>true) (fun j hj=>by rw [Nat.zero_add];exact hall j (by omega))] at hr
  exact Ka.base hf.sib _ _ _ _ (h x1 hf m a w hr)
 ·intro i o ho e he hb
  exact hac' i o (hget i o ho) e.on (zgn.2 ⟨e,he,hb,rfl⟩)
 ·unfold left
  refine Nat.le_trans (List.length_filter_le _ _) (by simp)
 ·have hz:∀ j,(Array.replicate ops.size false).getD j false=false:=fun j=>by
   rw [Array.getD_eq_getD_getElem?,Array.getElem?_replicate];split<;>rfl
  refine ⟨fun i o ho hb=>(by
   have hb':(Array.replicate ops.size false).getD i false=true:=hb
   rw [hz] at hb';cases hb'),x,m0,?_,?_⟩
  ·have:zfL iM iS (fun j=>(Array.replicate ops.size false).getD j false)=0:=by unfold zfL;simp only [hz,Bool.false_eq_true,if_false]
   rw [this];exact h0
  ·rw [zeM (fun j _=>hz j)]
   exact hr0.drew
/-! ### the operations -/
theorem ziP {e:En} {lo hi:Nat} {all:List Oper} (h:∀ x1,Sib x x1→zeV P x1 all o e T M) (hm:e.mem=[]) (hnew:e.new=none):zp4 P x b ob M all o e lo hi 0 T:=by
 refine ⟨(h x (.refl x)).dst,fun T' ht p _ _ a w hG=>?_⟩
 obtain ⟨x1,m,hf,hr⟩:=hG
 have:=(h x1 hf.sib).ok T' M ht (fun _ _=>rfl) (fun id hid=>by unfold En.news at hid;rw [hnew] at hid;cases hid) m a w hr
 unfold OpG at this ⊢
 split
 ·rename_i hw
  rw [if_pos hw] at this
  exact zek this fun a w ⟨m,hr⟩=>⟨x1,m,hf,by rw [hm] at hr;exact hr⟩
 ·rename_i hw
  rw [if_neg hw] at this
  obtain ⟨m,hr⟩:=this
  exact ⟨x1,m,hf,by rw [hm] at hr;exact hr⟩
theorem zon {all:List Oper} {J:Act→World→Prop} {a:Act} {w:World} (hg:o.guard=none) (h:o.wp P a w J (fun _ _ _=>False)):OpG P all o J a w:=by
 unfold OpG
 rw [if_pos (by unfold Region.wanted;rw [hg])]
 exact h
variable {K:Type} [DecidableEq K] {enc:K→Value} {kt et t:TypeId} {l:zcX K} {c:Nat} {y:K} {v1:Int} {dm dk:Nat} {lk:LV}
def ob3 (enc:K→Value) (l:zcX K) (c:Nat) (y:K) (v1:Int):Nat→Obj
 | 0=>zgz enc l c
 | 1=>zgz enc (zeg y c l) (zgj y c l)
 | _=>zgz enc (zfd y v1 (zeg y c l)) (zgj y c l)
theorem zqR {all:List Oper} {d:Nat} {ts:List Nat} (htn:∀ x1:Cx,Sib x x1→x1.n=n) (hg:o.guard=none) (hdo:zaA n o.dst=true) (hd:o.dst=some d) (hk:zkH P kt enc) (ht:P.underlying t=some (.map kt et)) (hz:∀ w,(zeroValue et).run P w=.ok (.int .i64 0) w) (hop:o.op=.lookup t (.tmp dm) (.tmp dk) false)
 (hm:zdM .no T dm=.dat (.val (.map (some b)))) (hkv:zdM .no T dk=lk) (hy:∀ S M m w v,R3 S M m w v lk→v=enc y) (h1:dm∈ts) (h2:dk∈ts) :
 zp4 P x b (ob3 enc l c y v1) M all o ⟨o.dst,.dat (.int .i64 (zb7 y l)),[],none,ts,[]⟩ 0 1 0 T:=by
 refine ⟨rfl,fun T' hts p _ hp a w hG=>zon hg ?_⟩
 obtain ⟨x1,m,hf,hr⟩:=hG
 have hmv:=hr.tmp dm
 rw [hts dm h1,show tm T dm=_ from hm] at hmv
 have hmv:a.tmps.getD dm undef=_:=zed hmv
 have hkv2:=hr.tmp dk
 rw [hts dk h2,show tm T dk=_ from hkv] at hkv2
 have hkv2:=hy _ _ _ _ _ hkv2
 have hrun:(Instr.lookup t (.map (some b)) (enc y) false).run P w=.ok (.int .i64 (zb7 y l)) w:=by
  match p,hp with
  | 0,_=>exact znV hk ht (hz w) (hf.map.now hr) y
  | 1,_=>rw [znV hk ht (hz w) (hf.map.now hr) y,zjz]
 unfold Oper.wp
 rw [show (execOp a.eval o).run P w=.ok (.value (.int .i64 (zb7 y l))) w by
  simp only [execOp,hop,show a.eval (.tmp dm)=_ from hmv,show a.eval (.tmp dk)=_ from hkv2,Sem.run_bind,hrun,Result.andThen_ok,Sem.run_pure]]
 exact ⟨x1,m,hf,hr.putd (htn x1 hf.sib) hdo (l:=.dat (.int .i64 (zb7 y l))) (Rf.int _ _)⟩
theorem ztN {w:World} {b:Nat} {o:Obj} (h:b<w.heap.size):(w.putObj b o).heap[b]? = some o:=World.putObj_heap_same h
theorem zrF {x1:Cx} {T:Nat→LV} {M:Mem} {m:Mp} {a:Act} {w:World} {q q':Obj} (hf:Fam x b q x1) (hr:Rel x1 T M m a w):∃ x2,Fam x b q' x2∧Rel x2 T M m a (w.putObj b q'):=by
 have hlt:=(Array.getElem?_eq_some_iff.1 (hf.map.now hr)).1
 obtain ⟨x2,hl,hr2⟩:=zmq hr (w1:=w.putObj b q') ⟨by simp [World.putObj],fun k hk=>by
  by_cases hkb:k=b
  ·subst hkb;exact .inr ⟨hf.map.s0,hf.map.new⟩
  ·exact .inl (World.putObj_heap_other hkb),rfl,rfl,rfl⟩
 refine ⟨x2,⟨hf.sib.trans hl.sib,hl.old hf.map (ztN hlt),fun b' o' hne hp=>?_⟩,hr2⟩
 have hp1:=hf.oth b' o' hne hp
 exact hl.old hp1 (by rw [World.putObj_heap_other hne];exact hp1.now hr)
theorem zpN {all:List Oper} {d:Nat} {ts:List Nat} (htn:∀ x1:Cx,Sib x x1→x1.n=n) (hg:o.guard=none) (hdo:zaA n o.dst=true) (hd:o.dst=some d) (hk:zkH P kt enc) (ht:P.underlying t=some (.map kt et)) (hz:∀ w,(zeroValue et).run P w=.ok (.int .i64 0) w) (hop:o.op=.mapEntry t (.tmp dm) (.tmp dk))
 (hm:zdM .no T dm=.dat (.val (.map (some b)))) (hkv:zdM .no T dk=lk) (hy:∀ S M m w v,R3 S M m w v lk→v=enc y) (h1:dm∈ts) (h2:dk∈ts) :
 zp4 P x b (ob3 enc l c y v1) M all o ⟨o.dst,.tup [.no,.dat (.int .i64 (zaz y c l))],[],none,ts,[]⟩ 0 0 1 T:=by
 refine ⟨rfl,fun T' hts p _ hp a w hG=>zon hg ?_⟩
 obtain ⟨x1,m,hf,hr⟩:=hG
 have hp0:p=0:=by omega
 subst hp0
 have hmv:=hr.tmp dm
 rw [hts dm h1,show tm T dm=_ from hm] at hmv
 have hmv:a.tmps.getD dm undef=_:=zed hmv
 have hkv2:=hr.tmp dk
 rw [hts dk h2,show tm T dk=_ from hkv] at hkv2
 have hkv2:=hy _ _ _ _ _ hkv2
 have hrun:=zsV hk ht (hz w) (hf.map.now hr) y
 obtain ⟨x2,hf2,hr2⟩:=zrF (q':=zgz enc (zeg y c l) (zgj y c l)) hf hr
 unfold Oper.wp
 rw [show (execOp a.eval o).run P w=.ok (.value (.tuple #[.int .i64 (zb7 y l),.int .i64 (zaz y c l)])) (w.putObj b (zgz enc (zeg y c l) (zgj y c l))) by
  simp only [execOp,hop,show a.eval (.tmp dm)=_ from hmv,show a.eval (.tmp dk)=_ from hkv2,Sem.run_bind,hrun,Result.andThen_ok,Sem.run_pure]]
 refine ⟨x2,m,hf2,hr2.putd (htn x2 hf2.sib) hdo (l:=.tup [.no,.dat (.int .i64 (zaz y c l))]) ⟨[.int .i64 (zb7 y l),.int .i64 (zaz y c l)],rfl,rfl,fun j u l hu hl=>?_⟩⟩
 match j with
 | 0=>cases hl;exact trivial
 | 1=>cases hu;cases hl;exact Rf.int _ _
 | j+2=>cases hl
theorem zp7 {all:List Oper} {ds dv:Nat} {ts:List Nat} (hg:o.guard=none) (hd:o.dst=none) (hgood:zkP l c) (hop:o.op=.entryStore t (.tmp dm) (.tmp ds) (.tmp dv))
 (hm:zdM .no T dm=.dat (.val (.map (some b)))) (hs:zdM .no T ds=.dat (.int .i64 (zaz y c l))) (hv:zdM .no T dv=.dat (.int .i64 v1)) (h1:dm∈ts) (h2:ds∈ts) (h3:dv∈ts) :
 zp4 P x b (ob3 enc l c y v1) M all o ⟨o.dst,.no,[],none,ts,[]⟩ 1 1 1 T:=by
 refine ⟨rfl,fun T' hts p hp0 hp a w hG=>zon hg ?_⟩
 obtain ⟨x1,m,hf,hr⟩:=hG
 have hp1:p=1:=by omega
 subst hp1
 have hmv:=hr.tmp dm
 rw [hts dm h1,show tm T dm=_ from hm] at hmv
 have hmv:a.tmps.getD dm undef=_:=zed hmv
 have hsv:=hr.tmp ds
 rw [hts ds h2,show tm T ds=_ from hs] at hsv
 have hsv:a.tmps.getD ds undef=_:=zec hsv
 have hvv:=hr.tmp dv
 rw [hts dv h3,show tm T dv=_ from hv] at hvv
 have hvv:a.tmps.getD dv undef=_:=zec hvv
 have hrun:=zqT (P:=P) (t:=t) (zj2 (x:=y) hgood) (hf.map.now hr) (zji l) (zaz y c l) (zlM l).symm v1
 obtain ⟨x2,hf2,hr2⟩:=zrF (q':=zgz enc (zfd y v1 (zeg y c l)) (zgj y c l)) hf hr
 unfold Oper.wp
 rw [show (execOp a.eval o).run P w=.ok .skip (w.putObj b (zgz enc (zfd y v1 (zeg y c l)) (zgj y c l))) by
  simp only [execOp,hop,show a.eval (.tmp dm)=_ from hmv,show a.eval (.tmp ds)=_ from hsv,show a.eval (.tmp dv)=_ from hvv,Sem.run_bind,hrun,Result.andThen_ok,Sem.run_pure]]
 show Gx x b _ _ _ (a.put o.dst undef) _
 rw [hd]
 exact ⟨x2,m,hf2,hr2⟩
def zn7:List En→Bool
 | []=>true
 | e::l=>(match e.mem,e.new with
   | [],none=>true
   | _,_=>false) && zn7 l
theorem zmG:∀ {l:List En},zn7 l=true→∀ (i:Nat) e,l[i]? = some e→e.mem=[]∧e.new=none
 | [],_,i,e,h=>by cases h
 | e0::l,h,i,e,he=>by
   simp only [zn7,Bool.and_eq_true] at h
   cases i with
   | zero=>
     have:e0=e:=by simpa using he
     subst this
     have h1:=h.1
     split at h1
     ·rename_i h2 h3;exact ⟨h2,h3⟩
     ·cases h1
   | succ i=>exact zmG h.2 i e (by simpa using he)
theorem zl3:∀ {l:List En} {b:Nat→Bool} {i:Nat} {M:Ml},zn7 l=true→zbu l b i M=M
 | [],b,i,M,h=>rfl
 | e::l,b,i,M,h=>by
   have h0:=(zmG h 0 e rfl).1
   simp only [zn7,Bool.and_eq_true] at h
   rw [zbu,h0]
   cases b i<;>exact zl3 h.2
theorem zeh:∀ {l1 l2:List En} {b:Nat→Bool} {i:Nat} {T:Tl},zaQ (l1++l2) b i T=zaQ l2 b (i+l1.length) (zaQ l1 b i T)
 | [],l2,b,i,T=>by simp [zaQ]
 | e::l1,l2,b,i,T=>by
   rw [List.cons_append,zaQ,zeh,zaQ,List.length_cons,show i+1+l1.length=i+(l1.length+1) by omega]
theorem zlt (hn:x.n=n) (htb:zaJ P tb) (hmix:P.follows .mixedOrders=true) {s:Prop} {T1 T2:Tl} {M1:Ml} {k1:List It} {id:Nat} {ops:Array Oper} (ho:run tb n 1000 T M True k=.bad s T1 M1 (.code (.region id ops true)::k1)) (hs:s)
 (L:Nat) {pre0:List Oper} {lko bo me ex st:Oper} (hp0:ops.toList.take L=pre0) (hall:ops.toList=pre0++[lko,bo,me,ex,st]) {lgp:List En} (hpre:∀ x1,drF P x1 tb n ops.toList (ziZ ops.toList ops.toList) pre0 [] True T1 M1=.done True lgp T2 M1) (hnm:zn7 lgp=true)
 {d0 d1 d2 d3:Nat} (hb:z7 x b (zgz enc l c)) (hgood:zkP l c) (hk:zkH P kt enc) (ht:P.underlying t=some (.map kt et)) (hz:∀ w,(zeroValue et).run P w=.ok (.int .i64 0) w)
 (glk:lko.guard=none) (gbo:bo.guard=none) (gme:me.guard=none) (gex:ex.guard=none) (gst':st.guard=none)
 (olk:lko.op=.lookup t (.tmp dm) (.tmp dk) false) (dlk:lko.dst=some d0) {sb:Option Prop} {Tb:Tl} {Mb:Ml} (y:K) (hbo:opF tb n bo ((d0,.dat (.int .i64 (zb7 y l)))::T2) M1=some (sb,Tb,Mb)) (v1:Int) (hTb:Tb=putd bo.dst (.dat (.int .i64 v1)) ((d0,.dat (.int .i64 (zb7 y l)))::T2)) (hsb:∀ r,sb=some r→r) (dbo:bo.dst=some d1) (pbo:zkh bo.op=true)
 (ome:me.op=.mapEntry t (.tmp dm) (.tmp dk)) (dme:me.dst=some d2) (oex:ex.op=.extract (.tmp d2) 1) (dex:ex.dst=some d3) (ost:st.op=.entryStore t (.tmp dm) (.tmp d3) (.tmp d1)) (dst':st.dst=none)
 (hm:zdM .no T2 dm=.dat (.val (.map (some b)))) (hkv:zdM .no T2 dk=lk) (hy:∀ S M m w v,R3 S M m w v lk→v=enc y)
 (h0:Nat.blt d0 n=true) (h1:Nat.blt d1 n=true) (h2:Nat.blt d2 n=true) (h3:Nat.blt d3 n=true)
 (ne:(Nat.beq d0 dm || (Nat.beq d0 dk || (Nat.beq d1 dm || (Nat.beq d1 dk || (Nat.beq d2 dm || (Nat.beq d3 dm || (Nat.beq d2 d1 || Nat.beq d3 d1)))))))=false)
 (hac:acB ops.toList 0=true)
 (hord:zlk (ze4 [] ops.toList) [] (lgp++[⟨some d0,.dat (.int .i64 (zb7 y l)),[],none,zbb ops.toList lko,[]⟩,⟨some d1,.dat (.int .i64 v1),[],none,zbb ops.toList bo,zbd ((d0,.dat (.int .i64 (zb7 y l)))::T2) bo.op.operands.toList⟩,⟨some d2,.tup [.no,.dat (.int .i64 (zaz y c l))],[],none,zbb ops.toList me,[]⟩,⟨some d3,.dat (.int .i64 (zaz y c l)),[],none,zbb ops.toList ex,[]⟩,⟨none,.no,[],none,zbb ops.toList st,[]⟩]) 0=true)
 (hanc:(match nth (ze4 [] ops.toList) (pre0.length+4) with
   | some al=>elem pre0.length al && elem (pre0.length+2) al
   | none=>false)=true)
 (h:∀ x1,Fam x b (zgz enc (zfd y v1 (zeg y c l)) (zgj y c l)) x1→Wc P x1 R k1 ((d3,.dat (.int .i64 (zaz y c l)))::(d2,.tup [.no,.dat (.int .i64 (zaz y c l))])::(d1,.dat (.int .i64 v1))::(d0,.dat (.int .i64 (zb7 y l)))::T2) M1):Wc P x R k T M:=by
 refine go hn htb ho ⟨hs,?_⟩
 have hlp:lgp.length=pre0.length:=((ziW hn htb pre0 [] True T1 M1 _ _ _ _ (hpre x)) trivial).2.1.len
 have hsz:ops.size=pre0.length+5:=by rw [← Array.length_toList (xs:=ops),hall];simp
 have hT2:T2=zaQ lgp (fun _=>true) 0 T1:=((ziW hn htb pre0 [] True T1 M1 _ _ _ _ (hpre x)) trivial).2.2.1
 generalize hE:([⟨some d0,.dat (.int .i64 (zb7 y l)),[],none,zbb ops.toList lko,[]⟩,⟨some d1,.dat (.int .i64 v1),[],none,zbb ops.toList bo,zbd ((d0,.dat (.int .i64 (zb7 y l)))::T2) bo.op.operands.toList⟩,⟨some d2,.tup [.no,.dat (.int .i64 (zaz y c l))],[],none,zbb ops.toList me,[]⟩,⟨some d3,.dat (.int .i64 (zaz y c l)),[],none,zbb ops.toList ex,[]⟩,⟨none,.no,[],none,zbb ops.toList st,[]⟩]:List En)=E at hord
 have hn1:∀ x1:Cx,Sib x x1→x1.n=n:=fun x1 h=>h.n.trans hn
 have sel:∀ j,zaQ (lgp++E) (pre (pre0.length+j)) 0 T1=zaQ E (fun i=>pre j i) 0 T2:=fun j=>by
  rw [zeh,Nat.zero_add,hlp,hT2,zea (l:=lgp) (b':=fun _=>true) (fun i hi=>by rw [Nat.zero_add];exact zhr.2 (by omega))]
  have:∀ (E:List En) (i0:Nat) (T:Tl),zaQ E (pre (pre0.length+j)) (pre0.length+i0) T=zaQ E (fun i=>pre j i) i0 T:=by
   intro E
   induction E with
   | nil=>intro i0 T;rfl
   | cons e E ih=>
     intro i0 T
     rw [zaQ,zaQ,Nat.add_assoc,ih]
     have:pre (pre0.length+j) (pre0.length+i0)=pre j i0:=by
      rw [Bool.eq_iff_iff,zhr,zhr];omega
     rw [this]
  exact this E 0 _
 simp only [Bool.or_eq_false_iff] at ne
 obtain ⟨n0,n1,n2,n3,n4,n5,n6,n7⟩:=ne
 have lkc:∀ (d e:Nat) (v:LV) (T:Tl),Nat.beq d e=false→zdM .no ((d,v)::T) e=zdM .no T e:=fun d e v T h=>by
  show (match Nat.beq d e with | true=>v | false=>zdM .no T e)=_
  rw [h]
 have lks:∀ (d:Nat) (v:LV) (T:Tl),zdM .no ((d,v)::T) d=v:=fun d v T=>by
  show (match Nat.beq d d with | true=>v | false=>zdM .no T d)=_
  rw [zbh.2 rfl]
 have ops0:∀ j,ops.toList[pre0.length+j]? = [lko,bo,me,ex,st][j]?:=fun j=>by rw [hall,List.getElem?_append_right (by omega)];congr 1;omega
 have lg0:∀ j,(lgp++E)[pre0.length+j]? = E[j]?:=fun j=>by rw [List.getElem?_append_right (by omega),hlp];congr 1;omega
 have tin:∀ (o:Oper) (q:Nat),Operand.tmp q∈o.op.operands.toList→q∈zbb ops.toList o:=fun o q hq=>zry (by
  have:∀ l:List Operand,Operand.tmp q∈l→q∈zgY l:=by
   intro l
   induction l with
   | nil=>intro h;cases h
   | cons a l ih=>
     intro h
     rcases List.mem_cons.1 h with rfl | h
     ·exact List.mem_cons_self
     ·have:=ih h
      cases a<;>first | exact List.mem_cons_of_mem _ this | exact this
  exact this _ hq)
 refine zr3 (b:=b) (ob:=ob3 enc l c y v1) (lg:=lgp++E) (iL:=pre0.length) (iM:=pre0.length+2) (iS:=pre0.length+4) hmix hac (by rw [List.length_append,hlp,← hE];simp [hsz]) hord (by omega) ?_ ?_ ⟨.refl x,hb,fun _ _ _ h=>h⟩ ?_ (by omega) (by omega)
 ·rw [zge] at hanc
  cases ha:(ze4 [] ops.toList)[pre0.length+4]? with
  | none=>rw [ha] at hanc;cases hanc
  | some al=>
    rw [ha] at hanc
    simp only [Bool.and_eq_true] at hanc
    exact ⟨al,rfl,zfl.1 hanc.1,zfl.1 hanc.2⟩
 ·intro i o e hio hie
  rcases Nat.lt_or_ge i pre0.length with hlt | hge
  ·rw [hall,List.getElem?_append_left hlt] at hio
   rw [List.getElem?_append_left (by omega)] at hie
   rw [if_neg (by omega),if_neg (by omega),if_neg (by omega),if_neg (by omega),if_neg (c:=i=pre0.length+4∨i=pre0.length+2) (by omega)]
   have hmn:=zmG hnm i e hie
   refine ⟨hmn.1,ziP (fun x1 hx=>?_) hmn.1 hmn.2⟩
   have hch:=((ziW (hn1 x1 hx) htb pre0 [] True T1 M1 _ _ _ _ (hpre x1)) trivial).2.1
   have:=hch.get 0 i o e hio hie
   rw [Nat.zero_add,zl3 hnm] at this
   rwa [zeh,zeM (l:=E) (fun j hj=>zfg.2 (by omega))]
  ·obtain ⟨j,rfl⟩:∃ j,i=pre0.length+j:=⟨i-pre0.length,by omega⟩
   rw [ops0] at hio
   rw [lg0,← hE] at hie
   rw [sel,← hE]
   match j,hio,hie with
   | 0,hio,hie=>
     cases hio;cases hie
     rw [if_neg (by omega),if_neg (by omega),if_neg (by omega),if_pos (by omega),if_neg (by omega)]
     have:=zqR (x:=x) (b:=b) (M:=M1) (T:=T2) (l:=l) (c:=c) (v1:=v1) (all:=ops.toList) (o:=lko) (ts:=zbb ops.toList lko) hn1 glk (by rw [dlk];exact h0) dlk hk ht hz olk hm hkv hy (tin _ _ (by rw [olk];simp [Op.operands])) (tin _ _ (by rw [olk];simp [Op.operands]))
     rw [dlk] at this
     exact ⟨rfl,this⟩
   | 1,hio,hie=>
     cases hio;cases hie
     rw [if_neg (by omega),if_neg (by omega),if_neg (by omega),if_neg (by omega),if_neg (by omega)]
     refine ⟨rfl,ziP (fun x1 hx=>?_) rfl rfl⟩
     have:=zh2 (P:=P) (x:=x1) (all:=ops.toList) (v:=.dat (.int .i64 v1)) (hn1 x1 hx) htb pbo (by unfold gst;rw [gbo]) hbo hsb hTb
     rw [dbo] at this
     exact this
   | 2,hio,hie=>
     cases hio;cases hie
     rw [if_neg (by omega),if_neg (by omega),if_pos (by omega),if_pos (by omega)]
     have:=zpN (x:=x) (b:=b) (M:=M1) (T:=(d1,.dat (.int .i64 v1))::(d0,.dat (.int .i64 (zb7 y l)))::T2) (l:=l) (c:=c) (v1:=v1) (all:=ops.toList) (o:=me) (ts:=zbb ops.toList me) hn1 gme (by rw [dme];exact h2) dme hk ht hz ome (by rw [lkc _ _ _ _ n2,lkc _ _ _ _ n0];exact hm) (by rw [lkc _ _ _ _ n3,lkc _ _ _ _ n1];exact hkv) hy (tin _ _ (by rw [ome];simp [Op.operands])) (tin _ _ (by rw [ome];simp [Op.operands]))
     rw [dme] at this
     exact ⟨rfl,this⟩
   | 3,hio,hie=>
     cases hio;cases hie
     rw [if_neg (by omega),if_neg (by omega),if_neg (by omega),if_neg (by omega),if_neg (by omega)]
     refine ⟨rfl,ziP (fun x1 hx=>?_) rfl rfl⟩
     have hop:opF tb n ex ((d2,.tup [.no,.dat (.int .i64 (zaz y c l))])::(d1,.dat (.int .i64 v1))::(d0,.dat (.int .i64 (zb7 y l)))::T2) M1=some (none,(d3,.dat (.int .i64 (zaz y c l)))::(d2,.tup [.no,.dat (.int .i64 (zaz y c l))])::(d1,.dat (.int .i64 v1))::(d0,.dat (.int .i64 (zb7 y l)))::T2,M1):=by
      simp only [opF,oex]
      rw [show val ((d2,LV.tup [.no,.dat (.int .i64 (zaz y c l))])::(d1,.dat (.int .i64 v1))::(d0,.dat (.int .i64 (zb7 y l)))::T2) (.tmp d2)=_ from lks _ _ _]
      show out n _ M1 none ex (.dat (.int .i64 (zaz y c l)))=_
      simp only [out,dex,h3]
     have:=zh2 (P:=P) (x:=x1) (all:=ops.toList) (v:=.dat (.int .i64 (zaz y c l))) (hn1 x1 hx) htb (by rw [oex];rfl) (by unfold gst;rw [gex]) hop (fun r hr=>by cases hr) (by rw [dex];rfl)
     rw [dex] at this
     have hli:zbd ((d2,.tup [.no,.dat (.int .i64 (zaz y c l))])::(d1,.dat (.int .i64 v1))::(d0,.dat (.int .i64 (zb7 y l)))::T2) ex.op.operands.toList=[]:=by
      rw [oex]
      show lk2 (val _ (.tmp d2))++[]=[]
      rw [show val ((d2,LV.tup [.no,.dat (.int .i64 (zaz y c l))])::(d1,.dat (.int .i64 v1))::(d0,.dat (.int .i64 (zb7 y l)))::T2) (.tmp d2)=_ from lks _ _ _]
      rfl
     rw [hli] at this
     exact this
   | 4,hio,hie=>
     cases hio;cases hie
     rw [if_pos (by omega),if_pos (by omega),if_pos (by omega)]
     have:=zp7 (P:=P) (t:=t) (x:=x) (b:=b) (M:=M1) (T:=(d3,.dat (.int .i64 (zaz y c l)))::(d2,.tup [.no,.dat (.int .i64 (zaz y c l))])::(d1,.dat (.int .i64 v1))::(d0,.dat (.int .i64 (zb7 y l)))::T2) (enc:=enc) (y:=y) (l:=l) (c:=c) (v1:=v1) (all:=ops.toList) (o:=st) (ts:=zbb ops.toList st) gst' dst' hgood ost (by rw [lkc _ _ _ _ n5,lkc _ _ _ _ n4,lkc _ _ _ _ n2,lkc _ _ _ _ n0];exact hm) (lks _ _ _) (by rw [lkc _ _ _ _ n7,lkc _ _ _ _ n6];exact lks _ _ _) (tin _ _ (by rw [ost];simp [Op.operands])) (tin _ _ (by rw [ost];simp [Op.operands])) (tin _ _ (by rw [ost];simp [Op.operands]))
     rw [dst'] at this
     exact ⟨rfl,this⟩
   | j+5,hio,hie=>cases hio
 ·intro x1 hf
  have hTT:zaQ (lgp++E) (fun _=>true) 0 T1=(d3,.dat (.int .i64 (zaz y c l)))::(d2,.tup [.no,.dat (.int .i64 (zaz y c l))])::(d1,.dat (.int .i64 v1))::(d0,.dat (.int .i64 (zb7 y l)))::T2:=by
   rw [zeh,← hT2,← hE];rfl
  rw [hTT]
  exact h x1 hf
end
open Go.RowKit
set_option linter.unusedVariables false
set_option linter.unusedSimpArgs false
def C.sv:C→Value
 | .int k n=>.int k n
 | .bool b=>.bool b
 | .str s=>.string s
 | .val v=>v
 | .sl ..=>undef
def C.scal:C→Bool
 | .sl ..=>false
 | _=>true
def zrx:List C→Bool
 | []=>true
 | c::l=>c.scal && zrx l
def LV.sv1:LV→Option Value
 | .dat c=>match c.scal with
   | true=>some c.sv
   | false=>none
 | .known b=>some (.bool b)
 | _=>none
def svL:List LV→Option (List Value)
 | []=>some []
 | l::ls=>(l.sv1).bind fun v=>(svL ls).bind fun vs=>some (v::vs)
def LV.sv:LV→Option (List Value)
 | .dagg cs=>match zrx cs with
   | true=>some (cs.map C.sv)
   | false=>none
 | .lagg ls=>svL ls
 | _=>none
theorem zrn {S:Nat→Prop} {w:World} {v:Value} {c:C} (h:Rf S w v c) (hs:c.scal=true):v=c.sv:=by
 cases h<;>first | rfl | cases hs
theorem znM:∀ {l:List C},zrx l=true→∀ c∈l,c.scal=true
 | [],_,c,h=>by cases h
 | a::l,h,c,hc=>by
   simp only [zrx,Bool.and_eq_true] at h
   rcases List.mem_cons.1 hc with rfl | hc
   ·exact h.1
   ·exact znM h.2 c hc
theorem zrI:∀ {ls:List LV} {vs:List Value},svL ls=some vs→vs.length=ls.length∧∀ (j:Nat) l v,ls[j]? = some l→vs[j]? = some v→l.sv1=some v
 | [],vs,h=>by cases h;exact ⟨rfl,fun j l v hl=>by cases hl⟩
 | a::ls,vs,h=>by
   simp only [svL] at h
   obtain ⟨v0,h0,h⟩:=Option.bind_eq_some_iff.1 h
   obtain ⟨vs0,h1,h⟩:=Option.bind_eq_some_iff.1 h
   cases h
   obtain ⟨h2,h3⟩:=zrI h1
   refine ⟨by simp [h2],fun j l v hl hv=>?_⟩
   cases j with
   | zero=>cases hl;cases hv;exact h0
   | succ j=>exact h3 j l v (by simpa using hl) (by simpa using hv)
theorem znH {S0:Nat→Prop} {M:Mem} {m:Mp} {w:World} {v:Value} {l:LV} {vs:List Value} (h:R3 S0 M m w v l) (hs:l.sv=some vs):v=.agg vs.toArray:=by
 cases l with
 | dagg cs=>
   obtain ⟨us,hv,hd⟩:=h
   simp only [LV.sv] at hs
   split at hs
   ·rename_i hsc
    cases hs
    rw [hv]
    congr 2
    refine List.ext_getElem? fun j=>?_
    rw [List.getElem?_map]
    cases hc:cs[j]? with
    | none=>
      rw [List.getElem?_eq_none_iff] at hc
      rw [List.getElem?_eq_none (by rw [hd.1];exact hc)];rfl
    | some c=>
      have hlt:=(List.getElem?_eq_some_iff.1 hc).1
      rw [← hd.1] at hlt
      rw [List.getElem?_eq_getElem hlt,Option.map_some]
      congr 1
      exact zrn (hd.2 j _ c (List.getElem?_eq_getElem hlt) hc) (znM hsc c (List.mem_of_getElem? hc))
   ·cases hs
 | lagg ls=>
   obtain ⟨us,hv,hd⟩:=h
   obtain ⟨h1,h2⟩:=zrI hs
   rw [hv]
   congr 2
   refine List.ext_getElem? fun j=>?_
   cases hc:vs[j]? with
   | none=>
     rw [List.getElem?_eq_none_iff] at hc
     rw [List.getElem?_eq_none (by rw [hd.1];omega)]
   | some u=>
     have hlt:=(List.getElem?_eq_some_iff.1 hc).1
     have hl:ls[j]? = some (ls[j]'(by omega)):=List.getElem?_eq_getElem _
     have hu:us[j]? = some (us[j]'(by rw [hd.1];omega)):=List.getElem?_eq_getElem _
     rw [hu]
     congr 1
     have h3:=h2 j _ u hl hc
     have h4:=(hd.2 j _ _ hu hl).1
     revert h3 h4
     cases ls[j]'(by omega) with
     | dat c=>
       intro h3 h4
       simp only [LV.sv1] at h3
       split at h3
       ·rename_i hsc;cases h3;exact zrn h4 hsc
       ·cases h3
     | known b=>intro h3 h4;cases h3;exact h4
     | _=>intro h3;cases h3
 | _=>cases hs
section
variable {P:Program} {x:Cx} {tb:Tb} {R:Cx→Tl→Ml→Prop} {n:Nat} {o:Oper} {T:Tl} {M:Ml} {k:List It}
theorem zp5 {d:Nat} {l:LV} (hn:x.n=n) (hdo:zaA n o.dst=true) (hd:o.dst=some d) (hex:∀ m a w,Rel x (tm T) (mm M) m a w→∃ v,(execOp a.eval o).run P w=.ok (.value v) w∧R3 x.S0 (mm M) m w v l) (h:Wc P x R k ((d,l)::T) M):OpW P x R o k T M:=fun m a w hr=>by
 obtain ⟨v,hrun,hv⟩:=hex m a w hr
 unfold Oper.wp
 rw [hrun]
 show Ka P x R k .normal (a.put o.dst v) w
 rw [hd]
 exact h m _ w (hr.putd (d:=some d) (l:=l) hn (hd ▸ hdo) hv)
structure zwP (P:Program) (t:TypeId) {K:Type} [DecidableEq K] (c:K→List C):Prop where
 guard:P.eqGuardType P.depth t=false
 eq:∀ x y w,(Op.equalIn 10000 t (.agg ((c x).map C.sv).toArray) (.agg ((c y).map C.sv).toArray)).run P w=.ok (decide (x=y)) w
def zkN (b:BinOp) (z:Bool):Bool:=match b with
 | .eql=>z
 | _=>!z
theorem zun {K:Type} [DecidableEq K] {c:K→List C} {t:TypeId} {t1:TypeId} {p q:Operand} {d:Nat} {b:BinOp} (u v:K) (he:zwP P t c) (hn:x.n=n) (hdo:zaA n o.dst=true) (hd:o.dst=some d) (hop:o.op=.binOp b t p q t1) (hb:b=.eql∨b=.neq) (hp:(val T p).sv=some ((c u).map C.sv)) (hq:(val T q).sv=some ((c v).map C.sv))
 (h:Wc P x R k ((d,.dat (.bool (zkN b (decide (u=v)))))::T) M):OpW P x R o k T M:=by
 refine zp5 (l:=.dat (.bool (zkN b (decide (u=v))))) hn hdo hd (fun m a w hr=>⟨.bool (zkN b (decide (u=v))),?_,Rf.bool (zkN b (decide (u=v)))⟩) h
 have h1:=znH (zah hr p) hp
 have h2:=znH (zah hr q) hq
 rcases hb with rfl | rfl
 ·simp only [execOp,hop,h1,h2,Sem.run_bind,run_eqGuard_agg w .eql t p q _ _ he.guard,Result.andThen_ok,run_eql_struct,he.eq,Sem.run_pure,zkN]
 ·simp only [execOp,hop,h1,h2,Sem.run_bind,run_eqGuard_agg w .neq t p q _ _ he.guard,Result.andThen_ok,run_neq_struct,he.eq,Sem.run_pure,zkN]
end
open Go.RowKit
set_option linter.unusedVariables false
set_option linter.unusedSimpArgs false
section
variable {P:Program} {x:Cx} {tb:Tb} {R:Cx→Tl→Ml→Prop}
def OkB:Blk→Prop
 | .row _ _ _ f xs=>xs.length≤9223372036854775807∧∀ x∈xs,∀ c∈f x,Okc c
 | .box _ v=>OkL v
theorem zfe.ok {S0:Nat→Prop} {M:Mem} {m:Mp} {w:World} {id:Nat} {b:Blk} (h:zfe S0 M m w id b):OkB b:=by
 cases b with
 | row e z d f xs=>
   obtain ⟨us,hu,a1,a2,a3,a4,a5,a6,a7⟩:=h
   refine ⟨Nat.le_trans a2 a3,fun y hy c hc=>?_⟩
   obtain ⟨i,hi⟩:=List.mem_iff_getElem?.1 hy
   obtain ⟨j,hj⟩:=List.mem_iff_getElem?.1 hc
   obtain ⟨u,_,hr⟩:=a7 i y j c hi hj
   exact hr.ok
 | box t v=>
   obtain ⟨us,hu,hc⟩:=h
   cases v with
   | dat c=>obtain ⟨u,_,h0,_⟩:=hc;exact Rf.ok h0
   | dagg cs=>
     intro c hcm
     obtain ⟨j,hj⟩:=List.mem_iff_getElem?.1 hcm
     have hlt:=(List.getElem?_eq_some_iff.1 hj).1
     rw [← hc.1] at hlt
     exact (hc.2 j _ c (List.getElem?_eq_getElem hlt) hj).ok
   | _=>trivial
theorem zwQ {f:FuncId} {args:List LV} {Mi:Ml} {Post:LV→Ml→Prop} (hca:zgw P f) (h:(∀ l∈args,OkL l)→(∀ id b,mm Mi id=some b→OkB b)→Ct P f args Mi Post):Ct P f args Mi Post:=by
 refine ⟨hca,fun S w m vs hS hM hl hvs=>?_⟩
 exact (h (fun l hlm=>by
  obtain ⟨j,hj⟩:=List.mem_iff_getElem?.1 hlm
  have hlt:=(List.getElem?_eq_some_iff.1 hj).1
  rw [← hl] at hlt
  exact (hvs j _ l (List.getElem?_eq_getElem hlt) hj).ok) fun id b hb=>(hM.blk id b hb).1.ok).2 S w m vs hS hM hl hvs
theorem zD {f:FuncId} {fn:Func} {c:Code} {args:List LV} {rs:List (ResultVar×TypeId)} {Mi:Ml} {Post:LV→Ml→Prop} (htb:zaJ P tb) (hf:P.funcs[f]? = some fn) (hb:fn.body=some c) (hname:(fn.name == "runtime.NumGoroutine")=false)
 (hres:fn.results=(rs.map (·.1)).toArray) (hn:args.length≤fn.ntmps) (hbig:zrM Mi=true)
 (h:(∀ l∈args,OkL l)→(∀ id b,mm Mi id=some b→OkB b)→∀ x:Cx,x.n=fn.ntmps→(∀ i,x.lent i↔(mm Mi i).isSome=true)→Wc P x (zsx tb rs Mi Post) [.code c] (zhh 0 args) Mi):Ct P f args Mi Post:=
 zwQ ⟨fn,c,hf,hb,hname⟩ fun ho hm=>zuF htb hf hb hname hres hn hbig (h ho hm)
def LV.pure3 (M:Mem):LV→Option LV
 | .tup ls=>(zeU M ls).map .tup
 | l=>l.pure M
theorem zmW {f:FuncId} {args:List LV} {Post:LV→Ml→Prop} {r1:LV} (h:Ct P f args [] Post) (hp:∀ r Mo,Post r Mo→LV.pure3 (mm Mo) r=some r1):Con P f args r1:=by
 refine ⟨h.1,fun S w m vs hS hl hvs=>?_⟩
 refine Calls.mono (h.2 S w m vs hS ⟨fun id b hb=>(by cases hb),fun i j hi=>(by cases hi),fun i hi=>(by cases hi)⟩ hl (fun j v l hv hl=>hvs j v l hv hl)) ?_
 rintro e w1 ⟨v,r,Mo,m1,rfl,hpo,hb⟩
 refine ⟨v,rfl,?_,⟨hb.os,hb.tape,hb.output,hb.same.size,fun k hk=>hb.same.at_ k hk (fun ⟨j,hj,_⟩=>by cases hj)⟩⟩
 have hpure:=hp r Mo hpo
 have one:∀ {v:Value} {l r1:LV},R2 S (mm Mo) m1 w1 v l→l.pure (mm Mo)=some r1→R2 S M0 m w1 v r1:=fun {v l r1} h1 h2=>
  zjv (x:=cx0 S w 0 m) (S:=S) (fun k hk=>.inl hk) (fun id b hb'=>(hb.mem.blk id b hb').1) h1 h2 (fun id _ hlive=>hb.mem.out id hlive) m
 have hval:=hb.val
 cases r with
 | tup ls=>
   simp only [LV.pure3,Option.map_eq_some_iff] at hpure
   obtain ⟨rs,hrs,rfl⟩:=hpure
   obtain ⟨us,hv,hlen,hd⟩:=hval
   have hget:∀ {ls rs:List LV},zeU (mm Mo) ls=some rs→rs.length=ls.length∧∀ (j:Nat) l,ls[j]? = some l→∃ r,rs[j]? = some r∧l.pure (mm Mo)=some r:=by
    intro ls
    induction ls with
    | nil=>intro rs h;cases h;exact ⟨rfl,fun j l hl=>by cases hl⟩
    | cons a ls ih=>
      intro rs h
      simp only [zeU] at h
      obtain ⟨r0,h0,h⟩:=Option.bind_eq_some_iff.1 h
      obtain ⟨rs0,h1,h⟩:=Option.bind_eq_some_iff.1 h
      cases h
      obtain ⟨g1,g2⟩:=ih h1
      refine ⟨by simp [g1],fun j l hl=>?_⟩
      cases j with
      | zero=>cases hl;exact ⟨r0,rfl,h0⟩
      | succ j=>obtain ⟨r,hr,hr2⟩:=g2 j l (by simpa using hl);exact ⟨r,by simpa using hr,hr2⟩
   obtain ⟨g1,g2⟩:=hget hrs
   refine ⟨us,hv,by rw [hlen,g1],fun j u l hu hl=>?_⟩
   have hlt:=(List.getElem?_eq_some_iff.1 hl).1
   rw [g1] at hlt
   obtain ⟨r,hr,hr2⟩:=g2 j _ (List.getElem?_eq_getElem hlt)
   rw [hl] at hr;cases hr
   exact one (hd j u _ hu (List.getElem?_eq_getElem hlt)) hr2
 | no=>exact zeE (one (l:=.no) hval hpure)
 | nil0=>exact zeE (one (l:=.nil0) hval hpure)
 | nil c=>exact zeE (one (l:=.nil c) hval hpure)
 | known b=>exact zeE (one (l:=.known b) hval hpure)
 | dat c=>exact zeE (one (l:=.dat c) hval hpure)
 | dagg cs=>exact zeE (one (l:=.dagg cs) hval hpure)
 | lagg ls=>exact zeE (one (l:=.lagg ls) hval hpure)
 | own id=>exact zeE (one (l:=.own id) hval hpure)
 | ptr id off=>exact zeE (one (l:=.ptr id off) hval hpure)
 | ept id i off=>exact zeE (one (l:=.ept id i off) hval hpure)
 | spt cs off=>exact zeE (one (l:=.spt cs off) hval hpure)
 | fn f=>exact zeE (one (l:=.fn f) hval hpure)
 | clo f caps=>exact zeE (one (l:=.clo f caps) hval hpure)
def zdh (id:Nat) (e:TypeId) (z:Nat) {α:Type} (d:α) (f:α→List C) (xs:List α) (r:LV) (Mo:Ml):Prop:=(r=.own id∧Mo=[(id,some (.row e z d f xs))])∨(xs=[]∧r=.nil (.sl z d f [])∧Mo=[])
theorem zii {f:FuncId} {args:List LV} {id:Nat} {e:TypeId} {z:Nat} {α:Type} {d:α} {g:α→List C} {xs:List α} (h:Ct P f args [] (zdh id e z d g xs)):Con P f args (.dat (.sl z d g xs)):=by
 refine zmW h fun r Mo hp=>?_
 rcases hp with ⟨rfl,rfl⟩ | ⟨rfl,rfl,rfl⟩
 ·show (LV.data (mm [(id,some (Blk.row e z d g xs))]) (.own id)).bind _=_
  have:mm [(id,some (Blk.row e z d g xs))] id=some (.row e z d g xs):=by rw [zI];unfold upd;rw [if_pos rfl]
  have h2:LV.data (mm [(id,some (Blk.row e z d g xs))]) (.own id)=some (.sl z d g xs):=by
   show (match mm [(id,some (Blk.row e z d g xs))] id with
    | some (Blk.row _ z d f xs)=>some (C.sl z d f xs)
    | _=>none)=_
   rw [this]
  rw [h2];rfl
 ·rfl
theorem ztn {f:FuncId} {args:List LV} {id:Nat} {e:TypeId} {z:Nat} {α:Type} {d:α} {g:α→List C} {xs:List α} (h:Ct P f args [] (zdh id e z d g xs)) (id1:Nat):Ct P f args [] (zdh id1 e z d g xs):=by
 refine ⟨h.1,fun S w m vs hS hM hl hvs=>Calls.mono (h.2 S w m vs hS hM hl hvs) ?_⟩
 rintro en w1 ⟨v,r,Mo,m1,rfl,hpo,hb⟩
 rcases hpo with ⟨rfl,rfl⟩ | ⟨rfl,rfl,rfl⟩
 ·have h1:∀ i,mm [(i,some (Blk.row e z d g xs))] i=some (.row e z d g xs):=fun i=>by rw [zI];unfold upd;rw [if_pos rfl]
  have h2:∀ i j,(mm [(i,some (Blk.row e z d g xs))] j).isSome=true→j=i:=fun i j hj=>by
   rw [zI] at hj;unfold upd at hj
   split at hj
   ·assumption
   ·cases hj
  have hown:∀ k,Own S (mm [(id1,some (Blk.row e z d g xs))]) ⟨fun _=>m1.blk id,fun _=>m1.off id,fun _=>m1.cap id⟩ k→Own S (mm [(id,some (Blk.row e z d g xs))]) m1 k:=fun k hk=>by
   rcases hk with hk | ⟨j,hj,hb'⟩
   ·exact .inl hk
   ·exact .inr ⟨id,by rw [h1];rfl,hb'⟩
  refine ⟨v,.own id1,[(id1,some (.row e z d g xs))],⟨fun _=>m1.blk id,fun _=>m1.off id,fun _=>m1.cap id⟩,rfl,.inl ⟨rfl,rfl⟩,⟨⟨hb.val.1,fun n hn=>?_⟩,⟨fun i b hbi=>?_,fun i j hi hj _=>(h2 _ _ hi).trans (h2 _ _ hj).symm,fun i hi=>hb.mem.out id (by rw [h1];rfl)⟩,fun i hi=>?_,fun i hi=>(by cases hi),hb.same,hb.os,hb.tape,hb.output⟩⟩
  ·refine hb.val.2 n ?_
   have e1:zJ (mm [(id1,some (Blk.row e z d g xs))]) id1=some xs.length:=by unfold zJ;rw [h1]
   have e2:zJ (mm [(id,some (Blk.row e z d g xs))]) id=some xs.length:=by unfold zJ;rw [h1]
   rw [e2];rw [e1] at hn;exact hn
  ·have hi:i=id1:=h2 id1 i (by rw [hbi];rfl)
   subst hi
   rw [h1] at hbi;cases hbi
   obtain ⟨hba,hcl⟩:=hb.mem.blk id _ (h1 id)
   obtain ⟨us,hu,a1,a2,a3,a4,a5,a6,a7⟩:=hba
   refine ⟨⟨us,hu,a1,a2,a3,a4,a5,a6,fun i y j c hi hj=>?_⟩,fun i hi=>hi.elim⟩
   obtain ⟨u,h6,h7⟩:=a7 i y j c hi hj
   exact ⟨u,h6,h7.sub hown⟩
  ·exact hb.new id (by rw [h1];rfl)
 ·exact ⟨v,_,[],m1,rfl,.inr ⟨rfl,rfl,rfl⟩,hb⟩
theorem zbB {n:Nat} (hn:x.n=n) (htb:zaJ P tb) {k:List It} {T:Tl} {M:Ml} {f:FuncId} {ags args:List LV} {Mi:Ml} {Post:LV→Ml→Prop} {dst:Option Nat} {s:Prop} {T1:Tl} {M1:Ml} {k1:List It} (fl:List Bool) (hc:Ct P f args Mi Post) (ho:run tb n 1000 T M True k=.call f ags dst s T1 M1 k1) (hs:s) (hd:zaA n dst=true)
 (ha:zc4 (mm M1) fl ags=some args) (hsub:LeM (rn []) M1 Mi) (hro:zdD Mi=true) (hdj:∀ id∈zg7 fl ags,id∉zS Mi) (hv:zg7 fl ags=[]∨∀ r Mo,Post r Mo→zoi r Mo) (hkl:∀ id∈zS Mi,(mm Mi id).isSome=true)
 (h:∀ r Mo,Post r Mo→zf2 T1 M1 Mi Mo=true∧(∀ id,(mm Mo id).isSome=true→(mm Mi id).isSome=true∨¬ x.lent id)∧(∀ id,r.on id→(mm Mo id).isSome=true)∧Wc P x R k1 (Ab.putd dst r T1) (Mo++dropM (zS Mi) M1)):Wc P x R k T M:=
 go hn htb ho ⟨hs,zvc hn hd fl hc ha hsub hro hdj hv (fun r Mo hp=>⟨(h r Mo hp).1,(h r Mo hp).2.1⟩) (fun r Mo hp=>(h r Mo hp).2.2.1) hkl fun r Mo hp=>(h r Mo hp).2.2.2⟩
theorem zgi {n:Nat} (hn:x.n=n) (htb:zaJ P tb) {k:List It} {T:Tl} {M:Ml} {f:FuncId} {ags args:List LV} {id0:Nat} (id:Nat) {e:TypeId} {z:Nat} {α:Type} {d:α} {g:α→List C} {xs:List α} {dst:Option Nat} {s:Prop} {T1:Tl} {M1:Ml} {k1:List It} (fl:List Bool) (hc:Ct P f args [] (zdh id0 e z d g xs)) (ho:run tb n 1000 T M True k=.call f ags dst s T1 M1 k1) (hs:s) (hd:zaA n dst=true)
 (ha:zc4 (mm M1) fl ags=some args) (hv:zg7 fl ags=[]) (hnew:zf2 T1 M1 [] [(id,some (.row e z d g xs))]=true) (hsm:Nat.blt id 1000=true)
 (h:Wc P x R k1 (Ab.putd dst (.own id) T1) ((id,some (.row e z d g xs))::M1)) (h0:xs=[]→Wc P x R k1 (Ab.putd dst (.nil (.sl z d g [])) T1) M1):Wc P x R k T M:=by
 refine zbB hn htb fl (ztn hc id) ho hs hd ha trivial rfl (fun i hi=>by rw [hv] at hi;cases hi) (.inl hv) (fun i hi=>by cases hi) ?_
 rintro r Mo (⟨rfl,rfl⟩ | ⟨hx,rfl,rfl⟩)
 ·refine ⟨hnew,fun i hi=>.inr fun hl=>?_,fun i hi=>?_,h⟩
  ·have:i=id:=by
    rw [zI] at hi;unfold upd at hi
    split at hi
    ·assumption
    ·cases hi
   have h1:=x.big i hl
   have h2:id<1000:=Nat.blt_eq.mp hsm
   omega
  ·have:id=i:=hi
   subst this
   rw [zI];unfold upd;rw [if_pos rfl];rfl
 ·exact ⟨rfl,fun i hi=>(by cases hi),fun i hi=>hi.elim,h0 hx⟩
end
theorem zbs {P:Program} {x:Cx} {tb:Tb} {R:Cx→Tl→Ml→Prop} {n:Nat} (hn:x.n=n) (htb:zaJ P tb) {k:List It} {T:Tl} {M:Ml} {f:FuncId} {args:List LV} {dst:Option Nat} {s:Prop} {T1:Tl} {M1:Ml} {k1:List It} (ho:run tb n 1000 T M True k=.call f args dst s T1 M1 k1) (hs:s) (hd:zaA n dst=true) (vw:List Nat)
 (h:∃ args1 r,zeU (mm M1) args=some args1∧Con P f args1 r∧r.isPure=true∧(r.flat=true∨∀ id,(∃ l∈args,l.on2 id)→id∈vw)∧Wc P x R k1 (Ab.putd dst r T1) (dropM vw M1)):Wc P x R k T M:=by
 obtain ⟨args1,r,ha,hc,hp,hv,h⟩:=h
 exact zut hn htb ho hs hd vw ha hc hp hv h
theorem qX {G:Prop} (h:False:=by omega):G:=h.elim
theorem qS {p:Prop} (h:p:=by first | exact trivial | (simp only [zhf,true_and,and_true,Int.toNat_natCast];omega) | (simp only [zhf,true_and,and_true,Int.toNat_natCast] at *;omega)):p:=h
theorem qL {p:Prop} (h:p:=by (repeat' (first | exact trivial | refine And.intro rfl ?_))):p:=h
theorem qF {p G:Prop} (hp:p) (h:p→False:=by (intro hc;(try simp only [decide_eq_true_eq,decide_eq_false_iff_not,Bool.not_eq_true',Bool.not_eq_false',Bool.not_eq_eq_eq_not,Bool.not_true,Bool.not_false,Int.not_lt,Int.not_le,Int.toNat_natCast,beq_iff_eq,beq_eq_false_iff_ne,ne_eq] at hc)<;>omega)):G:=(h hp).elim
theorem qC {p q:Prop} (hp:p) (h:p→q:=by (intro hc;(try simp only [decide_eq_true_eq,decide_eq_false_iff_not,Bool.not_eq_true',Bool.not_eq_false',Bool.not_eq_eq_eq_not,Bool.not_true,Bool.not_false,Int.not_lt,Int.not_le,Int.toNat_natCast,beq_iff_eq,beq_eq_false_iff_ne,ne_eq] at hc);exact hc)):q:=h hp
theorem qM {p q:Prop} (hq:q) (h:q→p:=by (intro hq;simp only [zub,true_and,and_true,Int.toNat_natCast,zhf,decide_eq_true_eq,decide_eq_false_iff_not,Bool.not_eq_true',Bool.not_eq_false'];exact hq)):p:=h hq
theorem qV {p:Prop} (h:p:=by (first | exact zgA _ _ hn za rfl rfl rfl rfl rfl rfl rfl rfl rfl rfl rfl | exact zes _ hn za rfl ⟨rfl,_,_,_,rfl,rfl,rfl,rfl,rfl,rfl⟩ rfl rfl rfl rfl rfl rfl rfl (by simp only [List.length_cons,List.length_nil];omega))):p:=h
theorem qK {P:Program} {x:Cx} {tb:Tb} {R:Cx→Tl→Ml→Prop} {n:Nat} (hn:x.n=n) (htb:zaJ P tb) {k:List It} {T:Tl} {M:Ml} {f:FuncId} {args args1:List LV} {r:LV} {dst:Option Nat} {s:Prop} {T1:Tl} {M1:Ml} {k1:List It} (ho:run tb n 1000 T M True k=.call f args dst s T1 M1 k1) (ha:zeU (mm M1) args=some args1) (hc:Con P f args1 r) (h:Wc P x R k1 (Ab.putd dst r T1) (dropM [] M1)) (hs:s:=by (exact qS)) (hd:zaA n dst=true:=by rfl) (hp:r.isPure=true:=by rfl) (hv:r.flat=true∨∀ id,(∃ l∈args,l.on2 id)→id∈[]:=by (first | exact .inl rfl | exact .inr (fun id hi=>zdl hi))):Wc P x R k T M:=zbs hn htb ho hs hd [] ⟨args1,r,ha,hc,hp,hv,h⟩
theorem qD {P:Program} {x:Cx} {tb:Tb} {R:Cx→Tl→Ml→Prop} {n id:Nat} {ops:Array Oper} {k k1:List It} {T T1 T2:Tl} {M M1 M2:Ml} {s s2:Prop} {lg:List En} (hn:x.n=n) (htb:zaJ P tb) (hmix:P.follows .mixedOrders=true) (hs:List Hn) (ho:run tb n 1000 T M True k=.bad s T1 M1 (.code (.region id ops true)::k1))
 (hd:drF P x tb n ops.toList (ziZ ops.toList ops.toList) ops.toList hs True T1 M1=.done s2 lg T2 M2) (hs2:s2) (h:Wc P x R k1 T2 M2) (hs0:s:=by (exact qS)) (hac:acB ops.toList 0=true:=by kernel_rfl) (hord:zlk (ze4 [] ops.toList) [] lg 0=true:=by kernel_rfl):Wc P x R k T M:=zua hn htb hmix hs ho hs0 hd hs2 hac hord h
set_option linter.unusedVariables false
set_option linter.unusedSimpArgs false
set_option maxRecDepth 100000
def iC (n:Int):List C:=[.int .i64 n]
def bC (b:Bool):List C:=[.bool b]
def yC (n:Int):List C:=[.int .u8 n]
abbrev zbc (l:List Int):C:=.sl 1 (0:Int) iC l
abbrev zro (l:List Bool):C:=.sl 1 false bC l
abbrev bytes (l:List Int):C:=.sl 1 (0:Int) yC l
@[ext] structure zaj where
 send:Bool
 chan:Int
 reg:Int
 ok:Int
 to:Int
 deriving DecidableEq
@[ext] structure zax where
 cases:List zaj
 els:Int
 deriving DecidableEq
@[ext] structure zaD where
 op:Int
 a:Int
 b:Int
 c:Int
 deriving DecidableEq
@[ext] structure zcZ where
 code:List zaD
 deriving DecidableEq
@[ext] structure zn where
 caps:List Int
 mus:Int
 sels:List zax
 procs:List zcZ
 deriving DecidableEq
@[ext] structure zo where
 g:Int
 cas:Int
 val:Int
 deriving DecidableEq
@[ext] structure zY where
 cap:Int
 buf:List Int
 sends:List zo
 recvs:List zo
 closed:Bool
 deriving DecidableEq
@[ext] structure zal where
 owner:Int
 wait:List Int
 deriving DecidableEq
@[ext] structure zbl where
 kind:Int
 obj:Int
 val:Int
 ok:Bool
 deriving DecidableEq
@[ext] structure zW where
 proc:Int
 pc:Int
 regs:List Int
 state:Int
 trace:List zbl
 deriving DecidableEq
@[ext] structure zz where
 gs:List zW
 chans:List zY
 mus:List zal
 deriving DecidableEq
@[ext] structure zr where
 mutex:Bool
 obj:Int
 send:Bool
 w:zo
 deriving DecidableEq
@[ext] structure zbR where
 g:Int
 c:Int
 deriving DecidableEq
@[ext] structure zeY where
 g:Int
 op:Int
 obj:Int
 cas:Int
 deriving DecidableEq
def zE:zaj:=⟨false,0,0,0,0⟩
def zkw (x:zaj):List C:=[.bool x.send,.int .i64 x.chan,.int .i64 x.reg,.int .i64 x.ok,.int .i64 x.to]
abbrev zbn (l:List zaj):C:=.sl 5 zE zkw l
def zh:zax:=⟨[],0⟩
def zey (x:zax):List C:=[zbn x.cases,.int .i64 x.els]
abbrev zaF (l:List zax):C:=.sl 2 zh zey l
def zcL:zaD:=⟨0,0,0,0⟩
def zc7 (x:zaD):List C:=[.int .i64 x.op,.int .i64 x.a,.int .i64 x.b,.int .i64 x.c]
abbrev zaO (l:List zaD):C:=.sl 4 zcL zc7 l
def zby:zcZ:=⟨[]⟩
def zt4 (x:zcZ):List C:=[zaO x.code]
abbrev zbo (l:List zcZ):C:=.sl 1 zby zt4 l
def zQ (x:zn):List C:=[zbc x.caps,.int .i64 x.mus,zaF x.sels,zbo x.procs]
def zi:zo:=⟨0,0,0⟩
def z5 (x:zo):List C:=[.int .i64 x.g,.int .i64 x.cas,.int .i64 x.val]
abbrev zB (l:List zo):C:=.sl 3 zi z5 l
def zg:zY:=⟨0,[],[],[],false⟩
def zae (x:zY):List C:=[.int .i64 x.cap,zbc x.buf,zB x.sends,zB x.recvs,.bool x.closed]
abbrev zy (l:List zY):C:=.sl 5 zg zae l
def zj:zal:=⟨0,[]⟩
def zO (x:zal):List C:=[.int .i64 x.owner,zbc x.wait]
abbrev zm (l:List zal):C:=.sl 2 zj zO l
def zdr:zbl:=⟨0,0,0,false⟩
def zd0 (x:zbl):List C:=[.int .i64 x.kind,.int .i64 x.obj,.int .i64 x.val,.bool x.ok]
abbrev zaW (l:List zbl):C:=.sl 4 zdr zd0 l
def zd:zW:=⟨0,0,[],0,[]⟩
def zH (x:zW):List C:=[.int .i64 x.proc,.int .i64 x.pc,zbc x.regs,.int .i64 x.state,zaW x.trace]
abbrev zbI (l:List zW):C:=.sl 5 zd zH l
def zoo:zz:=⟨[],[],[]⟩
def zad (x:zz):List C:=[zbI x.gs,zy x.chans,zm x.mus]
def zq:zr:=⟨false,0,false,zi⟩
def zam (x:zr):List C:=[.bool x.mutex,.int .i64 x.obj,.bool x.send,.int .i64 x.w.g,.int .i64 x.w.cas,.int .i64 x.w.val]
abbrev zau (l:List zr):C:=.sl 6 zq zam l
def zfh:zbR:=⟨0,0⟩
def zpK (x:zbR):List C:=[.int .i64 x.g,.int .i64 x.c]
abbrev zcz (l:List zbR):C:=.sl 2 zfh zpK l
def ziE:zeY:=⟨0,0,0,0⟩
def zdA (x:zeY):List C:=[.int .i64 x.g,.int .i64 x.op,.int .i64 x.obj,.int .i64 x.cas]
abbrev zcU (l:List zeY):C:=.sl 4 ziE zdA l
def tb:Tb:=fun t=>match t with
 | 3=>some ⟨.int .i64,1,8,[.int .i64 0],[.dat (.int .i64 0)],[]⟩
 | 22=>some ⟨.sl 3,1,24,[zbc []],[.nil (zbc [])],[]⟩
 | 4=>some ⟨.bool,1,1,[.bool false],[.known false],[]⟩
 | 81=>some ⟨.sl 4,1,24,[zro []],[.nil (zro [])],[]⟩
 | 5=>some ⟨.int .u8,1,1,[.int .u8 0],[.dat (.int .u8 0)],[]⟩
 | 9=>some ⟨.str,1,16,[.str ⟨#[]⟩],[.dat (.str ⟨#[]⟩)],[]⟩
 | 248=>some ⟨.st,5,40,[.bool false,.int .i64 0,.int .i64 0,.int .i64 0,.int .i64 0],[.known false,.dat (.int .i64 0),.dat (.int .i64 0),.dat (.int .i64 0),.dat (.int .i64 0)],[(0,4),(1,3),(2,3),(3,3),(4,3)]⟩
 | 180=>some ⟨.sl 248,1,24,[zbn []],[.nil (zbn [])],[]⟩
 | 182=>some ⟨.st,2,32,[zbn [],.int .i64 0],[.nil (zbn []),.dat (.int .i64 0)],[(0,180),(1,3)]⟩
 | 36=>some ⟨.sl 182,1,24,[zaF []],[.nil (zaF [])],[]⟩
 | 203=>some ⟨.st,4,32,[.int .i64 0,.int .i64 0,.int .i64 0,.int .i64 0],[.dat (.int .i64 0),.dat (.int .i64 0),.dat (.int .i64 0),.dat (.int .i64 0)],[(0,3),(1,3),(2,3),(3,3)]⟩
 | 184=>some ⟨.sl 203,1,24,[zaO []],[.nil (zaO [])],[]⟩
 | 186=>some ⟨.st,1,24,[zaO []],[.nil (zaO [])],[(0,184)]⟩
 | 37=>some ⟨.sl 186,1,24,[zbo []],[.nil (zbo [])],[]⟩
 | 39=>some ⟨.st,4,80,[zbc [],.int .i64 0,zaF [],zbo []],[.nil (zbc []),.dat (.int .i64 0),.nil (zaF []),.nil (zbo [])],[(0,22),(1,3),(2,36),(3,37)]⟩
 | 197=>some ⟨.st,3,24,[.int .i64 0,.int .i64 0,.int .i64 0],[.dat (.int .i64 0),.dat (.int .i64 0),.dat (.int .i64 0)],[(0,3),(1,3),(2,3)]⟩
 | 189=>some ⟨.sl 197,1,24,[zB []],[.nil (zB [])],[]⟩
 | 191=>some ⟨.st,5,88,[.int .i64 0,zbc [],zB [],zB [],.bool false],[.dat (.int .i64 0),.nil (zbc []),.nil (zB []),.nil (zB []),.known false],[(0,3),(1,22),(2,189),(3,189),(4,4)]⟩
 | 42=>some ⟨.sl 191,1,24,[zy []],[.nil (zy [])],[]⟩
 | 193=>some ⟨.st,2,32,[.int .i64 0,zbc []],[.dat (.int .i64 0),.nil (zbc [])],[(0,3),(1,22)]⟩
 | 43=>some ⟨.sl 193,1,24,[zm []],[.nil (zm [])],[]⟩
 | 128=>some ⟨.st,4,32,[.int .i64 0,.int .i64 0,.int .i64 0,.bool false],[.dat (.int .i64 0),.dat (.int .i64 0),.dat (.int .i64 0),.known false],[(0,3),(1,3),(2,3),(3,4)]⟩
 | 125=>some ⟨.sl 128,1,24,[zaW []],[.nil (zaW [])],[]⟩
 | 172=>some ⟨.st,5,72,[.int .i64 0,.int .i64 0,zbc [],.int .i64 0,zaW []],[.dat (.int .i64 0),.dat (.int .i64 0),.nil (zbc []),.dat (.int .i64 0),.nil (zaW [])],[(0,3),(1,3),(2,22),(3,3),(4,125)]⟩
 | 41=>some ⟨.sl 172,1,24,[zbI []],[.nil (zbI [])],[]⟩
 | 45=>some ⟨.st,3,72,[zbI [],zy [],zm []],[.nil (zbI []),.nil (zy []),.nil (zm [])],[(0,41),(1,42),(2,43)]⟩
 | 199=>some ⟨.st,6,48,[.bool false,.int .i64 0,.bool false,.int .i64 0,.int .i64 0,.int .i64 0],[.known false,.dat (.int .i64 0),.known false,.dat (.int .i64 0),.dat (.int .i64 0),.dat (.int .i64 0)],[(0,4),(1,3),(2,4),(3,197)]⟩
 | 170=>some ⟨.sl 199,1,24,[zau []],[.nil (zau [])],[]⟩
 | 101=>some ⟨.st,2,16,[.int .i64 0,.int .i64 0],[.dat (.int .i64 0),.dat (.int .i64 0)],[(0,3),(1,3)]⟩
 | 34=>some ⟨.sl 101,1,24,[zcz []],[.nil (zcz [])],[]⟩
 | 144=>some ⟨.st,4,32,[.int .i64 0,.int .i64 0,.int .i64 0,.int .i64 0],[.dat (.int .i64 0),.dat (.int .i64 0),.dat (.int .i64 0),.dat (.int .i64 0)],[(0,3),(1,3),(2,3),(3,3)]⟩
 | 80=>some ⟨.sl 144,1,24,[zcU []],[.nil (zcU [])],[]⟩
 | 269=>some ⟨.st,5,40,[.bool false,.int .i64 0,.int .i64 0,.int .i64 0,.int .i64 0],[.known false,.dat (.int .i64 0),.dat (.int .i64 0),.dat (.int .i64 0),.dat (.int .i64 0)],[(0,4),(1,3),(2,3),(3,3),(4,3)]⟩
 | 152=>some ⟨.sl 269,1,24,[zbn []],[.nil (zbn [])],[]⟩
 | 154=>some ⟨.st,2,32,[zbn [],.int .i64 0],[.nil (zbn []),.dat (.int .i64 0)],[(0,152),(1,3)]⟩
 | 23=>some ⟨.sl 154,1,24,[zaF []],[.nil (zaF [])],[]⟩
 | 271=>some ⟨.st,4,32,[.int .i64 0,.int .i64 0,.int .i64 0,.int .i64 0],[.dat (.int .i64 0),.dat (.int .i64 0),.dat (.int .i64 0),.dat (.int .i64 0)],[(0,3),(1,3),(2,3),(3,3)]⟩
 | 156=>some ⟨.sl 271,1,24,[zaO []],[.nil (zaO [])],[]⟩
 | 158=>some ⟨.st,1,24,[zaO []],[.nil (zaO [])],[(0,156)]⟩
 | 24=>some ⟨.sl 158,1,24,[zbo []],[.nil (zbo [])],[]⟩
 | 26=>some ⟨.st,4,80,[zbc [],.int .i64 0,zaF [],zbo []],[.nil (zbc []),.dat (.int .i64 0),.nil (zaF []),.nil (zbo [])],[(0,22),(1,3),(2,23),(3,24)]⟩
 | 275=>some ⟨.st,3,24,[.int .i64 0,.int .i64 0,.int .i64 0],[.dat (.int .i64 0),.dat (.int .i64 0),.dat (.int .i64 0)],[(0,3),(1,3),(2,3)]⟩
 | 164=>some ⟨.sl 275,1,24,[zB []],[.nil (zB [])],[]⟩
 | 166=>some ⟨.st,5,88,[.int .i64 0,zbc [],zB [],zB [],.bool false],[.dat (.int .i64 0),.nil (zbc []),.nil (zB []),.nil (zB []),.known false],[(0,3),(1,22),(2,164),(3,164),(4,4)]⟩
 | 28=>some ⟨.sl 166,1,24,[zy []],[.nil (zy [])],[]⟩
 | 169=>some ⟨.st,2,32,[.int .i64 0,zbc []],[.dat (.int .i64 0),.nil (zbc [])],[(0,3),(1,22)]⟩
 | 29=>some ⟨.sl 169,1,24,[zm []],[.nil (zm [])],[]⟩
 | 273=>some ⟨.st,4,32,[.int .i64 0,.int .i64 0,.int .i64 0,.bool false],[.dat (.int .i64 0),.dat (.int .i64 0),.dat (.int .i64 0),.known false],[(0,3),(1,3),(2,3),(3,4)]⟩
 | 160=>some ⟨.sl 273,1,24,[zaW []],[.nil (zaW [])],[]⟩
 | 162=>some ⟨.st,5,72,[.int .i64 0,.int .i64 0,zbc [],.int .i64 0,zaW []],[.dat (.int .i64 0),.dat (.int .i64 0),.nil (zbc []),.dat (.int .i64 0),.nil (zaW [])],[(0,3),(1,3),(2,22),(3,3),(4,160)]⟩
 | 27=>some ⟨.sl 162,1,24,[zbI []],[.nil (zbI [])],[]⟩
 | 31=>some ⟨.st,3,72,[zbI [],zy [],zm []],[.nil (zbI []),.nil (zy []),.nil (zm [])],[(0,27),(1,28),(2,29)]⟩
 | 124=>some ⟨.st,2,16,[.int .i64 0,.int .i64 0],[.dat (.int .i64 0),.dat (.int .i64 0)],[(0,3),(1,3)]⟩
 | 54=>some ⟨.sl 124,1,24,[zcz []],[.nil (zcz [])],[]⟩
 | 146=>some ⟨.st,4,32,[.int .i64 0,.int .i64 0,.int .i64 0,.int .i64 0],[.dat (.int .i64 0),.dat (.int .i64 0),.dat (.int .i64 0),.dat (.int .i64 0)],[(0,3),(1,3),(2,3),(3,3)]⟩
 | 78=>some ⟨.sl 146,1,24,[zcU []],[.nil (zcU [])],[]⟩
 | _=>none
theorem zxk:za9 Tryz.prog 3 ⟨.int .i64,1,8,[.int .i64 0],[.dat (.int .i64 0)],[]⟩:=zaK (.int .i64 0) (by kernel_rfl) (by kernel_rfl) rfl (fun h=>by cases h) (by decide) ⟨rfl,rfl,by simp [zOk]⟩ (fun _=>rfl)
theorem zwv:za9 Tryz.prog 22 ⟨.sl 3,1,24,[zbc []],[.nil (zbc [])],[]⟩:=zaK (.slice none 0 0) (by kernel_rfl) (by kernel_rfl) rfl (fun h=>by cases h) (by decide) ⟨rfl,rfl,by simp [zOk]⟩ (fun _=>rfl)
theorem zxn:za9 Tryz.prog 4 ⟨.bool,1,1,[.bool false],[.known false],[]⟩:=zaK (.bool false) (by kernel_rfl) (by kernel_rfl) rfl (fun h=>by cases h) (by decide) ⟨rfl,rfl,by simp [zOk]⟩ (fun _=>rfl)
theorem zwi:za9 Tryz.prog 81 ⟨.sl 4,1,24,[zro []],[.nil (zro [])],[]⟩:=zaK (.slice none 0 0) (by kernel_rfl) (by kernel_rfl) rfl (fun h=>by cases h) (by decide) ⟨rfl,rfl,by simp [zOk]⟩ (fun _=>rfl)
theorem zxj:za9 Tryz.prog 5 ⟨.int .u8,1,1,[.int .u8 0],[.dat (.int .u8 0)],[]⟩:=zaK (.int .u8 0) (by kernel_rfl) (by kernel_rfl) rfl (fun h=>by cases h) (by decide) ⟨rfl,rfl,by simp [zOk]⟩ (fun _=>rfl)
theorem zxe:za9 Tryz.prog 9 ⟨.str,1,16,[.str ⟨#[]⟩],[.dat (.str ⟨#[]⟩)],[]⟩:=zaK (.string ⟨#[]⟩) (by kernel_rfl) (by kernel_rfl) rfl (fun h=>by cases h) (by decide) ⟨rfl,rfl,by simp [zOk]⟩ (fun _=>rfl)
theorem zvU:za9 Tryz.prog 248 ⟨.st,5,40,[.bool false,.int .i64 0,.int .i64 0,.int .i64 0,.int .i64 0],[.known false,.dat (.int .i64 0),.dat (.int .i64 0),.dat (.int .i64 0),.dat (.int .i64 0)],[(0,4),(1,3),(2,3),(3,3),(4,3)]⟩:=zaK (.agg #[.bool false,.int .i64 0,.int .i64 0,.int .i64 0,.int .i64 0]) (by kernel_rfl) (by kernel_rfl) rfl (fun h=>rfl) (by decide) ⟨rfl,rfl,by simp [zOk]⟩ (fun h=>by cases h)
theorem zwb:za9 Tryz.prog 180 ⟨.sl 248,1,24,[zbn []],[.nil (zbn [])],[]⟩:=zaK (.slice none 0 0) (by kernel_rfl) (by kernel_rfl) rfl (fun h=>by cases h) (by decide) ⟨rfl,rfl,by simp [zOk]⟩ (fun _=>rfl)
theorem zvk:za9 Tryz.prog 182 ⟨.st,2,32,[zbn [],.int .i64 0],[.nil (zbn []),.dat (.int .i64 0)],[(0,180),(1,3)]⟩:=zaK (.agg #[.slice none 0 0,.int .i64 0]) (by kernel_rfl) (by kernel_rfl) rfl (fun h=>rfl) (by decide) ⟨rfl,rfl,by simp [zOk]⟩ (fun h=>by cases h)
theorem zw4:za9 Tryz.prog 36 ⟨.sl 182,1,24,[zaF []],[.nil (zaF [])],[]⟩:=zaK (.slice none 0 0) (by kernel_rfl) (by kernel_rfl) rfl (fun h=>by cases h) (by decide) ⟨rfl,rfl,by simp [zOk]⟩ (fun _=>rfl)
theorem zvp:za9 Tryz.prog 203 ⟨.st,4,32,[.int .i64 0,.int .i64 0,.int .i64 0,.int .i64 0],[.dat (.int .i64 0),.dat (.int .i64 0),.dat (.int .i64 0),.dat (.int .i64 0)],[(0,3),(1,3),(2,3),(3,3)]⟩:=zaK (.agg #[.int .i64 0,.int .i64 0,.int .i64 0,.int .i64 0]) (by kernel_rfl) (by kernel_rfl) rfl (fun h=>rfl) (by decide) ⟨rfl,rfl,by simp [zOk]⟩ (fun h=>by cases h)
theorem zv8:za9 Tryz.prog 184 ⟨.sl 203,1,24,[zaO []],[.nil (zaO [])],[]⟩:=zaK (.slice none 0 0) (by kernel_rfl) (by kernel_rfl) rfl (fun h=>by cases h) (by decide) ⟨rfl,rfl,by simp [zOk]⟩ (fun _=>rfl)
theorem zvf:za9 Tryz.prog 186 ⟨.st,1,24,[zaO []],[.nil (zaO [])],[(0,184)]⟩:=zaK (.agg #[.slice none 0 0]) (by kernel_rfl) (by kernel_rfl) rfl (fun h=>rfl) (by decide) ⟨rfl,rfl,by simp [zOk]⟩ (fun h=>by cases h)
theorem zwY:za9 Tryz.prog 37 ⟨.sl 186,1,24,[zbo []],[.nil (zbo [])],[]⟩:=zaK (.slice none 0 0) (by kernel_rfl) (by kernel_rfl) rfl (fun h=>by cases h) (by decide) ⟨rfl,rfl,by simp [zOk]⟩ (fun _=>rfl)
theorem zwG:za9 Tryz.prog 39 ⟨.st,4,80,[zbc [],.int .i64 0,zaF [],zbo []],[.nil (zbc []),.dat (.int .i64 0),.nil (zaF []),.nil (zbo [])],[(0,22),(1,3),(2,36),(3,37)]⟩:=zaK (.agg #[.slice none 0 0,.int .i64 0,.slice none 0 0,.slice none 0 0]) (by kernel_rfl) (by kernel_rfl) rfl (fun h=>rfl) (by decide) ⟨rfl,rfl,by simp [zOk]⟩ (fun h=>by cases h)
theorem zvM:za9 Tryz.prog 197 ⟨.st,3,24,[.int .i64 0,.int .i64 0,.int .i64 0],[.dat (.int .i64 0),.dat (.int .i64 0),.dat (.int .i64 0)],[(0,3),(1,3),(2,3)]⟩:=zaK (.agg #[.int .i64 0,.int .i64 0,.int .i64 0]) (by kernel_rfl) (by kernel_rfl) rfl (fun h=>rfl) (by decide) ⟨rfl,rfl,by simp [zOk]⟩ (fun h=>by cases h)
theorem zvC:za9 Tryz.prog 189 ⟨.sl 197,1,24,[zB []],[.nil (zB [])],[]⟩:=zaK (.slice none 0 0) (by kernel_rfl) (by kernel_rfl) rfl (fun h=>by cases h) (by decide) ⟨rfl,rfl,by simp [zOk]⟩ (fun _=>rfl)
theorem zvw:za9 Tryz.prog 191 ⟨.st,5,88,[.int .i64 0,zbc [],zB [],zB [],.bool false],[.dat (.int .i64 0),.nil (zbc []),.nil (zB []),.nil (zB []),.known false],[(0,3),(1,22),(2,189),(3,189),(4,4)]⟩:=zaK (.agg #[.int .i64 0,.slice none 0 0,.slice none 0 0,.slice none 0 0,.bool false]) (by kernel_rfl) (by kernel_rfl) rfl (fun h=>rfl) (by decide) ⟨rfl,rfl,by simp [zOk]⟩ (fun h=>by cases h)
theorem zxa:za9 Tryz.prog 42 ⟨.sl 191,1,24,[zy []],[.nil (zy [])],[]⟩:=zaK (.slice none 0 0) (by kernel_rfl) (by kernel_rfl) rfl (fun h=>by cases h) (by decide) ⟨rfl,rfl,by simp [zOk]⟩ (fun _=>rfl)
theorem zv9:za9 Tryz.prog 193 ⟨.st,2,32,[.int .i64 0,zbc []],[.dat (.int .i64 0),.nil (zbc [])],[(0,3),(1,22)]⟩:=zaK (.agg #[.int .i64 0,.slice none 0 0]) (by kernel_rfl) (by kernel_rfl) rfl (fun h=>rfl) (by decide) ⟨rfl,rfl,by simp [zOk]⟩ (fun h=>by cases h)
theorem zw1:za9 Tryz.prog 43 ⟨.sl 193,1,24,[zm []],[.nil (zm [])],[]⟩:=zaK (.slice none 0 0) (by kernel_rfl) (by kernel_rfl) rfl (fun h=>by cases h) (by decide) ⟨rfl,rfl,by simp [zOk]⟩ (fun _=>rfl)
theorem zvJ:za9 Tryz.prog 128 ⟨.st,4,32,[.int .i64 0,.int .i64 0,.int .i64 0,.bool false],[.dat (.int .i64 0),.dat (.int .i64 0),.dat (.int .i64 0),.known false],[(0,3),(1,3),(2,3),(3,4)]⟩:=zaK (.agg #[.int .i64 0,.int .i64 0,.int .i64 0,.bool false]) (by kernel_rfl) (by kernel_rfl) rfl (fun h=>rfl) (by decide) ⟨rfl,rfl,by simp [zOk]⟩ (fun h=>by cases h)
theorem zvy:za9 Tryz.prog 125 ⟨.sl 128,1,24,[zaW []],[.nil (zaW [])],[]⟩:=zaK (.slice none 0 0) (by kernel_rfl) (by kernel_rfl) rfl (fun h=>by cases h) (by decide) ⟨rfl,rfl,by simp [zOk]⟩ (fun _=>rfl)
theorem zvO:za9 Tryz.prog 172 ⟨.st,5,72,[.int .i64 0,.int .i64 0,zbc [],.int .i64 0,zaW []],[.dat (.int .i64 0),.dat (.int .i64 0),.nil (zbc []),.dat (.int .i64 0),.nil (zaW [])],[(0,3),(1,3),(2,22),(3,3),(4,125)]⟩:=zaK (.agg #[.int .i64 0,.int .i64 0,.slice none 0 0,.int .i64 0,.slice none 0 0]) (by kernel_rfl) (by kernel_rfl) rfl (fun h=>rfl) (by decide) ⟨rfl,rfl,by simp [zOk]⟩ (fun h=>by cases h)
theorem zwA:za9 Tryz.prog 41 ⟨.sl 172,1,24,[zbI []],[.nil (zbI [])],[]⟩:=zaK (.slice none 0 0) (by kernel_rfl) (by kernel_rfl) rfl (fun h=>by cases h) (by decide) ⟨rfl,rfl,by simp [zOk]⟩ (fun _=>rfl)
theorem zw8:za9 Tryz.prog 45 ⟨.st,3,72,[zbI [],zy [],zm []],[.nil (zbI []),.nil (zy []),.nil (zm [])],[(0,41),(1,42),(2,43)]⟩:=zaK (.agg #[.slice none 0 0,.slice none 0 0,.slice none 0 0]) (by kernel_rfl) (by kernel_rfl) rfl (fun h=>rfl) (by decide) ⟨rfl,rfl,by simp [zOk]⟩ (fun h=>by cases h)
theorem zvR:za9 Tryz.prog 199 ⟨.st,6,48,[.bool false,.int .i64 0,.bool false,.int .i64 0,.int .i64 0,.int .i64 0],[.known false,.dat (.int .i64 0),.known false,.dat (.int .i64 0),.dat (.int .i64 0),.dat (.int .i64 0)],[(0,4),(1,3),(2,4),(3,197)]⟩:=zaK (.agg #[.bool false,.int .i64 0,.bool false,.int .i64 0,.int .i64 0,.int .i64 0]) (by kernel_rfl) (by kernel_rfl) rfl (fun h=>rfl) (by decide) ⟨rfl,rfl,by simp [zOk]⟩ (fun h=>by cases h)
theorem zvB:za9 Tryz.prog 170 ⟨.sl 199,1,24,[zau []],[.nil (zau [])],[]⟩:=zaK (.slice none 0 0) (by kernel_rfl) (by kernel_rfl) rfl (fun h=>by cases h) (by decide) ⟨rfl,rfl,by simp [zOk]⟩ (fun _=>rfl)
theorem zvq:za9 Tryz.prog 101 ⟨.st,2,16,[.int .i64 0,.int .i64 0],[.dat (.int .i64 0),.dat (.int .i64 0)],[(0,3),(1,3)]⟩:=zaK (.agg #[.int .i64 0,.int .i64 0]) (by kernel_rfl) (by kernel_rfl) rfl (fun h=>rfl) (by decide) ⟨rfl,rfl,by simp [zOk]⟩ (fun h=>by cases h)
theorem zwK:za9 Tryz.prog 34 ⟨.sl 101,1,24,[zcz []],[.nil (zcz [])],[]⟩:=zaK (.slice none 0 0) (by kernel_rfl) (by kernel_rfl) rfl (fun h=>by cases h) (by decide) ⟨rfl,rfl,by simp [zOk]⟩ (fun _=>rfl)
theorem zvP:za9 Tryz.prog 144 ⟨.st,4,32,[.int .i64 0,.int .i64 0,.int .i64 0,.int .i64 0],[.dat (.int .i64 0),.dat (.int .i64 0),.dat (.int .i64 0),.dat (.int .i64 0)],[(0,3),(1,3),(2,3),(3,3)]⟩:=zaK (.agg #[.int .i64 0,.int .i64 0,.int .i64 0,.int .i64 0]) (by kernel_rfl) (by kernel_rfl) rfl (fun h=>rfl) (by decide) ⟨rfl,rfl,by simp [zOk]⟩ (fun h=>by cases h)
theorem zw0:za9 Tryz.prog 80 ⟨.sl 144,1,24,[zcU []],[.nil (zcU [])],[]⟩:=zaK (.slice none 0 0) (by kernel_rfl) (by kernel_rfl) rfl (fun h=>by cases h) (by decide) ⟨rfl,rfl,by simp [zOk]⟩ (fun _=>rfl)
theorem zvs:za9 Tryz.prog 269 ⟨.st,5,40,[.bool false,.int .i64 0,.int .i64 0,.int .i64 0,.int .i64 0],[.known false,.dat (.int .i64 0),.dat (.int .i64 0),.dat (.int .i64 0),.dat (.int .i64 0)],[(0,4),(1,3),(2,3),(3,3),(4,3)]⟩:=zaK (.agg #[.bool false,.int .i64 0,.int .i64 0,.int .i64 0,.int .i64 0]) (by kernel_rfl) (by kernel_rfl) rfl (fun h=>rfl) (by decide) ⟨rfl,rfl,by simp [zOk]⟩ (fun h=>by cases h)
theorem zve:za9 Tryz.prog 152 ⟨.sl 269,1,24,[zbn []],[.nil (zbn [])],[]⟩:=zaK (.slice none 0 0) (by kernel_rfl) (by kernel_rfl) rfl (fun h=>by cases h) (by decide) ⟨rfl,rfl,by simp [zOk]⟩ (fun _=>rfl)
theorem zvG:za9 Tryz.prog 154 ⟨.st,2,32,[zbn [],.int .i64 0],[.nil (zbn []),.dat (.int .i64 0)],[(0,152),(1,3)]⟩:=zaK (.agg #[.slice none 0 0,.int .i64 0]) (by kernel_rfl) (by kernel_rfl) rfl (fun h=>rfl) (by decide) ⟨rfl,rfl,by simp [zOk]⟩ (fun h=>by cases h)
theorem zwD:za9 Tryz.prog 23 ⟨.sl 154,1,24,[zaF []],[.nil (zaF [])],[]⟩:=zaK (.slice none 0 0) (by kernel_rfl) (by kernel_rfl) rfl (fun h=>by cases h) (by decide) ⟨rfl,rfl,by simp [zOk]⟩ (fun _=>rfl)
theorem zvF:za9 Tryz.prog 271 ⟨.st,4,32,[.int .i64 0,.int .i64 0,.int .i64 0,.int .i64 0],[.dat (.int .i64 0),.dat (.int .i64 0),.dat (.int .i64 0),.dat (.int .i64 0)],[(0,3),(1,3),(2,3),(3,3)]⟩:=zaK (.agg #[.int .i64 0,.int .i64 0,.int .i64 0,.int .i64 0]) (by kernel_rfl) (by kernel_rfl) rfl (fun h=>rfl) (by decide) ⟨rfl,rfl,by simp [zOk]⟩ (fun h=>by cases h)
theorem zvh:za9 Tryz.prog 156 ⟨.sl 271,1,24,[zaO []],[.nil (zaO [])],[]⟩:=zaK (.slice none 0 0) (by kernel_rfl) (by kernel_rfl) rfl (fun h=>by cases h) (by decide) ⟨rfl,rfl,by simp [zOk]⟩ (fun _=>rfl)
theorem zvH:za9 Tryz.prog 158 ⟨.st,1,24,[zaO []],[.nil (zaO [])],[(0,156)]⟩:=zaK (.agg #[.slice none 0 0]) (by kernel_rfl) (by kernel_rfl) rfl (fun h=>rfl) (by decide) ⟨rfl,rfl,by simp [zOk]⟩ (fun h=>by cases h)
theorem zw2:za9 Tryz.prog 24 ⟨.sl 158,1,24,[zbo []],[.nil (zbo [])],[]⟩:=zaK (.slice none 0 0) (by kernel_rfl) (by kernel_rfl) rfl (fun h=>by cases h) (by decide) ⟨rfl,rfl,by simp [zOk]⟩ (fun _=>rfl)
theorem zwq:za9 Tryz.prog 26 ⟨.st,4,80,[zbc [],.int .i64 0,zaF [],zbo []],[.nil (zbc []),.dat (.int .i64 0),.nil (zaF []),.nil (zbo [])],[(0,22),(1,3),(2,23),(3,24)]⟩:=zaK (.agg #[.slice none 0 0,.int .i64 0,.slice none 0 0,.slice none 0 0]) (by kernel_rfl) (by kernel_rfl) rfl (fun h=>rfl) (by decide) ⟨rfl,rfl,by simp [zOk]⟩ (fun h=>by cases h)
theorem zvK:za9 Tryz.prog 275 ⟨.st,3,24,[.int .i64 0,.int .i64 0,.int .i64 0],[.dat (.int .i64 0),.dat (.int .i64 0),.dat (.int .i64 0)],[(0,3),(1,3),(2,3)]⟩:=zaK (.agg #[.int .i64 0,.int .i64 0,.int .i64 0]) (by kernel_rfl) (by kernel_rfl) rfl (fun h=>rfl) (by decide) ⟨rfl,rfl,by simp [zOk]⟩ (fun h=>by cases h)
theorem zvS:za9 Tryz.prog 164 ⟨.sl 275,1,24,[zB []],[.nil (zB [])],[]⟩:=zaK (.slice none 0 0) (by kernel_rfl) (by kernel_rfl) rfl (fun h=>by cases h) (by decide) ⟨rfl,rfl,by simp [zOk]⟩ (fun _=>rfl)
theorem zvu:za9 Tryz.prog 166 ⟨.st,5,88,[.int .i64 0,zbc [],zB [],zB [],.bool false],[.dat (.int .i64 0),.nil (zbc []),.nil (zB []),.nil (zB []),.known false],[(0,3),(1,22),(2,164),(3,164),(4,4)]⟩:=zaK (.agg #[.int .i64 0,.slice none 0 0,.slice none 0 0,.slice none 0 0,.bool false]) (by kernel_rfl) (by kernel_rfl) rfl (fun h=>rfl) (by decide) ⟨rfl,rfl,by simp [zOk]⟩ (fun h=>by cases h)
theorem zwn:za9 Tryz.prog 28 ⟨.sl 166,1,24,[zy []],[.nil (zy [])],[]⟩:=zaK (.slice none 0 0) (by kernel_rfl) (by kernel_rfl) rfl (fun h=>by cases h) (by decide) ⟨rfl,rfl,by simp [zOk]⟩ (fun _=>rfl)
theorem zvN:za9 Tryz.prog 169 ⟨.st,2,32,[.int .i64 0,zbc []],[.dat (.int .i64 0),.nil (zbc [])],[(0,3),(1,22)]⟩:=zaK (.agg #[.int .i64 0,.slice none 0 0]) (by kernel_rfl) (by kernel_rfl) rfl (fun h=>rfl) (by decide) ⟨rfl,rfl,by simp [zOk]⟩ (fun h=>by cases h)
theorem zwh:za9 Tryz.prog 29 ⟨.sl 169,1,24,[zm []],[.nil (zm [])],[]⟩:=zaK (.slice none 0 0) (by kernel_rfl) (by kernel_rfl) rfl (fun h=>by cases h) (by decide) ⟨rfl,rfl,by simp [zOk]⟩ (fun _=>rfl)
theorem zvj:za9 Tryz.prog 273 ⟨.st,4,32,[.int .i64 0,.int .i64 0,.int .i64 0,.bool false],[.dat (.int .i64 0),.dat (.int .i64 0),.dat (.int .i64 0),.known false],[(0,3),(1,3),(2,3),(3,4)]⟩:=zaK (.agg #[.int .i64 0,.int .i64 0,.int .i64 0,.bool false]) (by kernel_rfl) (by kernel_rfl) rfl (fun h=>rfl) (by decide) ⟨rfl,rfl,by simp [zOk]⟩ (fun h=>by cases h)
theorem zvQ:za9 Tryz.prog 160 ⟨.sl 273,1,24,[zaW []],[.nil (zaW [])],[]⟩:=zaK (.slice none 0 0) (by kernel_rfl) (by kernel_rfl) rfl (fun h=>by cases h) (by decide) ⟨rfl,rfl,by simp [zOk]⟩ (fun _=>rfl)
theorem zvz:za9 Tryz.prog 162 ⟨.st,5,72,[.int .i64 0,.int .i64 0,zbc [],.int .i64 0,zaW []],[.dat (.int .i64 0),.dat (.int .i64 0),.nil (zbc []),.dat (.int .i64 0),.nil (zaW [])],[(0,3),(1,3),(2,22),(3,3),(4,160)]⟩:=zaK (.agg #[.int .i64 0,.int .i64 0,.slice none 0 0,.int .i64 0,.slice none 0 0]) (by kernel_rfl) (by kernel_rfl) rfl (fun h=>rfl) (by decide) ⟨rfl,rfl,by simp [zOk]⟩ (fun h=>by cases h)
theorem zw3:za9 Tryz.prog 27 ⟨.sl 162,1,24,[zbI []],[.nil (zbI [])],[]⟩:=zaK (.slice none 0 0) (by kernel_rfl) (by kernel_rfl) rfl (fun h=>by cases h) (by decide) ⟨rfl,rfl,by simp [zOk]⟩ (fun _=>rfl)
theorem zwO:za9 Tryz.prog 31 ⟨.st,3,72,[zbI [],zy [],zm []],[.nil (zbI []),.nil (zy []),.nil (zm [])],[(0,27),(1,28),(2,29)]⟩:=zaK (.agg #[.slice none 0 0,.slice none 0 0,.slice none 0 0]) (by kernel_rfl) (by kernel_rfl) rfl (fun h=>rfl) (by decide) ⟨rfl,rfl,by simp [zOk]⟩ (fun h=>by cases h)
theorem zv5:za9 Tryz.prog 124 ⟨.st,2,16,[.int .i64 0,.int .i64 0],[.dat (.int .i64 0),.dat (.int .i64 0)],[(0,3),(1,3)]⟩:=zaK (.agg #[.int .i64 0,.int .i64 0]) (by kernel_rfl) (by kernel_rfl) rfl (fun h=>rfl) (by decide) ⟨rfl,rfl,by simp [zOk]⟩ (fun h=>by cases h)
theorem zwr:za9 Tryz.prog 54 ⟨.sl 124,1,24,[zcz []],[.nil (zcz [])],[]⟩:=zaK (.slice none 0 0) (by kernel_rfl) (by kernel_rfl) rfl (fun h=>by cases h) (by decide) ⟨rfl,rfl,by simp [zOk]⟩ (fun _=>rfl)
theorem zvW:za9 Tryz.prog 146 ⟨.st,4,32,[.int .i64 0,.int .i64 0,.int .i64 0,.int .i64 0],[.dat (.int .i64 0),.dat (.int .i64 0),.dat (.int .i64 0),.dat (.int .i64 0)],[(0,3),(1,3),(2,3),(3,3)]⟩:=zaK (.agg #[.int .i64 0,.int .i64 0,.int .i64 0,.int .i64 0]) (by kernel_rfl) (by kernel_rfl) rfl (fun h=>rfl) (by decide) ⟨rfl,rfl,by simp [zOk]⟩ (fun h=>by cases h)
theorem zwj:za9 Tryz.prog 78 ⟨.sl 146,1,24,[zcU []],[.nil (zcU [])],[]⟩:=zaK (.slice none 0 0) (by kernel_rfl) (by kernel_rfl) rfl (fun h=>by cases h) (by decide) ⟨rfl,rfl,by simp [zOk]⟩ (fun _=>rfl)
theorem za:zaJ Tryz.prog tb:=by
 intro t y h
 unfold tb at h
 split at h<;>first
  | cases h;done
  | (cases h;exact zxk)
  | (cases h;exact zwv)
  | (cases h;exact zxn)
  | (cases h;exact zwi)
  | (cases h;exact zxj)
  | (cases h;exact zxe)
  | (cases h;exact zvU)
  | (cases h;exact zwb)
  | (cases h;exact zvk)
  | (cases h;exact zw4)
  | (cases h;exact zvp)
  | (cases h;exact zv8)
  | (cases h;exact zvf)
  | (cases h;exact zwY)
  | (cases h;exact zwG)
  | (cases h;exact zvM)
  | (cases h;exact zvC)
  | (cases h;exact zvw)
  | (cases h;exact zxa)
  | (cases h;exact zv9)
  | (cases h;exact zw1)
  | (cases h;exact zvJ)
  | (cases h;exact zvy)
  | (cases h;exact zvO)
  | (cases h;exact zwA)
  | (cases h;exact zw8)
  | (cases h;exact zvR)
  | (cases h;exact zvB)
  | (cases h;exact zvq)
  | (cases h;exact zwK)
  | (cases h;exact zvP)
  | (cases h;exact zw0)
  | (cases h;exact zvs)
  | (cases h;exact zve)
  | (cases h;exact zvG)
  | (cases h;exact zwD)
  | (cases h;exact zvF)
  | (cases h;exact zvh)
  | (cases h;exact zvH)
  | (cases h;exact zw2)
  | (cases h;exact zwq)
  | (cases h;exact zvK)
  | (cases h;exact zvS)
  | (cases h;exact zvu)
  | (cases h;exact zwn)
  | (cases h;exact zvN)
  | (cases h;exact zwh)
  | (cases h;exact zvj)
  | (cases h;exact zvQ)
  | (cases h;exact zvz)
  | (cases h;exact zw3)
  | (cases h;exact zwO)
  | (cases h;exact zv5)
  | (cases h;exact zwr)
  | (cases h;exact zvW)
  | (cases h;exact zwj)
end Go.Proofs.YtjmefaihkblliaaGreat.Ab
namespace Go.Proofs.YtjmefaihkblliaaGreat.Wd
open Go.RowKit
open Go.Proofs.YtjmefaihkblliaaGreat.Ab (zaj zax zaD zcZ zn zo zY zal zbl zW zz zbR)
set_option linter.unusedVariables false
set_option linter.unusedSimpArgs false
set_option maxHeartbeats 4000000
set_option maxRecDepth 100000
theorem zqr {w:World} {A:Option Addr} {xs:List Int} (h:Rp.int.Row w A xs) {i:Nat} (hi:i<xs.length) :
 ∃ b o,A=some ⟨b,o,none⟩∧w.cell? ⟨b,o+i,none⟩=some (.int .i64 xs[i]):=by
 obtain ⟨b,o,rfl,hc⟩:=h.2 (by rintro rfl;simp at hi)
 obtain ⟨cx,hk,hcc⟩:=hc i _ (List.getElem?_eq_getElem hi)
 obtain rfl:cx=_:=hk
 have:=hcc 0 _ rfl
 simp only [Rp.int,Rp.scalar,Nat.mul_one,Nat.add_zero] at this
 exact ⟨b,o,rfl,this⟩
def zdq:Rp zaj:=Rp.iso (Rp.pair Rp.bool (Rp.pair Rp.int (Rp.pair Rp.int (Rp.pair Rp.int Rp.int)))) (fun x=>(x.send,x.chan,x.reg,x.ok,x.to))
theorem zlo {w:World} {x:zaj} {cs:List Value} (h:zdq.K w x cs):cs=[.bool x.send,.int .i64 x.chan,.int .i64 x.reg,.int .i64 x.ok,.int .i64 x.to]:=by
 obtain ⟨_,_,rfl,rfl,⟨_,_,rfl,rfl,⟨_,_,rfl,rfl,⟨_,_,rfl,rfl,rfl⟩⟩⟩⟩:=h
 exact rfl
theorem zhB (w:World) (x:zaj):zdq.K w x [.bool x.send,.int .i64 x.chan,.int .i64 x.reg,.int .i64 x.ok,.int .i64 x.to]:=⟨_,_,rfl,rfl,⟨_,_,rfl,rfl,⟨_,_,rfl,rfl,⟨_,_,rfl,rfl,rfl⟩⟩⟩⟩
theorem zuq {w:World} {bs:List Nat} {x:zaj} {cs:List Value} (h:zdq.O w bs x cs):cs=[.bool x.send,.int .i64 x.chan,.int .i64 x.reg,.int .i64 x.ok,.int .i64 x.to]∧bs=[]:=by
 obtain ⟨_,_,_,_,rfl,rfl,⟨rfl,rfl⟩,⟨_,_,_,_,rfl,rfl,⟨rfl,rfl⟩,⟨_,_,_,_,rfl,rfl,⟨rfl,rfl⟩,⟨_,_,_,_,rfl,rfl,⟨rfl,rfl⟩,⟨rfl,rfl⟩⟩⟩⟩⟩:=h
 exact ⟨rfl,rfl⟩
theorem zsC (w:World) (x:zaj):zdq.O w [] x [.bool x.send,.int .i64 x.chan,.int .i64 x.reg,.int .i64 x.ok,.int .i64 x.to]:=⟨_,_,[],_,rfl,rfl,⟨rfl,rfl⟩,⟨_,_,[],_,rfl,rfl,⟨rfl,rfl⟩,⟨_,_,[],_,rfl,rfl,⟨rfl,rfl⟩,⟨_,_,[],_,rfl,rfl,⟨rfl,rfl⟩,⟨rfl,rfl⟩⟩⟩⟩⟩
theorem zlG {w:World} {A:Option Addr} {xs:List zaj} (h:zdq.Row w A xs) {i:Nat} (hi:i<xs.length) :
 ∃ b o,A=some ⟨b,o,none⟩∧w.cell? ⟨b,o+i*5,none⟩=some (.bool xs[i].send)∧w.cell? ⟨b,o+i*5+1,none⟩=some (.int .i64 xs[i].chan)∧w.cell? ⟨b,o+i*5+2,none⟩=some (.int .i64 xs[i].reg)∧w.cell? ⟨b,o+i*5+3,none⟩=some (.int .i64 xs[i].ok)∧w.cell? ⟨b,o+i*5+4,none⟩=some (.int .i64 xs[i].to):=by
 obtain ⟨b,o,rfl,hc⟩:=h.2 (by rintro rfl;simp at hi)
 obtain ⟨cx,hk,hcc⟩:=hc i _ (List.getElem?_eq_getElem hi)
 obtain rfl:=zlo hk
 exact ⟨b,o,rfl,hcc 0 _ rfl,hcc 1 _ rfl,hcc 2 _ rfl,hcc 3 _ rfl,hcc 4 _ rfl⟩
def zbE:Rp zax:=Rp.iso (Rp.pair (Rp.slice 248 zdq) Rp.int) (fun x=>(x.cases,x.els))
theorem zgH {w:World} {x:zax} {cs:List Value} (h:zbE.K w x cs):∃ A0 c0,cs=[.slice A0 (x.cases).length c0,.int .i64 x.els]∧x.cases.length≤c0∧zdq.Row w A0 x.cases:=by
 obtain ⟨_,_,rfl,⟨A0,c0,rfl,l0,r0⟩,rfl⟩:=h
 exact ⟨A0,c0,rfl,l0,r0⟩
theorem zeb (w:World) (x:zax) {A0:Option Addr} {c0:Nat} (l0:x.cases.length≤c0) (r0:zdq.Row w A0 x.cases):zbE.K w x [.slice A0 (x.cases).length c0,.int .i64 x.els]:=⟨_,_,rfl,⟨_,_,rfl,l0,r0⟩,rfl⟩
theorem zso {w:World} {bs:List Nat} {x:zax} {cs:List Value} (h:zbE.O w bs x cs):∃ B0 d0 b0,cs=[.slice B0 x.cases.length d0,.int .i64 x.els]∧bs=b0∧zdq.Own 248 w b0 (.slice B0 x.cases.length d0) x.cases:=by
 obtain ⟨_,_,_,_,rfl,rfl,⟨v0,rfl,o0⟩,⟨rfl,rfl⟩⟩:=h
 obtain ⟨B0,d0,rfl,_,_⟩:=o0.row
 exact ⟨_,_,_,rfl,by simp,o0⟩
theorem zpy (w:World) (x:zax) {v0:Value} {b0:List Nat} (o0:zdq.Own 248 w b0 v0 x.cases):zbE.O w (b0) x [v0,.int .i64 x.els]:=by
 have h:zbE.O w (b0++([])) x [v0,.int .i64 x.els]:=⟨_,_,b0,_,rfl,rfl,⟨_,rfl,o0⟩,⟨rfl,rfl⟩⟩
 simpa using h
theorem zgZ {w:World} {A:Option Addr} {xs:List zax} (h:zbE.Row w A xs) {i:Nat} (hi:i<xs.length) :
 ∃ b o A0 c0,A=some ⟨b,o,none⟩∧w.cell? ⟨b,o+i*2,none⟩=some (.slice A0 (xs[i].cases).length c0)∧w.cell? ⟨b,o+i*2+1,none⟩=some (.int .i64 xs[i].els)∧xs[i].cases.length≤c0∧zdq.Row w A0 xs[i].cases:=by
 obtain ⟨b,o,rfl,hc⟩:=h.2 (by rintro rfl;simp at hi)
 obtain ⟨cx,hk,hcc⟩:=hc i _ (List.getElem?_eq_getElem hi)
 obtain ⟨A0,c0,rfl,l0,r0⟩:=zgH hk
 exact ⟨b,o,A0,c0,rfl,hcc 0 _ rfl,hcc 1 _ rfl,l0,r0⟩
def zcq:Rp zaD:=Rp.iso (Rp.pair Rp.int (Rp.pair Rp.int (Rp.pair Rp.int Rp.int))) (fun x=>(x.op,x.a,x.b,x.c))
theorem zjR {w:World} {x:zaD} {cs:List Value} (h:zcq.K w x cs):cs=[.int .i64 x.op,.int .i64 x.a,.int .i64 x.b,.int .i64 x.c]:=by
 obtain ⟨_,_,rfl,rfl,⟨_,_,rfl,rfl,⟨_,_,rfl,rfl,rfl⟩⟩⟩:=h
 exact rfl
theorem zgh (w:World) (x:zaD):zcq.K w x [.int .i64 x.op,.int .i64 x.a,.int .i64 x.b,.int .i64 x.c]:=⟨_,_,rfl,rfl,⟨_,_,rfl,rfl,⟨_,_,rfl,rfl,rfl⟩⟩⟩
theorem zsY {w:World} {bs:List Nat} {x:zaD} {cs:List Value} (h:zcq.O w bs x cs):cs=[.int .i64 x.op,.int .i64 x.a,.int .i64 x.b,.int .i64 x.c]∧bs=[]:=by
 obtain ⟨_,_,_,_,rfl,rfl,⟨rfl,rfl⟩,⟨_,_,_,_,rfl,rfl,⟨rfl,rfl⟩,⟨_,_,_,_,rfl,rfl,⟨rfl,rfl⟩,⟨rfl,rfl⟩⟩⟩⟩:=h
 exact ⟨rfl,rfl⟩
theorem zqA (w:World) (x:zaD):zcq.O w [] x [.int .i64 x.op,.int .i64 x.a,.int .i64 x.b,.int .i64 x.c]:=⟨_,_,[],_,rfl,rfl,⟨rfl,rfl⟩,⟨_,_,[],_,rfl,rfl,⟨rfl,rfl⟩,⟨_,_,[],_,rfl,rfl,⟨rfl,rfl⟩,⟨rfl,rfl⟩⟩⟩⟩
theorem zj9 {w:World} {A:Option Addr} {xs:List zaD} (h:zcq.Row w A xs) {i:Nat} (hi:i<xs.length) :
 ∃ b o,A=some ⟨b,o,none⟩∧w.cell? ⟨b,o+i*4,none⟩=some (.int .i64 xs[i].op)∧w.cell? ⟨b,o+i*4+1,none⟩=some (.int .i64 xs[i].a)∧w.cell? ⟨b,o+i*4+2,none⟩=some (.int .i64 xs[i].b)∧w.cell? ⟨b,o+i*4+3,none⟩=some (.int .i64 xs[i].c):=by
 obtain ⟨b,o,rfl,hc⟩:=h.2 (by rintro rfl;simp at hi)
 obtain ⟨cx,hk,hcc⟩:=hc i _ (List.getElem?_eq_getElem hi)
 obtain rfl:=zjR hk
 exact ⟨b,o,rfl,hcc 0 _ rfl,hcc 1 _ rfl,hcc 2 _ rfl,hcc 3 _ rfl⟩
def zc3:Rp zcZ:=Rp.iso (Rp.slice 203 zcq) (fun x=>x.code)
theorem zjA {w:World} {x:zcZ} {cs:List Value} (h:zc3.K w x cs):∃ A0 c0,cs=[.slice A0 (x.code).length c0]∧x.code.length≤c0∧zcq.Row w A0 x.code:=by
 obtain ⟨A0,c0,rfl,l0,r0⟩:=h
 exact ⟨A0,c0,rfl,l0,r0⟩
theorem zfB (w:World) (x:zcZ) {A0:Option Addr} {c0:Nat} (l0:x.code.length≤c0) (r0:zcq.Row w A0 x.code):zc3.K w x [.slice A0 (x.code).length c0]:=⟨_,_,rfl,l0,r0⟩
theorem zuX {w:World} {bs:List Nat} {x:zcZ} {cs:List Value} (h:zc3.O w bs x cs):∃ B0 d0 b0,cs=[.slice B0 x.code.length d0]∧bs=b0∧zcq.Own 203 w b0 (.slice B0 x.code.length d0) x.code:=by
 obtain ⟨v0,rfl,o0⟩:=h
 obtain ⟨B0,d0,rfl,_,_⟩:=o0.row
 exact ⟨_,_,_,rfl,by simp,o0⟩
theorem zr1 (w:World) (x:zcZ) {v0:Value} {b0:List Nat} (o0:zcq.Own 203 w b0 v0 x.code):zc3.O w (b0) x [v0]:=by
 have h:zc3.O w (b0) x [v0]:=⟨_,rfl,o0⟩
 simpa using h
theorem zi4 {w:World} {A:Option Addr} {xs:List zcZ} (h:zc3.Row w A xs) {i:Nat} (hi:i<xs.length) :
 ∃ b o A0 c0,A=some ⟨b,o,none⟩∧w.cell? ⟨b,o+i,none⟩=some (.slice A0 (xs[i].code).length c0)∧xs[i].code.length≤c0∧zcq.Row w A0 xs[i].code:=by
 obtain ⟨b,o,rfl,hc⟩:=h.2 (by rintro rfl;simp at hi)
 obtain ⟨cx,hk,hcc⟩:=hc i _ (List.getElem?_eq_getElem hi)
 obtain ⟨A0,c0,rfl,l0,r0⟩:=zjA hk
 have:=hcc 0 _ rfl
 simp only [show zc3.sz=1 from rfl,Nat.mul_one,Nat.add_zero] at this
 exact ⟨b,o,A0,c0,rfl,this,l0,r0⟩
def zd3:Rp zn:=Rp.iso (Rp.pair (Rp.slice 3 Rp.int) (Rp.pair Rp.int (Rp.pair (Rp.slice 182 zbE) (Rp.slice 186 zc3)))) (fun x=>(x.caps,x.mus,x.sels,x.procs))
theorem zjG {w:World} {x:zn} {cs:List Value} (h:zd3.K w x cs):∃ A0 c0 A1 c1 A2 c2,cs=[.slice A0 (x.caps).length c0,.int .i64 x.mus,.slice A1 (x.sels).length c1,.slice A2 (x.procs).length c2]∧x.caps.length≤c0∧Rp.int.Row w A0 x.caps∧x.sels.length≤c1∧zbE.Row w A1 x.sels∧x.procs.length≤c2∧zc3.Row w A2 x.procs:=by
 obtain ⟨_,_,rfl,⟨A0,c0,rfl,l0,r0⟩,⟨_,_,rfl,rfl,⟨_,_,rfl,⟨A1,c1,rfl,l1,r1⟩,⟨A2,c2,rfl,l2,r2⟩⟩⟩⟩:=h
 exact ⟨A0,c0,A1,c1,A2,c2,rfl,l0,r0,l1,r1,l2,r2⟩
theorem zgC (w:World) (x:zn) {A0:Option Addr} {c0:Nat} (l0:x.caps.length≤c0) (r0:Rp.int.Row w A0 x.caps) {A1:Option Addr} {c1:Nat} (l1:x.sels.length≤c1) (r1:zbE.Row w A1 x.sels) {A2:Option Addr} {c2:Nat} (l2:x.procs.length≤c2) (r2:zc3.Row w A2 x.procs):zd3.K w x [.slice A0 (x.caps).length c0,.int .i64 x.mus,.slice A1 (x.sels).length c1,.slice A2 (x.procs).length c2]:=⟨_,_,rfl,⟨_,_,rfl,l0,r0⟩,⟨_,_,rfl,rfl,⟨_,_,rfl,⟨_,_,rfl,l1,r1⟩,⟨_,_,rfl,l2,r2⟩⟩⟩⟩
theorem zoQ {w:World} {bs:List Nat} {x:zn} {cs:List Value} (h:zd3.O w bs x cs):∃ B0 d0 b0 B1 d1 b1 B2 d2 b2,cs=[.slice B0 x.caps.length d0,.int .i64 x.mus,.slice B1 x.sels.length d1,.slice B2 x.procs.length d2]∧bs=b0++b1++b2∧Rp.int.Own 3 w b0 (.slice B0 x.caps.length d0) x.caps∧zbE.Own 182 w b1 (.slice B1 x.sels.length d1) x.sels∧zc3.Own 186 w b2 (.slice B2 x.procs.length d2) x.procs:=by
 obtain ⟨_,_,_,_,rfl,rfl,⟨v0,rfl,o0⟩,⟨_,_,_,_,rfl,rfl,⟨rfl,rfl⟩,⟨_,_,_,_,rfl,rfl,⟨v1,rfl,o1⟩,⟨v2,rfl,o2⟩⟩⟩⟩:=h
 obtain ⟨B0,d0,rfl,_,_⟩:=o0.row
 obtain ⟨B1,d1,rfl,_,_⟩:=o1.row
 obtain ⟨B2,d2,rfl,_,_⟩:=o2.row
 exact ⟨_,_,_,_,_,_,_,_,_,rfl,by simp,o0,o1,o2⟩
theorem zr9 (w:World) (x:zn) {v0:Value} {b0:List Nat} (o0:Rp.int.Own 3 w b0 v0 x.caps) {v1:Value} {b1:List Nat} (o1:zbE.Own 182 w b1 v1 x.sels) {v2:Value} {b2:List Nat} (o2:zc3.Own 186 w b2 v2 x.procs):zd3.O w (b0++b1++b2) x [v0,.int .i64 x.mus,v1,v2]:=by
 have h:zd3.O w (b0++([]++(b1++(b2)))) x [v0,.int .i64 x.mus,v1,v2]:=⟨_,_,b0,_,rfl,rfl,⟨_,rfl,o0⟩,⟨_,_,[],_,rfl,rfl,⟨rfl,rfl⟩,⟨_,_,b1,_,rfl,rfl,⟨_,rfl,o1⟩,⟨_,rfl,o2⟩⟩⟩⟩
 simpa using h
def zdP:Rp zbR:=Rp.iso (Rp.pair Rp.int Rp.int) (fun x=>(x.g,x.c))
theorem zlB {w:World} {x:zbR} {cs:List Value} (h:zdP.K w x cs):cs=[.int .i64 x.g,.int .i64 x.c]:=by
 obtain ⟨_,_,rfl,rfl,rfl⟩:=h
 exact rfl
theorem zhV (w:World) (x:zbR):zdP.K w x [.int .i64 x.g,.int .i64 x.c]:=⟨_,_,rfl,rfl,rfl⟩
theorem zuN {w:World} {bs:List Nat} {x:zbR} {cs:List Value} (h:zdP.O w bs x cs):cs=[.int .i64 x.g,.int .i64 x.c]∧bs=[]:=by
 obtain ⟨_,_,_,_,rfl,rfl,⟨rfl,rfl⟩,⟨rfl,rfl⟩⟩:=h
 exact ⟨rfl,rfl⟩
theorem zrN (w:World) (x:zbR):zdP.O w [] x [.int .i64 x.g,.int .i64 x.c]:=⟨_,_,[],_,rfl,rfl,⟨rfl,rfl⟩,⟨rfl,rfl⟩⟩
theorem zlK {w:World} {A:Option Addr} {xs:List zbR} (h:zdP.Row w A xs) {i:Nat} (hi:i<xs.length) :
 ∃ b o,A=some ⟨b,o,none⟩∧w.cell? ⟨b,o+i*2,none⟩=some (.int .i64 xs[i].g)∧w.cell? ⟨b,o+i*2+1,none⟩=some (.int .i64 xs[i].c):=by
 obtain ⟨b,o,rfl,hc⟩:=h.2 (by rintro rfl;simp at hi)
 obtain ⟨cx,hk,hcc⟩:=hc i _ (List.getElem?_eq_getElem hi)
 obtain rfl:=zlB hk
 exact ⟨b,o,rfl,hcc 0 _ rfl,hcc 1 _ rfl⟩
def zdL (x:zax):Nat:=(x.cases.length)
def zbi:List zax→Nat
 | []=>0
 | x::xs=>zdL x+zbi xs
theorem ziH:∀ {xs:List zax} {i:Nat} (h:i<xs.length),zdL xs[i]≤zbi xs
 | x::xs,0,_=>Nat.le_add_right _ _
 | x::xs,i+1,h=>Nat.le_trans (ziH (xs:=xs) (Nat.lt_of_succ_lt_succ h)) (Nat.le_add_left _ _)
theorem zho:∀ {xs:List zax} {i:Nat} (h:i<xs.length),zbi (xs.take (i+1))=zbi (xs.take i)+zdL xs[i]
 | x::xs,0,_=>by simp [zbi]
 | x::xs,i+1,h=>by
   have:=zho (xs:=xs) (i:=i) (Nat.lt_of_succ_lt_succ h)
   simp only [List.take_succ_cons,zbi,List.getElem_cons_succ] at this ⊢
   omega
theorem ziF:∀ {xs:List zax} {i:Nat},zbi (xs.take i)≤zbi xs
 | [],i=>by simp
 | x::xs,0=>Nat.zero_le _
 | x::xs,i+1=>Nat.add_le_add_left (ziF (xs:=xs)) _
def zfq (x:zcZ):Nat:=(x.code.length)
def zcf:List zcZ→Nat
 | []=>0
 | x::xs=>zfq x+zcf xs
theorem zkx:∀ {xs:List zcZ} {i:Nat} (h:i<xs.length),zfq xs[i]≤zcf xs
 | x::xs,0,_=>Nat.le_add_right _ _
 | x::xs,i+1,h=>Nat.le_trans (zkx (xs:=xs) (Nat.lt_of_succ_lt_succ h)) (Nat.le_add_left _ _)
theorem ziD:∀ {xs:List zcZ} {i:Nat} (h:i<xs.length),zcf (xs.take (i+1))=zcf (xs.take i)+zfq xs[i]
 | x::xs,0,_=>by simp [zcf]
 | x::xs,i+1,h=>by
   have:=ziD (xs:=xs) (i:=i) (Nat.lt_of_succ_lt_succ h)
   simp only [List.take_succ_cons,zcf,List.getElem_cons_succ] at this ⊢
   omega
theorem zkD:∀ {xs:List zcZ} {i:Nat},zcf (xs.take i)≤zcf xs
 | [],i=>by simp
 | x::xs,0=>Nat.zero_le _
 | x::xs,i+1=>Nat.add_le_add_left (zkD (xs:=xs)) _
def zdF (x:zn):Nat:=(x.caps.length+(x.sels.length+zbi x.sels)+(x.procs.length+zcf x.procs))
theorem ztS:(Tryz.prog.info? 3).map (fun i=>(i.zero,i.size,i.bytes))=some (some (.int .i64 0),1,8):=by kernel_rfl
theorem zsj:(Tryz.prog.info? 248).map (fun i=>(i.zero,i.size,i.bytes))=some (some (.agg #[.bool false,.int .i64 0,.int .i64 0,.int .i64 0,.int .i64 0]),5,40):=by kernel_rfl
theorem zqc:(Tryz.prog.info? 182).map (fun i=>(i.zero,i.size,i.bytes))=some (some (.agg #[.slice none 0 0,.int .i64 0]),2,32):=by kernel_rfl
theorem zqi:(Tryz.prog.info? 203).map (fun i=>(i.zero,i.size,i.bytes))=some (some (.agg #[.int .i64 0,.int .i64 0,.int .i64 0,.int .i64 0]),4,32):=by kernel_rfl
theorem zsu:(Tryz.prog.info? 186).map (fun i=>(i.zero,i.size,i.bytes))=some (some (.agg #[.slice none 0 0]),1,24):=by kernel_rfl
theorem zrX:(Tryz.prog.info? 101).map (fun i=>(i.zero,i.size,i.bytes))=some (some (.agg #[.int .i64 0,.int .i64 0]),2,16):=by kernel_rfl
def zva (x:zaj):Prop:=Any (x.send)∧(Wf (x.chan)∧(Wf (x.reg)∧(Wf (x.ok)∧(Wf (x.to)))))
theorem ztO:zfy Tryz.prog 269 zdq zva:=zdC Tryz.underlying269 (by kernel_rfl) (zbX (zqj Tryz.underlying4) rfl (by kernel_rfl) (zbX (zcu Tryz.underlying3) rfl (by kernel_rfl) (zbX (zcu Tryz.underlying3) rfl (by kernel_rfl) (zbX (zcu Tryz.underlying3) rfl (by kernel_rfl) (zej (zcu Tryz.underlying3) rfl (by kernel_rfl)))))) (fun a=>⟨a.1,a.2.1,a.2.2.1,a.2.2.2.1,a.2.2.2.2⟩) (fun _=>rfl)
def zqZ (x:zax):Prop:=(∀ e∈(x.cases),zva e)∧(Wf (x.els))
theorem zqo:zfy Tryz.prog 154 zbE zqZ:=zdC Tryz.underlying154 (by kernel_rfl) (zbX (zen Tryz.underlying152 (by kernel_rfl) (by decide) ztO) rfl (by kernel_rfl) (zej (zcu Tryz.underlying3) rfl (by kernel_rfl))) (fun a=>⟨a.1,a.2⟩) (fun _=>rfl)
def zt0 (x:zaD):Prop:=Wf (x.op)∧(Wf (x.a)∧(Wf (x.b)∧(Wf (x.c))))
theorem zsq:zfy Tryz.prog 271 zcq zt0:=zdC Tryz.underlying271 (by kernel_rfl) (zbX (zcu Tryz.underlying3) rfl (by kernel_rfl) (zbX (zcu Tryz.underlying3) rfl (by kernel_rfl) (zbX (zcu Tryz.underlying3) rfl (by kernel_rfl) (zej (zcu Tryz.underlying3) rfl (by kernel_rfl))))) (fun a=>⟨a.1,a.2.1,a.2.2.1,a.2.2.2⟩) (fun _=>rfl)
def zu5 (x:zcZ):Prop:=∀ e∈(x.code),zt0 e
theorem ztu:zfy Tryz.prog 158 zc3 zu5:=zdC Tryz.underlying158 (by kernel_rfl) (zej (zen Tryz.underlying156 (by kernel_rfl) (by decide) zsq) rfl (by kernel_rfl)) (fun a=>⟨a⟩) (fun _=>rfl)
def zwJ (x:zn):Prop:=(∀ e∈(x.caps),Wf (e))∧(Wf (x.mus)∧((∀ e∈(x.sels),zqZ e)∧(∀ e∈(x.procs),zu5 e)))
theorem zsT:zfy Tryz.prog 26 zd3 zwJ:=zdC Tryz.underlying26 (by kernel_rfl) (zbX (zen Tryz.underlying22 (by kernel_rfl) (by decide) (zcu Tryz.underlying3)) rfl (by kernel_rfl) (zbX (zcu Tryz.underlying3) rfl (by kernel_rfl) (zbX (zen Tryz.underlying23 (by kernel_rfl) (by decide) zqo) rfl (by kernel_rfl) (zej (zen Tryz.underlying24 (by kernel_rfl) (by decide) ztu) rfl (by kernel_rfl))))) (fun a=>⟨a.1,a.2.1,a.2.2.1,a.2.2.2⟩) (fun _=>rfl)
def zwp (x:zbR):Prop:=Wf (x.g)∧(Wf (x.c))
theorem ztl:zfy Tryz.prog 124 zdP zwp:=zdC Tryz.underlying124 (by kernel_rfl) (zbX (zcu Tryz.underlying3) rfl (by kernel_rfl) (zej (zcu Tryz.underlying3) rfl (by kernel_rfl))) (fun a=>⟨a.1,a.2⟩) (fun _=>rfl)
end Go.Proofs.YtjmefaihkblliaaGreat.Wd

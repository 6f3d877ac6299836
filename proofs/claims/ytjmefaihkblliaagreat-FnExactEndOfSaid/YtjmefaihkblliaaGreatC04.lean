/- Texts of one claim, joined: App, Apw, BrO, E0, E1, E2, E3, E4, E1s, E5, E6, E7, E8, E9, E10, E11, E12, E13, E14, E15, E16, E17, E18, E19, E20, E21, E22, E23, Eq, E24, E25, E26, E27, E28, E29, BrP. Conditions: zas each says. -/
import Derived.ArgAppend
import Derived.Deep.Upon
import Derived.Test.YtjmefaihkblliaaGreatC00
import Derived.Test.YtjmefaihkblliaaGreatC02
namespace Go.Proofs.YtjmefaihkblliaaGreat.Wd
open Go.RowKit
set_option linter.unusedVariables false
set_option linter.unusedSimpArgs false
structure zoj {α:Type} (d:Rp α) (e:Nat) (w:World) (bs bl:List Nat) (v:Value) (zs:List α) (v':Value) (w':World) (bs':List Nat):Prop where
 own:d.Own e w' bs' v' zs
 nd:bs'.Nodup
 sub:∀ b∈bs',b∈bs∨b∈bl∨w.heap.size≤b
 os:w'.os=w.os
 tape:w'.tape=w.tape
 output:w'.output=w.output
 size:w.heap.size≤w'.heap.size
 block:∀ k,k<w.heap.size→k∉bs→w'.heap[k]? = w.heap[k]?
 row:∃ A c,v'=.slice A zs.length c
theorem zuR {P:Program} {c:Code} {Q:Exit→Act→World→Prop} {a:Act} {w:World} (h:∀ W,W=w→Code.wp P c Q a W):Code.wp P c Q a w:=h w rfl
theorem ztF {α:Type} {d:Rp α} {e:Nat} {w:World} {bs:List Nat} {B:Option Addr} {n c:Nat} {xs:List α} (h:d.Own e w bs (.slice B n c) xs):xs.length≤c∧d.Row w B xs:=by
 obtain ⟨A',c',hv,h1,h2⟩:=h.row
 cases hv;exact ⟨h1,h2⟩
theorem zoj.below {α:Type} {d:Rp α} {e:Nat} {w0 w w':World} {bs bl bs':List Nat} {v v':Value} {zs:List α} (h:zoj d e w bs bl v zs v' w' bs') (hb:∀ b∈bs,w0.heap.size≤b) (h0:Below w0.heap.size w0 w):Below w0.heap.size w0 w':=
 ⟨h.os.trans h0.os,h.tape.trans h0.tape,h.output.trans h0.output,Nat.le_trans h0.size h.size,fun k hk=>(h.block k (Nat.lt_of_lt_of_le hk h0.size) (fun hm=>by have:=hb k hm;omega)).trans (h0.block k hk)⟩
theorem zoj.fresh {α:Type} {d:Rp α} {e:Nat} {w0 w w':World} {bs bl bs':List Nat} {v v':Value} {zs:List α} (h:zoj d e w bs bl v zs v' w' bs') (hb:zcd w0 bs) (hl:∀ b∈bl,w0.heap.size≤b) (h0:w0.heap.size≤w.heap.size):zcd w0 bs':=
 ⟨h.nd,fun b hm=>by rcases h.sub b hm with h1 | h1 | h1;exact hb.2 b h1;exact hl b h1;omega⟩
def zwS {α:Type} (d:Rp α):Prop:=∀ w x cs,d.K w x cs→d.O w [] x cs
theorem zpV {α:Type} (enc:α→Value) (h1:∀ x,(enc x).oneCell'=true):zwS (Rp.scalar enc h1):=fun _ _ _ h=>⟨rfl,h⟩
theorem zkv:zwS Rp.bool:=zpV _ _
section
variable {P:Program}
/-! the same at a step of a region that draws its order -/
end
structure Bri {α:Type} (d:Rp α) (f:α→List Ab.C):Prop where
 ok:∀ {w bs x cs},d.O w bs x cs→Ab.Ds (fun _=>False) w cs (f x)
 len:∀ x,(f x).length=d.sz
theorem zmd {α:Type} {enc:α→Value} {h1:∀ x,(enc x).oneCell'=true} {f:α→Ab.C} (h:∀ w x,Ab.Rf (fun _=>False) w (enc x) (f x)):Bri (Rp.scalar enc h1) (fun x=>[f x]):=by
 refine ⟨fun {w bs x cs} ho=>?_,fun x=>rfl⟩
 obtain ⟨_,rfl⟩:=ho
 refine ⟨rfl,fun j u c hu hc=>?_⟩
 cases j with
 | zero=>cases hu;cases hc;exact h w x
 | succ j=>cases hu
theorem zdI:Bri Rp.int (fun x=>[.int .i64 x]):=zmd (f:=fun x=>.int .i64 x) fun w x=>.int _ _
theorem zsR:Bri Rp.bool (fun x=>[.bool x]):=zmd (f:=fun x=>.bool x) fun w x=>.bool _
theorem zdd {α β:Type} {a:Rp α} {b:Rp β} {f:α→List Ab.C} {g:β→List Ab.C} (ha:Bri a f) (hb:Bri b g):Bri (Rp.pair a b) (fun x=>f x.1++g x.2):=by
 refine ⟨fun {w bs x cs} ho=>?_,fun x=>by rw [List.length_append,ha.len,hb.len];rfl⟩
 obtain ⟨c0,c1,b0,b1,rfl,rfl,h0,h1⟩:=ho
 have d0:=ha.ok h0
 have d1:=hb.ok h1
 refine ⟨by rw [List.length_append,List.length_append,d0.1,d1.1],fun j u c hu hc=>?_⟩
 rcases Nat.lt_or_ge j c0.length with hj | hj
 ·rw [List.getElem?_append_left hj] at hu
  rw [List.getElem?_append_left (by rw [← d0.1];exact hj)] at hc
  exact d0.2 j u c hu hc
 ·rw [List.getElem?_append_right hj] at hu
  rw [List.getElem?_append_right (by rw [← d0.1];exact hj),← d0.1] at hc
  exact d1.2 _ u c hu hc
theorem zik {α β:Type} {d:Rp α} {f:α→List Ab.C} (h:Bri d f) (g:β→α):Bri (Rp.iso d g) (fun x=>f (g x)):=⟨fun ho=>h.ok ho,fun x=>h.len (g x)⟩
theorem zuc {w:World} {g k:Nat} {cur:Array Value} {e:TypeId} (hg:w.heap[g]? = some (.cells cur e (0,0))):w.cell? ⟨g,k,none⟩=cur[k]?:=by
 simp only [World.cell?,hg]
 simp
theorem zq1 {α:Type} {d:Rp α} {f:α→List Ab.C} (h:Bri d f) (hpos:0<d.sz) {e:Nat} {w:World} {bs:List Nat} {v:Value} {xs:List α} (ho:d.Own e w bs v xs) (z:Nat) (hz:d.sz=z) (dflt:α):Ab.Rf (fun _=>False) w v (.sl z dflt f xs):=by
 subst hz
 rcases ho with ⟨rfl,_,A,rfl⟩ | ⟨g,o,c,cur,bss,rfl,rfl,hl,hg,hsz,h1,h2,hx⟩
 ·exact .nil A 0 d.sz dflt f
 ·rcases Nat.eq_zero_or_pos xs.length with h0 | h0
  ·rw [List.length_eq_zero_iff.1 h0];exact .nil _ _ _ _ _
  ·have key:∀ i x j q,xs[i]? = some x→(f x)[j]? = some q→∃ u,cur[o+i*d.sz+j]? = some u∧Ab.Rf (fun _=>False) w u q:=fun i x j q hi hj=>by
    have hib:i<bss.length:=by rw [hl];exact (List.getElem?_eq_some_iff.1 hi).1
    have hO:=hx i x bss[i] hi (List.getElem?_eq_getElem hib)
    have hd:=h.ok hO
    have hjl:=(List.getElem?_eq_some_iff.1 hj).1
    have hsl:j<(Rp.seg cur.toList (o+i*d.sz) d.sz).length:=by rw [hd.1];exact hjl
    have hu:=List.getElem?_eq_getElem hsl
    refine ⟨_,?_,hd.2 j _ q hu hj⟩
    have:=Rp.seg_get hu
    rwa [Array.getElem?_toList] at this
   refine .row g o c d.sz xs.length dflt f xs (fun i j=>(cur[o+i*d.sz+j]?).getD undef) rfl h0 hpos h1 h2 (fun h=>h) (fun x _=>h.len x) (fun i x j q hi hj=>?_) (fun i x j q hi hj=>?_)
   ·obtain ⟨u,hu,_⟩:=key i x j q hi hj
    rw [zuc hg,hu];rfl
   ·obtain ⟨u,hu,hr⟩:=key i x j q hi hj
    rw [hu];exact hr
theorem zgF {α:Type} {d:Rp α} {f:α→List Ab.C} (h:Bri d f) (hpos:0<d.sz) (e z:Nat) (hz:d.sz=z) (dflt:α):Bri (Rp.slice e d) (fun xs=>[.sl z dflt f xs]):=by
 refine ⟨fun {w bs x cs} ho=>?_,fun x=>rfl⟩
 obtain ⟨v,rfl,ho⟩:=ho
 refine ⟨rfl,fun j u c hu hc=>?_⟩
 cases j with
 | zero=>cases hu;cases hc;exact zq1 h hpos ho z hz dflt
 | succ j=>cases hu
theorem zn4 {m:Ab.Mp} {k:Nat}:¬ Ab.Own (fun _=>False) Ab.M0 m k:=fun h=>h.elim id fun ⟨id,h,_⟩=>by cases h
theorem ztT {α:Type} {d:Rp α} {f:α→List Ab.C} (h:Bri d f) {w:World} {bs:List Nat} {x:α} {cs:List Value} (ho:d.O w bs x cs) (m:Ab.Mp):Ab.R2 (fun _=>False) Ab.M0 m w (.agg cs.toArray) (.dagg (f x)):=
 ⟨cs,rfl,(h.ok ho).1,fun j u c hu hc=>Ab.Rf.sub ((h.ok ho).2 j u c hu hc) fun k hk=>(zn4 hk).elim⟩
theorem zrw {α:Type} {d:Rp α} {f:α→List Ab.C} (h:Bri d f) (hpos:0<d.sz) {e:Nat} {w:World} {bs:List Nat} {v:Value} {xs:List α} (ho:d.Own e w bs v xs) (z:Nat) (hz:d.sz=z) (dflt:α) (m:Ab.Mp):Ab.R2 (fun _=>False) Ab.M0 m w v (.dat (.sl z dflt f xs)):=
 Ab.Rf.sub (zq1 h hpos ho z hz dflt) fun k hk=>(zn4 hk).elim
end Go.Proofs.YtjmefaihkblliaaGreat.Wd
namespace Go.Proofs.YtjmefaihkblliaaGreat.Ab
set_option linter.unusedVariables false
set_option linter.unusedSimpArgs false
set_option maxRecDepth 100000
/-! ### what they answer -/
def zK (n:Int):Bool:=decide (0≤n∧n≤999)
def zcE (n:Int):Bool:=decide (0≤n∧n<6)
def zds (n lo hi:Int):Bool:=decide (lo≤n∧n<hi)
def fieldsOf (op:Int):Int:=
 if op=1 then 0
 else if op=6∨op=10∨op=11∨op=12∨op=13∨op=15 then 1
 else if op=2∨op=7∨op=8∨op=14 then 2
 else if op=3∨op=4∨op=5∨op=9 then 3
 else -1
/-! ### the walks -/
theorem zN (n lo hi:Int):Con Tryz.prog 189 [.dat (.int .i64 n),.dat (.int .i64 lo),.dat (.int .i64 hi)] (.dat (.bool (zds n lo hi))):=by
 refine zk (rs:=[(.tmp 6,4)]) za Tryz.func189 rfl rfl rfl (Nat.le_of_ble_eq_true rfl) fun ho x hn=>?_
 (repeat' (first | (refine ze hn za rfl qS ?_ ?_<;>intro hc<;>first | (replace hc:=qC hc;try exact qX) | exact qF hc | skip) | refine zf hn za rfl qS ⟨_,rfl,?_⟩ | refine qK hn za rfl rfl (by assumption) ?_))<;>(simp [zdW,zds, *]<;>omega)
theorem zaY (n:Int):Con Tryz.prog 193 [.dat (.int .i64 n)] (.dat (.bool (zK n))):=by
 refine zk (rs:=[(.tmp 2,4)]) za Tryz.func193 rfl rfl rfl (Nat.le_of_ble_eq_true rfl) fun ho x hn=>?_
 (repeat' (first | (refine ze hn za rfl qS ?_ ?_<;>intro hc<;>first | (replace hc:=qC hc;try exact qX) | exact qF hc | skip) | refine zf hn za rfl qS ⟨_,rfl,?_⟩ | refine qK hn za rfl rfl (by assumption) ?_))<;>(simp [zdW,zK, *]<;>omega)
theorem zan (n:Int):Con Tryz.prog 178 [.dat (.int .i64 n)] (.dat (.bool (zK n))):=by
 refine zk (rs:=[(.tmp 2,4)]) za Tryz.func178 rfl rfl rfl (Nat.le_of_ble_eq_true rfl) fun ho x hn=>?_
 (repeat' (first | (refine ze hn za rfl qS ?_ ?_<;>intro hc<;>first | (replace hc:=qC hc;try exact qX) | exact qF hc | skip) | refine zf hn za rfl qS ⟨_,rfl,?_⟩ | refine qK hn za rfl rfl (by assumption) ?_))<;>(simp [zdW,zK, *]<;>omega)
theorem ze9 (n:Int):Con Tryz.prog 223 [.dat (.int .i64 n)] (.dat (.bool (zcE n))):=by
 refine zk (rs:=[(.tmp 2,4)]) za Tryz.func223 rfl rfl rfl (Nat.le_of_ble_eq_true rfl) fun ho x hn=>?_
 (repeat' (first | (refine ze hn za rfl qS ?_ ?_<;>intro hc<;>first | (replace hc:=qC hc;try exact qX) | exact qF hc | skip) | refine zf hn za rfl qS ⟨_,rfl,?_⟩ | refine qK hn za rfl rfl (by assumption) ?_))<;>(simp [zdW,zcE, *]<;>omega)
theorem zfP (n:Int):Con Tryz.prog 220 [.dat (.int .i64 n)] (.dat (.bool (zcE n))):=by
 refine zk (rs:=[(.tmp 2,4)]) za Tryz.func220 rfl rfl rfl (Nat.le_of_ble_eq_true rfl) fun ho x hn=>?_
 (repeat' (first | (refine ze hn za rfl qS ?_ ?_<;>intro hc<;>first | (replace hc:=qC hc;try exact qX) | exact qF hc | skip) | refine zf hn za rfl qS ⟨_,rfl,?_⟩ | refine qK hn za rfl rfl (by (first | exact zN _ _ _ | assumption)) ?_))<;>simp [zdW,zcE,zds]
theorem zk4 (op:Int):Con Tryz.prog 221 [.dat (.int .i64 op)] (.dat (.int .i64 (fieldsOf op))):=by
 refine zk (rs:=[(.tmp 2,3)]) za Tryz.func221 rfl rfl rfl (Nat.le_of_ble_eq_true rfl) fun ho x hn=>?_
 (repeat' (first | (refine ze hn za rfl qS ?_ ?_<;>intro hc<;>first | (replace hc:=qC hc;try exact qX) | exact qF hc | skip) | refine zf hn za rfl qS ⟨_,rfl,?_⟩ | refine qK hn za rfl rfl (by assumption) ?_))<;>simp [zdW,fieldsOf, *]
theorem zlc (op:Int):Con Tryz.prog 262 [.dat (.int .i64 op)] (.dat (.int .i64 (fieldsOf op))):=by
 refine zk (rs:=[(.tmp 2,3)]) za Tryz.func262 rfl rfl rfl (Nat.le_of_ble_eq_true rfl) fun ho x hn=>?_
 (repeat' (first | (refine ze hn za rfl qS ?_ ?_<;>intro hc<;>first | (replace hc:=qC hc;try exact qX) | exact qF hc | skip) | refine zf hn za rfl qS ⟨_,rfl,?_⟩ | refine qK hn za rfl rfl (by assumption) ?_))<;>simp [zdW,fieldsOf, *]
def zap (nc mus ns np n:Int) (i:zaD):Prop:=
 (i.op=1∧i.a=0∧i.b=0∧i.c=0)∨
 (i.op=2∧zcE i.a=true∧zK i.b=true∧i.c=0)∨
 ((i.op=3∨i.op=4∨i.op=5)∧zcE i.a=true∧zcE i.b=true∧zcE i.c=true)∨
 (i.op=6∧(0≤i.a∧i.a<n)∧i.b=0∧i.c=0)∨
 (i.op=7∧zcE i.a=true∧(0≤i.b∧i.b<n)∧i.c=0)∨
 (i.op=8∧(-1≤i.a∧i.a<nc)∧zcE i.b=true∧i.c=0)∨
 (i.op=9∧(-1≤i.a∧i.a<nc)∧zcE i.b=true∧zcE i.c=true)∨
 (i.op=10∧(-1≤i.a∧i.a<nc)∧i.b=0∧i.c=0)∨
 (i.op=11∧(0≤i.a∧i.a<ns)∧i.b=0∧i.c=0)∨
 ((i.op=12∨i.op=13)∧(0≤i.a∧i.a<mus)∧i.b=0∧i.c=0)∨
 (i.op=14∧(0≤i.a∧i.a<np)∧zcE i.b=true∧i.c=0)∨
 (i.op=15∧zcE i.a=true∧i.b=0∧i.c=0)
instance (nc mus ns np n:Int) (i:zaD):Decidable (zap nc mus ns np n i):=by unfold zap;infer_instance
def zeq (p:zn) (n:Int) (i:zaD):Bool:=decide (zap p.caps.length p.mus p.sels.length p.procs.length n i)
theorem zeZ (p:zn) (n:Int) (i:zaD):zeq p n i=true↔zap p.caps.length p.mus p.sels.length p.procs.length n i:=by simp [zeq]
def zdT (p:zn) (n:Int):Bool:=decide (-1≤n∧n<p.caps.length)
theorem zn9 {p:zn} (h:OkL (.dagg (zQ p))):p.caps.length≤(9223372036854775807:Nat)∧p.sels.length≤(9223372036854775807:Nat)∧p.procs.length≤(9223372036854775807:Nat)∧(∀ s∈p.sels,s.cases.length≤(9223372036854775807:Nat))∧(∀ s∈p.procs,s.code.length≤(9223372036854775807:Nat)):=
 ⟨(h (zbc p.caps) (by simp [zQ])).len,(h (zaF p.sels) (by simp [zQ])).len,(h (zbo p.procs) (by simp [zQ])).len,
   fun s hs=>(Okc.el (h (zaF p.sels) (by simp [zQ])) hs (c:=zbn s.cases) (by simp [zey])).len,
   fun s hs=>(Okc.el (h (zbo p.procs) (by simp [zQ])) hs (c:=zaO s.code) (by simp [zt4])).len⟩
theorem ze5 (p:zn) (n:Int):Con Tryz.prog 219 [.dagg (zQ p),.dat (.int .i64 n)] (.dat (.bool (zdT p n))):=by
 refine zk (rs:=[(.tmp 4,4)]) za Tryz.func219 rfl rfl rfl (Nat.le_of_ble_eq_true rfl) fun ho x hn=>?_
 (repeat' (first
 | (refine ze hn za rfl ?_ (fun hc=>?_) (fun hc=>?_);exact qS;all_goals (try (((try simp only [decide_eq_true_eq,decide_eq_false_iff_not,Bool.not_eq_true',Bool.not_eq_false',Bool.not_eq_eq_eq_not,Bool.not_true,Bool.not_false,Int.not_lt,Int.not_le,Int.toNat_natCast,beq_iff_eq,beq_eq_false_iff_ne,ne_eq] at hc);(try (first | simp only [(z8 _).1,(z8 _).2.1,(z8 _).2.2,zbJ,zb9,zbM,zcc,zcg,zck,zbH,zbL] at hc | skip));try (exfalso;omega)))))
 | (refine zf hn za rfl ?_ ⟨_,rfl,?_⟩;exact qS)
 | (refine qK hn za rfl rfl (by (first | exact zN _ _ _ | assumption)) ?_)))<;>simp [zdW,zds,zdT]
theorem zhX (n lo hi:Int):Con Tryz.prog 261 [.dat (.int .i64 n),.dat (.int .i64 lo),.dat (.int .i64 hi)] (.dat (.bool (zds n lo (hi+1)))):=by
 refine zk (rs:=[(.tmp 6,4)]) za Tryz.func261 rfl rfl rfl (Nat.le_of_ble_eq_true rfl) fun ho x hn=>?_
 (repeat' (first
 | (refine ze hn za rfl ?_ (fun hc=>?_) (fun hc=>?_);exact qS;all_goals (try (((try simp only [decide_eq_true_eq,decide_eq_false_iff_not,Bool.not_eq_true',Bool.not_eq_false',Bool.not_eq_eq_eq_not,Bool.not_true,Bool.not_false,Int.not_lt,Int.not_le,Int.toNat_natCast,beq_iff_eq,beq_eq_false_iff_ne,ne_eq] at hc);(try (first | simp only [(z8 _).1,(z8 _).2.1,(z8 _).2.2,zbJ,zb9,zbM,zcc,zcg,zck,zbH,zbL] at hc | skip));try (exfalso;omega)))))
 | (refine zf hn za rfl ?_ ⟨_,rfl,?_⟩;exact qS)
 | (refine qK hn za rfl rfl (by assumption) ?_)))<;>(simp [zdW,zds, *]<;>omega)
theorem zeI (p:zn) (n:Int):Con Tryz.prog 222 [.dagg (zQ p),.dat (.int .i64 n)] (.dat (.bool (zdT p n))):=by
 refine zk (rs:=[(.tmp 4,4)]) za Tryz.func222 rfl rfl rfl (Nat.le_of_ble_eq_true rfl) fun ho x hn=>?_
 have hb:=(zn9 (ho _ List.mem_cons_self)).1
 (repeat' (first
 | (refine ze hn za rfl ?_ (fun hc=>?_) (fun hc=>?_);exact qS;all_goals (try (((try simp only [decide_eq_true_eq,decide_eq_false_iff_not,Bool.not_eq_true',Bool.not_eq_false',Bool.not_eq_eq_eq_not,Bool.not_true,Bool.not_false,Int.not_lt,Int.not_le,Int.toNat_natCast,beq_iff_eq,beq_eq_false_iff_ne,ne_eq] at hc);(try (first | simp only [(z8 _).1,(z8 _).2.1,(z8 _).2.2,zbJ,zb9,zbM,zcc,zcg,zck,zbH,zbL] at hc | skip));try (exfalso;omega)))))
 | (refine zf hn za rfl ?_ ⟨_,rfl,?_⟩;exact qS)
 | (refine qK hn za rfl rfl (by (first | exact zhX _ _ _ | assumption)) ?_)))<;>(simp [zdW,zds,zdT])
def zd9 (i:zaD) (k:Int):Bool:=decide ((0<k∨i.a=0)∧(1<k∨i.b=0)∧(2<k∨i.c=0))
theorem zkc (i:zaD) (k:Int):Con Tryz.prog 263 [.dagg (zc7 i),.dat (.int .i64 k)] (.dat (.bool (zd9 i k))):=by
 refine zk (rs:=[(.tmp 4,4)]) za Tryz.func263 rfl rfl rfl (Nat.le_of_ble_eq_true rfl) fun ho x hn=>?_
 (repeat' (first
 | (refine ze hn za rfl ?_ (fun hc=>?_) (fun hc=>?_);exact qS;all_goals (try (((try simp only [decide_eq_true_eq,decide_eq_false_iff_not,Bool.not_eq_true',Bool.not_eq_false',Bool.not_eq_eq_eq_not,Bool.not_true,Bool.not_false,Int.not_lt,Int.not_le,Int.toNat_natCast,beq_iff_eq,beq_eq_false_iff_ne,ne_eq] at hc);(try (first | simp only [(z8 _).1,(z8 _).2.1,(z8 _).2.2,zbJ,zb9,zbM,zcc,zcg,zck,zbH,zbL] at hc | skip));try (exfalso;omega)))))
 | (refine zf hn za rfl ?_ ⟨_,rfl,?_⟩;exact qS)
 | (refine qK hn za rfl rfl (by assumption) ?_)))<;>(simp [zdW,zd9, *]<;>omega)
theorem z8 (op:Int):(fieldsOf op=0↔op=1)∧(fieldsOf op=1↔op=6∨op=10∨op=11∨op=12∨op=13∨op=15)∧(fieldsOf op=2↔op=2∨op=7∨op=8∨op=14):=by
 unfold fieldsOf
 refine ⟨?_,?_,?_⟩<;>repeat' split<;>omega
theorem zbJ (n:Int):zcE n=true↔0≤n∧n<6:=by simp [zcE]
theorem zb9 (n:Int):zcE n=false↔¬ (0≤n∧n<6):=by simp [zcE]
theorem zbM (n:Int):zK n=true↔0≤n∧n≤999:=by simp [zK]
theorem zcc (n:Int):zK n=false↔¬ (0≤n∧n≤999):=by simp [zK]
theorem zcg (n lo hi:Int):zds n lo hi=true↔lo≤n∧n<hi:=by simp [zds]
theorem zck (n lo hi:Int):zds n lo hi=false↔¬ (lo≤n∧n<hi):=by simp [zds]
theorem zbH (p:zn) (n:Int):zdT p n=true↔-1≤n∧n<p.caps.length:=by simp [zdT]
theorem zbL (p:zn) (n:Int):zdT p n=false↔¬ (-1≤n∧n<p.caps.length):=by simp [zdT]
theorem zi7 (i:zaD) (k:Int):zd9 i k=true↔(0<k∨i.a=0)∧(1<k∨i.b=0)∧(2<k∨i.c=0):=by simp [zd9]
theorem zko (i:zaD) (k:Int):zd9 i k=false↔¬ ((0<k∨i.a=0)∧(1<k∨i.b=0)∧(2<k∨i.c=0)):=by rw [← zi7];simp
theorem zrT (op:Int):(fieldsOf op=0∧op=1)∨(fieldsOf op=1∧(op=6∨op=10∨op=11∨op=12∨op=13∨op=15))∨(fieldsOf op=2∧(op=2∨op=7∨op=8∨op=14))∨(fieldsOf op=3∧(op=3∨op=4∨op=5∨op=9))∨(fieldsOf op=-1∧(op≤0∨16≤op)):=by
 unfold fieldsOf
 repeat' split<;>omega
set_option maxHeartbeats 2000000 in
theorem zbm (p:zn) (n:Int) (i:zaD):Con Tryz.prog 161 [.dagg (zQ p),.dat (.int .i64 n),.dagg (zc7 i)] (.dat (.bool (zeq p n i))):=by
 refine zk (rs:=[(.tmp 6,4)]) za Tryz.func161 rfl rfl rfl (Nat.le_of_ble_eq_true rfl) fun ho x hn=>?_
 (repeat' (first
 | (refine ze hn za rfl ?_ (fun hc=>?_) (fun hc=>?_);exact qS;all_goals (try (((try simp only [decide_eq_true_eq,decide_eq_false_iff_not,Bool.not_eq_true',Bool.not_eq_false',Bool.not_eq_eq_eq_not,Bool.not_true,Bool.not_false,Int.not_lt,Int.not_le,Int.toNat_natCast,beq_iff_eq,beq_eq_false_iff_ne,ne_eq] at hc);(try (first | simp only [(z8 _).1,(z8 _).2.1,(z8 _).2.2,zbJ,zb9,zbM,zcc,zcg,zck,zbH,zbL] at hc | skip));try (exfalso;omega)))))
 | (refine zf hn za rfl ?_ ⟨_,rfl,?_⟩;exact qS)
 | (refine qK hn za rfl rfl (by (first | exact ze5 _ _ | exact zk4 _ | exact zfP _ | exact zaY _ | exact zN _ _ _ | assumption)) ?_)))
 all_goals (refine congrArg (fun b=>LV.dat (.bool b)) ?_;rw [Bool.eq_iff_iff];simp only [zeZ,zap,decide_eq_true_eq,zbJ,zbM,zcg,zbH,Bool.false_eq_true,true_iff,false_iff,Bool.and_eq_true,Bool.or_eq_true];first | done | (simp [*];done) | (simp [*];omega))
theorem qF1 {p G:Prop} (hp:p) (h:p→False:=by (intro hc;(try simp only [decide_eq_true_eq,decide_eq_false_iff_not,Bool.not_eq_true',Bool.not_eq_false',Bool.not_eq_eq_eq_not,Bool.not_true,Bool.not_false,Int.not_lt,Int.not_le,Int.toNat_natCast,beq_iff_eq,beq_eq_false_iff_ne,ne_eq] at hc)<;>(first | simp only [(z8 _).1,(z8 _).2.1,(z8 _).2.2,zbJ,zb9,zbM,zcc,zcg,zck,zbH,zbL] at hc | skip)<;>omega)):G:=(h hp).elim
theorem qC1 {p q:Prop} (hp:p) (h:p→q:=by (intro hc;(try simp only [decide_eq_true_eq,decide_eq_false_iff_not,Bool.not_eq_true',Bool.not_eq_false',Bool.not_eq_eq_eq_not,Bool.not_true,Bool.not_false,Int.not_lt,Int.not_le,Int.toNat_natCast,beq_iff_eq,beq_eq_false_iff_ne,ne_eq] at hc);(first | simp only [(z8 _).1,(z8 _).2.1,(z8 _).2.2,zbJ,zb9,zbM,zcc,zcg,zck,zbH,zbL] at hc | skip);exact hc)):q:=h hp
def zjI (cs:List zaj) (k:Nat):Bool:=(cs.take k).any (fun y=>decide (0≤(cs.getD k zE).chan∧(cs.getD k zE).chan=y.chan))
def zdn (p:zn) (n:Int) (cs:List zaj) (k:Nat):Bool:=zdT p (cs.getD k zE).chan && zcE (cs.getD k zE).reg && zcE (cs.getD k zE).ok && !((cs.getD k zE).send && !decide ((cs.getD k zE).ok=0)) && zds (cs.getD k zE).to 0 n && !zjI cs k
def zb8 (p:zn) (n:Int) (s:zax):Bool:=(List.range s.cases.length).all (fun k=>zdn p n s.cases k) && zds s.els (-1) n
theorem zhW {p:zn} {n:Int} {s:zax} {k:Nat} (hk:k<s.cases.length) (h:zdn p n s.cases k=false):zb8 p n s=false:=by
 unfold zb8
 rw [Bool.and_eq_false_iff]
 exact .inl (List.all_eq_false.2 ⟨k,List.mem_range.2 hk,by simp [h]⟩)
theorem zjP {p:zn} {n:Int} {s:zax} (h:∀ k<s.cases.length,zdn p n s.cases k=true):zb8 p n s=zds s.els (-1) n:=by
 unfold zb8
 rw [List.all_eq_true.2 (fun k hk=>h k (List.mem_range.1 hk)),Bool.true_and]
theorem znv {α:Type} {cs:List α} {i q:Nat} {d:α} (hq:q<i):((cs.take i).drop 0).getD q d=cs.getD q d:=by
 simp only [List.drop_zero,List.getD_eq_getElem?_getD,List.getElem?_take,hq,if_true]
theorem zpv {α:Type} {cs:List α} {i:Nat} (hi:i≤cs.length):((cs.take i).drop 0).length=i:=by
 rw [List.drop_zero,List.length_take];omega
theorem zrh {cs:List zaj} {i q:Nat} (hq:q<i) (hi:i≤cs.length) (h0:0≤(cs.getD i zE).chan) (h:(cs.getD i zE).chan=(cs.getD q zE).chan):zjI cs i=true:=by
 refine List.any_eq_true.2 ⟨cs.getD q zE,List.mem_of_getElem? (i:=q) ?_,by simp only [decide_eq_true_eq];exact ⟨h0,h⟩⟩
 rw [List.getElem?_take,if_pos hq,zd5 (d:=zE) (by omega)]
theorem zvA {cs:List zaj} {i:Nat} (h:∀ j<i,¬ (0≤(cs.getD i zE).chan∧(cs.getD i zE).chan=(cs.getD j zE).chan)):zjI cs i=false:=by
 refine List.any_eq_false.2 fun y hy=>?_
 obtain ⟨j,hj⟩:=List.mem_iff_getElem?.1 hy
 rw [List.getElem?_take] at hj
 split at hj
 ·rename_i hlt
  have:=h j hlt
  rw [List.getD_eq_getElem?_getD (i:=j),hj] at this
  simpa using this
 ·cases hj
theorem zaR (p:zn) (n:Int) (s:zax):Con Tryz.prog 162 [.dagg (zQ p),.dat (.int .i64 n),.dagg (zey s)] (.dat (.bool (zb8 p n s))):=by
 refine zk (rs:=[(.tmp 6,4)]) za Tryz.func162 rfl rfl rfl (Nat.le_of_ble_eq_true rfl) fun ho x hn=>?_
 have hb:s.cases.length≤(9223372036854775807:Nat):=(ho (.dagg (zey s)) (by simp) (zbn s.cases) (by simp [zey])).len
 refine zM hn za rfl ?_ (fun (wI:Nat) wT wM=>((14,.dat (.int .i64 wI))::wT,wM)) (fun wI=>wI≤s.cases.length∧(fun i=>∀ j<i,zdn p n s.cases j=true) wI) (fun wI=>s.cases.length-wI) 0 ⟨Nat.zero_le _,?_⟩ ?_ ?_;exact qS
 ·intro j hj;omega
 ·refine zt [] qL ?_ rfl;repeat' (first | exact trivial | refine And.intro rfl ?_)
 rintro i ⟨hi,hq⟩
 refine ze hn za rfl qS ?_ ?_<;>intro hc<;>first | (replace hc:=qC1 hc;try exact qX) | exact qF1 hc | skip
 ·repeat' (first | (refine ze hn za rfl qS ?_ ?_<;>intro hc<;>first | (replace hc:=qC1 hc;try exact qX) | exact qF1 hc | skip) | refine zf hn za rfl qS ⟨_,rfl,?_⟩ | refine qK hn za rfl rfl (by (first | exact zeI _ _ | exact ze9 _ | assumption)) ?_)
  all_goals (try (refine congrArg (fun b=>LV.dat (.bool b)) (Eq.symm (zhW (k:=i) (by omega) ?_));first | (simp [zdn,zcE,zdT,zds, *,-List.getD_eq_getElem?_getD];done) | (simp [zdn,zcE,zdT,zds, *,-List.getD_eq_getElem?_getD];omega)))
  all_goals (refine zgN hn za 0 i rfl ?_ rfl rfl rfl rfl rfl ?_ ?_ ?_ ?_ ?_;exact qS;(first | exact .inl ⟨rfl,rfl⟩ | exact Bnd.some .i64 rfl);(first | exact .inl ⟨rfl,rfl⟩ | exact Bnd.some .i64 rfl);(first | exact Nat.zero_le _ | omega);(first | exact Nat.le_refl _ | omega))
  all_goals (refine zM hn za rfl ?_ (fun (wI:Nat) wT wM=>((61,.dat (.int .i64 wI))::wT,wM)) (fun wI=>wI≤i∧(fun q=>∀ j<q,¬ (0≤(s.cases.getD i zE).chan∧(s.cases.getD i zE).chan=(s.cases.getD j zE).chan)) wI) (fun wI=>i-wI) 0 ⟨Nat.zero_le _,?_⟩ ?_ ?_;exact qS)
  all_goals first | (intro j hj;omega) | skip
  all_goals first | (refine zt [] qL ?_ rfl;repeat' (first | exact trivial | refine And.intro rfl ?_)) | skip
  all_goals (
   rintro q ⟨hq1,hq2⟩
   refine ze hn za rfl qS ?_ ?_<;>intro hc<;>first | (replace hc:=qC1 hc;try exact qX) | exact qF1 hc | skip
   ·have hlt:q<i:=by have:=zpv (cs:=s.cases) hi;omega
    have hnx:¬ (0≤(s.cases.getD i zE).chan∧(s.cases.getD i zE).chan=(s.cases.getD q zE).chan)→∀ j<q+1,¬ (0≤(s.cases.getD i zE).chan∧(s.cases.getD i zE).chan=(s.cases.getD j zE).chan):=fun hh j hj=>by
     by_cases e:j=q
     ·subst e;exact hh
     ·exact hq2 j (by omega)
    have hcl:=hc
    clear hc
    refine ze hn za rfl qS ?_ ?_<;>intro hc<;>first | (replace hc:=qC1 hc;try exact qX) | exact qF1 hc | skip
    ·refine ze hn za rfl qS ?_ ?_<;>intro hc<;>first | (replace hc:=qC1 hc;try exact qX) | exact qF1 hc | skip
     ·refine zf hn za rfl qS ⟨_,rfl,?_⟩
      rw [znv hlt] at hc
      refine congrArg (fun b=>LV.dat (.bool b)) (Eq.symm (zhW (k:=i) (by omega) ?_))
      rw [zdn,zrh hlt hi (by assumption) hc];simp
     ·refine zx hn za rfl qS ⟨q+1,⟨?_,?_⟩,?_,?_⟩
      ·omega
      ·rw [znv hlt] at hc
       exact hnx (fun hh=>hc hh.2)
      ·show i-(q+1)<i-q;omega
      ·refine zt [] qL ?_ rfl;repeat' (first | exact trivial | refine And.intro rfl ?_)
    ·refine zx hn za rfl qS ⟨q+1,⟨?_,?_⟩,?_,?_⟩
     ·omega
     ·exact hnx (by omega)
     ·show i-(q+1)<i-q;omega
     ·refine zt [] qL ?_ rfl;repeat' (first | exact trivial | refine And.intro rfl ?_)
   ·have hge:¬ q<i:=by have:=zpv (cs:=s.cases) hi;omega
    have hdn:=zvA (cs:=s.cases) (i:=i) (fun j hj=>hq2 j (by omega))
    have hcl:=hc
    clear hc
    refine zx hn za rfl qS ⟨i+1,⟨?_,?_⟩,?_,?_⟩
    ·omega
    ·intro j hj
     by_cases e:j=i
     ·subst e
      simp [zdn,zcE,zdT,zds,hdn, *,-List.getD_eq_getElem?_getD]
     ·exact hq j (by omega)
    ·show s.cases.length-(i+1)<s.cases.length-i;omega
    ·(refine zt [] qL ?_ rfl;repeat' (first | exact trivial | refine And.intro rfl ?_)))
 ·repeat' (first | (refine ze hn za rfl qS ?_ ?_<;>intro hc<;>first | (replace hc:=qC1 hc;try exact qX) | exact qF1 hc | skip) | refine zf hn za rfl qS ⟨_,rfl,?_⟩ | refine qK hn za rfl rfl (by (first | exact zeI _ _ | exact ze9 _ | assumption)) ?_)
  all_goals (rw [zjP (fun j hj=>hq j (by omega))];simp [zdW,zds, *]<;>omega)
/-! ### is it among them -/
def zl5 (l:List Int) (v:Int):Int:=match l.findIdx? (fun x=>decide (v=x)) with
 | some i=>i
 | none=>-1
theorem zul {l:List Int} {v:Int} {i:Nat} (hi:i<l.length) (hq:∀ j<i,¬ v=l.getD j 0) (h:v=l.getD i 0):zl5 l v=i:=by
 have:l.findIdx? (fun x=>decide (v=x))=some i:=by
  rw [List.findIdx?_eq_some_iff_getElem]
  refine ⟨hi,by rw [List.getD_eq_getElem?_getD,List.getElem?_eq_getElem hi] at h;simpa using h,fun j hj=>?_⟩
  have:=hq j hj
  rw [List.getD_eq_getElem?_getD,List.getElem?_eq_getElem (by omega)] at this
  simpa using this
 rw [zl5,this]
theorem zvn {l:List Int} {v:Int} (hq:∀ j<l.length,¬ v=l.getD j 0):zl5 l v=-1:=by
 have:l.findIdx? (fun x=>decide (v=x))=none:=by
  rw [List.findIdx?_eq_none_iff]
  intro y hy
  obtain ⟨j,hj⟩:=List.mem_iff_getElem?.1 hy
  have:=hq j (List.getElem?_eq_some_iff.1 hj).1
  rw [List.getD_eq_getElem?_getD,hj] at this
  simpa using this
 rw [zl5,this]
theorem zrW (l:List Int) (v:Int):Con Tryz.prog 238 [.dat (zbc l),.dat (.int .i64 v)] (.dat (.int .i64 (zl5 l v))):=by
 refine zk (rs:=[(.tmp 4,3)]) za Tryz.func238 rfl rfl rfl (Nat.le_of_ble_eq_true rfl) fun ho x hn=>?_
 have hb:l.length≤(9223372036854775807:Nat):=(Okc.len (ho (.dat (zbc l)) (by simp)))
 refine zM hn za rfl ?_ (fun (wI:Nat) wT wM=>((8,.dat (.int .i64 wI))::wT,wM)) (fun wI=>wI≤l.length∧(fun i=>∀ j<i,¬ v=l.getD j 0) wI) (fun wI=>l.length-wI) 0 ⟨Nat.zero_le _,?_⟩ ?_ ?_;exact qS
 ·intro j hj;omega
 ·refine zt [] qL ?_ rfl;repeat' (first | exact trivial | refine And.intro rfl ?_)
 rintro i ⟨hi,hq⟩
 refine ze hn za rfl qS ?_ ?_<;>intro hc<;>first | (replace hc:=qC1 hc;try exact qX) | exact qF1 hc | skip
 ·refine ze hn za rfl qS ?_ ?_<;>intro hc<;>first | (replace hc:=qC1 hc;try exact qX) | exact qF1 hc | skip
  ·refine zf hn za rfl qS ⟨_,rfl,?_⟩
   rw [zul (by omega) hq hc];rfl
  ·refine zx hn za rfl qS ⟨i+1,⟨?_,?_⟩,?_,?_⟩
   ·omega
   ·intro j hj
    by_cases e:j=i
    ·subst e;exact hc
    ·exact hq j (by omega)
   ·show l.length-(i+1)<l.length-i;omega
   ·refine zt [] qL ?_ rfl;repeat' (first | exact trivial | refine And.intro rfl ?_)
 ·refine zf hn za rfl qS ⟨_,rfl,?_⟩
  rw [zvn (fun j hj=>hq j (by omega))];rfl
theorem zuf (l:List Int) (v:Int):0≤zl5 l v↔v∈l:=by
 unfold zl5
 split
 ·rename_i i h
  rw [List.findIdx?_eq_some_iff_getElem] at h
  obtain ⟨h1,h2,_⟩:=h
  have:v=l[i]:=by simpa using h2
  exact ⟨fun _=>this ▸ List.getElem_mem h1,fun _=>by omega⟩
 ·rename_i h
  rw [List.findIdx?_eq_none_iff] at h
  exact ⟨fun h=>by omega,fun hv=>by have:=h v hv;simp at this⟩
theorem zcI (l:List Int) (v:Int):Con Tryz.prog 198 [.dat (zbc l),.dat (.int .i64 v)] (.dat (.bool (decide (v∈l)))):=by
 refine zk (rs:=[(.tmp 4,4)]) za Tryz.func198 rfl rfl rfl (Nat.le_of_ble_eq_true rfl) fun ho x hn=>?_
 repeat' (first | (refine ze hn za rfl qS ?_ ?_<;>intro hc<;>first | (replace hc:=qC1 hc;try exact qX) | exact qF1 hc | skip) | refine zf hn za rfl qS ⟨_,rfl,?_⟩ | refine qK hn za rfl rfl (by (first | exact zrW _ _ | assumption)) ?_)
 show LV.dat (.bool (decide _))=_
 rw [decide_eq_decide.2 (zuf l v)]
def zjH (l:List zaj):List Int:=(l.filter (fun y=>!decide (y.chan=-1))).map (·.chan)
theorem zur (l:List zaj):(zjH l).length≤l.length:=by rw [zjH,List.length_map];exact List.length_filter_le _ _
theorem zpQ {cs:List zaj} {i:Nat} (hi:i<cs.length):zjH (cs.take (i+1))=zjH (cs.take i)++if (cs.getD i zE).chan=-1 then [] else [(cs.getD i zE).chan]:=by
 rw [List.take_add_one,zd5 (d:=zE) hi]
 simp only [zjH,List.filter_append,List.map_append]
 congr 1
 by_cases h:(cs.getD i zE).chan=-1<;>simp [h,List.filter_cons,-List.getD_eq_getElem?_getD]
theorem zq8 {cs:List zaj} {i:Nat} (h:-1≤(cs.getD i zE).chan):decide ((cs.getD i zE).chan∈zjH (cs.take i))=zjI cs i:=by
 rw [Bool.eq_iff_iff,decide_eq_true_eq,zjI,List.any_eq_true,zjH]
 simp only [List.mem_map,List.mem_filter,decide_eq_true_eq,Bool.not_eq_true',decide_eq_false_iff_not]
 constructor
 ·rintro ⟨y,⟨h1,h2⟩,h3⟩
  exact ⟨y,h1,by omega,h3.symm⟩
 ·rintro ⟨y,h1,h2,h3⟩
  exact ⟨y,⟨h1,by omega⟩,h3.symm⟩
set_option maxHeartbeats 1000000 in
theorem zba (p:zn) (n:Int) (s:zax) (hs:s.cases.length≤1048576):Con Tryz.prog 160 [.dagg (zQ p),.dat (.int .i64 n),.dagg (zey s)] (.dat (.bool (zb8 p n s))):=by
 refine zk (rs:=[(.tmp 6,4)]) za Tryz.func160 rfl rfl rfl (Nat.le_of_ble_eq_true rfl) fun ho x hn=>?_
 refine zT hn za (0:Int) iC ([]:List Int) rfl ?_ rfl rfl rfl rfl rfl rfl rfl rfl rfl ?_;exact qS
 refine zM hn za rfl ?_ (fun (wI:Nat) wT wM=>((14,.dat (.int .i64 wI))::(7,.own 100)::([(10,.no)]++wT),(100,some ((fun i=>.row 3 1 (0:Int) iC (zjH (s.cases.take i))) wI))::([(10,none)]++wM))) (fun wI=>wI≤s.cases.length∧(fun i=>∀ j<i,zdn p n s.cases j=true) wI) (fun wI=>s.cases.length-wI) 0 ⟨Nat.zero_le _,?_⟩ (zt [(100,10),(10,999)] ?_ ?_ rfl) ?_;exact qS
 ·intro j hj;omega
 ·exact qL
 ·exact qL
 rintro i ⟨hi,hq⟩
 have hml:(zjH (s.cases.take i)).length≤s.cases.length:=Nat.le_trans (zur _) (by rw [List.length_take];omega)
 refine ze hn za rfl qS ?_ ?_<;>intro hc<;>first | (replace hc:=qC1 hc;try exact qX) | exact qF1 hc | skip
 ·have hlt:i<s.cases.length:=by omega
  have hnx:zdn p n s.cases i=true→∀ j<i+1,zdn p n s.cases j=true:=fun hh j hj=>by
   by_cases e:j=i
   ·subst e;exact hh
   ·exact hq j (by omega)
  repeat' (first | (refine ze hn za rfl qS ?_ ?_<;>intro hc<;>first | (replace hc:=qC1 hc;try exact qX) | exact qF1 hc | skip) | refine zf hn za rfl qS ⟨_,rfl,?_⟩ | refine qK hn za rfl rfl (by (first | exact zcI _ _ | exact ze5 _ _ | exact zfP _ | exact zN _ _ _ | assumption)) ?_)
  all_goals (try (
   refine congrArg (fun b=>LV.dat (.bool b)) (Eq.symm (zhW (k:=i) hlt ?_))
   first
    | (simp [zdn,zcE,zdT,zds, *,-List.getD_eq_getElem?_getD];done)
    | (simp [zdn,zcE,zdT,zds, *,-List.getD_eq_getElem?_getD];omega)
    | (rw [zdn,← zq8 (by omega),decide_eq_true hc];simp)))
  all_goals (
   have hno:zjI s.cases i=false:=by rw [← zq8 (by omega)];exact decide_eq_false (by assumption)
   have hcase:zdn p n s.cases i=true:=by simp [zdn,zcE,zdT,zds, *,-List.getD_eq_getElem?_getD]<;>omega)
  all_goals first
   | ((refine zT hn za (0:Int) iC [(s.cases.getD i zE).chan] rfl ?_ rfl rfl rfl rfl rfl rfl rfl rfl rfl ?_;exact qS)
      refine zas hn za [(s.cases.getD i zE).chan] rfl ?_ rfl rfl rfl rfl rfl rfl rfl rfl ?_ ?_;exact qS
      ·show (_+1)*8≤_;omega
      refine zx hn za rfl qS ⟨i+1,⟨?_,?_⟩,?_,?_⟩
      ·omega
      ·exact hnx hcase
      ·show s.cases.length-(i+1)<s.cases.length-i;omega
      ·refine zt [(100,64),(10,999)] qL ?_ rfl;repeat' (first | exact trivial | refine And.intro rfl ?_)
       refine And.intro (congrArg (fun q=>some (Blk.row 3 1 (0:Int) iC q)) ?_) ?_
       ·rw [zpQ hlt,if_neg hc]
       ·(exact qL))
   | ((refine zx hn za rfl qS ⟨i+1,⟨?_,?_⟩,?_,?_⟩)
      ·omega
      ·exact hnx hcase
      ·show s.cases.length-(i+1)<s.cases.length-i;omega
      ·refine zt [(10,999)] qL ?_ rfl;repeat' (first | exact trivial | refine And.intro rfl ?_)
       refine And.intro (congrArg (fun q=>some (Blk.row 3 1 (0:Int) iC q)) ?_) ?_
       ·rw [zpQ hlt,if_pos hc,List.append_nil]
       ·(exact qL))
 ·repeat' (first | (refine ze hn za rfl qS ?_ ?_<;>intro hc<;>first | (replace hc:=qC1 hc;try exact qX) | exact qF1 hc | skip) | refine zf hn za rfl qS ⟨_,rfl,?_⟩ | refine qK hn za rfl rfl (by (first | exact zcI _ _ | exact ze5 _ _ | exact zfP _ | exact zN _ _ _ | assumption)) ?_)
  all_goals (rw [zjP (fun j hj=>hq j (by omega))];simp [zdW,zds, *])
set_option maxHeartbeats 2000000 in
theorem zcv (p:zn) (n:Int) (i:zaD):Con Tryz.prog 224 [.dagg (zQ p),.dat (.int .i64 n),.dagg (zc7 i)] (.dat (.bool (zeq p n i))):=by
 refine zk (rs:=[(.tmp 6,4)]) za Tryz.func224 rfl rfl rfl (Nat.le_of_ble_eq_true rfl) fun ho x hn=>?_
 have hb:=zn9 (ho _ List.mem_cons_self)
 obtain ⟨hb1,hb2,hb3,_⟩:=hb
 rcases zrT i.op with ⟨hk,hop⟩ | ⟨hk,hop⟩ | ⟨hk,hop⟩ | ⟨hk,hop⟩ | ⟨hk,hop⟩<;>(repeat' (first
 | (refine ze hn za rfl ?_ (fun hc=>?_) (fun hc=>?_);exact qS;all_goals (try (((try simp only [decide_eq_true_eq,decide_eq_false_iff_not,Bool.not_eq_true',Bool.not_eq_false',Bool.not_eq_eq_eq_not,Bool.not_true,Bool.not_false,Int.not_lt,Int.not_le,Int.toNat_natCast,beq_iff_eq,beq_eq_false_iff_ne,ne_eq] at hc);(try (first | simp only [zi7,zko,zbJ,zb9,zbM,zcc,zcg,zck,zbH,zbL] at hc | simp only [(z8 _).1,(z8 _).2.1,(z8 _).2.2,zbJ,zb9,zbM,zcc,zcg,zck,zbH,zbL] at hc | skip));try (exfalso;omega)))))
 | (refine zf hn za rfl ?_ ⟨_,rfl,?_⟩;exact qS)
 | (refine qK hn za rfl rfl (by (first | exact zkc _ _ | exact zeI _ _ | exact zhX _ _ _ | exact zlc _ | exact ze9 _ | exact zan _ | assumption)) ?_)))
 all_goals (simp only [hk] at *)
 all_goals (refine congrArg (fun b=>LV.dat (.bool b)) ?_;rw [Bool.eq_iff_iff];simp only [zeZ,zap,decide_eq_true_eq,zbJ,zbM,zcg,zbH,Bool.false_eq_true,true_iff,false_iff,Bool.and_eq_true,Bool.or_eq_true];first | done | (simp [*];done) | (simp [*];omega))
theorem qF2 {p G:Prop} (hp:p) (h:p→False:=by (intro hc;(try simp only [decide_eq_true_eq,decide_eq_false_iff_not,Bool.not_eq_true',Bool.not_eq_false',Bool.not_eq_eq_eq_not,Bool.not_true,Bool.not_false,Int.not_lt,Int.not_le,Int.toNat_natCast,beq_iff_eq,beq_eq_false_iff_ne,ne_eq] at hc)<;>(first | simp only [zi7,zko,zbJ,zb9,zbM,zcc,zcg,zck,zbH,zbL] at hc | simp only [(z8 _).1,(z8 _).2.1,(z8 _).2.2,zbJ,zb9,zbM,zcc,zcg,zck,zbH,zbL] at hc | skip)<;>omega)):G:=(h hp).elim
theorem qC2 {p q:Prop} (hp:p) (h:p→q:=by (intro hc;(try simp only [decide_eq_true_eq,decide_eq_false_iff_not,Bool.not_eq_true',Bool.not_eq_false',Bool.not_eq_eq_eq_not,Bool.not_true,Bool.not_false,Int.not_lt,Int.not_le,Int.toNat_natCast,beq_iff_eq,beq_eq_false_iff_ne,ne_eq] at hc);(first | simp only [zi7,zko,zbJ,zb9,zbM,zcc,zcg,zck,zbH,zbL] at hc | simp only [(z8 _).1,(z8 _).2.1,(z8 _).2.2,zbJ,zb9,zbM,zcc,zcg,zck,zbH,zbL] at hc | skip);exact hc)):q:=h hp
theorem zu:Tryz.prog.follows .mixedOrders=true:=by kernel_rfl
theorem zbA {m:Nat} {f:Nat→Bool} {k:Nat} (hk:k<m) (h:f k=false):(List.range m).all f=false:=List.all_eq_false.2 ⟨k,List.mem_range.2 hk,by simp [h]⟩
theorem zbw {m:Nat} {f:Nat→Bool} (h:∀ k<m,f k=true):(List.range m).all f=true:=List.all_eq_true.2 (fun k hk=>h k (List.mem_range.1 hk))
theorem zeC {Q:Nat→Prop} {i:Nat} (h:∀ j<i,Q j) (h1:Q i):∀ j<i+1,Q j:=fun j hj=>by
 by_cases e:j=i
 ·subst e;exact h1
 ·exact h j (by omega)
def zdi (p:zn) (n:Int) (i:zaD):Bool:=zeq p n i && (!decide (i.op=11) || zb8 p n (p.sels.getD i.a.toNat zh))
def zjX (c:List zaD):Bool:=decide ((c.getD ((c.length:Int)-1).toNat zcL).op=1∨(c.getD ((c.length:Int)-1).toNat zcL).op=6)
def zcY (p:zn) (c:List zaD):Bool:=decide (1≤c.length∧c.length≤40) && ((List.range c.length).all (fun k=>zdi p c.length (c.getD k zcL)) && zjX c)
theorem znn {p:zn} {n:Int} {i:zaD} (h:zeq p n i=true) (ho:i.op=11):0≤i.a∧i.a<p.sels.length:=by
 rw [zeZ,zap] at h
 omega
set_option maxHeartbeats 2000000 in
theorem zdN (p:zn) (c:List zaD):Con Tryz.prog 163 [.dagg (zQ p),.dat (zaO c)] (.dat (.bool (zcY p c))):=by
 refine zk (rs:=[(.tmp 4,4)]) za Tryz.func163 rfl rfl rfl (Nat.le_of_ble_eq_true rfl) fun ho x hn=>?_
 have hb:c.length≤(9223372036854775807:Nat):=Okc.len (ho (.dat (zaO c)) (by simp))
 repeat' (first | (refine ze hn za rfl qS ?_ ?_<;>intro hc<;>first | (replace hc:=qC2 hc;try exact qX) | exact qF2 hc | skip) | refine zf hn za rfl qS ⟨_,rfl,?_⟩ | refine qK hn za rfl rfl (by (first | exact zaR _ _ _ | exact zcv _ _ _ | assumption)) ?_)
 ·refine congrArg (fun b=>LV.dat (.bool b)) (Eq.symm ?_)
  rw [zcY,decide_eq_false (by omega)];rfl
 ·refine congrArg (fun b=>LV.dat (.bool b)) (Eq.symm ?_)
  rw [zcY,decide_eq_false (by omega)];rfl
 refine zM hn za rfl ?_ (fun (wI:Nat) wT wM=>((18,.dat (.int .i64 wI))::wT,wM)) (fun wI=>wI≤c.length∧(fun i=>∀ j<i,zdi p c.length (c.getD j zcL)=true) wI) (fun wI=>c.length-wI) 0 ⟨Nat.zero_le _,?_⟩ ?_ ?_;exact qS
 ·intro j hj;omega
 ·refine zt [] qL ?_ rfl;repeat' (first | exact trivial | refine And.intro rfl ?_)
 rintro i ⟨hi,hq⟩
 refine ze hn za rfl qS ?_ ?_<;>intro hc<;>first | (replace hc:=qC2 hc;try exact qX) | exact qF2 hc | skip
 ·have hlt:i<c.length:=by omega
  refine qK hn za rfl rfl (by (first | exact zaR _ _ _ | exact zcv _ _ _ | assumption)) ?_
  refine ze hn za rfl qS ?_ ?_<;>intro hc<;>first | (replace hc:=qC2 hc;try exact qX) | exact qF2 hc | skip
  ·refine zf hn za rfl qS ⟨_,rfl,?_⟩
   refine congrArg (fun b=>LV.dat (.bool b)) (Eq.symm ?_)
   rw [zcY,zbA hlt (by rw [zdi,hc];rfl)];simp
  ·have hin:zeq p c.length (c.getD i zcL)=true:=hc
   by_cases hop:(c.getD i zcL).op=11
   ·have hr:=znn hin hop
    refine qD hn za zu [.b true,.r (.dat (.bool (zb8 p c.length (p.sels.getD (c.getD i zcL).a.toNat zh))))] rfl rfl ?_ ?_
    ·(try refine qM ?_);repeat' (first | exact trivial | (first | exact zaR _ _ _ | exact zcv _ _ _ | assumption) | assumption | omega | exact qV | refine And.intro ?_ ?_)
    ·refine ze hn za rfl qS ?_ ?_<;>intro hc<;>first | (replace hc:=qC2 hc;try exact qX) | exact qF2 hc | skip
     ·refine zf hn za rfl qS ⟨_,rfl,?_⟩
      refine congrArg (fun b=>LV.dat (.bool b)) (Eq.symm ?_)
      rw [zcY,zbA hlt (by rw [zdi,hin,hc,hop];rfl)];simp
     ·refine zx hn za rfl qS ⟨i+1,⟨?_,?_⟩,?_,?_⟩
      ·omega
      ·exact zeC hq (by rw [zdi,hin,hc];simp)
      ·show c.length-(i+1)<c.length-i;omega
      ·refine zt [] qL ?_ rfl;repeat' (first | exact trivial | refine And.intro rfl ?_)
   ·refine qD hn za zu [.b false] rfl rfl ?_ ?_
    ·(try refine qM ?_);repeat' (first | exact trivial | (first | exact zaR _ _ _ | exact zcv _ _ _ | assumption) | assumption | omega | exact qV | refine And.intro ?_ ?_)
    ·repeat' (first | (refine ze hn za rfl qS ?_ ?_<;>intro hc<;>first | (replace hc:=qC2 hc;try exact qX) | exact qF2 hc | skip) | refine zf hn za rfl qS ⟨_,rfl,?_⟩ | refine qK hn za rfl rfl (by (first | exact zaR _ _ _ | exact zcv _ _ _ | assumption)) ?_)
     refine zx hn za rfl qS ⟨i+1,⟨?_,?_⟩,?_,?_⟩
     ·omega
     ·exact zeC hq (by rw [zdi,hin,decide_eq_false hop];simp)
     ·show c.length-(i+1)<c.length-i;omega
     ·refine zt [] qL ?_ rfl;repeat' (first | exact trivial | refine And.intro rfl ?_)
 ·have hall:=zbw (m:=c.length) (f:=fun k=>zdi p c.length (c.getD k zcL)) (fun j hj=>hq j (by omega))
  repeat' (first | (refine ze hn za rfl qS ?_ ?_<;>intro hc<;>first | (replace hc:=qC2 hc;try exact qX) | exact qF2 hc | skip) | refine zf hn za rfl qS ⟨_,rfl,?_⟩ | refine qK hn za rfl rfl (by (first | exact zaR _ _ _ | exact zcv _ _ _ | assumption)) ?_)
  all_goals (refine congrArg (fun b=>LV.dat (.bool b)) (Eq.symm ?_);rw [zcY,hall,decide_eq_true (by omega),Bool.true_and,Bool.true_and,zjX])
  ·exact decide_eq_true (.inl hc)
  ·exact decide_eq_decide.2 (by omega)
def zdZ (p:zn):Bool:=decide (p.caps.length≤6∧0≤p.mus∧p.mus≤4∧p.sels.length≤6∧1≤p.procs.length∧p.procs.length≤6)
def zjf (c:Int):Bool:=decide (0≤c∧c≤4)
def zfQ (p:zn) (s:zax):Bool:=decide (s.cases.length≤4) && (!decide (s.cases.length=0∧s.els=-1) && zb8 p 40 s)
def zaa (p:zn):Bool:=zdZ p && ((List.range p.caps.length).all (fun k=>zjf (p.caps.getD k 0)) && ((List.range p.sels.length).all (fun k=>zfQ p (p.sels.getD k zh)) && (List.range p.procs.length).all (fun k=>zcY p (p.procs.getD k zby).code)))
theorem zuw {p:zn} {n:Int} {s:zax} (h:s.els < -1):zb8 p n s=false:=by
 rw [zb8,zds,decide_eq_false (by omega),Bool.and_false]
set_option maxHeartbeats 2000000 in
theorem zaC (p:zn):Con Tryz.prog 94 [.dagg (zQ p)] (.dat (.bool (zaa p))):=by
 refine zk (rs:=[(.tmp 2,4)]) za Tryz.func94 rfl rfl rfl (Nat.le_of_ble_eq_true rfl) fun ho x hn=>?_
 obtain ⟨hb1,hb2,hb3,hb4,hb5⟩:=zn9 (ho _ List.mem_cons_self)
 repeat' (first | (refine ze hn za rfl qS ?_ ?_<;>intro hc<;>first | (replace hc:=qC2 hc;try exact qX) | exact qF2 hc | skip) | refine zf hn za rfl qS ⟨_,rfl,?_⟩ | refine qK hn za rfl rfl (by (first | exact zdN _ _ | exact zaR _ _ _ | assumption)) ?_)
 all_goals (try (
  refine congrArg (fun b=>LV.dat (.bool b)) (Eq.symm ?_)
  rw [zaa,zdZ,decide_eq_false (by omega),Bool.false_and]))
 have hhd:zdZ p=true:=by rw [zdZ];exact decide_eq_true (by omega)
 refine zM hn za rfl ?_ (fun (wI:Nat) wT wM=>((44,.dat (.int .i64 wI))::wT,wM)) (fun wI=>wI≤p.caps.length∧(fun i=>∀ j<i,zjf (p.caps.getD j 0)=true) wI) (fun wI=>p.caps.length-wI) 0 ⟨Nat.zero_le _,?_⟩ ?_ ?_;exact qS
 ·intro j hj;omega
 ·refine zt [] qL ?_ rfl;repeat' (first | exact trivial | refine And.intro rfl ?_)
 rintro i ⟨hi,hq⟩
 refine ze hn za rfl qS ?_ ?_<;>intro hc<;>first | (replace hc:=qC2 hc;try exact qX) | exact qF2 hc | skip
 ·have hlt:i<p.caps.length:=by omega
  repeat' (first | (refine ze hn za rfl qS ?_ ?_<;>intro hc<;>first | (replace hc:=qC2 hc;try exact qX) | exact qF2 hc | skip) | refine zf hn za rfl qS ⟨_,rfl,?_⟩ | refine qK hn za rfl rfl (by (first | exact zdN _ _ | exact zaR _ _ _ | assumption)) ?_)
  all_goals (try (
   refine congrArg (fun b=>LV.dat (.bool b)) (Eq.symm ?_)
   rw [zaa,zbA hlt (by rw [zjf];exact decide_eq_false (by omega))];simp;done))
  refine zx hn za rfl qS ⟨i+1,⟨?_,?_⟩,?_,?_⟩
  ·omega
  ·exact zeC hq (by rw [zjf];exact decide_eq_true (by omega))
  ·show p.caps.length-(i+1)<p.caps.length-i;omega
  ·refine zt [] qL ?_ rfl;repeat' (first | exact trivial | refine And.intro rfl ?_)
 have hcaps:=zbw (m:=p.caps.length) (f:=fun k=>zjf (p.caps.getD k 0)) (fun j hj=>hq j (by omega))
 clear hc hq hi
 refine zM hn za rfl ?_ (fun (wI:Nat) wT wM=>((58,.dat (.int .i64 wI))::wT,wM)) (fun wI=>wI≤p.sels.length∧(fun i=>∀ j<i,zfQ p (p.sels.getD j zh)=true) wI) (fun wI=>p.sels.length-wI) 0 ⟨Nat.zero_le _,?_⟩ ?_ ?_;exact qS
 ·intro j hj;omega
 ·refine zt [] qL ?_ rfl;repeat' (first | exact trivial | refine And.intro rfl ?_)
 rintro i ⟨hi,hq⟩
 refine ze hn za rfl qS ?_ ?_<;>intro hc<;>first | (replace hc:=qC2 hc;try exact qX) | exact qF2 hc | skip
 ·have hlt:i<p.sels.length:=by omega
  repeat' (first | (refine ze hn za rfl qS ?_ ?_<;>intro hc<;>first | (replace hc:=qC2 hc;try exact qX) | exact qF2 hc | skip) | refine zf hn za rfl qS ⟨_,rfl,?_⟩ | refine qK hn za rfl rfl (by (first | exact zdN _ _ | exact zaR _ _ _ | assumption)) ?_)
  all_goals (try (
   refine congrArg (fun b=>LV.dat (.bool b)) (Eq.symm ?_)
   rw [zaa,zbA hlt (by
    rw [zfQ]
    first
     | (rw [decide_eq_false (by omega)];rfl)
     | (rw [hc];simp;done)
     | (by_cases he:(p.sels.getD i zh).els=-1
        ·rw [decide_eq_true (p:=_∧_) (by omega)];simp
        ·rw [zuw (by omega)];simp))];simp;done))
  all_goals (
   refine zx hn za rfl qS ⟨i+1,⟨?_,?_⟩,?_,?_⟩
   ·omega
   ·refine zeC hq ?_
    rw [zfQ,hc,decide_eq_true (by omega),decide_eq_false (by omega)];rfl
   ·show p.sels.length-(i+1)<p.sels.length-i;omega
   ·(refine zt [] qL ?_ rfl;repeat' (first | exact trivial | refine And.intro rfl ?_)))
 have hsels:=zbw (m:=p.sels.length) (f:=fun k=>zfQ p (p.sels.getD k zh)) (fun j hj=>hq j (by omega))
 clear hc hq hi
 refine zM hn za rfl ?_ (fun (wI:Nat) wT wM=>((87,.dat (.int .i64 wI))::wT,wM)) (fun wI=>wI≤p.procs.length∧(fun i=>∀ j<i,zcY p (p.procs.getD j zby).code=true) wI) (fun wI=>p.procs.length-wI) 0 ⟨Nat.zero_le _,?_⟩ ?_ ?_;exact qS
 ·intro j hj;omega
 ·refine zt [] qL ?_ rfl;repeat' (first | exact trivial | refine And.intro rfl ?_)
 rintro i ⟨hi,hq⟩
 refine ze hn za rfl qS ?_ ?_<;>intro hc<;>first | (replace hc:=qC2 hc;try exact qX) | exact qF2 hc | skip
 ·have hlt:i<p.procs.length:=by omega
  repeat' (first | (refine ze hn za rfl qS ?_ ?_<;>intro hc<;>first | (replace hc:=qC2 hc;try exact qX) | exact qF2 hc | skip) | refine zf hn za rfl qS ⟨_,rfl,?_⟩ | refine qK hn za rfl rfl (by (first | exact zdN _ _ | exact zaR _ _ _ | assumption)) ?_)
  ·refine congrArg (fun b=>LV.dat (.bool b)) (Eq.symm ?_)
   rw [zaa,zbA (m:=p.procs.length) hlt (by exact hc)];simp
  refine zx hn za rfl qS ⟨i+1,⟨?_,?_⟩,?_,?_⟩
  ·omega
  ·exact zeC hq hc
  ·show p.procs.length-(i+1)<p.procs.length-i;omega
  ·refine zt [] qL ?_ rfl;repeat' (first | exact trivial | refine And.intro rfl ?_)
 have hprocs:=zbw (m:=p.procs.length) (f:=fun k=>zcY p (p.procs.getD k zby).code) (fun j hj=>hq j (by omega))
 refine zf hn za rfl qS ⟨_,rfl,?_⟩
 rw [zaa,hhd,hcaps,hsels,hprocs];rfl
set_option maxHeartbeats 2000000 in
theorem zG (p:zn):Con Tryz.prog 90 [.dagg (zQ p)] (.dat (.bool (zaa p))):=by
 refine zk (rs:=[(.tmp 2,4)]) za Tryz.func90 rfl rfl rfl (Nat.le_of_ble_eq_true rfl) fun ho x hn=>?_
 obtain ⟨hb1,hb2,hb3,hb4,hb5⟩:=zn9 (ho _ List.mem_cons_self)
 repeat' (first | (refine ze hn za rfl qS ?_ ?_<;>intro hc<;>first | (replace hc:=qC2 hc;try exact qX) | exact qF2 hc | skip) | refine zf hn za rfl qS ⟨_,rfl,?_⟩ | refine qK hn za rfl rfl (by (first | (refine zba _ _ _ ?_;(try simp only [Int.toNat_natCast]);omega) | exact zbm _ _ _ | assumption)) ?_)
 all_goals (try (
  refine congrArg (fun b=>LV.dat (.bool b)) (Eq.symm ?_)
  rw [zaa,zdZ,decide_eq_false (by omega),Bool.false_and]))
 have hhd:zdZ p=true:=by rw [zdZ];exact decide_eq_true (by omega)
 refine zM hn za rfl ?_ (fun (wI:Nat) wT wM=>((48,.dat (.int .i64 wI))::wT,wM)) (fun wI=>wI≤p.caps.length∧(fun i=>∀ j<i,zjf (p.caps.getD j 0)=true) wI) (fun wI=>p.caps.length-wI) 0 ⟨Nat.zero_le _,?_⟩ ?_ ?_;exact qS
 ·intro j hj;omega
 ·refine zt [] qL ?_ rfl;repeat' (first | exact trivial | refine And.intro rfl ?_)
 rintro i ⟨hi,hq⟩
 refine ze hn za rfl qS ?_ ?_<;>intro hc<;>first | (replace hc:=qC2 hc;try exact qX) | exact qF2 hc | skip
 ·have hlt:i<p.caps.length:=by omega
  repeat' (first | (refine ze hn za rfl qS ?_ ?_<;>intro hc<;>first | (replace hc:=qC2 hc;try exact qX) | exact qF2 hc | skip) | refine zf hn za rfl qS ⟨_,rfl,?_⟩ | refine qK hn za rfl rfl (by (first | (refine zba _ _ _ ?_;(try simp only [Int.toNat_natCast]);omega) | exact zbm _ _ _ | assumption)) ?_)
  all_goals (try (
   refine congrArg (fun b=>LV.dat (.bool b)) (Eq.symm ?_)
   rw [zaa,zbA hlt (by rw [zjf];exact decide_eq_false (by omega))];simp;done))
  refine zx hn za rfl qS ⟨i+1,⟨?_,?_⟩,?_,?_⟩
  ·omega
  ·exact zeC hq (by rw [zjf];exact decide_eq_true (by omega))
  ·show p.caps.length-(i+1)<p.caps.length-i;omega
  ·refine zt [] qL ?_ rfl;repeat' (first | exact trivial | refine And.intro rfl ?_)
 have hcaps:=zbw (m:=p.caps.length) (f:=fun k=>zjf (p.caps.getD k 0)) (fun j hj=>hq j (by omega))
 clear hc hq hi
 refine zM hn za rfl ?_ (fun (wI:Nat) wT wM=>((62,.dat (.int .i64 wI))::wT,wM)) (fun wI=>wI≤p.sels.length∧(fun i=>∀ j<i,zfQ p (p.sels.getD j zh)=true) wI) (fun wI=>p.sels.length-wI) 0 ⟨Nat.zero_le _,?_⟩ ?_ ?_;exact qS
 ·intro j hj;omega
 ·refine zt [] qL ?_ rfl;repeat' (first | exact trivial | refine And.intro rfl ?_)
 rintro i ⟨hi,hq⟩
 refine ze hn za rfl qS ?_ ?_<;>intro hc<;>first | (replace hc:=qC2 hc;try exact qX) | exact qF2 hc | skip
 ·have hlt:i<p.sels.length:=by omega
  repeat' (first | (refine ze hn za rfl qS ?_ ?_<;>intro hc<;>first | (replace hc:=qC2 hc;try exact qX) | exact qF2 hc | skip) | refine zf hn za rfl qS ⟨_,rfl,?_⟩ | refine qK hn za rfl rfl (by (first | (refine zba _ _ _ ?_;(try simp only [Int.toNat_natCast]);omega) | exact zbm _ _ _ | assumption)) ?_)
  all_goals (try (
   refine congrArg (fun b=>LV.dat (.bool b)) (Eq.symm ?_)
   rw [zaa,zbA hlt (by
    rw [zfQ]
    first
     | (rw [decide_eq_false (by omega)];rfl)
     | (rw [hc];simp;done)
     | (rw [decide_eq_true (p:=_∧_) (by omega)];simp))];simp;done))
  all_goals (
   refine zx hn za rfl qS ⟨i+1,⟨?_,?_⟩,?_,?_⟩
   ·omega
   ·refine zeC hq ?_
    rw [zfQ,hc,decide_eq_true (by omega),decide_eq_false (by omega)];rfl
   ·show p.sels.length-(i+1)<p.sels.length-i;omega
   ·(refine zt [] qL ?_ rfl;repeat' (first | exact trivial | refine And.intro rfl ?_)))
 have hsels:=zbw (m:=p.sels.length) (f:=fun k=>zfQ p (p.sels.getD k zh)) (fun j hj=>hq j (by omega))
 have hqs:∀ k,k<p.sels.length→zfQ p (p.sels.getD k zh)=true:=fun j hj=>hq j (by omega)
 clear hc hq hi
 refine zM hn za rfl ?_ (fun (wI:Nat) wT wM=>((91,.dat (.int .i64 wI))::wT,wM)) (fun wI=>wI≤p.procs.length∧(fun i=>∀ j<i,zcY p (p.procs.getD j zby).code=true) wI) (fun wI=>p.procs.length-wI) 0 ⟨Nat.zero_le _,?_⟩ ?_ ?_;exact qS
 ·intro j hj;omega
 ·refine zt [] qL ?_ rfl;repeat' (first | exact trivial | refine And.intro rfl ?_)
 rintro i ⟨hi,hq⟩
 refine ze hn za rfl qS ?_ ?_<;>intro hc<;>first | (replace hc:=qC2 hc;try exact qX) | exact qF2 hc | skip
 ·have hlt:i<p.procs.length:=by omega
  have hno:zcY p (p.procs.getD i zby).code=false→LV.dat (.bool false)=LV.dat (.bool (zaa p)):=fun hh=>by
   refine congrArg (fun b=>LV.dat (.bool b)) (Eq.symm ?_)
   rw [zaa,zbA (m:=p.procs.length) hlt hh];simp
  have hsl:∀ k,k<p.sels.length→(p.sels.getD k zh).cases.length≤4:=fun k hk=>by
   have:=hqs k hk
   rw [zfQ,Bool.and_eq_true] at this
   exact of_decide_eq_true this.1
  have hlen:(p.procs.getD i zby).code.length≤(9223372036854775807:Nat):=hb5 _ (List.mem_of_getElem? (zd5 hlt))
  repeat' (first | (refine ze hn za rfl qS ?_ ?_<;>intro hc<;>first | (replace hc:=qC2 hc;try exact qX) | exact qF2 hc | skip) | refine zf hn za rfl qS ⟨_,rfl,?_⟩ | refine qK hn za rfl rfl (by (first | (refine zba _ _ _ ?_;(try simp only [Int.toNat_natCast]);omega) | exact zbm _ _ _ | assumption)) ?_)
  all_goals (try (
   refine hno ?_
   rw [zcY,decide_eq_false (by omega)];rfl))
  refine zM hn za rfl ?_ (fun (wI:Nat) wT wM=>((107,.dat (.int .i64 wI))::wT,wM)) (fun wI=>wI≤(p.procs.getD i zby).code.length∧(fun q=>∀ j<q,zdi p (p.procs.getD i zby).code.length ((p.procs.getD i zby).code.getD j zcL)=true) wI) (fun wI=>(p.procs.getD i zby).code.length-wI) 0 ⟨Nat.zero_le _,?_⟩ ?_ ?_;exact qS
  ·intro j hj;omega
  ·refine zt [] qL ?_ rfl;repeat' (first | exact trivial | refine And.intro rfl ?_)
  rintro q ⟨hi2,hq2⟩
  refine ze hn za rfl qS ?_ ?_<;>intro hc<;>first | (replace hc:=qC2 hc;try exact qX) | exact qF2 hc | skip
  ·have hlt2:q<(p.procs.getD i zby).code.length:=by omega
   have hnos:zdi p (p.procs.getD i zby).code.length ((p.procs.getD i zby).code.getD q zcL)=false→LV.dat (.bool false)=LV.dat (.bool (zaa p)):=fun hh=>by
    refine hno ?_
    rw [zcY,zbA hlt2 hh];simp
   cases hin:zeq p (p.procs.getD i zby).code.length ((p.procs.getD i zby).code.getD q zcL)
   ·refine qD hn za zu [.r (.dat (.bool (zeq p (p.procs.getD i zby).code.length ((p.procs.getD i zby).code.getD q zcL)))),.b true] rfl rfl ?_ ?_
    ·(try refine qM ?_);repeat' (first | exact trivial | (first | (refine zba _ _ _ ?_;(try simp only [Int.toNat_natCast]);omega) | exact zbm _ _ _ | assumption) | assumption | omega | exact qV | refine And.intro ?_ ?_)
    ·refine zf hn za rfl qS ⟨_,rfl,?_⟩
     exact hnos (by rw [zdi,hin];rfl)
   ·by_cases hop:((p.procs.getD i zby).code.getD q zcL).op=11
    ·have hr:=znn hin hop
     have hl4:=hsl ((p.procs.getD i zby).code.getD q zcL).a.toNat (by omega)
     refine qD hn za zu [.r (.dat (.bool (zeq p (p.procs.getD i zby).code.length ((p.procs.getD i zby).code.getD q zcL)))),.b false,.b true,.r (.dat (.bool (zb8 p (p.procs.getD i zby).code.length (p.sels.getD ((p.procs.getD i zby).code.getD q zcL).a.toNat zh))))] rfl rfl ?_ ?_
     ·(try refine qM ?_);repeat' (first | exact trivial | (first | (refine zba _ _ _ ?_;(try simp only [Int.toNat_natCast]);omega) | exact zbm _ _ _ | assumption) | assumption | omega | exact qV | refine And.intro ?_ ?_)
     ·refine ze hn za rfl qS ?_ ?_<;>intro hc<;>first | (replace hc:=qC2 hc;try exact qX) | exact qF2 hc | skip
      ·refine zf hn za rfl qS ⟨_,rfl,?_⟩
       exact hnos (by rw [zdi,hin,hc,hop];rfl)
      ·refine zx hn za rfl qS ⟨q+1,⟨?_,?_⟩,?_,?_⟩
       ·omega
       ·exact zeC hq2 (by rw [zdi,hin,hc];simp)
       ·show (p.procs.getD i zby).code.length-(q+1)<(p.procs.getD i zby).code.length-q;omega
       ·refine zt [] qL ?_ rfl;repeat' (first | exact trivial | refine And.intro rfl ?_)
    ·refine qD hn za zu [.r (.dat (.bool (zeq p (p.procs.getD i zby).code.length ((p.procs.getD i zby).code.getD q zcL)))),.b false,.b false] rfl rfl ?_ ?_
     ·(try refine qM ?_);repeat' (first | exact trivial | (first | (refine zba _ _ _ ?_;(try simp only [Int.toNat_natCast]);omega) | exact zbm _ _ _ | assumption) | assumption | omega | exact qV | refine And.intro ?_ ?_)
     ·repeat' (first | (refine ze hn za rfl qS ?_ ?_<;>intro hc<;>first | (replace hc:=qC2 hc;try exact qX) | exact qF2 hc | skip) | refine zf hn za rfl qS ⟨_,rfl,?_⟩ | refine qK hn za rfl rfl (by (first | (refine zba _ _ _ ?_;(try simp only [Int.toNat_natCast]);omega) | exact zbm _ _ _ | assumption)) ?_)
      refine zx hn za rfl qS ⟨q+1,⟨?_,?_⟩,?_,?_⟩
      ·omega
      ·exact zeC hq2 (by rw [zdi,hin,decide_eq_false hop];simp)
      ·show (p.procs.getD i zby).code.length-(q+1)<(p.procs.getD i zby).code.length-q;omega
      ·refine zt [] qL ?_ rfl;repeat' (first | exact trivial | refine And.intro rfl ?_)
  ·have hall:=zbw (m:=(p.procs.getD i zby).code.length) (f:=fun k=>zdi p (p.procs.getD i zby).code.length ((p.procs.getD i zby).code.getD k zcL)) (fun j hj=>hq2 j (by omega))
   have hpr:zcY p (p.procs.getD i zby).code=zjX (p.procs.getD i zby).code:=by rw [zcY,hall,decide_eq_true (by omega)];rfl
   repeat' (first | (refine ze hn za rfl qS ?_ ?_<;>intro hc<;>first | (replace hc:=qC2 hc;try exact qX) | exact qF2 hc | skip) | refine zf hn za rfl qS ⟨_,rfl,?_⟩ | refine qK hn za rfl rfl (by (first | (refine zba _ _ _ ?_;(try simp only [Int.toNat_natCast]);omega) | exact zbm _ _ _ | assumption)) ?_)
   ·exact hno (by rw [hpr,zjX];exact decide_eq_false (by omega))
   all_goals (
    refine zx hn za rfl qS ⟨i+1,⟨?_,?_⟩,?_,?_⟩
    ·omega
    ·exact zeC hq (by rw [hpr,zjX];exact decide_eq_true (by omega))
    ·show p.procs.length-(i+1)<p.procs.length-i;omega
    ·(refine zt [] qL ?_ rfl;repeat' (first | exact trivial | refine And.intro rfl ?_)))
 have hprocs:=zbw (m:=p.procs.length) (f:=fun k=>zcY p (p.procs.getD k zby).code) (fun j hj=>hq j (by omega))
 refine zf hn za rfl qS ⟨_,rfl,?_⟩
 rw [zaa,hhd,hcaps,hsels,hprocs];rfl
theorem zkk {α:Type} {l:List α} {d:α} {f:α→Bool} {k:Nat} (hk:k<l.length) (h:f (l.getD k d)=false):l.all f=false:=
 List.all_eq_false.2 ⟨l.getD k d,List.mem_of_getElem? (zd5 hk),by simp [h,-List.getD_eq_getElem?_getD]⟩
theorem zh8 {α:Type} {l:List α} (d:α) {f:α→Bool} (h:∀ k<l.length,f (l.getD k d)=true):l.all f=true:=by
 refine List.all_eq_true.2 fun x hx=>?_
 obtain ⟨j,hj⟩:=List.mem_iff_getElem?.1 hx
 have:=h j (List.getElem?_eq_some_iff.1 hj).1
 rwa [List.getD_eq_getElem?_getD,hj] at this
def zpG (l:List Int) (q:Int→Bool):Int:=match l.findIdx? q with
 | some i=>i
 | none=>-1
theorem zsI {l:List Int} {q:Int→Bool} {i:Nat} (hi:i<l.length) (hq:∀ j<i,q (l.getD j 0)=false) (h:q (l.getD i 0)=true):zpG l q=i:=by
 have:l.findIdx? q=some i:=by
  rw [List.findIdx?_eq_some_iff_getElem]
  refine ⟨hi,by rw [List.getD_eq_getElem?_getD,List.getElem?_eq_getElem hi] at h;simpa using h,fun j hj=>?_⟩
  have:=hq j hj
  rw [List.getD_eq_getElem?_getD,List.getElem?_eq_getElem (by omega)] at this
  simpa using this
 rw [zpG,this]
theorem zui {l:List Int} {q:Int→Bool} (hq:∀ j<l.length,q (l.getD j 0)=false):zpG l q=-1:=by
 have:l.findIdx? q=none:=by
  rw [List.findIdx?_eq_none_iff]
  intro y hy
  obtain ⟨j,hj⟩:=List.mem_iff_getElem?.1 hy
  have:=hq j (List.getElem?_eq_some_iff.1 hj).1
  rw [List.getD_eq_getElem?_getD,hj] at this
  simpa using this
 rw [zpG,this]
theorem zm2 (l:List Int) (g:FuncId) (q:Int→Bool) (hg:∀ v,Con Tryz.prog g [.dat (.int .i64 v)] (.dat (.bool (q v)))):Con Tryz.prog 237 [.dat (zbc l),.fn g] (.dat (.int .i64 (zpG l q))):=by
 refine zk (rs:=[(.tmp 4,3)]) za Tryz.func237 rfl rfl rfl (Nat.le_of_ble_eq_true rfl) fun ho x hn=>?_
 have hb:l.length≤(9223372036854775807:Nat):=(Okc.len (ho (.dat (zbc l)) (by simp)))
 refine zM hn za rfl ?_ (fun (wI:Nat) wT wM=>((8,.dat (.int .i64 wI))::wT,wM)) (fun wI=>wI≤l.length∧(fun i=>∀ j<i,q (l.getD j 0)=false) wI) (fun wI=>l.length-wI) 0 ⟨Nat.zero_le _,?_⟩ ?_ ?_;exact qS
 ·intro j hj;omega
 ·refine zt [] qL ?_ rfl;repeat' (first | exact trivial | refine And.intro rfl ?_)
 rintro i ⟨hi,hq⟩
 refine ze hn za rfl qS ?_ ?_<;>intro hc<;>first | (replace hc:=qC2 hc;try exact qX) | exact qF2 hc | skip
 ·have hlt:i<l.length:=by omega
  refine zbs hn za rfl ?_ rfl [] ⟨_,_,rfl,hg _,rfl,.inl rfl,?_⟩
  ·exact qS
  refine ze hn za rfl qS ?_ ?_<;>intro hc<;>first | (replace hc:=qC2 hc;try exact qX) | exact qF2 hc | skip
  ·refine zf hn za rfl qS ⟨_,rfl,?_⟩
   rw [zsI hlt hq hc];rfl
  ·refine zx hn za rfl qS ⟨i+1,⟨?_,?_⟩,?_,?_⟩
   ·omega
   ·exact zeC hq hc
   ·show l.length-(i+1)<l.length-i;omega
   ·refine zt [] qL ?_ rfl;repeat' (first | exact trivial | refine And.intro rfl ?_)
 ·refine zf hn za rfl qS ⟨_,rfl,?_⟩
  rw [zui (fun j hj=>hq j (by omega))];rfl
theorem zs4 (l:List Int) (q:Int→Bool):decide (0≤zpG l q)=l.any q:=by
 unfold zpG
 rw [Bool.eq_iff_iff,decide_eq_true_eq,List.any_eq_true]
 split
 ·rename_i i h
  rw [List.findIdx?_eq_some_iff_getElem] at h
  obtain ⟨h1,h2,_⟩:=h
  exact ⟨fun _=>⟨l[i],List.getElem_mem h1,h2⟩,fun _=>by omega⟩
 ·rename_i h
  rw [List.findIdx?_eq_none_iff] at h
  exact ⟨fun h=>by omega,fun ⟨v,hv,hv2⟩=>by have:=h v hv;simp [hv2] at this⟩
theorem zA (l:List Int) (g:FuncId) (q:Int→Bool) (hg:∀ v,Con Tryz.prog g [.dat (.int .i64 v)] (.dat (.bool (q v)))):Con Tryz.prog 191 [.dat (zbc l),.fn g] (.dat (.bool (l.any q))):=by
 refine zk (rs:=[(.tmp 4,4)]) za Tryz.func191 rfl rfl rfl (Nat.le_of_ble_eq_true rfl) fun ho x hn=>?_
 refine zbs hn za rfl ?_ rfl [] ⟨_,_,rfl,zm2 l g q hg,rfl,.inl rfl,?_⟩
 ·exact qS
 refine zf hn za rfl qS ⟨_,rfl,?_⟩
 show LV.dat (.bool (decide (0≤zpG l q)))=_
 rw [zs4]
theorem zbx (v:Int):Con Tryz.prog 196 [.dat (.int .i64 v)] (.dat (.bool (!zK v))):=by
 refine zk (rs:=[(.tmp 2,4)]) za Tryz.func196 rfl rfl rfl (Nat.le_of_ble_eq_true rfl) fun ho x hn=>?_
 repeat' (first | (refine ze hn za rfl qS ?_ ?_<;>intro hc<;>first | (replace hc:=qC2 hc;try exact qX) | exact qF2 hc | skip) | refine zf hn za rfl qS ⟨_,rfl,?_⟩ | refine qK hn za rfl rfl (by (first | exact zaY _ | assumption)) ?_)
 rfl
theorem zb5 (v:Int):Con Tryz.prog 192 [.dat (.int .i64 v)] (.dat (.bool (!zK v))):=by
 refine zk (rs:=[(.tmp 2,4)]) za Tryz.func192 rfl rfl rfl (Nat.le_of_ble_eq_true rfl) fun ho x hn=>?_
 repeat' (first | (refine ze hn za rfl qS ?_ ?_<;>intro hc<;>first | (replace hc:=qC2 hc;try exact qX) | exact qF2 hc | skip) | refine zf hn za rfl qS ⟨_,rfl,?_⟩ | refine qK hn za rfl rfl (by (first | exact zaY _ | assumption)) ?_)
 rfl
/-! ### those that wait -/
def zaU (send:Bool) (w:zo):Bool:=decide (0≤w.g∧-1≤w.cas) && (zK w.val && (send || decide (w.val=0)))
theorem zdp (w:zo):Con Tryz.prog 197 [.dagg (z5 w)] (.dat (.bool (zaU true w))):=by
 refine zk (rs:=[(.tmp 2,4)]) za Tryz.func197 rfl rfl rfl (Nat.le_of_ble_eq_true rfl) fun ho x hn=>?_
 repeat' (first | (refine ze hn za rfl qS ?_ ?_<;>intro hc<;>first | (replace hc:=qC2 hc;try exact qX) | exact qF2 hc | skip) | refine zf hn za rfl qS ⟨_,rfl,?_⟩ | refine qK hn za rfl rfl (by (first | exact zaY _ | assumption)) ?_)
 all_goals (refine congrArg (fun b=>LV.dat (.bool b)) (Eq.symm ?_);rw [zaU])
 all_goals first
  | (rw [decide_eq_false (by omega)];rfl)
  | (rw [decide_eq_true (by omega)];simp)
theorem zdS (l:List zo) (send:Bool):Con Tryz.prog 229 [.dat (zB l),.dat (.bool send)] (.dat (.bool (l.all (zaU send)))):=by
 refine zk (rs:=[(.tmp 4,4)]) za Tryz.func229 rfl rfl rfl (Nat.le_of_ble_eq_true rfl) fun ho x hn=>?_
 have hb:l.length≤(9223372036854775807:Nat):=(Okc.len (ho (.dat (zB l)) (by simp)))
 refine zM hn za rfl ?_ (fun (wI:Nat) wT wM=>((9,.dat (.int .i64 wI))::wT,wM)) (fun wI=>wI≤l.length∧(fun i=>∀ j<i,zaU send (l.getD j zi)=true) wI) (fun wI=>l.length-wI) 0 ⟨Nat.zero_le _,?_⟩ ?_ ?_;exact qS
 ·intro j hj;omega
 ·refine zt [] qL ?_ rfl;repeat' (first | exact trivial | refine And.intro rfl ?_)
 rintro i ⟨hi,hq⟩
 refine ze hn za rfl qS ?_ ?_<;>intro hc<;>first | (replace hc:=qC2 hc;try exact qX) | exact qF2 hc | skip
 ·have hlt:i<l.length:=by omega
  repeat' (first | (refine ze hn za rfl qS ?_ ?_<;>intro hc<;>first | (replace hc:=qC2 hc;try exact qX) | exact qF2 hc | skip) | refine zf hn za rfl qS ⟨_,rfl,?_⟩ | refine qK hn za rfl rfl (by (first | exact zan _ | assumption)) ?_)
  all_goals (try (
   refine congrArg (fun b=>LV.dat (.bool b)) (Eq.symm (zkk (d:=zi) hlt ?_))
   rw [zaU]
   first
    | (rw [decide_eq_false (by omega)];rfl)
    | (simp [zK, *,-List.getD_eq_getElem?_getD];done)
    | (simp [zK, *,-List.getD_eq_getElem?_getD];omega)))
  all_goals (
   refine zx hn za rfl qS ⟨i+1,⟨?_,?_⟩,?_,?_⟩
   ·omega
   ·refine zeC hq ?_
    rw [zaU,decide_eq_true (by omega)]
    simp [zK, *,-List.getD_eq_getElem?_getD]
   ·show l.length-(i+1)<l.length-i;omega
   ·(refine zt [] qL ?_ rfl;repeat' (first | exact trivial | refine And.intro rfl ?_)))
 ·refine zf hn za rfl qS ⟨_,rfl,?_⟩
  rw [zh8 zi (fun j hj=>hq j (by omega))];rfl
def ze0 (c:zY):Bool:=decide (0≤c.cap∧c.cap≤4∧c.buf.length≤c.cap)
def zfJ (c:zY):Bool:=(decide (c.sends.length=0) || (decide (c.buf.length=c.cap∧c.recvs.length=0) && !c.closed)) && (decide (c.recvs.length=0) || (decide (c.buf.length=0) && !c.closed))
def chanOk (c:zY):Bool:=ze0 c && (c.buf.all zK && (c.sends.all (zaU true) && (c.recvs.all (zaU false) && zfJ c)))
theorem zs5 {c:zY} (h:OkL (.dagg (zae c))):c.buf.length≤(9223372036854775807:Nat)∧c.sends.length≤(9223372036854775807:Nat)∧c.recvs.length≤(9223372036854775807:Nat):=
 ⟨(h (zbc c.buf) (by simp [zae])).len,(h (zB c.sends) (by simp [zae])).len,(h (zB c.recvs) (by simp [zae])).len⟩
theorem zls (l:List Int):l.any (fun v=>!zK v)=!l.all zK:=by
 rw [List.not_all_eq_any_not]
theorem zjN (w:zo):zaU false w=(zaU true w && decide (w.val=0)):=by
 simp [zaU,Bool.and_assoc]
set_option maxHeartbeats 1000000 in
theorem zai (c:zY):Con Tryz.prog 175 [.dagg (zae c)] (.dat (.bool (chanOk c))):=by
 refine zk (rs:=[(.tmp 2,4)]) za Tryz.func175 rfl rfl rfl (Nat.le_of_ble_eq_true rfl) fun ho x hn=>?_
 obtain ⟨hb1,hb2,hb3⟩:=zs5 (ho _ List.mem_cons_self)
 repeat' (first | (refine ze hn za rfl qS ?_ ?_<;>intro hc<;>first | (replace hc:=qC2 hc;try exact qX) | exact qF2 hc | skip) | refine zf hn za rfl qS ⟨_,rfl,?_⟩ | refine qK hn za rfl rfl (by (first | exact zdS _ _ | exact zan _ | assumption)) ?_)
 all_goals (try (
  refine congrArg (fun b=>LV.dat (.bool b)) (Eq.symm ?_)
  rw [chanOk]
  first
   | (rw [ze0,decide_eq_false (by omega)];rfl)
   | (rw [hc];simp)))
 have hhd:ze0 c=true:=by rw [ze0];exact decide_eq_true (by omega)
 refine zM hn za rfl ?_ (fun (wI:Nat) wT wM=>((36,.dat (.int .i64 wI))::wT,wM)) (fun wI=>wI≤c.buf.length∧(fun i=>∀ j<i,zK (c.buf.getD j 0)=true) wI) (fun wI=>c.buf.length-wI) 0 ⟨Nat.zero_le _,?_⟩ ?_ ?_;exact qS
 ·intro j hj;omega
 ·refine zt [] qL ?_ rfl;repeat' (first | exact trivial | refine And.intro rfl ?_)
 rintro i ⟨hi,hq⟩
 refine ze hn za rfl qS ?_ ?_<;>intro hc<;>first | (replace hc:=qC2 hc;try exact qX) | exact qF2 hc | skip
 ·have hlt:i<c.buf.length:=by omega
  refine qK hn za rfl rfl (by (first | exact zdS _ _ | exact zan _ | assumption)) ?_
  refine ze hn za rfl qS ?_ ?_<;>intro hc<;>first | (replace hc:=qC2 hc;try exact qX) | exact qF2 hc | skip
  ·refine zf hn za rfl qS ⟨_,rfl,?_⟩
   refine congrArg (fun b=>LV.dat (.bool b)) (Eq.symm ?_)
   rw [chanOk,zkk (d:=(0:Int)) hlt (by rw [zK];exact decide_eq_false hc)];simp
  ·refine zx hn za rfl qS ⟨i+1,⟨?_,?_⟩,?_,?_⟩
   ·omega
   ·exact zeC hq (by rw [zK];exact decide_eq_true hc)
   ·show c.buf.length-(i+1)<c.buf.length-i;omega
   ·refine zt [] qL ?_ rfl;repeat' (first | exact trivial | refine And.intro rfl ?_)
 have hbuf:=zh8 (l:=c.buf) (0:Int) (f:=zK) (fun j hj=>hq j (by omega))
 have hno:zfJ c=false→LV.dat (.bool false)=LV.dat (.bool (chanOk c)):=fun hh=>by
  rw [chanOk,hh];simp
 have hyes:chanOk c=zfJ c:=by simp [chanOk, *]
 repeat' (first | (refine ze hn za rfl qS ?_ ?_<;>intro hc<;>first | (replace hc:=qC2 hc;try exact qX) | exact qF2 hc | skip) | refine zf hn za rfl qS ⟨_,rfl,?_⟩ | refine qK hn za rfl rfl (by (first | exact zdS _ _ | exact zan _ | assumption)) ?_)
 all_goals (refine congrArg (fun b=>LV.dat (.bool b)) (Eq.symm ?_);rw [hyes,zfJ,Bool.eq_iff_iff];((
 generalize zY.closed c=b at *
 cases b<;>simp only [Bool.not_true,Bool.not_false,Bool.and_eq_true,Bool.or_eq_true,decide_eq_true_eq,Bool.false_eq_true,Bool.true_eq_false,reduceCtorEq,and_true,and_false,or_true,or_false,true_and,false_and,true_or,false_or,iff_true,true_iff,iff_false,false_iff,not_true_eq_false,not_false_eq_true] at *<;>omega)))
set_option maxHeartbeats 1000000 in
theorem zU (c:zY):Con Tryz.prog 135 [.dagg (zae c)] (.dat (.bool (chanOk c))):=by
 refine zk (rs:=[(.tmp 2,4)]) za Tryz.func135 rfl rfl rfl (Nat.le_of_ble_eq_true rfl) fun ho x hn=>?_
 obtain ⟨hb1,hb2,hb3⟩:=zs5 (ho _ List.mem_cons_self)
 repeat' (first | (refine ze hn za rfl qS ?_ ?_<;>intro hc<;>first | (replace hc:=qC2 hc;try exact qX) | exact qF2 hc | skip) | refine zf hn za rfl qS ⟨_,rfl,?_⟩ | refine qK hn za rfl rfl (by (first | exact zdp _ | exact zA _ _ (fun v=>!zK v) zb5 | exact zA _ _ (fun v=>!zK v) zbx | assumption)) ?_)
 all_goals (try (
  refine congrArg (fun b=>LV.dat (.bool b)) (Eq.symm ?_)
  rw [chanOk]
  first
   | (rw [ze0,decide_eq_false (by omega)];rfl)
   | (rw [zls,Bool.not_eq_true'] at hc;rw [hc];simp)))
 have hhd:ze0 c=true:=by rw [ze0];exact decide_eq_true (by omega)
 have hbuf:c.buf.all zK=true:=by rw [zls,Bool.not_eq_false'] at hc;exact hc
 clear hc
 refine zM hn za rfl ?_ (fun (wI:Nat) wT wM=>((31,.dat (.int .i64 wI))::wT,wM)) (fun wI=>wI≤c.sends.length∧(fun i=>∀ j<i,zaU true (c.sends.getD j zi)=true) wI) (fun wI=>c.sends.length-wI) 0 ⟨Nat.zero_le _,?_⟩ ?_ ?_;exact qS
 ·intro j hj;omega
 ·refine zt [] qL ?_ rfl;repeat' (first | exact trivial | refine And.intro rfl ?_)
 rintro i ⟨hi,hq⟩
 refine ze hn za rfl qS ?_ ?_<;>intro hc<;>first | (replace hc:=qC2 hc;try exact qX) | exact qF2 hc | skip
 ·have hlt:i<c.sends.length:=by omega
  refine qK hn za rfl rfl (by (first | exact zdp _ | exact zA _ _ (fun v=>!zK v) zb5 | exact zA _ _ (fun v=>!zK v) zbx | assumption)) ?_
  refine ze hn za rfl qS ?_ ?_<;>intro hc<;>first | (replace hc:=qC2 hc;try exact qX) | exact qF2 hc | skip
  ·refine zf hn za rfl qS ⟨_,rfl,?_⟩
   refine congrArg (fun b=>LV.dat (.bool b)) (Eq.symm ?_)
   rw [chanOk,zkk (d:=zi) hlt hc];simp
  ·refine zx hn za rfl qS ⟨i+1,⟨?_,?_⟩,?_,?_⟩
   ·omega
   ·exact zeC hq hc
   ·show c.sends.length-(i+1)<c.sends.length-i;omega
   ·refine zt [] qL ?_ rfl;repeat' (first | exact trivial | refine And.intro rfl ?_)
 have hsends:=zh8 (l:=c.sends) zi (f:=zaU true) (fun j hj=>hq j (by omega))
 clear hc hq hi
 refine zM hn za rfl ?_ (fun (wI:Nat) wT wM=>((42,.dat (.int .i64 wI))::wT,wM)) (fun wI=>wI≤c.recvs.length∧(fun i=>∀ j<i,zaU false (c.recvs.getD j zi)=true) wI) (fun wI=>c.recvs.length-wI) 0 ⟨Nat.zero_le _,?_⟩ ?_ ?_;exact qS
 ·intro j hj;omega
 ·refine zt [] qL ?_ rfl;repeat' (first | exact trivial | refine And.intro rfl ?_)
 rintro i ⟨hi,hq⟩
 refine ze hn za rfl qS ?_ ?_<;>intro hc<;>first | (replace hc:=qC2 hc;try exact qX) | exact qF2 hc | skip
 ·have hlt:i<c.recvs.length:=by omega
  repeat' (first | (refine ze hn za rfl qS ?_ ?_<;>intro hc<;>first | (replace hc:=qC2 hc;try exact qX) | exact qF2 hc | skip) | refine zf hn za rfl qS ⟨_,rfl,?_⟩ | refine qK hn za rfl rfl (by (first | exact zdp _ | exact zA _ _ (fun v=>!zK v) zb5 | exact zA _ _ (fun v=>!zK v) zbx | assumption)) ?_)
  all_goals (try (
   refine congrArg (fun b=>LV.dat (.bool b)) (Eq.symm ?_)
   rw [chanOk,zkk (d:=zi) (l:=c.recvs) hlt (by
    rw [zjN]
    first
     | (rw [hc];rfl)
     | (rw [decide_eq_false hc,Bool.and_false]))]
   simp;done))
  refine zx hn za rfl qS ⟨i+1,⟨?_,?_⟩,?_,?_⟩
  ·omega
  ·exact zeC hq (by rw [zjN,decide_eq_true hc,Bool.and_true];assumption)
  ·show c.recvs.length-(i+1)<c.recvs.length-i;omega
  ·refine zt [] qL ?_ rfl;repeat' (first | exact trivial | refine And.intro rfl ?_)
 have hrecvs:=zh8 (l:=c.recvs) zi (f:=zaU false) (fun j hj=>hq j (by omega))
 have hyes:chanOk c=zfJ c:=by simp [chanOk, *]
 repeat' (first | (refine ze hn za rfl qS ?_ ?_<;>intro hc<;>first | (replace hc:=qC2 hc;try exact qX) | exact qF2 hc | skip) | refine zf hn za rfl qS ⟨_,rfl,?_⟩ | refine qK hn za rfl rfl (by (first | exact zdp _ | exact zA _ _ (fun v=>!zK v) zb5 | exact zA _ _ (fun v=>!zK v) zbx | assumption)) ?_)
 all_goals (refine congrArg (fun b=>LV.dat (.bool b)) (Eq.symm ?_);rw [hyes,zfJ,Bool.eq_iff_iff];((
 generalize zY.closed c=b at *
 cases b<;>simp only [Bool.not_true,Bool.not_false,Bool.and_eq_true,Bool.or_eq_true,decide_eq_true_eq,Bool.false_eq_true,Bool.true_eq_false,reduceCtorEq,and_true,and_false,or_true,or_false,true_and,false_and,true_or,false_or,iff_true,true_iff,iff_false,false_iff,not_true_eq_false,not_false_eq_true] at *<;>omega)))
def zeB (c:zY):Bool:=chanOk c && (c.closed || (decide (0<c.recvs.length) || decide ((c.buf.length:Int)<c.cap)))
def zet (c:zY):Bool:=chanOk c && (decide (0<c.buf.length) || (decide (0<c.sends.length) || c.closed))
theorem zdH (c:zY):Con Tryz.prog 269 [.dagg (zae c)] (.dat (.bool (zeB c))):=by
 refine zk (rs:=[(.tmp 2,4)]) za Tryz.func269 rfl rfl rfl (Nat.le_of_ble_eq_true rfl) fun ho x hn=>?_
 repeat' (first | (refine ze hn za rfl qS ?_ ?_<;>intro hc<;>first | (replace hc:=qC2 hc;try exact qX) | exact qF2 hc | skip) | refine zf hn za rfl qS ⟨_,rfl,?_⟩ | refine qK hn za rfl rfl (by (first | exact zai _ | assumption)) ?_)
 all_goals (refine congrArg (fun b=>LV.dat (.bool b)) (Eq.symm ?_);rw [zeB,Bool.eq_iff_iff];generalize chanOk c=a at *;cases a<;>((
 generalize zY.closed c=b at *
 cases b<;>simp only [Bool.not_true,Bool.not_false,Bool.and_eq_true,Bool.or_eq_true,decide_eq_true_eq,Bool.false_eq_true,Bool.true_eq_false,reduceCtorEq,and_true,and_false,or_true,or_false,true_and,false_and,true_or,false_or,iff_true,true_iff,iff_false,false_iff,not_true_eq_false,not_false_eq_true] at *<;>omega)))
theorem zdO (c:zY):Con Tryz.prog 239 [.dagg (zae c)] (.dat (.bool (zeB c))):=by
 refine zk (rs:=[(.tmp 2,4)]) za Tryz.func239 rfl rfl rfl (Nat.le_of_ble_eq_true rfl) fun ho x hn=>?_
 repeat' (first | (refine ze hn za rfl qS ?_ ?_<;>intro hc<;>first | (replace hc:=qC2 hc;try exact qX) | exact qF2 hc | skip) | refine zf hn za rfl qS ⟨_,rfl,?_⟩ | refine qK hn za rfl rfl (by (first | exact zU _ | assumption)) ?_)
 all_goals (refine congrArg (fun b=>LV.dat (.bool b)) (Eq.symm ?_);rw [zeB,Bool.eq_iff_iff];generalize chanOk c=a at *;cases a<;>((
 generalize zY.closed c=b at *
 cases b<;>simp only [Bool.not_true,Bool.not_false,Bool.and_eq_true,Bool.or_eq_true,decide_eq_true_eq,Bool.false_eq_true,Bool.true_eq_false,reduceCtorEq,and_true,and_false,or_true,or_false,true_and,false_and,true_or,false_or,iff_true,true_iff,iff_false,false_iff,not_true_eq_false,not_false_eq_true] at *<;>omega)))
theorem zct (c:zY):Con Tryz.prog 270 [.dagg (zae c)] (.dat (.bool (zet c))):=by
 refine zk (rs:=[(.tmp 2,4)]) za Tryz.func270 rfl rfl rfl (Nat.le_of_ble_eq_true rfl) fun ho x hn=>?_
 repeat' (first | (refine ze hn za rfl qS ?_ ?_<;>intro hc<;>first | (replace hc:=qC2 hc;try exact qX) | exact qF2 hc | skip) | refine zf hn za rfl qS ⟨_,rfl,?_⟩ | refine qK hn za rfl rfl (by (first | exact zai _ | assumption)) ?_)
 all_goals (refine congrArg (fun b=>LV.dat (.bool b)) (Eq.symm ?_);rw [zet,Bool.eq_iff_iff];generalize chanOk c=a at *;cases a<;>((
 generalize zY.closed c=b at *
 cases b<;>simp only [Bool.not_true,Bool.not_false,Bool.and_eq_true,Bool.or_eq_true,decide_eq_true_eq,Bool.false_eq_true,Bool.true_eq_false,reduceCtorEq,and_true,and_false,or_true,or_false,true_and,false_and,true_or,false_or,iff_true,true_iff,iff_false,false_iff,not_true_eq_false,not_false_eq_true] at *<;>omega)))
theorem zbK (c:zY):Con Tryz.prog 240 [.dagg (zae c)] (.dat (.bool (zet c))):=by
 refine zk (rs:=[(.tmp 2,4)]) za Tryz.func240 rfl rfl rfl (Nat.le_of_ble_eq_true rfl) fun ho x hn=>?_
 repeat' (first | (refine ze hn za rfl qS ?_ ?_<;>intro hc<;>first | (replace hc:=qC2 hc;try exact qX) | exact qF2 hc | skip) | refine zf hn za rfl qS ⟨_,rfl,?_⟩ | refine qK hn za rfl rfl (by (first | exact zU _ | assumption)) ?_)
 all_goals (refine congrArg (fun b=>LV.dat (.bool b)) (Eq.symm ?_);rw [zet,Bool.eq_iff_iff];generalize chanOk c=a at *;cases a<;>((
 generalize zY.closed c=b at *
 cases b<;>simp only [Bool.not_true,Bool.not_false,Bool.and_eq_true,Bool.or_eq_true,decide_eq_true_eq,Bool.false_eq_true,Bool.true_eq_false,reduceCtorEq,and_true,and_false,or_true,or_false,true_and,false_and,true_or,false_or,iff_true,true_iff,iff_false,false_iff,not_true_eq_false,not_false_eq_true] at *<;>omega)))
theorem ze2 {α:Type} {l:List α} {d:α} {k:Nat} (hk:k<l.length):l.getD k d∈l:=List.mem_of_getElem? (zd5 hk)
theorem zor {l:List Int} {v:Int} (h:∀ j<l.length,¬ l.getD j 0=v):¬ v∈l:=fun hm=>by
 obtain ⟨j,hj⟩:=List.mem_iff_getElem?.1 hm
 have:=h j (List.getElem?_eq_some_iff.1 hj).1
 rw [List.getD_eq_getElem?_getD,hj] at this
 exact this rfl
theorem zdg (l:List Int) (v:Int):Con Tryz.prog 230 [.dat (zbc l),.dat (.int .i64 v)] (.dat (.bool (decide (v∈l)))):=by
 refine zk (rs:=[(.tmp 4,4)]) za Tryz.func230 rfl rfl rfl (Nat.le_of_ble_eq_true rfl) fun ho x hn=>?_
 have hb:l.length≤(9223372036854775807:Nat):=(Okc.len (ho (.dat (zbc l)) (by simp)))
 refine zM hn za rfl ?_ (fun (wI:Nat) wT wM=>((9,.dat (.int .i64 wI))::wT,wM)) (fun wI=>wI≤l.length∧(fun i=>∀ j<i,¬ l.getD j 0=v) wI) (fun wI=>l.length-wI) 0 ⟨Nat.zero_le _,?_⟩ ?_ ?_;exact qS
 ·intro j hj;omega
 ·refine zt [] qL ?_ rfl;repeat' (first | exact trivial | refine And.intro rfl ?_)
 rintro i ⟨hi,hq⟩
 refine ze hn za rfl qS ?_ ?_<;>intro hc<;>first | (replace hc:=qC2 hc;try exact qX) | exact qF2 hc | skip
 ·have hlt:i<l.length:=by omega
  refine ze hn za rfl qS ?_ ?_<;>intro hc<;>first | (replace hc:=qC2 hc;try exact qX) | exact qF2 hc | skip
  ·refine zf hn za rfl qS ⟨_,rfl,?_⟩
   refine congrArg (fun b=>LV.dat (.bool b)) (Eq.symm (decide_eq_true ?_))
   rw [← hc];exact ze2 hlt
  ·refine zx hn za rfl qS ⟨i+1,⟨?_,?_⟩,?_,?_⟩
   ·omega
   ·exact zeC hq hc
   ·show l.length-(i+1)<l.length-i;omega
   ·refine zt [] qL ?_ rfl;repeat' (first | exact trivial | refine And.intro rfl ?_)
 ·refine zf hn za rfl qS ⟨_,rfl,?_⟩
  exact congrArg (fun b=>LV.dat (.bool b)) (Eq.symm (decide_eq_false (zor fun j hj=>hq j (by omega))))
def zf4 (m:zal):Bool:=decide (-1≤m.owner∧(m.owner=-1→m.wait.length=0))
def zfK (m:zal) (k:Nat):Bool:=decide (0≤m.wait.getD k 0∧¬ m.wait.getD k 0=m.owner) && !decide (m.wait.getD k 0∈(m.wait.take k).drop 0)
def zcs (m:zal):Bool:=zf4 m && (List.range m.wait.length).all (zfK m)
theorem zbp (m:zal):Con Tryz.prog 176 [.dagg (zO m)] (.dat (.bool (zcs m))):=by
 refine zk (rs:=[(.tmp 2,4)]) za Tryz.func176 rfl rfl rfl (Nat.le_of_ble_eq_true rfl) fun ho x hn=>?_
 have hb:m.wait.length≤(9223372036854775807:Nat):=(ho (.dagg (zO m)) (by simp) (zbc m.wait) (by simp [zO])).len
 repeat' (first | (refine ze hn za rfl qS ?_ ?_<;>intro hc<;>first | (replace hc:=qC2 hc;try exact qX) | exact qF2 hc | skip) | refine zf hn za rfl qS ⟨_,rfl,?_⟩ | refine qK hn za rfl rfl (by (first | exact zdg _ _ | assumption)) ?_)
 all_goals (try (
  refine congrArg (fun b=>LV.dat (.bool b)) (Eq.symm ?_)
  rw [zcs,zf4,decide_eq_false (by omega),Bool.false_and]))
 all_goals (
  have hhd:zf4 m=true:=by rw [zf4];exact decide_eq_true (by omega)
  refine zM hn za rfl ?_ (fun (wI:Nat) wT wM=>((22,.dat (.int .i64 wI))::wT,wM)) (fun wI=>wI≤m.wait.length∧(fun i=>∀ j<i,zfK m j=true) wI) (fun wI=>m.wait.length-wI) 0 ⟨Nat.zero_le _,?_⟩ ?_ ?_;exact qS
  ·intro j hj;omega
  ·refine zt [] qL ?_ rfl;repeat' (first | exact trivial | refine And.intro rfl ?_)
  rintro i ⟨hi,hq⟩
  refine ze hn za rfl ?_ (fun hc=>?_) (fun hc=>?_);exact qS;all_goals (try simp only [decide_eq_true_eq,decide_eq_false_iff_not,Bool.not_eq_true',Bool.not_eq_false',Int.not_lt,Int.not_le,Int.toNat_natCast] at hc)
  ·have hlt:i<m.wait.length:=by omega
   repeat' (first | (refine ze hn za rfl qS ?_ ?_<;>intro hc<;>first | (replace hc:=qC2 hc;try exact qX) | exact qF2 hc | skip) | refine zf hn za rfl qS ⟨_,rfl,?_⟩ | refine qK hn za rfl rfl (by (first | exact zdg _ _ | assumption)) ?_)
   all_goals (try (
    refine congrArg (fun b=>LV.dat (.bool b)) (Eq.symm ?_)
    rw [zcs,zbA hlt (by rw [zfK,decide_eq_false (by omega),Bool.false_and]),Bool.and_false]))
   all_goals (
    refine zgN hn za 0 i rfl ?_ rfl rfl rfl rfl rfl ?_ ?_ ?_ ?_ ?_;exact qS;(first | exact .inl ⟨rfl,rfl⟩ | exact Bnd.some .i64 rfl);(first | exact .inl ⟨rfl,rfl⟩ | exact Bnd.some .i64 rfl);(first | exact Nat.zero_le _ | omega);(first | exact Nat.le_refl _ | omega)
    repeat' (first | (refine ze hn za rfl qS ?_ ?_<;>intro hc<;>first | (replace hc:=qC2 hc;try exact qX) | exact qF2 hc | skip) | refine zf hn za rfl qS ⟨_,rfl,?_⟩ | refine qK hn za rfl rfl (by (first | exact zdg _ _ | assumption)) ?_)
    ·refine congrArg (fun b=>LV.dat (.bool b)) (Eq.symm ?_)
     rw [zcs,zbA hlt (by rw [zfK,decide_eq_true hc,Bool.not_true,Bool.and_false]),Bool.and_false]
    ·refine zx hn za rfl qS ⟨i+1,⟨?_,?_⟩,?_,?_⟩
     ·omega
     ·exact zeC hq (by rw [zfK,decide_eq_false hc,decide_eq_true (by omega)];rfl)
     ·show m.wait.length-(i+1)<m.wait.length-i;omega
     ·(refine zt [] qL ?_ rfl;repeat' (first | exact trivial | refine And.intro rfl ?_)))
  ·refine zf hn za rfl qS ⟨_,rfl,?_⟩
   refine congrArg (fun b=>LV.dat (.bool b)) (Eq.symm ?_)
   rw [zcs,hhd,zbw (fun j hj=>hq j (by omega))];rfl)
theorem zak (m:zal):Con Tryz.prog 136 [.dagg (zO m)] (.dat (.bool (zcs m))):=by
 refine zk (rs:=[(.tmp 2,4)]) za Tryz.func136 rfl rfl rfl (Nat.le_of_ble_eq_true rfl) fun ho x hn=>?_
 have hb:m.wait.length≤(9223372036854775807:Nat):=(ho (.dagg (zO m)) (by simp) (zbc m.wait) (by simp [zO])).len
 repeat' (first | (refine ze hn za rfl qS ?_ ?_<;>intro hc<;>first | (replace hc:=qC2 hc;try exact qX) | exact qF2 hc | skip) | refine zf hn za rfl qS ⟨_,rfl,?_⟩ | refine qK hn za rfl rfl (by (first | exact zcI _ _ | assumption)) ?_)
 all_goals (try (
  refine congrArg (fun b=>LV.dat (.bool b)) (Eq.symm ?_)
  rw [zcs,zf4,decide_eq_false (by omega),Bool.false_and]))
 all_goals (
  have hhd:zf4 m=true:=by rw [zf4];exact decide_eq_true (by omega)
  refine zM hn za rfl ?_ (fun (wI:Nat) wT wM=>((22,.dat (.int .i64 wI))::wT,wM)) (fun wI=>wI≤m.wait.length∧(fun i=>∀ j<i,zfK m j=true) wI) (fun wI=>m.wait.length-wI) 0 ⟨Nat.zero_le _,?_⟩ ?_ ?_;exact qS
  ·intro j hj;omega
  ·refine zt [] qL ?_ rfl;repeat' (first | exact trivial | refine And.intro rfl ?_)
  rintro i ⟨hi,hq⟩
  refine ze hn za rfl ?_ (fun hc=>?_) (fun hc=>?_);exact qS;all_goals (try simp only [decide_eq_true_eq,decide_eq_false_iff_not,Bool.not_eq_true',Bool.not_eq_false',Int.not_lt,Int.not_le,Int.toNat_natCast] at hc)
  ·have hlt:i<m.wait.length:=by omega
   repeat' (first | (refine ze hn za rfl qS ?_ ?_<;>intro hc<;>first | (replace hc:=qC2 hc;try exact qX) | exact qF2 hc | skip) | refine zf hn za rfl qS ⟨_,rfl,?_⟩ | refine qK hn za rfl rfl (by (first | exact zcI _ _ | assumption)) ?_)
   all_goals (try (
    refine congrArg (fun b=>LV.dat (.bool b)) (Eq.symm ?_)
    rw [zcs,zbA hlt (by rw [zfK,decide_eq_false (by omega),Bool.false_and]),Bool.and_false]))
   all_goals (
    refine zgN hn za 0 i rfl ?_ rfl rfl rfl rfl rfl ?_ ?_ ?_ ?_ ?_;exact qS;(first | exact .inl ⟨rfl,rfl⟩ | exact Bnd.some .i64 rfl);(first | exact .inl ⟨rfl,rfl⟩ | exact Bnd.some .i64 rfl);(first | exact Nat.zero_le _ | omega);(first | exact Nat.le_refl _ | omega)
    repeat' (first | (refine ze hn za rfl qS ?_ ?_<;>intro hc<;>first | (replace hc:=qC2 hc;try exact qX) | exact qF2 hc | skip) | refine zf hn za rfl qS ⟨_,rfl,?_⟩ | refine qK hn za rfl rfl (by (first | exact zcI _ _ | assumption)) ?_)
    ·refine congrArg (fun b=>LV.dat (.bool b)) (Eq.symm ?_)
     rw [zcs,zbA hlt (by rw [zfK,decide_eq_true hc,Bool.not_true,Bool.and_false]),Bool.and_false]
    ·refine zx hn za rfl qS ⟨i+1,⟨?_,?_⟩,?_,?_⟩
     ·omega
     ·exact zeC hq (by rw [zfK,decide_eq_false hc,decide_eq_true (by omega)];rfl)
     ·show m.wait.length-(i+1)<m.wait.length-i;omega
     ·(refine zt [] qL ?_ rfl;repeat' (first | exact trivial | refine And.intro rfl ?_)))
  ·refine zf hn za rfl qS ⟨_,rfl,?_⟩
   refine congrArg (fun b=>LV.dat (.bool b)) (Eq.symm ?_)
   rw [zcs,hhd,zbw (fun j hj=>hq j (by omega))];rfl)
/-! ### items -/
def zeA (i:zbl):Prop:=0≤i.obj∧((i.kind=1∧i.ok=false∧0≤i.val∧i.val≤999)∨(i.kind=2∧(0≤i.val∧i.val≤999)∧(i.ok=true∨i.val=0))∨
 ((i.kind=3∨i.kind=5∨i.kind=6)∧i.ok=false∧i.val=0)∨(i.kind=4∧i.ok=false∧-1≤i.val)∨(i.kind=7∧i.ok=false∧0≤i.val)∨(i.kind=8∧i.ok=false∧(0≤i.val∧i.val≤999)∧i.obj=0)∨
 (i.kind=9∧i.ok=false∧i.val=0∧i.obj=0)∨(i.kind=10∧i.ok=false∧(1≤i.val∧i.val≤5)∧i.obj=0))
instance (i:zbl):Decidable (zeA i):=by unfold zeA;infer_instance
def zcr (i:zbl):Bool:=decide (zeA i)
set_option maxHeartbeats 2000000 in
theorem zhn (i:zbl):Con Tryz.prog 231 [.dagg (zd0 i)] (.dat (.bool (zcr i))):=by
 refine zk (rs:=[(.tmp 2,4)]) za Tryz.func231 rfl rfl rfl (Nat.le_of_ble_eq_true rfl) fun ho x hn=>?_
 repeat' (first | (refine ze hn za rfl qS ?_ ?_<;>intro hc<;>first | (replace hc:=qC2 hc;try exact qX) | exact qF2 hc | skip) | refine zf hn za rfl qS ⟨_,rfl,?_⟩ | refine qK hn za rfl rfl (by (first | exact zan _ | assumption)) ?_)
 ((
 all_goals (refine congrArg (fun b=>LV.dat (.bool b)) (Eq.symm ?_))
 all_goals (rw [Bool.eq_iff_iff,zcr,decide_eq_true_eq,zeA];clear ho)
 all_goals (try simp only [*])
 all_goals (
  generalize zbl.ok i=b at *
  cases b<;>simp [zbM] at *<;>omega)))
set_option maxHeartbeats 2000000 in
theorem zav (i:zbl):Con Tryz.prog 194 [.dagg (zd0 i)] (.dat (.bool (zcr i))):=by
 refine zk (rs:=[(.tmp 2,4)]) za Tryz.func194 rfl rfl rfl (Nat.le_of_ble_eq_true rfl) fun ho x hn=>?_
 repeat' (first | (refine ze hn za rfl qS ?_ ?_<;>intro hc<;>first | (replace hc:=qC2 hc;try exact qX) | exact qF2 hc | skip) | refine zf hn za rfl qS ⟨_,rfl,?_⟩ | refine qK hn za rfl rfl (by (first | exact zaY _ | assumption)) ?_)
 ((
 all_goals (refine congrArg (fun b=>LV.dat (.bool b)) (Eq.symm ?_))
 all_goals (rw [Bool.eq_iff_iff,zcr,decide_eq_true_eq,zeA];clear ho)
 all_goals (try simp only [*])
 all_goals (
  generalize zbl.ok i=b at *
  cases b<;>simp [zbM] at *<;>omega)))
def zZ (p:zn) (k:Int):Int:=if 0≤k∧k<p.procs.length then ((p.procs.getD k.toNat zby).code.length:Int) else 0
theorem ze6 (p:zn) (k:Int):Con Tryz.prog 177 [.dagg (zQ p),.dat (.int .i64 k)] (.dat (.int .i64 (zZ p k))):=by
 refine zk (rs:=[(.tmp 4,3)]) za Tryz.func177 rfl rfl rfl (Nat.le_of_ble_eq_true rfl) fun ho x hn=>?_
 repeat' (first | (refine ze hn za rfl qS ?_ ?_<;>intro hc<;>first | (replace hc:=qC2 hc;try exact qX) | exact qF2 hc | skip) | refine zf hn za rfl qS ⟨_,rfl,?_⟩ | refine qK hn za rfl rfl (by assumption) ?_)
 all_goals (rw [zZ])
 all_goals first
  | (rw [if_neg (by omega)];rfl)
  | (rw [if_pos (by omega)];rfl)
theorem zaw (p:zn) (k:Int):Con Tryz.prog 190 [.dagg (zQ p),.dat (.int .i64 k)] (.dat (.int .i64 (zZ p k))):=by
 refine zk (rs:=[(.tmp 4,3)]) za Tryz.func190 rfl rfl rfl (Nat.le_of_ble_eq_true rfl) fun ho x hn=>?_
 repeat' (first | (refine ze hn za rfl qS ?_ ?_<;>intro hc<;>first | (replace hc:=qC2 hc;try exact qX) | exact qF2 hc | skip) | refine zf hn za rfl qS ⟨_,rfl,?_⟩ | refine qK hn za rfl rfl (by (first | exact zN _ _ _ | assumption)) ?_)
 all_goals (rw [zZ])
 all_goals first
  | (rw [if_neg (by omega)];rfl)
  | (rw [if_pos (by omega)];rfl)
theorem ztG {g:zW} (h:OkL (.dagg (zH g))):g.regs.length≤(9223372036854775807:Nat)∧g.trace.length≤(9223372036854775807:Nat):=
 ⟨(h (zbc g.regs) (by simp [zH])).len,(h (zaW g.trace) (by simp [zH])).len⟩
def regOf (g:zW) (r:Int):Int:=if 0≤r∧r<g.regs.length then g.regs.getD r.toNat 0 else 0
theorem zR (g:zW) (r:Int):Con Tryz.prog 181 [.dagg (zH g),.dat (.int .i64 r)] (.dat (.int .i64 (regOf g r))):=by
 refine zk (rs:=[(.tmp 4,3)]) za Tryz.func181 rfl rfl rfl (Nat.le_of_ble_eq_true rfl) fun ho x hn=>?_
 repeat' (first | (refine ze hn za rfl qS ?_ ?_<;>intro hc<;>first | (replace hc:=qC2 hc;try exact qX) | exact qF2 hc | skip) | refine zf hn za rfl qS ⟨_,rfl,?_⟩ | refine qK hn za rfl rfl (by assumption) ?_)
 all_goals (rw [regOf])
 all_goals first
  | (rw [if_neg (by omega)];rfl)
  | (rw [if_pos (by omega)];rfl)
def zj1 (l:List zbl) (k:Nat):Bool:=zcr (l.getD k zdr) && !decide (((l.getD k zdr).kind=9∨(l.getD k zdr).kind=10)∧(k:Int)<(l.length:Int)-1)
def zb6 (l:List zbl):Int:=if l.length=0 then 0 else (l.getD ((l.length:Int)-1).toNat zdr).kind
def zfS (g:zW):Bool:=(decide (zb6 g.trace=9) == decide (g.state=3)) && (decide (zb6 g.trace=10) == decide (g.state=4))
def zeP (g:zW):Bool:=(List.range g.trace.length).all (zj1 g.trace) && zfS g
set_option maxHeartbeats 2000000 in
theorem zer (g:zW):Con Tryz.prog 179 [.dagg (zH g)] (.dat (.bool (zeP g))):=by
 refine zk (rs:=[(.tmp 2,4)]) za Tryz.func179 rfl rfl rfl (Nat.le_of_ble_eq_true rfl) fun ho x hn=>?_
 obtain ⟨hb1,hb2⟩:=ztG (ho _ List.mem_cons_self)
 refine zM hn za rfl ?_ (fun (wI:Nat) wT wM=>((10,.dat (.int .i64 wI))::wT,wM)) (fun wI=>wI≤g.trace.length∧(fun i=>∀ j<i,zj1 g.trace j=true) wI) (fun wI=>g.trace.length-wI) 0 ⟨Nat.zero_le _,?_⟩ ?_ ?_;exact qS
 ·intro j hj;omega
 ·refine zt [] qL ?_ rfl;repeat' (first | exact trivial | refine And.intro rfl ?_)
 rintro i ⟨hi,hq⟩
 refine ze hn za rfl qS ?_ ?_<;>intro hc<;>first | (replace hc:=qC2 hc;try exact qX) | exact qF2 hc | skip
 ·have hlt:i<g.trace.length:=by omega
  repeat' (first | (refine ze hn za rfl qS ?_ ?_<;>intro hc<;>first | (replace hc:=qC2 hc;try exact qX) | exact qF2 hc | skip) | refine zf hn za rfl qS ⟨_,rfl,?_⟩ | refine qK hn za rfl rfl (by (first | exact zhn _ | assumption)) ?_)
  all_goals (try (
   refine congrArg (fun b=>LV.dat (.bool b)) (Eq.symm ?_)
   rw [zeP,zbA hlt (by
    rw [zj1]
    first
     | (rw [hc];rfl)
     | (rw [decide_eq_true (p:=_∧_) (by omega),Bool.not_true,Bool.and_false])),Bool.false_and]))
  all_goals (
   refine zx hn za rfl qS ⟨i+1,⟨?_,?_⟩,?_,?_⟩
   ·omega
   ·refine zeC hq ?_
    rw [zj1,decide_eq_false (by omega)]
    simp [*,-List.getD_eq_getElem?_getD]
   ·show g.trace.length-(i+1)<g.trace.length-i;omega
   ·(refine zt [] qL ?_ rfl;repeat' (first | exact trivial | refine And.intro rfl ?_)))
 have hall:=zbw (m:=g.trace.length) (f:=zj1 g.trace) (fun j hj=>hq j (by omega))
 have hyes:zeP g=zfS g:=by rw [zeP,hall,Bool.true_and]
 repeat' (first | (refine ze hn za rfl qS ?_ ?_<;>intro hc<;>first | (replace hc:=qC2 hc;try exact qX) | exact qF2 hc | skip) | refine zf hn za rfl qS ⟨_,rfl,?_⟩ | refine qK hn za rfl rfl (by (first | exact zhn _ | assumption)) ?_)
 all_goals (refine congrArg (fun b=>LV.dat (.bool b)) (Eq.symm ?_);rw [hyes,zfS,zb6])
 all_goals (first | rw [if_pos (by omega)] | rw [if_neg (by omega)])
 all_goals first
  | (rw [beq_iff_eq.2 hc,Bool.true_and];done)
  | (rw [beq_iff_eq.2 hc,Bool.true_and];rfl)
  | (rw [beq_eq_false_iff_ne.2 hc,Bool.false_and])
def zao (p:zn) (g:zW):Bool:=decide (0≤g.pc∧g.pc<zZ p g.proc∧g.regs.length=6∧1≤g.state∧g.state≤4)
def zbf (p:zn) (g:zW):Bool:=zao p g && (g.regs.all zK && zeP g)
def zel (p:zn) (g:zW):Bool:=zaa p && zbf p g
theorem zdx (p:zn) (g:zW):Con Tryz.prog 119 [.dagg (zQ p),.dagg (zH g)] (.dat (.bool (zbf p g))):=by
 refine zk (rs:=[(.tmp 4,4)]) za Tryz.func119 rfl rfl rfl (Nat.le_of_ble_eq_true rfl) fun ho x hn=>?_
 obtain ⟨hb1,hb2⟩:=ztG (ho (.dagg (zH g)) (by simp))
 repeat' (first | (refine ze hn za rfl qS ?_ ?_<;>intro hc<;>first | (replace hc:=qC2 hc;try exact qX) | exact qF2 hc | skip) | refine zf hn za rfl qS ⟨_,rfl,?_⟩ | refine qK hn za rfl rfl (by (first | exact zer _ | exact ze6 _ _ | exact zan _ | assumption)) ?_)
 all_goals (try (
  refine congrArg (fun b=>LV.dat (.bool b)) (Eq.symm ?_)
  rw [zbf,zao,decide_eq_false (by omega),Bool.false_and]))
 have hhd:zao p g=true:=by rw [zao];exact decide_eq_true (by omega)
 refine zM hn za rfl ?_ (fun (wI:Nat) wT wM=>((40,.dat (.int .i64 wI))::wT,wM)) (fun wI=>wI≤g.regs.length∧(fun i=>∀ j<i,zK (g.regs.getD j 0)=true) wI) (fun wI=>g.regs.length-wI) 0 ⟨Nat.zero_le _,?_⟩ ?_ ?_;exact qS
 ·intro j hj;omega
 ·refine zt [] qL ?_ rfl;repeat' (first | exact trivial | refine And.intro rfl ?_)
 rintro i ⟨hi,hq⟩
 refine ze hn za rfl qS ?_ ?_<;>intro hc<;>first | (replace hc:=qC2 hc;try exact qX) | exact qF2 hc | skip
 ·have hlt:i<g.regs.length:=by omega
  refine qK hn za rfl rfl (by (first | exact zer _ | exact ze6 _ _ | exact zan _ | assumption)) ?_
  refine ze hn za rfl qS ?_ ?_<;>intro hc<;>first | (replace hc:=qC2 hc;try exact qX) | exact qF2 hc | skip
  ·refine zf hn za rfl qS ⟨_,rfl,?_⟩
   refine congrArg (fun b=>LV.dat (.bool b)) (Eq.symm ?_)
   rw [zbf,zkk (d:=(0:Int)) hlt (by rw [zK];exact decide_eq_false hc),Bool.false_and,Bool.and_false]
  ·refine zx hn za rfl qS ⟨i+1,⟨?_,?_⟩,?_,?_⟩
   ·omega
   ·exact zeC hq (by rw [zK];exact decide_eq_true hc)
   ·show g.regs.length-(i+1)<g.regs.length-i;omega
   ·refine zt [] qL ?_ rfl;repeat' (first | exact trivial | refine And.intro rfl ?_)
 have hall:=zh8 (l:=g.regs) (0:Int) (f:=zK) (fun j hj=>hq j (by omega))
 repeat' (first | (refine ze hn za rfl qS ?_ ?_<;>intro hc<;>first | (replace hc:=qC2 hc;try exact qX) | exact qF2 hc | skip) | refine zf hn za rfl qS ⟨_,rfl,?_⟩ | refine qK hn za rfl rfl (by (first | exact zer _ | exact ze6 _ _ | exact zan _ | assumption)) ?_)
 rw [zbf,hhd,hall];rfl
def zu1 (l:List zbl):Nat→Int
 | 0=>0
 | i+1=>(l.getD i zdr).kind
theorem zsW (l:List zbl):zu1 l l.length=zb6 l:=by
 rw [zb6]
 cases h:l.length with
 | zero=>rfl
 | succ n=>
   rw [if_neg (by omega)]
   show (l.getD n zdr).kind=(l.getD (((n+1:Nat):Int)-1).toNat zdr).kind
   rw [show (((n+1:Nat):Int)-1).toNat=n by omega]
set_option maxHeartbeats 4000000 in
theorem zaG (p:zn) (g:zW):Con Tryz.prog 132 [.dagg (zQ p),.dagg (zH g)] (.dat (.bool (zel p g))):=by
 refine zk (rs:=[(.tmp 4,4)]) za Tryz.func132 rfl rfl rfl (Nat.le_of_ble_eq_true rfl) fun ho x hn=>?_
 obtain ⟨hb1,hb2⟩:=ztG (ho (.dagg (zH g)) (by simp))
 have hno:zao p g=false→LV.dat (.bool false)=LV.dat (.bool (zel p g)):=fun hh=>by
  rw [zel,zbf,hh,Bool.false_and,Bool.and_false]
 cases hp:zaa p
 ·refine qD hn za zu [.r (.dat (.bool (zaa p))),.b true] rfl rfl ?_ ?_
  ·(try refine qM ?_);repeat' (first | exact trivial | (first | exact zG _ | exact zav _ | exact zaw _ _ | exact zA _ _ (fun v=>!zK v) zb5 | exact zA _ _ (fun v=>!zK v) zbx | exact zN _ _ _ | assumption) | assumption | omega | exact qV | refine And.intro ?_ ?_)
  ·repeat' (first | (refine ze hn za rfl qS ?_ ?_<;>intro hc<;>first | (replace hc:=qC2 hc;try exact qX) | exact qF2 hc | skip) | refine zf hn za rfl qS ⟨_,rfl,?_⟩ | refine qK hn za rfl rfl (by (first | exact zG _ | exact zav _ | exact zaw _ _ | exact zA _ _ (fun v=>!zK v) zb5 | exact zA _ _ (fun v=>!zK v) zbx | exact zN _ _ _ | assumption)) ?_)
   rw [zel,hp];rfl
 cases hin:zds g.pc 0 (zZ p g.proc)
 ·refine qD hn za zu [.r (.dat (.bool (zaa p))),.b false,.r (.dat (.int .i64 (zZ p g.proc))),.r (.dat (.bool (zds g.pc 0 (zZ p g.proc)))),.b true] rfl rfl ?_ ?_
  ·(try refine qM ?_);repeat' (first | exact trivial | (first | exact zG _ | exact zav _ | exact zaw _ _ | exact zA _ _ (fun v=>!zK v) zb5 | exact zA _ _ (fun v=>!zK v) zbx | exact zN _ _ _ | assumption) | assumption | omega | exact qV | refine And.intro ?_ ?_)
  ·repeat' (first | (refine ze hn za rfl qS ?_ ?_<;>intro hc<;>first | (replace hc:=qC2 hc;try exact qX) | exact qF2 hc | skip) | refine zf hn za rfl qS ⟨_,rfl,?_⟩ | refine qK hn za rfl rfl (by (first | exact zG _ | exact zav _ | exact zaw _ _ | exact zA _ _ (fun v=>!zK v) zb5 | exact zA _ _ (fun v=>!zK v) zbx | exact zN _ _ _ | assumption)) ?_)
   exact hno (by rw [zao];rw [zck] at hin;exact decide_eq_false (by omega))
 by_cases hl:g.regs.length=6
 ·by_cases hs:g.state<1
  ·refine qD hn za zu [.r (.dat (.bool (zaa p))),.b false,.r (.dat (.int .i64 (zZ p g.proc))),.r (.dat (.bool (zds g.pc 0 (zZ p g.proc)))),.b false,.b false,.b true] rfl rfl ?_ ?_
   ·(try refine qM ?_);repeat' (first | exact trivial | (first | exact zG _ | exact zav _ | exact zaw _ _ | exact zA _ _ (fun v=>!zK v) zb5 | exact zA _ _ (fun v=>!zK v) zbx | exact zN _ _ _ | assumption) | assumption | omega | exact qV | refine And.intro ?_ ?_)
   ·repeat' (first | (refine ze hn za rfl qS ?_ ?_<;>intro hc<;>first | (replace hc:=qC2 hc;try exact qX) | exact qF2 hc | skip) | refine zf hn za rfl qS ⟨_,rfl,?_⟩ | refine qK hn za rfl rfl (by (first | exact zG _ | exact zav _ | exact zaw _ _ | exact zA _ _ (fun v=>!zK v) zb5 | exact zA _ _ (fun v=>!zK v) zbx | exact zN _ _ _ | assumption)) ?_)
    exact hno (by rw [zao];exact decide_eq_false (by omega))
  ·refine qD hn za zu [.r (.dat (.bool (zaa p))),.b false,.r (.dat (.int .i64 (zZ p g.proc))),.r (.dat (.bool (zds g.pc 0 (zZ p g.proc)))),.b false,.b false,.b false] rfl rfl ?_ ?_
   ·(try refine qM ?_);repeat' (first | exact trivial | (first | exact zG _ | exact zav _ | exact zaw _ _ | exact zA _ _ (fun v=>!zK v) zb5 | exact zA _ _ (fun v=>!zK v) zbx | exact zN _ _ _ | assumption) | assumption | omega | exact qV | refine And.intro ?_ ?_)
   ·refine ze hn za rfl qS ?_ ?_<;>intro hc<;>first | (replace hc:=qC2 hc;try exact qX) | exact qF2 hc | skip
    ·repeat' (first | (refine ze hn za rfl qS ?_ ?_<;>intro hc<;>first | (replace hc:=qC2 hc;try exact qX) | exact qF2 hc | skip) | refine zf hn za rfl qS ⟨_,rfl,?_⟩ | refine qK hn za rfl rfl (by (first | exact zG _ | exact zav _ | exact zaw _ _ | exact zA _ _ (fun v=>!zK v) zb5 | exact zA _ _ (fun v=>!zK v) zbx | exact zN _ _ _ | assumption)) ?_)
     exact hno (by rw [zao];exact decide_eq_false (by omega))
    have hhd:zao p g=true:=by rw [zao];rw [zcg] at hin;exact decide_eq_true (by omega)
    refine qK hn za rfl rfl (by (first | exact zG _ | exact zav _ | exact zaw _ _ | exact zA _ _ (fun v=>!zK v) zb5 | exact zA _ _ (fun v=>!zK v) zbx | exact zN _ _ _ | assumption)) ?_
    refine ze hn za rfl qS ?_ ?_<;>intro hc<;>first | (replace hc:=qC2 hc;try exact qX) | exact qF2 hc | skip
    ·repeat' (first | (refine ze hn za rfl qS ?_ ?_<;>intro hc<;>first | (replace hc:=qC2 hc;try exact qX) | exact qF2 hc | skip) | refine zf hn za rfl qS ⟨_,rfl,?_⟩ | refine qK hn za rfl rfl (by (first | exact zG _ | exact zav _ | exact zaw _ _ | exact zA _ _ (fun v=>!zK v) zb5 | exact zA _ _ (fun v=>!zK v) zbx | exact zN _ _ _ | assumption)) ?_)
     rw [zls,Bool.not_eq_true'] at hc
     rw [zel,zbf,hc,Bool.false_and,Bool.and_false,Bool.and_false];rfl
    rw [zls,Bool.not_eq_false'] at hc
    have hval:=hc
    clear hc
    refine zM hn za rfl ?_ (fun (wI:Nat) wT wM=>((43,.dat (.int .i64 wI))::(5,.dat (.int .i64 (zu1 g.trace wI)))::wT,wM)) (fun wI=>wI≤g.trace.length∧∀ j<wI,zj1 g.trace j=true) (fun wI=>g.trace.length-wI) 0 ⟨Nat.zero_le _,?_⟩ ?_ ?_
    ·exact qS
    ·intro j hj;omega
    ·refine zt [] qL ?_ rfl;repeat' (first | exact trivial | refine And.intro rfl ?_)
    rintro i ⟨hi,hq⟩
    refine ze hn za rfl qS ?_ ?_<;>intro hc<;>first | (replace hc:=qC2 hc;try exact qX) | exact qF2 hc | skip
    ·have hlt:i<g.trace.length:=by omega
     repeat' (first | (refine ze hn za rfl qS ?_ ?_<;>intro hc<;>first | (replace hc:=qC2 hc;try exact qX) | exact qF2 hc | skip) | refine zf hn za rfl qS ⟨_,rfl,?_⟩ | refine qK hn za rfl rfl (by (first | exact zG _ | exact zav _ | exact zaw _ _ | exact zA _ _ (fun v=>!zK v) zb5 | exact zA _ _ (fun v=>!zK v) zbx | exact zN _ _ _ | assumption)) ?_)
     all_goals (try (
      refine congrArg (fun b=>LV.dat (.bool b)) (Eq.symm ?_)
      rw [zel,zbf,zeP,zbA hlt (by
       rw [zj1]
       first
        | (rw [hc];rfl)
        | (rw [decide_eq_true (p:=_∧_) (by omega),Bool.not_true,Bool.and_false])),Bool.false_and,Bool.and_false,Bool.and_false,Bool.and_false]))
     all_goals (
      refine zx hn za rfl qS ⟨i+1,⟨?_,?_⟩,?_,?_⟩
      ·omega
      ·refine zeC hq ?_
       rw [zj1,decide_eq_false (by omega)]
       simp [*,-List.getD_eq_getElem?_getD]
      ·show g.trace.length-(i+1)<g.trace.length-i;omega
      ·(refine zt [] qL ?_ rfl;repeat' (first | exact trivial | refine And.intro rfl ?_)))
    have hall:=zbw (m:=g.trace.length) (f:=zj1 g.trace) (fun j hj=>hq j (by omega))
    have hie:i=g.trace.length:=by omega
    subst hie
    rw [zsW]
    have hyes:zel p g=zfS g:=by rw [zel,zbf,zeP,hp,hhd,hval,hall];rfl
    repeat' (first | (refine ze hn za rfl qS ?_ ?_<;>intro hc<;>first | (replace hc:=qC2 hc;try exact qX) | exact qF2 hc | skip) | refine zf hn za rfl qS ⟨_,rfl,?_⟩ | refine qK hn za rfl rfl (by (first | exact zG _ | exact zav _ | exact zaw _ _ | exact zA _ _ (fun v=>!zK v) zb5 | exact zA _ _ (fun v=>!zK v) zbx | exact zN _ _ _ | assumption)) ?_)
    all_goals (refine congrArg (fun b=>LV.dat (.bool b)) (Eq.symm ?_);rw [hyes,zfS])
    all_goals first
     | (rw [beq_iff_eq.2 hc,Bool.true_and];done)
     | (rw [beq_iff_eq.2 hc,Bool.true_and];rfl)
     | (rw [beq_eq_false_iff_ne.2 hc,Bool.false_and])
 ·refine qD hn za zu [.r (.dat (.bool (zaa p))),.b false,.r (.dat (.int .i64 (zZ p g.proc))),.r (.dat (.bool (zds g.pc 0 (zZ p g.proc)))),.b false,.b true] rfl rfl ?_ ?_
  ·(try refine qM ?_);repeat' (first | exact trivial | (first | exact zG _ | exact zav _ | exact zaw _ _ | exact zA _ _ (fun v=>!zK v) zb5 | exact zA _ _ (fun v=>!zK v) zbx | exact zN _ _ _ | assumption) | assumption | omega | exact qV | refine And.intro ?_ ?_)
  ·repeat' (first | (refine ze hn za rfl qS ?_ ?_<;>intro hc<;>first | (replace hc:=qC2 hc;try exact qX) | exact qF2 hc | skip) | refine zf hn za rfl qS ⟨_,rfl,?_⟩ | refine qK hn za rfl rfl (by (first | exact zG _ | exact zav _ | exact zaw _ _ | exact zA _ _ (fun v=>!zK v) zb5 | exact zA _ _ (fun v=>!zK v) zbx | exact zN _ _ _ | assumption)) ?_)
   exact hno (by rw [zao];exact decide_eq_false (by omega))
theorem zqw {p:zn} {g:zW} (h:zao p g=true):(0≤g.proc∧g.proc<p.procs.length)∧0≤g.pc∧g.pc<(p.procs.getD g.proc.toNat zby).code.length:=by
 rw [zao,decide_eq_true_eq,zZ] at h
 split at h
 ·rename_i hh;exact ⟨hh,h.1,h.2.1⟩
 ·omega
def zb (p:zn) (g:zW):zaD:=(p.procs.getD g.proc.toNat zby).code.getD g.pc.toNat zcL
theorem con_at_spec.l09At (p:zn) (g:zW) (h:zao p g=true):Con Tryz.prog 180 [.dagg (zQ p),.dagg (zH g)] (.dagg (zc7 (zb p g))):=by
 refine zk (rs:=[(.cell 4 203,203)]) za Tryz.func180 rfl rfl rfl (Nat.le_of_ble_eq_true rfl) fun ho x hn=>?_
 obtain ⟨h1,h2,h3⟩:=zqw h
 refine qD hn za zu [] rfl rfl ?_ ?_
 ·(try refine qM ?_);repeat' (first | exact trivial | assumption | assumption | omega | exact qV | refine And.intro ?_ ?_)
 ·repeat' (first | (refine ze hn za rfl qS ?_ ?_<;>intro hc<;>first | (replace hc:=qC2 hc;try exact qX) | exact qF2 hc | skip) | refine zf hn za rfl qS ⟨_,rfl,?_⟩ | refine qK hn za rfl rfl (by assumption) ?_)
  rfl
theorem con_at_impl.instr (p:zn) (g:zW) (h:zao p g=true):Con Tryz.prog 138 [.dagg (zQ p),.dagg (zH g)] (.dagg (zc7 (zb p g))):=by
 refine zk (rs:=[(.cell 4 203,203)]) za Tryz.func138 rfl rfl rfl (Nat.le_of_ble_eq_true rfl) fun ho x hn=>?_
 obtain ⟨h1,h2,h3⟩:=zqw h
 refine qD hn za zu [] rfl rfl ?_ ?_
 ·(try refine qM ?_);repeat' (first | exact trivial | assumption | assumption | omega | exact qV | refine And.intro ?_ ?_)
 ·repeat' (first | (refine ze hn za rfl qS ?_ ?_<;>intro hc<;>first | (replace hc:=qC2 hc;try exact qX) | exact qF2 hc | skip) | refine zf hn za rfl qS ⟨_,rfl,?_⟩ | refine qK hn za rfl rfl (by assumption) ?_)
  rfl
/-! ### what the rounds gather -/
def zL {α:Type} (f:Nat→List α) (i:Nat):List α:=(List.range i).flatMap f
theorem z6 {α:Type} (f:Nat→List α) (i:Nat):zL f (i+1)=zL f i++f i:=by
 simp [zL,List.range_succ,List.flatMap_append]
theorem zcb {α:Type} {f:Nat→List α} {c:Nat} (h:∀ k,(f k).length≤c) (i:Nat):(zL f i).length≤c*i:=by
 induction i with
 | zero=>simp [zL]
 | succ i ih=>
   rw [z6,List.length_append]
   have:=h i
   rw [Nat.mul_succ];omega
def zeQ (gs:List zW) (s:Int) (k:Nat):List Int:=if (gs.getD k zd).state=s then [(k:Int)] else []
def inState (e:zz) (s:Int):List Int:=zL (zeQ e.gs s) e.gs.length
theorem zf1 (gs:List zW) (s:Int) (k:Nat):(zeQ gs s k).length≤1:=by
 unfold zeQ;split<;>simp
theorem con_in_spec.l09States (e:zz) (s:Int) (hs:e.gs.length≤1048576):Con Tryz.prog 124 [.dagg (zad e),.dat (.int .i64 s)] (.dat (zbc (inState e s))):=by
 refine zk (rs:=[(.tmp 4,22)]) za Tryz.func124 rfl rfl rfl (Nat.le_of_ble_eq_true rfl) fun ho x hn=>?_
 refine zT hn za (0:Int) iC ([]:List Int) rfl ?_ rfl rfl rfl rfl rfl rfl rfl rfl rfl ?_;exact qS
 refine zM hn za rfl ?_ (fun (wI:Nat) wT wM=>((12,.dat (.int .i64 wI))::(5,.own 100)::([(8,.no)]++wT),(100,some ((fun i=>.row 3 1 (0:Int) iC (zL (zeQ e.gs s) i)) wI))::([(8,none)]++wM))) (fun wI=>wI≤e.gs.length∧(fun _=>True) wI) (fun wI=>e.gs.length-wI) 0 ⟨Nat.zero_le _,?_⟩ (zt [(100,8),(8,999)] ?_ ?_ rfl) ?_;exact qS
 ·trivial
 ·exact qL
 ·exact qL
 rintro i ⟨hi,_⟩
 have hle:=zcb (zf1 e.gs s) i
 refine ze hn za rfl qS ?_ ?_<;>intro hc<;>first | (replace hc:=qC2 hc;try exact qX) | exact qF2 hc | skip
 ·have hlt:i<e.gs.length:=by omega
  refine ze hn za rfl qS ?_ ?_<;>intro hc<;>first | (replace hc:=qC2 hc;try exact qX) | exact qF2 hc | skip
  ·refine zT hn za (0:Int) iC [(i:Int)] rfl ?_ rfl rfl rfl rfl rfl rfl rfl rfl rfl ?_;exact qS
   refine zas hn za [(i:Int)] rfl ?_ rfl rfl rfl rfl rfl rfl rfl rfl ?_ ?_;exact qS
   ·show (_+1)*8≤_;omega
   refine zx hn za rfl qS ⟨i+1,⟨?_,?_⟩,?_,?_⟩
   ·omega
   ·trivial
   ·show e.gs.length-(i+1)<e.gs.length-i;omega
   ·refine zt [(100,24),(8,999)] qL ?_ rfl;repeat' (first | exact trivial | refine And.intro rfl ?_)
    refine And.intro (congrArg (fun q=>some (Blk.row 3 1 (0:Int) iC q)) ?_) ?_
    ·rw [z6,zeQ,if_pos hc]
    ·exact qL
  ·refine zx hn za rfl qS ⟨i+1,⟨?_,?_⟩,?_,?_⟩
   ·omega
   ·trivial
   ·show e.gs.length-(i+1)<e.gs.length-i;omega
   ·refine zt [(8,999)] qL ?_ rfl;repeat' (first | exact trivial | refine And.intro rfl ?_)
    refine And.intro (congrArg (fun q=>some (Blk.row 3 1 (0:Int) iC q)) ?_) ?_
    ·rw [z6,zeQ,if_neg hc,List.append_nil]
    ·exact qL
 ·refine zf hn za rfl qS ⟨_,rfl,?_⟩
  have hie:i=e.gs.length:=by omega
  subst hie
  rfl
theorem con_in_impl.inState (e:zz) (s:Int) (hs:e.gs.length≤1048576):Con Tryz.prog 199 [.dagg (zad e),.dat (.int .i64 s)] (.dat (zbc (inState e s))):=by
 refine zk (rs:=[(.tmp 4,22)]) za Tryz.func199 rfl rfl rfl (Nat.le_of_ble_eq_true rfl) fun ho x hn=>?_
 refine zT hn za (0:Int) iC ([]:List Int) rfl ?_ rfl rfl rfl rfl rfl rfl rfl rfl rfl ?_;exact qS
 refine zM hn za rfl ?_ (fun (wI:Nat) wT wM=>((12,.dat (.int .i64 wI))::(5,.own 100)::([(8,.no)]++wT),(100,some ((fun i=>.row 3 1 (0:Int) iC (zL (zeQ e.gs s) i)) wI))::([(8,none)]++wM))) (fun wI=>wI≤e.gs.length∧(fun _=>True) wI) (fun wI=>e.gs.length-wI) 0 ⟨Nat.zero_le _,?_⟩ (zt [(100,8),(8,999)] ?_ ?_ rfl) ?_;exact qS
 ·trivial
 ·exact qL
 ·exact qL
 rintro i ⟨hi,_⟩
 have hle:=zcb (zf1 e.gs s) i
 refine ze hn za rfl qS ?_ ?_<;>intro hc<;>first | (replace hc:=qC2 hc;try exact qX) | exact qF2 hc | skip
 ·have hlt:i<e.gs.length:=by omega
  refine ze hn za rfl qS ?_ ?_<;>intro hc<;>first | (replace hc:=qC2 hc;try exact qX) | exact qF2 hc | skip
  ·refine zT hn za (0:Int) iC [(i:Int)] rfl ?_ rfl rfl rfl rfl rfl rfl rfl rfl rfl ?_;exact qS
   refine zas hn za [(i:Int)] rfl ?_ rfl rfl rfl rfl rfl rfl rfl rfl ?_ ?_;exact qS
   ·show (_+1)*8≤_;omega
   refine zx hn za rfl qS ⟨i+1,⟨?_,?_⟩,?_,?_⟩
   ·omega
   ·trivial
   ·show e.gs.length-(i+1)<e.gs.length-i;omega
   ·refine zt [(100,24),(8,999)] qL ?_ rfl;repeat' (first | exact trivial | refine And.intro rfl ?_)
    refine And.intro (congrArg (fun q=>some (Blk.row 3 1 (0:Int) iC q)) ?_) ?_
    ·rw [z6,zeQ,if_pos hc]
    ·exact qL
  ·refine zx hn za rfl qS ⟨i+1,⟨?_,?_⟩,?_,?_⟩
   ·omega
   ·trivial
   ·show e.gs.length-(i+1)<e.gs.length-i;omega
   ·refine zt [(8,999)] qL ?_ rfl;repeat' (first | exact trivial | refine And.intro rfl ?_)
    refine And.intro (congrArg (fun q=>some (Blk.row 3 1 (0:Int) iC q)) ?_) ?_
    ·rw [z6,zeQ,if_neg hc,List.append_nil]
    ·exact qL
 ·refine zf hn za rfl qS ⟨_,rfl,?_⟩
  have hie:i=e.gs.length:=by omega
  subst hie
  rfl
def zcJ (g:zW) (n:Int) (cs:List zaj) (k:Nat):List zr:=if (cs.getD k zE).chan<0 then [] else [⟨false,(cs.getD k zE).chan,(cs.getD k zE).send,⟨n,k,if (cs.getD k zE).send=true then regOf g (cs.getD k zE).reg else 0⟩⟩]
def zg6 (g:zW) (n:Int) (cs:List zaj):List zr:=zL (zcJ g n cs) cs.length
theorem zgW (g:zW) (n:Int) (cs:List zaj) (k:Nat):(zcJ g n cs k).length≤1:=by
 unfold zcJ;split<;>simp
theorem zfX (s:zax) (g:zW) (n:Int) (hs:s.cases.length≤1048576):Con Tryz.prog 182 [.dagg (zey s),.dagg (zH g),.dat (.int .i64 n)] (.dat (zau (zg6 g n s.cases))):=by
 refine zk (rs:=[(.tmp 6,170)]) za Tryz.func182 rfl rfl rfl (Nat.le_of_ble_eq_true rfl) fun ho x hn=>?_
 refine zT hn za zq zam ([]:List zr) rfl ?_ rfl rfl rfl rfl rfl rfl rfl rfl rfl ?_;exact qS
 refine zM hn za rfl ?_ (fun (wI:Nat) wT wM=>((15,.dat (.int .i64 wI))::(7,.own 100)::([(11,.no)]++wT),(100,some ((fun i=>.row 199 6 zq zam (zL (zcJ g n s.cases) i)) wI))::([(11,none)]++wM))) (fun wI=>wI≤s.cases.length∧(fun _=>True) wI) (fun wI=>s.cases.length-wI) 0 ⟨Nat.zero_le _,?_⟩ (zt [(100,11),(11,999)] ?_ ?_ rfl) ?_;exact qS
 ·trivial
 ·exact qL
 ·exact qL
 rintro i ⟨hi,_⟩
 have hle:=zcb (zgW g n s.cases) i
 refine ze hn za rfl qS ?_ ?_<;>intro hc<;>first | (replace hc:=qC2 hc;try exact qX) | exact qF2 hc | skip
 ·have hlt:i<s.cases.length:=by omega
  refine ze hn za rfl qS ?_ ?_<;>intro hc<;>first | (replace hc:=qC2 hc;try exact qX) | exact qF2 hc | skip
  ·refine zx hn za rfl qS ⟨i+1,⟨?_,?_⟩,?_,?_⟩
   ·omega
   ·trivial
   ·show s.cases.length-(i+1)<s.cases.length-i;omega
   ·refine zt [(11,999)] qL ?_ rfl;repeat' (first | exact trivial | refine And.intro rfl ?_)
    refine And.intro (congrArg (fun q=>some (Blk.row 199 6 zq zam q)) ?_) ?_
    ·rw [z6,zcJ,if_pos hc,List.append_nil]
    ·exact qL
  ·have hneg:=hc
   refine ze hn za rfl qS ?_ ?_<;>intro hc<;>first | (replace hc:=qC2 hc;try exact qX) | exact qF2 hc | skip
   ·refine qK hn za rfl rfl (by (first | exact zR _ _ | assumption)) ?_
    refine zT hn za zq zam [(⟨false,(s.cases.getD i zE).chan,(s.cases.getD i zE).send,⟨n,i,regOf g (s.cases.getD i zE).reg⟩⟩:zr)] rfl ?_ rfl rfl rfl rfl rfl rfl rfl rfl rfl ?_;exact qS
    refine zas hn za [(⟨false,(s.cases.getD i zE).chan,(s.cases.getD i zE).send,⟨n,i,regOf g (s.cases.getD i zE).reg⟩⟩:zr)] rfl ?_ rfl rfl rfl rfl rfl rfl rfl rfl ?_ ?_;exact qS
    ·show (_+1)*48≤_;omega
    refine zx hn za rfl qS ⟨i+1,⟨?_,?_⟩,?_,?_⟩
    ·omega
    ·trivial
    ·show s.cases.length-(i+1)<s.cases.length-i;omega
    ·refine zt [(100,41),(11,999)] qL ?_ rfl;repeat' (first | exact trivial | refine And.intro rfl ?_)
     refine And.intro (congrArg (fun q=>some (Blk.row 199 6 zq zam q)) ?_) ?_
     ·rw [z6,zcJ,if_neg (by omega),if_pos hc]
     ·exact qL
   ·refine zT hn za zq zam [(⟨false,(s.cases.getD i zE).chan,(s.cases.getD i zE).send,⟨n,i,0⟩⟩:zr)] rfl ?_ rfl rfl rfl rfl rfl rfl rfl rfl rfl ?_;exact qS
    refine zas hn za [(⟨false,(s.cases.getD i zE).chan,(s.cases.getD i zE).send,⟨n,i,0⟩⟩:zr)] rfl ?_ rfl rfl rfl rfl rfl rfl rfl rfl ?_ ?_;exact qS
    ·show (_+1)*48≤_;omega
    refine zx hn za rfl qS ⟨i+1,⟨?_,?_⟩,?_,?_⟩
    ·omega
    ·trivial
    ·show s.cases.length-(i+1)<s.cases.length-i;omega
    ·refine zt [(100,41),(11,999)] qL ?_ rfl;repeat' (first | exact trivial | refine And.intro rfl ?_)
     refine And.intro (congrArg (fun q=>some (Blk.row 199 6 zq zam q)) ?_) ?_
     ·rw [z6,zcJ,if_neg (by omega),if_neg (by rw [hc];exact Bool.false_ne_true)]
     ·exact qL
 ·refine zf hn za rfl qS ⟨_,rfl,?_⟩
  have hie:i=s.cases.length:=by omega
  subst hie
  rfl
theorem zgm {p:zn} (hp:zaa p=true) {k:Nat} (hk:k<p.sels.length):(p.sels.getD k zh).cases.length≤4∧zfQ p (p.sels.getD k zh)=true:=by
 simp only [zaa,Bool.and_eq_true,List.all_eq_true,List.mem_range] at hp
 have h:=hp.2.2.1 k hk
 refine ⟨?_,h⟩
 rw [zfQ,Bool.and_eq_true,decide_eq_true_eq] at h
 exact h.1
theorem zqV {p:zn} {g:zW} (hp:zaa p=true) (hg:zao p g=true):∃ n,zdi p n (zb p g)=true∧n≤40:=by
 obtain ⟨⟨h1,h2⟩,h3,h4⟩:=zqw hg
 simp only [zaa,Bool.and_eq_true,List.all_eq_true,List.mem_range] at hp
 have h:=hp.2.2.2 g.proc.toNat (by omega)
 simp only [zcY,Bool.and_eq_true,List.all_eq_true,List.mem_range,decide_eq_true_eq] at h
 exact ⟨_,h.2.1 g.pc.toNat (by omega),by omega⟩
theorem zoL {p:zn} {g:zW} (hp:zaa p=true) (hg:zao p g=true):∃ n,zap p.caps.length p.mus p.sels.length p.procs.length n (zb p g)∧n≤40:=by
 obtain ⟨n,h,hn⟩:=zqV hp hg
 rw [zdi,Bool.and_eq_true,zeZ] at h
 exact ⟨n,h.1,hn⟩
def zw (p:zn) (g:zW) (n:Int):List zr:=
 if (zb p g).op=8∧0≤(zb p g).a then [⟨false,(zb p g).a,true,⟨n,-1,regOf g (zb p g).b⟩⟩]
 else if (zb p g).op=9∧0≤(zb p g).a then [⟨false,(zb p g).a,false,⟨n,-1,0⟩⟩]
 else if (zb p g).op=11 then zg6 g n (p.sels.getD (zb p g).a.toNat zh).cases
 else if (zb p g).op=12 then [⟨true,(zb p g).a,false,⟨n,-1,0⟩⟩]
 else []
theorem zjt {p:zn} {g:zW} (hp:zaa p=true) (hg:zao p g=true) (ho:(zb p g).op=11):0≤(zb p g).a∧(zb p g).a<p.sels.length:=by
 obtain ⟨n,h,hn⟩:=zoL hp hg
 rw [zap] at h
 omega
theorem zfN (p:zn) (g:zW) (n:Int) (hp:zaa p=true) (hg:zao p g=true):Con Tryz.prog 121 [.dagg (zQ p),.dagg (zH g),.dat (.int .i64 n)] (.dat (zau (zw p g n))):=by
 refine zk (rs:=[(.tmp 6,170)]) za Tryz.func121 rfl rfl rfl (Nat.le_of_ble_eq_true rfl) fun ho x hn=>?_
 repeat' (first | (refine ze hn za rfl qS ?_ ?_<;>intro hc<;>first | (replace hc:=qC2 hc;try exact qX) | exact qF2 hc | skip) | refine zf hn za rfl qS ⟨_,rfl,?_⟩ | refine qK hn za rfl rfl (by (first | (refine zfX _ _ _ ?_;(try simp only [Int.toNat_natCast]);omega) | exact con_at_spec.l09At _ _ (by assumption) | exact zR _ _ | assumption)) ?_)
 all_goals first
  | ((refine zT hn za zq zam [(⟨false,(zb p g).a,true,⟨n,-1,regOf g (zb p g).b⟩⟩:zr)] rfl ?_ rfl rfl rfl rfl rfl rfl rfl rfl rfl ?_;exact qS)
     refine zf hn za rfl qS ⟨_,rfl,?_⟩
     rw [zw,if_pos (by omega)];rfl)
  | ((refine zT hn za zq zam [(⟨false,(zb p g).a,false,⟨n,-1,0⟩⟩:zr)] rfl ?_ rfl rfl rfl rfl rfl rfl rfl rfl rfl ?_;exact qS)
     refine zf hn za rfl qS ⟨_,rfl,?_⟩
     rw [zw,if_neg (by omega),if_pos (by omega)];rfl)
  | ((refine zT hn za zq zam [(⟨true,(zb p g).a,false,⟨n,-1,0⟩⟩:zr)] rfl ?_ rfl rfl rfl rfl rfl rfl rfl rfl rfl ?_;exact qS)
     refine zf hn za rfl qS ⟨_,rfl,?_⟩
     rw [zw,if_neg (by omega),if_neg (by omega),if_neg (by omega),if_pos (by omega)];rfl)
  | ((refine zT hn za zq zam ([]:List zr) rfl ?_ rfl rfl rfl rfl rfl rfl rfl rfl rfl ?_;exact qS)
     refine zf hn za rfl qS ⟨_,rfl,?_⟩
     rw [zw,if_neg (by omega),if_neg (by omega),if_neg (by omega),if_neg (by omega)];rfl)
  | (have hr:=zjt hp hg (by omega)
     have hl:=(zgm hp (k:=(zb p g).a.toNat) (by omega)).1
     refine qD hn za zu [.r (.dat (zau (zg6 g n (p.sels.getD (zb p g).a.toNat zh).cases)))] rfl rfl ?_ ?_
     ·(try refine qM ?_);repeat' (first | exact trivial | (first | (refine zfX _ _ _ ?_;(try simp only [Int.toNat_natCast]);omega) | exact con_at_spec.l09At _ _ (by assumption) | exact zR _ _ | assumption) | assumption | omega | exact qV | refine And.intro ?_ ?_)
     ·refine zf hn za rfl qS ⟨_,rfl,?_⟩
      rw [zw,if_neg (by omega),if_neg (by omega),if_pos (by omega)];rfl)
def zdo (p:zn) (g:zW):Bool:=decide ((zb p g).op=8∨(zb p g).op=9∨(zb p g).op=12∨((zb p g).op=11∧(p.sels.getD (zb p g).a.toNat zh).els<0))
theorem zts {p:zn} (hp:zaa p=true) {k:Nat} (hk:k<p.sels.length):-1≤(p.sels.getD k zh).els:=by
 have h:=(zgm hp hk).2
 rw [zfQ,Bool.and_eq_true,Bool.and_eq_true,zb8,Bool.and_eq_true,zcg] at h
 exact h.2.2.2.1
theorem zk0 (p:zn) (g:zW) (hp:zaa p=true) (hg:zao p g=true):Con Tryz.prog 120 [.dagg (zQ p),.dagg (zH g)] (.dat (.bool (zdo p g))):=by
 refine zk (rs:=[(.tmp 4,4)]) za Tryz.func120 rfl rfl rfl (Nat.le_of_ble_eq_true rfl) fun ho x hn=>?_
 have hr:=zjt hp hg
 repeat' (first | (refine ze hn za rfl qS ?_ ?_<;>intro hc<;>first | (replace hc:=qC2 hc;try exact qX) | exact qF2 hc | skip) | refine zf hn za rfl qS ⟨_,rfl,?_⟩ | refine qK hn za rfl rfl (by (first | exact con_at_spec.l09At _ _ (by assumption) | assumption)) ?_)
 all_goals (refine congrArg (fun b=>LV.dat (.bool b)) (Eq.symm ?_);rw [zdo])
 all_goals first
  | exact decide_eq_true (by omega)
  | exact decide_eq_false (by omega)
  | exact decide_eq_decide.2 (by omega)
theorem zkg (p:zn) (g:zW):Con Tryz.prog 133 [.dagg (zQ p),.dagg (zH g)] (.dat (.bool (zel p g && zdo p g))):=by
 refine zk (rs:=[(.tmp 4,4)]) za Tryz.func133 rfl rfl rfl (Nat.le_of_ble_eq_true rfl) fun ho x hn=>?_
 refine qK hn za rfl rfl (by (first | exact zaG _ _ | exact con_at_impl.instr _ _ (by assumption) | assumption)) ?_
 refine ze hn za rfl qS ?_ ?_<;>intro hc<;>first | (replace hc:=qC2 hc;try exact qX) | exact qF2 hc | skip
 ·refine zf hn za rfl qS ⟨_,rfl,?_⟩
  rw [hc];rfl
 have hp:zaa p=true:=by rw [zel,Bool.and_eq_true] at hc;exact hc.1
 have hg:zao p g=true:=by rw [zel,zbf,Bool.and_eq_true,Bool.and_eq_true] at hc;exact hc.2.1
 have hk:=hc
 clear hc
 have hr:=zjt hp hg
 by_cases ho:(zb p g).op=11
 ·have hr1:=hr ho
  have hge:=zts hp (k:=(zb p g).a.toNat) (by omega)
  repeat' (first | (refine ze hn za rfl qS ?_ ?_<;>intro hc<;>first | (replace hc:=qC2 hc;try exact qX) | exact qF2 hc | skip) | refine zf hn za rfl qS ⟨_,rfl,?_⟩ | refine qK hn za rfl rfl (by (first | exact zaG _ _ | exact con_at_impl.instr _ _ (by assumption) | assumption)) ?_)
  all_goals (refine congrArg (fun b=>LV.dat (.bool b)) (Eq.symm ?_);rw [hk,Bool.true_and,zdo])
  all_goals first
   | exact decide_eq_true (by omega)
   | exact decide_eq_false (by omega)
   | exact decide_eq_decide.2 (by omega)
 ·repeat' (first | (refine ze hn za rfl qS ?_ ?_<;>intro hc<;>first | (replace hc:=qC2 hc;try exact qX) | exact qF2 hc | skip) | refine zf hn za rfl qS ⟨_,rfl,?_⟩ | refine qK hn za rfl rfl (by (first | exact zaG _ _ | exact con_at_impl.instr _ _ (by assumption) | assumption)) ?_)
  all_goals (refine congrArg (fun b=>LV.dat (.bool b)) (Eq.symm ?_);rw [hk,Bool.true_and,zdo])
  all_goals first
   | exact decide_eq_true (by omega)
   | exact decide_eq_false (by omega)
   | exact decide_eq_decide.2 (by omega)
theorem zsb {p:zn} {g:zW} (hp:zaa p=true) (hg:zao p g=true) (ho:(zb p g).op=8):0≤(zb p g).b∧(zb p g).b<g.regs.length:=by
 obtain ⟨n,h,hn⟩:=zoL hp hg
 rw [zao,decide_eq_true_eq] at hg
 have hb:zcE (zb p g).b=true:=by
  rw [zap] at h
  rcases h with h | h | h | h | h | h | h | h | h | h | h | h<;>first | (exfalso;omega) | exact h.2.2.1
 rw [zbJ] at hb
 omega
theorem zs0 {p:zn} {g:zW} (hp:zaa p=true) (hg:zao p g=true) {k i:Nat} (hk:k<p.sels.length) (hi:i<(p.sels.getD k zh).cases.length):0≤((p.sels.getD k zh).cases.getD i zE).reg∧((p.sels.getD k zh).cases.getD i zE).reg<g.regs.length:=by
 have h:=(zgm hp hk).2
 rw [zao,decide_eq_true_eq] at hg
 simp only [zfQ,zb8,Bool.and_eq_true,List.all_eq_true,List.mem_range] at h
 have h1:=h.2.2.1 i hi
 simp only [zdn,Bool.and_eq_true] at h1
 have h2:=(zbJ _).1 h1.1.1.1.1.2
 omega
set_option maxHeartbeats 1000000 in
theorem zd8 (p:zn) (g:zW) (n:Int) (hp:zaa p=true) (hg:zao p g=true):Con Tryz.prog 195 [.dagg (zQ p),.dagg (zH g),.dat (.int .i64 n)] (.dat (zau (zw p g n))):=by
 refine zk (rs:=[(.tmp 6,170)]) za Tryz.func195 rfl rfl rfl (Nat.le_of_ble_eq_true rfl) fun ho x hn=>?_
 have hrg:=zsb hp hg
 have hra:=zjt hp hg
 refine zT hn za zq zam ([]:List zr) rfl ?_ rfl rfl rfl rfl rfl rfl rfl rfl rfl ?_;exact qS
 refine qK hn za rfl rfl (by (first | exact con_at_impl.instr _ _ (by assumption) | assumption)) ?_
 refine ze hn za rfl qS ?_ ?_<;>intro hc<;>first | (replace hc:=qC2 hc;try exact qX) | exact qF2 hc | skip
 ·have hr:=hrg hc
  refine ze hn za rfl qS ?_ ?_<;>intro hc<;>first | (replace hc:=qC2 hc;try exact qX) | exact qF2 hc | skip
  ·have hreg:regOf g (zb p g).b=g.regs.getD (zb p g).b.toNat 0:=by rw [regOf,if_pos hr]
   refine qD hn za zu [.raw (.own 35) [(35,some (.row 199 6 zq zam [(⟨false,(zb p g).a,true,⟨n,-1,g.regs.getD (zb p g).b.toNat 0⟩⟩:zr)]))] (some 35),.raw (.own 36) [(36,some (.row 199 6 zq zam ([]++[(⟨false,(zb p g).a,true,⟨n,-1,g.regs.getD (zb p g).b.toNat 0⟩⟩:zr)]))),(12,none)] (some 36)] rfl rfl ?_ ?_
   ·(try refine qM ?_);repeat' (first | exact trivial | (first | exact con_at_impl.instr _ _ (by assumption) | assumption) | assumption | omega | exact qV | refine And.intro ?_ ?_)
   ·refine zf hn za rfl qS ⟨_,rfl,?_⟩
    rw [zw,if_pos (by omega),hreg];rfl
  ·refine zf hn za rfl qS ⟨_,rfl,?_⟩
   rw [zw,if_neg (by omega),if_neg (by omega),if_neg (by omega),if_neg (by omega)];rfl
 ·refine ze hn za rfl qS ?_ ?_<;>intro hc<;>first | (replace hc:=qC2 hc;try exact qX) | exact qF2 hc | skip
  ·refine ze hn za rfl qS ?_ ?_<;>intro hc<;>first | (replace hc:=qC2 hc;try exact qX) | exact qF2 hc | skip
   ·refine zT hn za zq zam [(⟨false,(zb p g).a,false,⟨n,-1,0⟩⟩:zr)] rfl ?_ rfl rfl rfl rfl rfl rfl rfl rfl rfl ?_;exact qS
    refine zas hn za [(⟨false,(zb p g).a,false,⟨n,-1,0⟩⟩:zr)] rfl ?_ rfl rfl rfl rfl rfl rfl rfl rfl ?_ ?_;exact qS
    ·show (0+1)*48≤_;omega
    refine zf hn za rfl qS ⟨_,rfl,?_⟩
    rw [zw,if_neg (by omega),if_pos (by omega)];rfl
   ·refine zf hn za rfl qS ⟨_,rfl,?_⟩
    rw [zw,if_neg (by omega),if_neg (by omega),if_neg (by omega),if_neg (by omega)];rfl
  ·refine ze hn za rfl qS ?_ ?_<;>intro hc<;>first | (replace hc:=qC2 hc;try exact qX) | exact qF2 hc | skip
   ·have hr:=hra hc
    have h11:=hc
    have hl:=(zgm hp (k:=(zb p g).a.toNat) (by omega)).1
    have hcr:∀ i,i<(p.sels.getD (zb p g).a.toNat zh).cases.length→0≤((p.sels.getD (zb p g).a.toNat zh).cases.getD i zE).reg∧((p.sels.getD (zb p g).a.toNat zh).cases.getD i zE).reg<g.regs.length:=fun i hi=>zs0 hp hg (by omega) hi
    have hpl:zw p g n=zg6 g n (p.sels.getD (zb p g).a.toNat zh).cases:=by
     rw [zw,if_neg (by omega),if_neg (by omega),if_pos h11]
    rw [hpl]
    refine zM hn za rfl ?_ (fun (wI:Nat) wT wM=>((60,.dat (.int .i64 wI))::(7,.own 100)::([(12,.no)]++wT),(100,some ((fun i=>.row 199 6 zq zam (zL (zcJ g n (p.sels.getD (zb p g).a.toNat zh).cases) i)) wI))::([(12,none)]++wM))) (fun wI=>wI≤(p.sels.getD (zb p g).a.toNat zh).cases.length∧(fun _=>True) wI) (fun wI=>(p.sels.getD (zb p g).a.toNat zh).cases.length-wI) 0 ⟨Nat.zero_le _,?_⟩ (zt [(100,12),(12,999)] ?_ ?_ rfl) ?_;exact qS
    ·trivial
    ·exact qL
    ·exact qL
    generalize hsel:p.sels.getD (zb p g).a.toNat zh=s at *
    rintro i ⟨hi,_⟩
    have hle:=zcb (zgW g n s.cases) i
    refine ze hn za rfl qS ?_ ?_<;>intro hc<;>first | (replace hc:=qC2 hc;try exact qX) | exact qF2 hc | skip
    ·have hlt:i<s.cases.length:=by omega
     have hci:=hcr i hlt
     refine ze hn za rfl qS ?_ ?_<;>intro hc<;>first | (replace hc:=qC2 hc;try exact qX) | exact qF2 hc | skip
     ·refine zx hn za rfl qS ⟨i+1,⟨?_,?_⟩,?_,?_⟩
      ·omega
      ·trivial
      ·show s.cases.length-(i+1)<s.cases.length-i;omega
      ·refine zt [(12,999)] qL ?_ rfl;repeat' (first | exact trivial | refine And.intro rfl ?_)
       refine And.intro (congrArg (fun q=>some (Blk.row 199 6 zq zam q)) ?_) ?_
       ·rw [z6,zcJ,if_pos hc,List.append_nil]
       ·exact qL
     ·have hneg:=hc
      refine ze hn za rfl qS ?_ ?_<;>intro hc<;>first | (replace hc:=qC2 hc;try exact qX) | exact qF2 hc | skip
      ·have hreg:regOf g (s.cases.getD i zE).reg=g.regs.getD (s.cases.getD i zE).reg.toNat 0:=by rw [regOf,if_pos hci]
       refine zT hn za zq zam [(⟨false,(s.cases.getD i zE).chan,(s.cases.getD i zE).send,⟨n,i,g.regs.getD (s.cases.getD i zE).reg.toNat 0⟩⟩:zr)] rfl ?_ rfl rfl rfl rfl rfl rfl rfl rfl rfl ?_;exact qS
       refine zas hn za [(⟨false,(s.cases.getD i zE).chan,(s.cases.getD i zE).send,⟨n,i,g.regs.getD (s.cases.getD i zE).reg.toNat 0⟩⟩:zr)] rfl ?_ rfl rfl rfl rfl rfl rfl rfl rfl ?_ ?_;exact qS
       ·show (_+1)*48≤_;omega
       refine zx hn za rfl qS ⟨i+1,⟨?_,?_⟩,?_,?_⟩
       ·omega
       ·trivial
       ·show s.cases.length-(i+1)<s.cases.length-i;omega
       ·refine zt [(100,88),(12,999)] qL ?_ rfl;repeat' (first | exact trivial | refine And.intro rfl ?_)
        refine And.intro (congrArg (fun q=>some (Blk.row 199 6 zq zam q)) ?_) ?_
        ·rw [z6,zcJ,if_neg (by omega),if_pos hc,hreg]
        ·exact qL
      ·refine zT hn za zq zam [(⟨false,(s.cases.getD i zE).chan,(s.cases.getD i zE).send,⟨n,i,0⟩⟩:zr)] rfl ?_ rfl rfl rfl rfl rfl rfl rfl rfl rfl ?_;exact qS
       refine zas hn za [(⟨false,(s.cases.getD i zE).chan,(s.cases.getD i zE).send,⟨n,i,0⟩⟩:zr)] rfl ?_ rfl rfl rfl rfl rfl rfl rfl rfl ?_ ?_;exact qS
       ·show (_+1)*48≤_;omega
       refine zx hn za rfl qS ⟨i+1,⟨?_,?_⟩,?_,?_⟩
       ·omega
       ·trivial
       ·show s.cases.length-(i+1)<s.cases.length-i;omega
       ·refine zt [(100,88),(12,999)] qL ?_ rfl;repeat' (first | exact trivial | refine And.intro rfl ?_)
        refine And.intro (congrArg (fun q=>some (Blk.row 199 6 zq zam q)) ?_) ?_
        ·rw [z6,zcJ,if_neg (by omega),if_neg (by rw [hc];exact Bool.false_ne_true)]
        ·exact qL
    ·refine zf hn za rfl qS ⟨_,rfl,?_⟩
     have hie:i=s.cases.length:=by omega
     subst hie
     rfl
   ·refine ze hn za rfl qS ?_ ?_<;>intro hc<;>first | (replace hc:=qC2 hc;try exact qX) | exact qF2 hc | skip
    ·refine zT hn za zq zam [(⟨true,(zb p g).a,false,⟨n,-1,0⟩⟩:zr)] rfl ?_ rfl rfl rfl rfl rfl rfl rfl rfl rfl ?_;exact qS
     refine zas hn za [(⟨true,(zb p g).a,false,⟨n,-1,0⟩⟩:zr)] rfl ?_ rfl rfl rfl rfl rfl rfl rfl rfl ?_ ?_;exact qS
     ·show (0+1)*48≤_;omega
     refine zf hn za rfl qS ⟨_,rfl,?_⟩
     rw [zw,if_neg (by omega),if_neg (by omega),if_neg (by omega),if_pos (by omega)];rfl
    ·refine zf hn za rfl qS ⟨_,rfl,?_⟩
     rw [zw,if_neg (by omega),if_neg (by omega),if_neg (by omega),if_neg (by omega)];rfl
def zP (e:zz) (x:zaj):Bool:=decide (0≤x.chan∧x.chan<e.chans.length) && (if x.send=true then zeB (e.chans.getD x.chan.toNat zg) else zet (e.chans.getD x.chan.toNat zg))
theorem zmB {e:zz} (h:OkL (.dagg (zad e))):e.gs.length≤(9223372036854775807:Nat)∧e.chans.length≤(9223372036854775807:Nat)∧e.mus.length≤(9223372036854775807:Nat):=
 ⟨(h (zbI e.gs) (by simp [zad])).len,(h (zy e.chans) (by simp [zad])).len,(h (zm e.mus) (by simp [zad])).len⟩
theorem zcx (e:zz) (x:zaj):Con Tryz.prog 232 [.dagg (zad e),.dagg (zkw x)] (.dat (.bool (zP e x))):=by
 refine zk (rs:=[(.tmp 4,4)]) za Tryz.func232 rfl rfl rfl (Nat.le_of_ble_eq_true rfl) fun ho x hn=>?_
 obtain ⟨hb1,hb2,hb3⟩:=zmB (ho (.dagg (zad e)) (by simp))
 repeat' (first | (refine ze hn za rfl qS ?_ ?_<;>intro hc<;>first | (replace hc:=qC2 hc;try exact qX) | exact qF2 hc | skip) | refine zf hn za rfl qS ⟨_,rfl,?_⟩ | refine qK hn za rfl rfl (by (first | exact zct _ | exact zdH _ | assumption)) ?_)
 all_goals (refine congrArg (fun b=>LV.dat (.bool b)) (Eq.symm ?_);rw [zP])
 all_goals first
  | (rw [decide_eq_false (by omega)];rfl)
  | (rw [decide_eq_true (by omega),Bool.true_and,if_pos hc])
  | (rw [decide_eq_true (by omega),Bool.true_and,if_neg (by rw [hc];exact Bool.false_ne_true)])
theorem zC (e:zz) (x:zaj):Con Tryz.prog 200 [.dagg (zad e),.dagg (zkw x)] (.dat (.bool (zP e x))):=by
 refine zk (rs:=[(.tmp 4,4)]) za Tryz.func200 rfl rfl rfl (Nat.le_of_ble_eq_true rfl) fun ho x hn=>?_
 obtain ⟨hb1,hb2,hb3⟩:=zmB (ho (.dagg (zad e)) (by simp))
 repeat' (first | (refine ze hn za rfl qS ?_ ?_<;>intro hc<;>first | (replace hc:=qC2 hc;try exact qX) | exact qF2 hc | skip) | refine zf hn za rfl qS ⟨_,rfl,?_⟩ | refine qK hn za rfl rfl (by (first | exact zbK _ | exact zdO _ | exact zN _ _ _ | assumption)) ?_)
 all_goals (refine congrArg (fun b=>LV.dat (.bool b)) (Eq.symm ?_);rw [zP])
 all_goals first
  | (rw [decide_eq_false (by omega)];rfl)
  | (rw [decide_eq_true (by omega),Bool.true_and,if_pos hc])
  | (rw [decide_eq_true (by omega),Bool.true_and,if_neg (by rw [hc];exact Bool.false_ne_true)])
def zcP (e:zz) (cs:List zaj) (k:Nat):List Int:=if zP e (cs.getD k zE)=true then [(k:Int)] else []
theorem zem (e:zz) (cs:List zaj) (k:Nat):(zcP e cs k).length≤1:=by
 unfold zcP;split<;>simp
def zX (e:zz) (cs:List zaj):List Int:=zL (zcP e cs) cs.length
theorem zio (e:zz) (s:zax) (hs:s.cases.length≤1048576):Con Tryz.prog 139 [.dagg (zad e),.dagg (zey s)] (.dat (zbc (zX e s.cases))):=by
 refine zk (rs:=[(.tmp 4,22)]) za Tryz.func139 rfl rfl rfl (Nat.le_of_ble_eq_true rfl) fun ho x hn=>?_
 refine zT hn za (0:Int) iC ([]:List Int) rfl ?_ rfl rfl rfl rfl rfl rfl rfl rfl rfl ?_;exact qS
 refine zM hn za rfl ?_ (fun (wI:Nat) wT wM=>((12,.dat (.int .i64 wI))::(5,.own 100)::([(8,.no)]++wT),(100,some ((fun i=>.row 3 1 (0:Int) iC (zL (zcP e s.cases) i)) wI))::([(8,none)]++wM))) (fun wI=>wI≤s.cases.length∧(fun _=>True) wI) (fun wI=>s.cases.length-wI) 0 ⟨Nat.zero_le _,?_⟩ (zt [(100,8),(8,999)] ?_ ?_ rfl) ?_;exact qS
 ·trivial
 ·exact qL
 ·exact qL
 rintro i ⟨hi,_⟩
 have hle:=zcb (zem e s.cases) i
 refine ze hn za rfl qS ?_ ?_<;>intro hc<;>first | (replace hc:=qC2 hc;try exact qX) | exact qF2 hc | skip
 ·have hlt:i<s.cases.length:=by omega
  refine qK hn za rfl rfl (by (first | exact zC _ _ | assumption)) ?_
  refine ze hn za rfl qS ?_ ?_<;>intro hc<;>first | (replace hc:=qC2 hc;try exact qX) | exact qF2 hc | skip
  ·refine zT hn za (0:Int) iC [(i:Int)] rfl ?_ rfl rfl rfl rfl rfl rfl rfl rfl rfl ?_;exact qS
   refine zas hn za [(i:Int)] rfl ?_ rfl rfl rfl rfl rfl rfl rfl rfl ?_ ?_;exact qS
   ·show (_+1)*8≤_;omega
   refine zx hn za rfl qS ⟨i+1,⟨?_,?_⟩,?_,?_⟩
   ·omega
   ·trivial
   ·show s.cases.length-(i+1)<s.cases.length-i;omega
   ·refine zt [(100,23),(8,999)] qL ?_ rfl;repeat' (first | exact trivial | refine And.intro rfl ?_)
    refine And.intro (congrArg (fun q=>some (Blk.row 3 1 (0:Int) iC q)) ?_) ?_
    ·rw [z6,zcP,if_pos hc]
    ·exact qL
  ·refine zx hn za rfl qS ⟨i+1,⟨?_,?_⟩,?_,?_⟩
   ·omega
   ·trivial
   ·show s.cases.length-(i+1)<s.cases.length-i;omega
   ·refine zt [(8,999)] qL ?_ rfl;repeat' (first | exact trivial | refine And.intro rfl ?_)
    refine And.intro (congrArg (fun q=>some (Blk.row 3 1 (0:Int) iC q)) ?_) ?_
    ·rw [z6,zcP,if_neg (by rw [hc];exact Bool.false_ne_true),List.append_nil]
    ·exact qL
 ·refine zf hn za rfl qS ⟨_,rfl,?_⟩
  have hie:i=s.cases.length:=by omega
  subst hie
  rfl
def ziX (p:zn) (g:zW) (n:Int):List zr:=if zel p g=true∧g.state=2∧0≤n then zw p g n else []
theorem zk5 (p:zn) (g:zW) (n:Int):Con Tryz.prog 134 [.dagg (zQ p),.dagg (zH g),.dat (.int .i64 n)] (.dat (zau (ziX p g n))):=by
 refine zk (rs:=[(.tmp 6,170)]) za Tryz.func134 rfl rfl rfl (Nat.le_of_ble_eq_true rfl) fun ho x hn=>?_
 refine qK hn za rfl rfl (by (first | exact zaG _ _ | assumption)) ?_
 refine ze hn za rfl qS ?_ ?_<;>intro hc<;>first | (replace hc:=qC2 hc;try exact qX) | exact qF2 hc | skip
 ·repeat' (first | (refine ze hn za rfl qS ?_ ?_<;>intro hc<;>first | (replace hc:=qC2 hc;try exact qX) | exact qF2 hc | skip) | refine zf hn za rfl qS ⟨_,rfl,?_⟩ | refine qK hn za rfl rfl (by (first | exact zaG _ _ | assumption)) ?_)
  rw [ziX,if_neg (by rw [hc];exact fun h=>Bool.false_ne_true h.1)];rfl
 have hk:=hc
 clear hc
 have hp:zaa p=true:=by rw [zel,Bool.and_eq_true] at hk;exact hk.1
 have hg:zao p g=true:=by rw [zel,zbf,Bool.and_eq_true,Bool.and_eq_true] at hk;exact hk.2.1
 have hpl:=zd8 p g n hp hg
 repeat' (first | (refine ze hn za rfl qS ?_ ?_<;>intro hc<;>first | (replace hc:=qC2 hc;try exact qX) | exact qF2 hc | skip) | refine zf hn za rfl qS ⟨_,rfl,?_⟩ | refine qK hn za rfl rfl (by (first | exact zaG _ _ | assumption)) ?_)
 ·rw [ziX,if_neg (by omega)];rfl
 ·rw [ziX,if_neg (by omega)];rfl
 ·rw [ziX,if_pos ⟨hk,by omega,by omega⟩];rfl
theorem zhP (e:zz) (hs:e.gs.length≤1048576):Con Tryz.prog 61 [.dagg (zad e)] (.dat (zbc (inState e 1))):=by
 refine zk (rs:=[(.tmp 2,22)]) za Tryz.func61 rfl rfl rfl (Nat.le_of_ble_eq_true rfl) fun ho x hn=>?_
 have hk:=con_in_spec.l09States e 1 hs
 repeat' (first | (refine ze hn za rfl qS ?_ ?_<;>intro hc<;>first | (replace hc:=qC2 hc;try exact qX) | exact qF2 hc | skip) | refine zf hn za rfl qS ⟨_,rfl,?_⟩ | refine qK hn za rfl rfl (by assumption) ?_)
 rfl
theorem zld (e:zz) (hs:e.gs.length≤1048576):Con Tryz.prog 153 [.dagg (zad e)] (.dat (zbc (inState e 2))):=by
 refine zk (rs:=[(.tmp 2,22)]) za Tryz.func153 rfl rfl rfl (Nat.le_of_ble_eq_true rfl) fun ho x hn=>?_
 have hk:=con_in_spec.l09States e 2 hs
 repeat' (first | (refine ze hn za rfl qS ?_ ?_<;>intro hc<;>first | (replace hc:=qC2 hc;try exact qX) | exact qF2 hc | skip) | refine zf hn za rfl qS ⟨_,rfl,?_⟩ | refine qK hn za rfl rfl (by assumption) ?_)
 rfl
theorem zfI (e:zz) (hs:e.gs.length≤1048576):Con Tryz.prog 137 [.dagg (zad e)] (.dat (zbc (inState e 1))):=by
 refine zk (rs:=[(.tmp 2,22)]) za Tryz.func137 rfl rfl rfl (Nat.le_of_ble_eq_true rfl) fun ho x hn=>?_
 have hk:=con_in_impl.inState e 1 hs
 repeat' (first | (refine ze hn za rfl qS ?_ ?_<;>intro hc<;>first | (replace hc:=qC2 hc;try exact qX) | exact qF2 hc | skip) | refine zf hn za rfl qS ⟨_,rfl,?_⟩ | refine qK hn za rfl rfl (by assumption) ?_)
 rfl
theorem zkU (e:zz) (hs:e.gs.length≤1048576):Con Tryz.prog 158 [.dagg (zad e)] (.dat (zbc (inState e 2))):=by
 refine zk (rs:=[(.tmp 2,22)]) za Tryz.func158 rfl rfl rfl (Nat.le_of_ble_eq_true rfl) fun ho x hn=>?_
 have hk:=con_in_impl.inState e 2 hs
 repeat' (first | (refine ze hn za rfl qS ?_ ?_<;>intro hc<;>first | (replace hc:=qC2 hc;try exact qX) | exact qF2 hc | skip) | refine zf hn za rfl qS ⟨_,rfl,?_⟩ | refine qK hn za rfl rfl (by assumption) ?_)
 rfl
def zhv (p:zn) (e:zz) (k:Nat):Bool:=chanOk (e.chans.getD k zg) && decide ((e.chans.getD k zg).cap=p.caps.getD k 0)
def muOk (e:zz) (k:Nat):Bool:=zcs (e.mus.getD k zj) && decide ((e.mus.getD k zj).owner<e.gs.length)
def zgT (p:zn) (e:zz):Bool:=decide (e.chans.length=p.caps.length∧(e.mus.length:Int)=p.mus)
def zhd (p:zn) (e:zz):Bool:=zgT p e && ((List.range e.chans.length).all (zhv p e) && (List.range e.mus.length).all (muOk e))
set_option maxHeartbeats 1000000 in
theorem ziq (p:zn) (e:zz):Con Tryz.prog 118 [.dagg (zQ p),.dagg (zad e)] (.dat (.bool (zhd p e))):=by
 refine zk (rs:=[(.tmp 4,4)]) za Tryz.func118 rfl rfl rfl (Nat.le_of_ble_eq_true rfl) fun ho x hn=>?_
 obtain ⟨hb1,hb2,hb3⟩:=zmB (ho (.dagg (zad e)) (by simp))
 repeat' (first | (refine ze hn za rfl qS ?_ ?_<;>intro hc<;>first | (replace hc:=qC2 hc;try exact qX) | exact qF2 hc | skip) | refine zf hn za rfl qS ⟨_,rfl,?_⟩ | refine qK hn za rfl rfl (by (first | exact zbp _ | exact zai _ | assumption)) ?_)
 all_goals (try (
  refine congrArg (fun b=>LV.dat (.bool b)) (Eq.symm ?_)
  rw [zhd,zgT,decide_eq_false (by omega),Bool.false_and]))
 have hlen:e.chans.length=p.caps.length:=by omega
 have hhd:zgT p e=true:=by rw [zgT];exact decide_eq_true (by omega)
 refine zM hn za rfl ?_ (fun (wI:Nat) wT wM=>((27,.dat (.int .i64 wI))::wT,wM)) (fun wI=>wI≤e.chans.length∧(fun i=>∀ j<i,zhv p e j=true) wI) (fun wI=>e.chans.length-wI) 0 ⟨Nat.zero_le _,?_⟩ ?_ ?_;exact qS
 ·intro j hj;omega
 ·refine zt [] qL ?_ rfl;repeat' (first | exact trivial | refine And.intro rfl ?_)
 rintro i ⟨hi,hq⟩
 refine ze hn za rfl qS ?_ ?_<;>intro hc<;>first | (replace hc:=qC2 hc;try exact qX) | exact qF2 hc | skip
 ·have hlt:i<e.chans.length:=by omega
  have hno:zhv p e i=false→LV.dat (.bool false)=LV.dat (.bool (zhd p e)):=fun hh=>by
   rw [zhd,zbA hlt hh,Bool.false_and,Bool.and_false]
  cases hk:chanOk (e.chans.getD i zg)
  ·refine qD hn za zu [.r (.dat (.bool (chanOk (e.chans.getD i zg)))),.b true] rfl rfl ?_ ?_
   ·(try refine qM ?_);repeat' (first | exact trivial | (first | exact zbp _ | exact zai _ | assumption) | assumption | omega | exact qV | refine And.intro ?_ ?_)
   ·refine zf hn za rfl qS ⟨_,rfl,?_⟩
    exact hno (by rw [zhv,hk];rfl)
  ·refine qD hn za zu [.r (.dat (.bool (chanOk (e.chans.getD i zg)))),.b false] rfl rfl ?_ ?_
   ·(try refine qM ?_);repeat' (first | exact trivial | (first | exact zbp _ | exact zai _ | assumption) | assumption | omega | exact qV | refine And.intro ?_ ?_)
   ·refine ze hn za rfl qS ?_ ?_<;>intro hc<;>first | (replace hc:=qC2 hc;try exact qX) | exact qF2 hc | skip
    ·refine zf hn za rfl qS ⟨_,rfl,?_⟩
     exact hno (by rw [zhv,decide_eq_false hc,Bool.and_false])
    ·refine zx hn za rfl qS ⟨i+1,⟨?_,?_⟩,?_,?_⟩
     ·omega
     ·exact zeC hq (by rw [zhv,hk,decide_eq_true hc];rfl)
     ·show e.chans.length-(i+1)<e.chans.length-i;omega
     ·refine zt [] qL ?_ rfl;repeat' (first | exact trivial | refine And.intro rfl ?_)
 have hch:=zbw (m:=e.chans.length) (f:=zhv p e) (fun j hj=>hq j (by omega))
 clear hc hq hi
 refine zM hn za rfl ?_ (fun (wI:Nat) wT wM=>((49,.dat (.int .i64 wI))::wT,wM)) (fun wI=>wI≤e.mus.length∧(fun i=>∀ j<i,muOk e j=true) wI) (fun wI=>e.mus.length-wI) 0 ⟨Nat.zero_le _,?_⟩ ?_ ?_;exact qS
 ·intro j hj;omega
 ·refine zt [] qL ?_ rfl;repeat' (first | exact trivial | refine And.intro rfl ?_)
 rintro i ⟨hi,hq⟩
 refine ze hn za rfl qS ?_ ?_<;>intro hc<;>first | (replace hc:=qC2 hc;try exact qX) | exact qF2 hc | skip
 ·have hlt:i<e.mus.length:=by omega
  repeat' (first | (refine ze hn za rfl qS ?_ ?_<;>intro hc<;>first | (replace hc:=qC2 hc;try exact qX) | exact qF2 hc | skip) | refine zf hn za rfl qS ⟨_,rfl,?_⟩ | refine qK hn za rfl rfl (by (first | exact zbp _ | exact zai _ | assumption)) ?_)
  all_goals (try (
   refine congrArg (fun b=>LV.dat (.bool b)) (Eq.symm ?_)
   rw [zhd,zbA (f:=muOk e) hlt (by
    rw [muOk]
    first
     | (rw [hc];rfl)
     | (rw [decide_eq_false (by omega),Bool.and_false])),Bool.and_false,Bool.and_false]))
  all_goals (
   refine zx hn za rfl qS ⟨i+1,⟨?_,?_⟩,?_,?_⟩
   ·omega
   ·refine zeC hq ?_
    rw [muOk,decide_eq_true (by omega),Bool.and_true];assumption
   ·show e.mus.length-(i+1)<e.mus.length-i;omega
   ·(refine zt [] qL ?_ rfl;repeat' (first | exact trivial | refine And.intro rfl ?_)))
 ·have hmu:=zbw (m:=e.mus.length) (f:=muOk e) (fun j hj=>hq j (by omega))
  refine zf hn za rfl qS ⟨_,rfl,?_⟩
  rw [zhd,hhd,hch,hmu];rfl
def plS (k:Nat) (w:zo):zr:=⟨false,k,true,w⟩
def plR (k:Nat) (w:zo):zr:=⟨false,k,false,w⟩
def plM (k:Nat) (g:Int):zr:=⟨true,k,false,⟨g,-1,0⟩⟩
def zdy (e:zz) (k:Nat):List zr:=(e.chans.getD k zg).sends.map (plS k)++(e.chans.getD k zg).recvs.map (plR k)
def zfR (e:zz) (k:Nat):List zr:=(e.mus.getD k zj).wait.map (plM k)
def zeu (e:zz):List zr:=zL (zdy e) e.chans.length++zL (zfR e) e.mus.length
theorem zf0 {α:Type} {f:Nat→List α} {i n:Nat} (h:i≤n):(zL f i).length≤(zL f n).length:=by
 induction n with
 | zero=>have:i=0:=by omega
         subst this;exact Nat.le_refl _
 | succ n ih=>
   by_cases e:i=n+1
   ·subst e;exact Nat.le_refl _
   ·rw [z6,List.length_append]
    have:=ih (by omega)
    omega
theorem zei {α:Type} {l:List α} {d:α} {i:Nat} (h:i<l.length):l.take (i+1)=l.take i++[l.getD i d]:=by
 rw [List.take_add_one,zd5 (d:=d) h];rfl
theorem zlb (e:zz) (hs:(zeu e).length≤1048576):Con Tryz.prog 123 [.dagg (zad e)] (.dat (zau (zeu e))):=by
 refine zk (rs:=[(.tmp 2,170)]) za Tryz.func123 rfl rfl rfl (Nat.le_of_ble_eq_true rfl) fun ho x hn=>?_
 obtain ⟨hb1,hb2,hb3⟩:=zmB (ho (.dagg (zad e)) (by simp))
 have hbc:∀ k,k<e.chans.length→(e.chans.getD k zg).sends.length≤(9223372036854775807:Nat)∧(e.chans.getD k zg).recvs.length≤(9223372036854775807:Nat):=fun k hk=>
  have hm:=ze2 (d:=zg) hk
  ⟨(Okc.el (ho (.dagg (zad e)) (by simp) (zy e.chans) (by simp [zad])) hm (c:=zB _) (by simp [zae])).len,(Okc.el (ho (.dagg (zad e)) (by simp) (zy e.chans) (by simp [zad])) hm (c:=zB _) (by simp [zae])).len⟩
 have hbm:∀ k,k<e.mus.length→(e.mus.getD k zj).wait.length≤(9223372036854775807:Nat):=fun k hk=>
  (Okc.el (ho (.dagg (zad e)) (by simp) (zm e.mus) (by simp [zad])) (ze2 (d:=zj) hk) (c:=zbc _) (by simp [zO])).len
 have htot:(zL (zdy e) e.chans.length).length+(zL (zfR e) e.mus.length).length≤1048576:=by rw [← List.length_append];exact hs
 refine zT hn za zq zam ([]:List zr) rfl ?_ rfl rfl rfl rfl rfl rfl rfl rfl rfl ?_;exact qS
 refine zM hn za rfl ?_ (fun (wI:Nat) wT wM=>((18,.dat (.int .i64 wI))::(3,.own 100)::([(14,.no)]++wT),(100,some ((fun i=>.row 199 6 zq zam (zL (zdy e) i)) wI))::([(14,none)]++wM))) (fun wI=>wI≤e.chans.length∧(fun _=>True) wI) (fun wI=>e.chans.length-wI) 0 ⟨Nat.zero_le _,?_⟩ (zt [(100,14),(14,999)] ?_ ?_ rfl) ?_;exact qS
 ·trivial
 ·exact qL
 ·exact qL
 rintro i ⟨hi,_⟩
 refine ze hn za rfl qS ?_ ?_<;>intro hc<;>first | (replace hc:=qC2 hc;try exact qX) | exact qF2 hc | skip
 ·have hlt:i<e.chans.length:=by omega
  obtain ⟨hbs,hbr⟩:=hbc i hlt
  have hnx:=z6 (zdy e) i
  have hm1:=zf0 (f:=zdy e) (i:=i+1) (n:=e.chans.length) hlt
  rw [hnx,List.length_append,zdy,List.length_append,List.length_map,List.length_map] at hm1
  refine zM hn za rfl ?_ (fun (wI:Nat) wT wM=>((26,.dat (.int .i64 wI))::(3,.own 101)::([]++wT),(101,some ((fun j=>.row 199 6 zq zam (zL (zdy e) i++((e.chans.getD i zg).sends.take j).map (plS i))) wI))::([(100,none)]++wM))) (fun wI=>wI≤(e.chans.getD i zg).sends.length∧(fun _=>True) wI) (fun wI=>(e.chans.getD i zg).sends.length-wI) 0 ⟨Nat.zero_le _,?_⟩ (zt [(101,100),(100,999)] ?_ ?_ rfl) ?_;exact qS
  ·trivial
  ·exact qL
  ·refine And.intro (congrArg (fun q=>some (Blk.row 199 6 zq zam q)) ?_) ?_
   ·simp
   ·exact qL
  rintro j ⟨hj,_⟩
  refine ze hn za rfl qS ?_ ?_<;>intro hc<;>first | (replace hc:=qC2 hc;try exact qX) | exact qF2 hc | skip
  ·have hltj:j<(e.chans.getD i zg).sends.length:=by omega
   refine zT hn za zq zam [plS i ((e.chans.getD i zg).sends.getD j zi)] rfl ?_ rfl rfl rfl rfl rfl rfl rfl rfl rfl ?_;exact qS
   refine zas hn za [plS i ((e.chans.getD i zg).sends.getD j zi)] rfl ?_ rfl rfl rfl rfl rfl rfl rfl rfl ?_ ?_;exact qS
   ·show (_+1)*48≤_
    rw [List.length_append,List.length_map,List.length_take];omega
   refine zx hn za rfl qS ⟨j+1,⟨?_,?_⟩,?_,?_⟩
   ·omega
   ·trivial
   ·show (e.chans.getD i zg).sends.length-(j+1)<(e.chans.getD i zg).sends.length-j;omega
   ·refine zt [(101,35),(100,999)] qL ?_ rfl;repeat' (first | exact trivial | refine And.intro rfl ?_)
    refine And.intro (congrArg (fun q=>some (Blk.row 199 6 zq zam q)) ?_) ?_
    ·rw [zei (d:=zi) hltj,List.map_append,List.append_assoc];rfl
    ·exact qL
  have hej:j=(e.chans.getD i zg).sends.length:=by omega
  subst hej
  clear hc hj
  refine zM hn za rfl ?_ (fun (wI:Nat) wT wM=>((40,.dat (.int .i64 wI))::(3,.own 102)::([]++wT),(102,some ((fun j=>.row 199 6 zq zam ((zL (zdy e) i++(e.chans.getD i zg).sends.map (plS i))++((e.chans.getD i zg).recvs.take j).map (plR i))) wI))::([(101,none)]++wM))) (fun wI=>wI≤(e.chans.getD i zg).recvs.length∧(fun _=>True) wI) (fun wI=>(e.chans.getD i zg).recvs.length-wI) 0 ⟨Nat.zero_le _,?_⟩ (zt [(102,101),(101,999)] ?_ ?_ rfl) ?_;exact qS
  ·trivial
  ·exact qL
  ·refine And.intro (congrArg (fun q=>some (Blk.row 199 6 zq zam q)) ?_) ?_
   ·simp
   ·exact qL
  rintro j ⟨hj,_⟩
  refine ze hn za rfl qS ?_ ?_<;>intro hc<;>first | (replace hc:=qC2 hc;try exact qX) | exact qF2 hc | skip
  ·have hltj:j<(e.chans.getD i zg).recvs.length:=by omega
   refine zT hn za zq zam [plR i ((e.chans.getD i zg).recvs.getD j zi)] rfl ?_ rfl rfl rfl rfl rfl rfl rfl rfl rfl ?_;exact qS
   refine zas hn za [plR i ((e.chans.getD i zg).recvs.getD j zi)] rfl ?_ rfl rfl rfl rfl rfl rfl rfl rfl ?_ ?_;exact qS
   ·show (_+1)*48≤_
    rw [List.length_append,List.length_append,List.length_map,List.length_map,List.length_take];omega
   refine zx hn za rfl qS ⟨j+1,⟨?_,?_⟩,?_,?_⟩
   ·omega
   ·trivial
   ·show (e.chans.getD i zg).recvs.length-(j+1)<(e.chans.getD i zg).recvs.length-j;omega
   ·refine zt [(102,49),(101,999)] qL ?_ rfl;repeat' (first | exact trivial | refine And.intro rfl ?_)
    refine And.intro (congrArg (fun q=>some (Blk.row 199 6 zq zam q)) ?_) ?_
    ·rw [zei (d:=zi) hltj,List.map_append,List.append_assoc];rfl
    ·exact qL
  have hej:j=(e.chans.getD i zg).recvs.length:=by omega
  subst hej
  refine zx hn za rfl qS ⟨i+1,⟨?_,?_⟩,?_,?_⟩
  ·omega
  ·trivial
  ·show e.chans.length-(i+1)<e.chans.length-i;omega
  ·refine zt [(100,102),(14,999)] qL ?_ rfl;repeat' (first | exact trivial | refine And.intro rfl ?_)
   refine And.intro (congrArg (fun q=>some (Blk.row 199 6 zq zam q)) ?_) ?_
   ·rw [List.take_of_length_le (Nat.le_refl _),hnx,zdy,List.append_assoc]
   ·exact qL
 have hie:i=e.chans.length:=by omega
 subst hie
 clear hc hi
 refine zM hn za rfl ?_ (fun (wI:Nat) wT wM=>((55,.dat (.int .i64 wI))::(3,.own 103)::([]++wT),(103,some ((fun i=>.row 199 6 zq zam (zL (zdy e) e.chans.length++zL (zfR e) i)) wI))::([(100,none)]++wM))) (fun wI=>wI≤e.mus.length∧(fun _=>True) wI) (fun wI=>e.mus.length-wI) 0 ⟨Nat.zero_le _,?_⟩ (zt [(103,100),(100,999)] ?_ ?_ rfl) ?_;exact qS
 ·trivial
 ·exact qL
 ·refine And.intro (congrArg (fun q=>some (Blk.row 199 6 zq zam q)) ?_) ?_
  ·simp [zL]
  ·exact qL
 rintro i ⟨hi,_⟩
 refine ze hn za rfl qS ?_ ?_<;>intro hc<;>first | (replace hc:=qC2 hc;try exact qX) | exact qF2 hc | skip
 ·have hlt:i<e.mus.length:=by omega
  have hbs:=hbm i hlt
  have hnx:=z6 (zfR e) i
  have hm1:=zf0 (f:=zfR e) (i:=i+1) (n:=e.mus.length) hlt
  rw [hnx,List.length_append,zfR,List.length_map] at hm1
  refine zM hn za rfl ?_ (fun (wI:Nat) wT wM=>((63,.dat (.int .i64 wI))::(3,.own 104)::([]++wT),(104,some ((fun j=>.row 199 6 zq zam ((zL (zdy e) e.chans.length++zL (zfR e) i)++((e.mus.getD i zj).wait.take j).map (plM i))) wI))::([(103,none)]++wM))) (fun wI=>wI≤(e.mus.getD i zj).wait.length∧(fun _=>True) wI) (fun wI=>(e.mus.getD i zj).wait.length-wI) 0 ⟨Nat.zero_le _,?_⟩ (zt [(104,103),(103,999)] ?_ ?_ rfl) ?_;exact qS
  ·trivial
  ·exact qL
  ·refine And.intro (congrArg (fun q=>some (Blk.row 199 6 zq zam q)) ?_) ?_
   ·simp
   ·exact qL
  rintro j ⟨hj,_⟩
  refine ze hn za rfl qS ?_ ?_<;>intro hc<;>first | (replace hc:=qC2 hc;try exact qX) | exact qF2 hc | skip
  ·have hltj:j<(e.mus.getD i zj).wait.length:=by omega
   refine zT hn za zq zam [plM i ((e.mus.getD i zj).wait.getD j 0)] rfl ?_ rfl rfl rfl rfl rfl rfl rfl rfl rfl ?_;exact qS
   refine zas hn za [plM i ((e.mus.getD i zj).wait.getD j 0)] rfl ?_ rfl rfl rfl rfl rfl rfl rfl rfl ?_ ?_;exact qS
   ·show (_+1)*48≤_
    rw [List.length_append,List.length_append,List.length_map,List.length_take];omega
   refine zx hn za rfl qS ⟨j+1,⟨?_,?_⟩,?_,?_⟩
   ·omega
   ·trivial
   ·show (e.mus.getD i zj).wait.length-(j+1)<(e.mus.getD i zj).wait.length-j;omega
   ·refine zt [(104,73),(103,999)] qL ?_ rfl;repeat' (first | exact trivial | refine And.intro rfl ?_)
    refine And.intro (congrArg (fun q=>some (Blk.row 199 6 zq zam q)) ?_) ?_
    ·rw [zei (d:=(0:Int)) hltj,List.map_append,List.append_assoc];rfl
    ·exact qL
  have hej:j=(e.mus.getD i zj).wait.length:=by omega
  subst hej
  refine zx hn za rfl qS ⟨i+1,⟨?_,?_⟩,?_,?_⟩
  ·omega
  ·trivial
  ·show e.mus.length-(i+1)<e.mus.length-i;omega
  ·refine zt [(103,104),(100,999)] qL ?_ rfl;repeat' (first | exact trivial | refine And.intro rfl ?_)
   refine And.intro (congrArg (fun q=>some (Blk.row 199 6 zq zam q)) ?_) ?_
   ·rw [List.take_of_length_le (Nat.le_refl _),hnx,zfR,List.append_assoc]
   ·exact qL
 ·have hie:i=e.mus.length:=by omega
  subst hie
  refine zf hn za rfl qS ⟨_,rfl,?_⟩
  rfl
open Go.RowKit
theorem zpa (d:Nat) (a0 a1 a2 b0 b1 b2:Int) (w:World):(Op.equalIn (d+2) 197 (.agg #[.int .i64 a0,.int .i64 a1,.int .i64 a2]) (.agg #[.int .i64 b0,.int .i64 b1,.int .i64 b2])).run Tryz.prog w=.ok (a0 == b0 && (a1 == b1 && a2 == b2)) w:=by
 have hS0:Tryz.prog.underlying 197=some (.struct (Tryz.prog.fieldsOf 197)):=by kernel_rfl
 have hp0:Tryz.prog.stoodInHeld 197=false:=by kernel_rfl
 rw [run_equalIn_agg w (d+1) 197 _ _ hS0 hp0]
 simp only [Program.fieldsOf,Tryz.underlying197]
 go_simp
 by_cases h0:a0=b0<;>by_cases h1:a1=b1<;>by_cases h2:a2=b2<;>simp_all
theorem zqL (d:Nat) (a0:Bool) (a1:Int) (a2:Bool) (a3 a4 a5:Int) (b0:Bool) (b1:Int) (b2:Bool) (b3 b4 b5:Int) (w:World):(Op.equalIn (d+3) 199 (.agg #[.bool a0,.int .i64 a1,.bool a2,.int .i64 a3,.int .i64 a4,.int .i64 a5]) (.agg #[.bool b0,.int .i64 b1,.bool b2,.int .i64 b3,.int .i64 b4,.int .i64 b5])).run Tryz.prog w=.ok (a0 == b0 && (a1 == b1 && (a2 == b2 && (a3 == b3 && (a4 == b4 && a5 == b5))))) w:=by
 have hS0:Tryz.prog.underlying 199=some (.struct (Tryz.prog.fieldsOf 199)):=by kernel_rfl
 have hp0:Tryz.prog.stoodInHeld 199=false:=by kernel_rfl
 rw [run_equalIn_agg w (d+2) 199 _ _ hS0 hp0]
 simp only [Program.fieldsOf,Tryz.underlying199]
 have hW:=zpa d a3 a4 a5 b3 b4 b5 w
 generalize hE:(Op.equalIn (d+2) 197 (.agg #[.int .i64 a3,.int .i64 a4,.int .i64 a5]) (.agg #[.int .i64 b3,.int .i64 b4,.int .i64 b5]))=E at hW
 go_simp
 by_cases h0:a0=b0<;>by_cases h1:a1=b1<;>by_cases h2:a2=b2<;>by_cases h3:a3=b3<;>by_cases h4:a4=b4<;>by_cases h5:a5=b5<;>simp [h0,h1,h2,h3,h4,h5]
theorem zqW (b:Bool) (n:Nat) (t:TypeId) (q:IntKind) (v:Int) (w:World) (ht:Tryz.prog.underlying t=some (.int q)):(Instr.checkKey b (n+1) t (.int q v)).run Tryz.prog w=.ok () w:=by
 unfold Instr.checkKey
 simp only [Sem.run_bind,run_underlying ht,Result.andThen_ok,Sem.run_pure]
theorem ztQ (b:Bool) (n:Nat) (t:TypeId) (v:Bool) (w:World) (ht:Tryz.prog.underlying t=some .bool):(Instr.checkKey b (n+1) t (.bool v)).run Tryz.prog w=.ok () w:=by
 unfold Instr.checkKey
 simp only [Sem.run_bind,run_underlying ht,Result.andThen_ok,Sem.run_pure]
theorem zqH (b:Bool) (n:Nat) (a0 a1 a2:Int) (w:World):(Instr.checkKey b (n+2) 197 (.agg #[.int .i64 a0,.int .i64 a1,.int .i64 a2])).run Tryz.prog w=.ok () w:=by
 unfold Instr.checkKey
 simp only [Sem.run_bind,run_underlying Tryz.underlying197,Result.andThen_ok]
 go_simp
 simp only [zqW b n 3 .i64 _ _ Tryz.underlying3,Result.andThen_ok]
theorem zlS:zwP Tryz.prog 199 zam:=by
 refine ⟨by kernel_rfl,fun x y w=>?_⟩
 refine (zqL 9997 x.mutex x.obj x.send x.w.g x.w.cas x.w.val y.mutex y.obj y.send y.w.g y.w.cas y.w.val w).trans (congrArg (fun b=>Result.ok b w) ?_)
 rw [Bool.eq_iff_iff]
 simp [zr.ext_iff,zo.ext_iff]
def zm8 (x:zr):Value:=.agg ((zam x).map C.sv).toArray
theorem zh7:zkH Tryz.prog 199 zm8:=by
 refine ⟨fun b x w=>?_,fun x y w=>zlS.eq x y w,⟨_,Tryz.underlying199,fun x y=>rfl⟩,fun x=>?_⟩
 ·show (Instr.checkKey b (9997+3) 199 (.agg #[.bool x.mutex,.int .i64 x.obj,.bool x.send,.int .i64 x.w.g,.int .i64 x.w.cas,.int .i64 x.w.val])).run Tryz.prog w=_
  unfold Instr.checkKey
  simp only [Sem.run_bind,run_underlying Tryz.underlying199,Result.andThen_ok]
  go_simp
  simp only [ztQ b 9998 4 _ _ Tryz.underlying4,zqW b 9998 3 .i64 _ _ Tryz.underlying3,zqH b 9997,Result.andThen_ok]
 ·show Instr.sameBits (9999+1) (.agg #[.bool x.mutex,.int .i64 x.obj,.bool x.send,.int .i64 x.w.g,.int .i64 x.w.cas,.int .i64 x.w.val]) (.agg #[.bool x.mutex,.int .i64 x.obj,.bool x.send,.int .i64 x.w.g,.int .i64 x.w.cas,.int .i64 x.w.val])=true
  unfold Instr.sameBits
  simp [Instr.sameBits]
def zar (l:List zr) (x:zr):Nat:=l.countP (fun y=>decide (x=y))
theorem ztj {l:List zr} {x:zr} {i:Nat} (h:i<l.length):zar (l.take (i+1)) x=zar (l.take i) x+(if x=l.getD i zq then 1 else 0):=by
 rw [zei (d:=zq) h,zar,List.countP_append]
 simp [zar,List.countP_cons]
theorem zgc (l:List zr) (x:zr):zar l x≤l.length:=List.countP_le_length
theorem zjp (l:List zr) (p:zr):Con Tryz.prog 183 [.dat (zau l),.dagg (zam p)] (.dat (.int .i64 (zar l p))):=by
 refine zk (rs:=[(.tmp 4,3)]) za Tryz.func183 rfl rfl rfl (Nat.le_of_ble_eq_true rfl) fun ho x hn=>?_
 have hb:l.length≤(9223372036854775807:Nat):=Okc.len (ho (.dat (zau l)) (by simp))
 refine zM hn za rfl ?_ (fun (wI:Nat) wT wM=>((10,.dat (.int .i64 wI))::(5,.dat (.int .i64 ((zar (l.take wI) p:Nat):Int)))::wT,wM)) (fun wI=>wI≤l.length) (fun wI=>l.length-wI) 0 (Nat.zero_le _) ?_ ?_
 ·exact qS
 ·refine zt [] qL ?_ rfl;repeat' (first | exact trivial | refine And.intro rfl ?_)
 rintro i hi
 refine ze hn za rfl qS ?_ ?_<;>intro hc<;>first | (replace hc:=qC2 hc;try exact qX) | exact qF2 hc | skip
 ·have hlt:i<l.length:=by omega
  have hcn:=ztj (x:=p) hlt
  have hcl:=zgc (l.take i) p
  rw [List.length_take] at hcl
  refine zdU hn za rfl ?_ rfl (zun p (l.getD i zq) zlS hn rfl rfl rfl (.inl rfl) rfl rfl ?_)
  ·exact qS
  refine ze hn za rfl ?_ (fun hc=>?_) (fun hc=>?_);exact qS;all_goals (try simp only [decide_eq_true_eq,decide_eq_false_iff_not,Bool.not_eq_true',Bool.not_eq_false',Int.not_lt,Int.not_le,Int.toNat_natCast] at hc)
  ·rw [zkN,decide_eq_true_eq] at hc
   rw [if_pos hc] at hcn
   refine zx hn za rfl ?_ ⟨i+1,?_,?_,?_⟩
   ·exact qS
   ·show i+1≤l.length;omega
   ·show l.length-(i+1)<l.length-i;omega
   ·rw [hcn]
    refine zt [] qL ?_ rfl;repeat' (first | exact trivial | refine And.intro rfl ?_)
  ·rw [zkN,decide_eq_false_iff_not] at hc
   rw [if_neg hc] at hcn
   refine zx hn za rfl ?_ ⟨i+1,?_,?_,?_⟩
   ·exact qS
   ·show i+1≤l.length;omega
   ·show l.length-(i+1)<l.length-i;omega
   ·rw [hcn]
    refine zt [] qL ?_ rfl;repeat' (first | exact trivial | refine And.intro rfl ?_)
 ·have hie:i=l.length:=by omega
  subst hie
  refine zf hn za rfl qS ⟨_,rfl,?_⟩
  rw [List.take_of_length_le (Nat.le_refl _)];rfl
def zlR (a b:List zr):Bool:=a.all (fun x=>decide (zar a x=zar b x)) && decide (a.length=b.length)
theorem zcS (a b:List zr):Con Tryz.prog 122 [.dat (zau a),.dat (zau b)] (.dat (.bool (zlR a b))):=by
 refine zk (rs:=[(.tmp 4,4)]) za Tryz.func122 rfl rfl rfl (Nat.le_of_ble_eq_true rfl) fun ho x hn=>?_
 have hb:a.length≤(9223372036854775807:Nat):=Okc.len (ho (.dat (zau a)) (by simp))
 have hb2:b.length≤(9223372036854775807:Nat):=Okc.len (ho (.dat (zau b)) (by simp))
 refine zM hn za rfl ?_ (fun (wI:Nat) wT wM=>((9,.dat (.int .i64 wI))::wT,wM)) (fun wI=>wI≤a.length∧(fun i=>∀ j<i,decide (zar a (a.getD j zq)=zar b (a.getD j zq))=true) wI) (fun wI=>a.length-wI) 0 ⟨Nat.zero_le _,?_⟩ ?_ ?_;exact qS
 ·intro j hj;omega
 ·refine zt [] qL ?_ rfl;repeat' (first | exact trivial | refine And.intro rfl ?_)
 rintro i ⟨hi,hq⟩
 refine ze hn za rfl qS ?_ ?_<;>intro hc<;>first | (replace hc:=qC2 hc;try exact qX) | exact qF2 hc | skip
 ·have hlt:i<a.length:=by omega
  refine qD hn za zu [.r (.dat (.int .i64 (zar a (a.getD i zq)))),.r (.dat (.int .i64 (zar b (a.getD i zq))))] rfl rfl ?_ ?_
  ·(try refine qM ?_);repeat' (first | exact trivial | (first | exact zjp _ _ | assumption) | assumption | omega | exact qV | refine And.intro ?_ ?_)
  ·refine ze hn za rfl ?_ (fun hc=>?_) (fun hc=>?_);exact qS;all_goals (try simp only [decide_eq_true_eq,decide_eq_false_iff_not,Bool.not_eq_true',Bool.not_eq_false',Int.not_lt,Int.not_le,Int.toNat_natCast] at hc)
   ·refine zf hn za rfl qS ⟨_,rfl,?_⟩
    refine congrArg (fun b=>LV.dat (.bool b)) (Eq.symm ?_)
    rw [zlR,zkk (d:=zq) hlt (decide_eq_false (by omega)),Bool.false_and]
   ·refine zx hn za rfl qS ⟨i+1,⟨?_,?_⟩,?_,?_⟩
    ·omega
    ·exact zeC hq (decide_eq_true (by omega))
    ·show a.length-(i+1)<a.length-i;omega
    ·refine zt [] qL ?_ rfl;repeat' (first | exact trivial | refine And.intro rfl ?_)
 ·have h1:=zh8 (l:=a) zq (f:=fun x=>decide (zar a x=zar b x)) (fun j hj=>hq j (by omega))
  refine zf hn za rfl qS ⟨_,rfl,?_⟩
  refine congrArg (fun b=>LV.dat (.bool b)) (Eq.symm ?_)
  rw [zlR,h1,Bool.true_and]
  exact decide_eq_decide.2 (by omega)
def zbU (p:zn) (e:zz) (k:Nat):List zr:=if (e.gs.getD k zd).state=2 then zw p (e.gs.getD k zd) k else []
def zdk (p:zn) (e:zz):List zr:=zL (zbU p e) e.gs.length
def zdj (p:zn) (e:zz) (k:Nat):Bool:=zbf p (e.gs.getD k zd) && (!decide ((e.gs.getD k zd).state=2) || zdo p (e.gs.getD k zd))
def zdJ (p:zn) (e:zz):Bool:=zaa p && (decide (1≤e.gs.length∧e.gs.length≤10) && zhd p e)
def zay (p:zn) (e:zz):Bool:=zdJ p e && ((List.range e.gs.length).all (zdj p e) && zlR (zdk p e) (zeu e))
theorem zef {p:zn} {g:zW} {n:Int} (hp:zaa p=true) (hg:zao p g=true):(zw p g n).length≤4:=by
 unfold zw
 split
 ·simp
 ·split
  ·simp
  ·split
   ·rename_i h11
    have hr:=zjt hp hg h11
    have hl:=(zgm hp (k:=(zb p g).a.toNat) (by omega)).1
    have:=zcb (zgW g n (p.sels.getD (zb p g).a.toNat zh).cases) (p.sels.getD (zb p g).a.toNat zh).cases.length
    unfold zg6
    omega
   ·split<;>simp
set_option maxHeartbeats 1000000 in
theorem zez (p:zn) (e:zz) (hs:(zeu e).length≤1048576):Con Tryz.prog 60 [.dagg (zQ p),.dagg (zad e)] (.dat (.bool (zay p e))):=by
 refine zk (rs:=[(.tmp 4,4)]) za Tryz.func60 rfl rfl rfl (Nat.le_of_ble_eq_true rfl) fun ho x hn=>?_
 obtain ⟨hb1,hb2,hb3⟩:=zmB (ho (.dagg (zad e)) (by simp))
 have hob:=ziq p e
 have hal:=zlb e hs
 have hno:zdJ p e=false→LV.dat (.bool false)=LV.dat (.bool (zay p e)):=fun hh=>by rw [zay,hh,Bool.false_and]
 repeat' (first | (refine ze hn za rfl qS ?_ ?_<;>intro hc<;>first | (replace hc:=qC2 hc;try exact qX) | exact qF2 hc | skip) | refine zf hn za rfl qS ⟨_,rfl,?_⟩ | refine qK hn za rfl rfl (by (first | exact zcS _ _ | exact zdx _ _ | exact zaC _ | assumption)) ?_)
 all_goals (try (
  refine hno ?_
  rw [zdJ]
  first
   | (rw [hc,Bool.false_and])
   | (rw [decide_eq_false (by omega),Bool.false_and,Bool.and_false])
   | (rw [hc,Bool.and_false,Bool.and_false])))
 have hhd:zdJ p e=true:=by
  rw [zdJ,decide_eq_true (by omega)]
  simp only [Bool.true_and,Bool.and_eq_true]
  refine ⟨?_,?_⟩<;>assumption
 have hp:zaa p=true:=by rw [zdJ,Bool.and_eq_true] at hhd;exact hhd.1
 have hbad:∀ {k},k<e.gs.length→zdj p e k=false→LV.dat (.bool false)=LV.dat (.bool (zay p e)):=fun hk hh=>by rw [zay,zbA hk hh,Bool.false_and,Bool.and_false]
 clear hc
 refine zT hn za zq zam ([]:List zr) rfl ?_ rfl rfl rfl rfl rfl rfl rfl rfl rfl ?_;exact qS
 refine zM hn za rfl ?_ (fun (wI:Nat) wT wM=>((33,.dat (.int .i64 wI))::(5,.own 100)::([(29,.no)]++wT),(100,some ((fun i=>.row 199 6 zq zam (zL (zbU p e) i)) wI))::([(29,none)]++wM))) (fun wI=>wI≤e.gs.length∧(fun i=>(zL (zbU p e) i).length≤4*i∧∀ j<i,zdj p e j=true) wI) (fun wI=>e.gs.length-wI) 0 ⟨Nat.zero_le _,?_⟩ (zt [(100,29),(29,999)] ?_ ?_ rfl) ?_;exact qS
 ·exact ⟨by simp [zL],fun j hj=>by omega⟩
 ·exact qL
 ·exact qL
 rintro i ⟨hi,hln,hq⟩
 refine ze hn za rfl qS ?_ ?_<;>intro hc<;>first | (replace hc:=qC2 hc;try exact qX) | exact qF2 hc | skip
 ·have hlt:i<e.gs.length:=by omega
  have hnx:=z6 (zbU p e) i
  refine qK hn za rfl rfl (by (first | exact zcS _ _ | exact zdx _ _ | exact zaC _ | assumption)) ?_
  refine ze hn za rfl qS ?_ ?_<;>intro hc<;>first | (replace hc:=qC2 hc;try exact qX) | exact qF2 hc | skip
  ·refine zf hn za rfl qS ⟨_,rfl,?_⟩
   exact hbad hlt (by rw [zdj,hc,Bool.false_and])
  have hg0:=hc
  have hg:zao p (e.gs.getD i zd)=true:=by rw [zbf,Bool.and_eq_true] at hg0;exact hg0.1
  clear hc
  refine ze hn za rfl qS ?_ ?_<;>intro hc<;>first | (replace hc:=qC2 hc;try exact qX) | exact qF2 hc | skip
  ·have hpl:zbU p e i=[]:=if_neg (by omega)
   refine zx hn za rfl qS ⟨i+1,⟨?_,?_⟩,?_,?_⟩
   ·omega
   ·refine ⟨by rw [hnx,hpl,List.append_nil];omega,zeC hq ?_⟩
    rw [zdj,hg0,decide_eq_false (by omega)];rfl
   ·show e.gs.length-(i+1)<e.gs.length-i;omega
   ·refine zt [(29,999)] qL ?_ rfl;repeat' (first | exact trivial | refine And.intro rfl ?_)
    refine And.intro (congrArg (fun q=>some (Blk.row 199 6 zq zam q)) ?_) ?_
    ·rw [hnx,hpl,List.append_nil]
    ·exact qL
  have hpl:zbU p e i=zw p (e.gs.getD i zd) i:=if_pos (by omega)
  have h2:=hc
  have hmay:=zk0 p (e.gs.getD i zd) hp hg
  refine qK hn za rfl rfl (by (first | exact zcS _ _ | exact zdx _ _ | exact zaC _ | assumption)) ?_
  refine ze hn za rfl qS ?_ ?_<;>intro hc<;>first | (replace hc:=qC2 hc;try exact qX) | exact qF2 hc | skip
  ·refine zf hn za rfl qS ⟨_,rfl,?_⟩
   exact hbad hlt (by rw [zdj,hc,decide_eq_true (by omega)];simp)
  have hplc:=zfN p (e.gs.getD i zd) i hp hg
  have hl4:=zef (n:=(i:Int)) hp hg
  refine qK hn za rfl rfl (by (first | exact zcS _ _ | exact zdx _ _ | exact zaC _ | assumption)) ?_
  refine zas hn za (zw p (e.gs.getD i zd) i) rfl ?_ rfl rfl rfl rfl rfl rfl rfl rfl ?_ ?_;exact qS
  ·show (_+_)*48≤_;omega
  refine zx hn za rfl qS ⟨i+1,⟨?_,?_⟩,?_,?_⟩
  ·omega
  ·refine ⟨by rw [hnx,hpl,List.length_append];omega,zeC hq ?_⟩
   rw [zdj,hg0,hc];simp
  ·show e.gs.length-(i+1)<e.gs.length-i;omega
  ·refine zt [(100,54),(29,999)] qL ?_ rfl;repeat' (first | exact trivial | refine And.intro rfl ?_)
   refine And.intro (congrArg (fun q=>some (Blk.row 199 6 zq zam q)) ?_) ?_
   ·rw [hnx,hpl]
   ·exact qL
 ·have hie:i=e.gs.length:=by omega
  subst hie
  have hall:=zbw (m:=e.gs.length) (f:=zdj p e) hq
  repeat' (first | (refine ze hn za rfl qS ?_ ?_<;>intro hc<;>first | (replace hc:=qC2 hc;try exact qX) | exact qF2 hc | skip) | refine zf hn za rfl qS ⟨_,rfl,?_⟩ | refine qK hn za rfl rfl (by (first | exact zcS _ _ | exact zdx _ _ | exact zaC _ | assumption)) ?_)
  rw [zay,hhd,hall]
  rfl
theorem zmy:Tryz.prog.underlying 195=some (.map 199 3):=by kernel_rfl
theorem zlr (w:World):(zeroValue 3).run Tryz.prog w=.ok (.int .i64 0) w:=by go_simp
structure Due (x:Cx) (b:Nat) (l:zcX zr) (c:Nat) (u v:List zr):Prop where
 map:z7 x b (zgz zm8 l c)
 good:zkP l c
 val:∀ y,zb7 y l=(zar u y:Int)-zar v y
theorem Due.inc {x x1:Cx} {b:Nat} {l:zcX zr} {c:Nat} {u v:List zr} {y:zr} {n:Int} (h:Due x b l c u v) (hn:n=zb7 y l+1) (hf:Fam x b (zgz zm8 (zfd y n (zeg y c l)) (zgj y c l)) x1):Due x1 b (zfd y n (zeg y c l)) (zgj y c l) (u++[y]) v:=by
 refine ⟨hf.map,znt (zj2 h.good),fun z=>?_⟩
 rw [zlU (zji l),zjz]
 have h1:zar (u++[y]) z=zar u z+(if z=y then 1 else 0):=by simp [zar,List.countP_append,List.countP_cons]
 rw [h1]
 have:=h.val y
 have:=h.val z
 split
 ·rename_i hz;subst hz;omega
 ·omega
theorem Due.dec {x x1:Cx} {b:Nat} {l:zcX zr} {c:Nat} {u v:List zr} {y:zr} {n:Int} (h:Due x b l c u v) (hn:n=zb7 y l-1) (hf:Fam x b (zgz zm8 (zfd y n (zeg y c l)) (zgj y c l)) x1):Due x1 b (zfd y n (zeg y c l)) (zgj y c l) u (v++[y]):=by
 refine ⟨hf.map,znt (zj2 h.good),fun z=>?_⟩
 rw [zlU (zji l),zjz]
 have h1:zar (v++[y]) z=zar v z+(if z=y then 1 else 0):=by simp [zar,List.countP_append,List.countP_cons]
 rw [h1]
 have:=h.val y
 have:=h.val z
 split
 ·rename_i hz;subst hz;omega
 ·omega
theorem zqD {p:zn} {e:zz} {k:Nat} (h:zel p (e.gs.getD k zd)=true):ziX p (e.gs.getD k zd) k=zbU p e k:=by
 unfold ziX zbU
 by_cases h2:(e.gs.getD k zd).state=2
 ·rw [if_pos ⟨h,h2,by omega⟩,if_pos h2]
 ·rw [if_neg (fun hh=>h2 hh.2.1),if_neg h2]
theorem znU {α β:Type} {f:α→β}:∀ {l:List α},(l.map f).Nodup→∀ {x y:α},x∈l→y∈l→f x=f y→x=y
 | [],_,x,y,h,_,_=>by cases h
 | a::l,hn,x,y,hx,hy,he=>by
   rw [List.map_cons,List.nodup_cons] at hn
   rcases List.mem_cons.1 hx with rfl | hx
   ·rcases List.mem_cons.1 hy with rfl | hy
    ·rfl
    ·exact absurd (List.mem_map.2 ⟨y,hy,he.symm⟩) hn.1
   ·rcases List.mem_cons.1 hy with hya | hy
    ·exact absurd (List.mem_map.2 ⟨x,hx,he.trans (congrArg f hya)⟩:f a∈l.map f) hn.1
    ·exact znU hn.2 hx hy he
theorem zep (l:List zr) (y:zr):zar l y=l.count y:=by
 rw [zar,List.count]
 congr 1
 funext x
 rw [Bool.eq_iff_iff,decide_eq_true_iff,beq_iff_eq]
 exact eq_comm
theorem zpd {a b:List zr} (h:∀ y∈a,a.count y=b.count y) (hl:a.length=b.length):a.Perm b:=by
 induction a generalizing b with
 | nil=>rw [List.length_nil] at hl;rw [List.length_eq_zero_iff.1 hl.symm]
 | cons x a ih=>
   have h1:=h x List.mem_cons_self
   have hm:x∈b:=List.count_pos_iff.1 (by rw [← h1,List.count_cons_self];omega)
   have hp:=List.perm_cons_erase hm
   refine (List.Perm.cons x (ih (fun y hy=>?_) ?_)).trans hp.symm
   ·have h2:=h y (List.mem_cons_of_mem _ hy)
    rw [List.count_cons] at h2
    rw [List.count_erase]
    by_cases hxy:x=y
    ·subst hxy;simp at h2 ⊢;omega
    ·simp only [beq_iff_eq,hxy,fun e:y=x=>hxy e.symm,if_false] at h2 ⊢
     omega
   ·rw [List.length_erase_of_mem hm,← hl,List.length_cons];omega
theorem znl {a b:List zr}:zlR a b=true↔∀ y,zar a y=zar b y:=by
 rw [zlR,Bool.and_eq_true,List.all_eq_true,decide_eq_true_iff]
 constructor
 ·rintro ⟨h1,h2⟩ y
  rw [zep,zep]
  refine List.Perm.count_eq (zpd (fun y hy=>?_) h2) y
  have:=h1 y hy
  rw [decide_eq_true_iff,zep,zep] at this
  exact this
 ·intro h
  refine ⟨fun y _=>decide_eq_true (h y),?_⟩
  exact (List.perm_iff_count.2 fun y=>by rw [← zep,← zep];exact h y).length_eq
set_option maxHeartbeats 2000000 in
theorem zhI (p:zn) (e:zz) (hs:(zeu e).length≤1048576):Con Tryz.prog 69 [.dagg (zQ p),.dagg (zad e)] (.dat (.bool (zay p e))):=by
 refine zk (rs:=[(.tmp 4,4)]) za Tryz.func69 rfl rfl rfl (Nat.le_of_ble_eq_true rfl) fun ho x hn=>?_
 obtain ⟨hb1,hb2,hb3⟩:=zmB (ho (.dagg (zad e)) (by simp))
 have hno:zdJ p e=false→LV.dat (.bool false)=LV.dat (.bool (zay p e)):=fun hh=>by rw [zay,hh,Bool.false_and]
 repeat' (first | (refine ze hn za rfl qS ?_ ?_<;>intro hc<;>first | (replace hc:=qC2 hc;try exact qX) | exact qF2 hc | skip) | refine zf hn za rfl qS ⟨_,rfl,?_⟩ | refine qK hn za rfl rfl (by (first | exact zaG _ _ | exact zG _ | exact zak _ | exact zU _ | assumption)) ?_)
 all_goals (try (
  refine hno ?_
  rw [zdJ]
  first
   | (rw [hc,Bool.false_and])
   | (rw [decide_eq_false (by omega),Bool.false_and,Bool.and_false])
   | (rw [zhd,show zgT p e=false from decide_eq_false (by omega),Bool.false_and,Bool.and_false,Bool.and_false])))
 have hp:zaa p=true:=by assumption
 have hbad:∀ {k},k<e.gs.length→zdj p e k=false→LV.dat (.bool false)=LV.dat (.bool (zay p e)):=fun hk hh=>by rw [zay,zbA hk hh,Bool.false_and,Bool.and_false]
 have hlc:e.chans.length=p.caps.length:=by omega
 have hlm:(e.mus.length:Int)=p.mus:=by omega
 have hlg:1≤e.gs.length∧e.gs.length≤10:=by omega
 clear hc
 refine zdU hn za rfl ?_ rfl (zpL hn rfl rfl rfl fun x1 b hsib hpr hold=>?_)
 ·exact qS
 have hn:=hsib.n.trans hn
 clear hsib hold
 refine zcB hn za rfl ?_ (fun (y:Nat×zcX zr×Nat) wT wM=>((58,.dat (.int .i64 y.1))::wT,wM)) (fun y x=>y.1≤e.gs.length∧Due x b y.2.1 y.2.2 (zL (zbU p e) y.1) []∧(zL (zbU p e) y.1).length≤4*y.1∧∀ j<y.1,zdj p e j=true) (fun y=>e.gs.length-y.1) (0,[],0) ⟨Nat.zero_le _,⟨hpr,⟨by simp,by simp,fun e he=>by cases he⟩,fun y=>by simp [zb7,zar,zL]⟩,by simp [zL],fun j hj=>by cases hj⟩ ?_ ?_
 ·exact qS
 ·refine zt [] qL ?_ rfl;repeat' (first | exact trivial | refine And.intro rfl ?_)
 rintro ⟨i,l,c⟩ x2 hsib ⟨hi,hdue,hlen,hq⟩
 have hn:=hsib.n.trans hn
 clear hsib hpr
 refine ze hn za rfl qS ?_ ?_<;>intro hc<;>first | (replace hc:=qC2 hc;try exact qX) | exact qF2 hc | skip
 ·have hlt:i<e.gs.length:=by omega
  have hnx:=z6 (zbU p e) i
  have hmw:=zkg p (e.gs.getD i zd)
  have hpc:=zk5 p (e.gs.getD i zd) i
  have hsplit:zel p (e.gs.getD i zd)=zbf p (e.gs.getD i zd):=by rw [zel,hp,Bool.true_and]
  have hgd:zel p (e.gs.getD i zd)=true→zao p (e.gs.getD i zd)=true:=fun hk=>by
   rw [hsplit,zbf,Bool.and_eq_true] at hk;exact hk.1
  have hbnd:zel p (e.gs.getD i zd)=true→(zbU p e i).length≤4:=fun hk=>by
   unfold zbU
   split
   ·exact zef hp (hgd hk)
   ·simp
  repeat' (first | (refine ze hn za rfl qS ?_ ?_<;>intro hc<;>first | (replace hc:=qC2 hc;try exact qX) | exact qF2 hc | skip) | refine zf hn za rfl qS ⟨_,rfl,?_⟩ | refine qK hn za rfl rfl (by (first | exact zaG _ _ | exact zG _ | exact zak _ | exact zU _ | assumption)) ?_)
  all_goals (try (
   refine hbad hlt ?_
   rw [zdj,← hsplit]
   first
    | (rw [hc,Bool.false_and])
    | (rename_i h1 _;rw [h1] at hc;rw [Bool.true_and] at hc;rw [hc,decide_eq_true (by assumption)];simp)))
  all_goals (
   have hgk:zel p (e.gs.getD i zd)=true:=by assumption
   have hfit:zdj p e i=true:=by
    rw [zdj,← hsplit,hgk,Bool.true_and]
    first
     | (rw [decide_eq_false (by assumption)];rfl)
     | (rw [hgk,Bool.true_and] at hc;rw [hc,Bool.or_true])
   have hl4:=hbnd hgk
   have hwp:=zqD hgk
   clear hc
   rw [hwp]
   refine zcB hn za rfl ?_ (fun (y:Nat×zcX zr×Nat) wT wM=>((83,.dat (.int .i64 y.1))::wT,wM)) (fun y x=>y.1≤(zbU p e i).length∧Due x b y.2.1 y.2.2 (zL (zbU p e) i++(zbU p e i).take y.1) []) (fun y=>(zbU p e i).length-y.1) (0,l,c) ⟨Nat.zero_le _,by simpa using hdue⟩ ?_ ?_
   ·exact qS
   ·refine zt [] qL ?_ rfl;repeat' (first | exact trivial | refine And.intro rfl ?_)
   rintro ⟨j,l1,c1⟩ x3 hsib ⟨hj,hd1⟩
   have hn:=hsib.n.trans hn
   clear hsib
   refine ze hn za rfl qS ?_ ?_<;>intro hc<;>first | (replace hc:=qC2 hc;try exact qX) | exact qF2 hc | skip
   ·have hltj:j<(zbU p e i).length:=by omega
    have hv1:=hd1.val ((zbU p e i).getD j zq)
    have hv2:=zgc (zL (zbU p e) i++(zbU p e i).take j) ((zbU p e i).getD j zq)
    rw [List.length_append,List.length_take] at hv2
    refine zlt hn za zu rfl ?_ 2 rfl rfl (fun _=>rfl) rfl hd1.map hd1.good zh7 zmy zlr rfl rfl rfl rfl rfl rfl rfl ((zbU p e i).getD j zq) rfl (zb7 ((zbU p e i).getD j zq) l1+1) rfl ?_ rfl rfl rfl rfl rfl rfl rfl rfl rfl rfl (fun _ _ _ _ _ h=>znH h rfl) rfl rfl rfl rfl rfl ?_ ?_ ?_ ?_;exact qS;rotate_left;(kernel_rfl);(kernel_rfl);(kernel_rfl);rotate_left
    ·intro r hr
     cases hr
     rw [zhf,hv1]
     simp [zar] at *
     omega
    intro x4 hf
    have hn:=hf.sib.n.trans hn
    refine zx hn za rfl ?_ ⟨(j+1,zfd ((zbU p e i).getD j zq) (zb7 ((zbU p e i).getD j zq) l1+1) (zeg ((zbU p e i).getD j zq) c1 l1),zgj ((zbU p e i).getD j zq) c1 l1),⟨?_,?_⟩,?_,?_⟩
    ·exact qS
    ·show j+1≤_;omega
    ·have:=hd1.inc (by rfl) hf
     rw [List.append_assoc,← zei hltj] at this
     exact this
    ·show (zbU p e i).length-(j+1)<(zbU p e i).length-j;omega
    ·refine zt [] qL ?_ rfl;repeat' (first | exact trivial | refine And.intro rfl ?_)
   ·have hje:j=(zbU p e i).length:=by omega
    subst hje
    refine zx hn za rfl ?_ ⟨(i+1,l1,c1),⟨?_,?_,?_,?_⟩,?_,?_⟩
    ·exact qS
    ·show i+1≤_;omega
    ·rw [List.take_of_length_le (Nat.le_refl _)] at hd1
     rw [hnx];exact hd1
    ·show (zL (zbU p e) (i+1)).length≤4*(i+1)
     have hlen:(zL (zbU p e) i).length≤4*i:=hlen
     rw [hnx,List.length_append];omega
    ·exact zeC hq hfit
    ·show e.gs.length-(i+1)<e.gs.length-i;omega
    ·(refine zt [] qL ?_ rfl;repeat' (first | exact trivial | refine And.intro rfl ?_)))
 have hie:i=e.gs.length:=by omega
 subst hie
 have hall:=zbw (m:=e.gs.length) (f:=zdj p e) hq
 have hwl:(zdk p e).length≤40:=by
  have:(zL (zbU p e) e.gs.length).length≤4*e.gs.length:=hlen
  unfold zdk;omega
 have hdw:Due x2 b l c (zdk p e) []:=hdue
 have htot:(zL (zdy e) e.chans.length).length+(zL (zfR e) e.mus.length).length≤1048576:=by rw [← List.length_append];exact hs
 have hnoc:∀ {k},k<e.chans.length→zhv p e k=false→LV.dat (.bool false)=LV.dat (.bool (zay p e)):=fun hk hh=>hno (by
  rw [zdJ,zhd,zbA hk hh];simp)
 have hnom:∀ {k},k<e.mus.length→muOk e k=false→LV.dat (.bool false)=LV.dat (.bool (zay p e)):=fun hk hh=>hno (by
  rw [zdJ,zhd,zbA (f:=muOk e) hk hh];simp)
 have hbc:∀ k,k<e.chans.length→(e.chans.getD k zg).sends.length≤(9223372036854775807:Nat)∧(e.chans.getD k zg).recvs.length≤(9223372036854775807:Nat):=fun k hk=>
  have hm:=ze2 (d:=zg) hk
  ⟨(Okc.el (ho (.dagg (zad e)) (by simp) (zy e.chans) (by simp [zad])) hm (c:=zB _) (by simp [zae])).len,(Okc.el (ho (.dagg (zad e)) (by simp) (zy e.chans) (by simp [zad])) hm (c:=zB _) (by simp [zae])).len⟩
 have hbm:∀ k,k<e.mus.length→(e.mus.getD k zj).wait.length≤(9223372036854775807:Nat):=fun k hk=>
  (Okc.el (ho (.dagg (zad e)) (by simp) (zm e.mus) (by simp [zad])) (ze2 (d:=zj) hk) (c:=zbc _) (by simp [zO])).len
 have hpc:p.caps.length≤(9223372036854775807:Nat):=by omega
 clear hc hdue hq hi hlen hbad
 refine zcB hn za rfl ?_ (fun (y:Nat×zcX zr×Nat) wT wM=>((98,.dat (.int .i64 y.1))::wT,wM)) (fun y x=>y.1≤e.chans.length∧Due x b y.2.1 y.2.2 (zdk p e) (zL (zdy e) y.1)∧∀ j<y.1,zhv p e j=true) (fun y=>e.chans.length-y.1) (0,l,c) ⟨Nat.zero_le _,hdw,fun j hj=>by cases hj⟩ ?_ ?_
 ·exact qS
 ·refine zt [] qL ?_ rfl;repeat' (first | exact trivial | refine And.intro rfl ?_)
 rintro ⟨i,l2,c2⟩ x3 hsib ⟨hi,hd2,hq⟩
 have hn:=hsib.n.trans hn
 clear hsib hdw
 refine ze hn za rfl qS ?_ ?_<;>intro hc<;>first | (replace hc:=qC2 hc;try exact qX) | exact qF2 hc | skip
 ·have hlt:i<e.chans.length:=by omega
  obtain ⟨hbs,hbr⟩:=hbc i hlt
  have hnx:=z6 (zdy e) i
  have hm1:=zf0 (f:=zdy e) (i:=i+1) (n:=e.chans.length) hlt
  rw [hnx,List.length_append,zdy,List.length_append,List.length_map,List.length_map] at hm1
  cases hk:chanOk (e.chans.getD i zg)
  ·refine qD hn za zu [.r (.dat (.bool (chanOk (e.chans.getD i zg)))),.b true] rfl rfl ?_ ?_
   ·(try refine qM ?_);repeat' (first | exact trivial | (first | exact zaG _ _ | exact zG _ | exact zak _ | exact zU _ | assumption) | assumption | omega | exact qV | refine And.intro ?_ ?_)
   ·repeat' (first | (refine ze hn za rfl qS ?_ ?_<;>intro hc<;>first | (replace hc:=qC2 hc;try exact qX) | exact qF2 hc | skip) | refine zf hn za rfl qS ⟨_,rfl,?_⟩ | refine qK hn za rfl rfl (by (first | exact zaG _ _ | exact zG _ | exact zak _ | exact zU _ | assumption)) ?_)
    exact hnoc hlt (by rw [zhv,hk];rfl)
  refine qD hn za zu [.r (.dat (.bool (chanOk (e.chans.getD i zg)))),.b false] rfl rfl ?_ ?_
  ·(try refine qM ?_);repeat' (first | exact trivial | (first | exact zaG _ _ | exact zG _ | exact zak _ | exact zU _ | assumption) | assumption | omega | exact qV | refine And.intro ?_ ?_)
  refine ze hn za rfl qS ?_ ?_<;>intro hc<;>first | (replace hc:=qC2 hc;try exact qX) | exact qF2 hc | skip
  ·refine zf hn za rfl qS ⟨_,rfl,?_⟩
   exact hnoc hlt (by rw [zhv,decide_eq_false hc,Bool.and_false])
  have hfit:zhv p e i=true:=by rw [zhv,hk,decide_eq_true hc];rfl
  clear hc hk
  refine zcB hn za rfl ?_ (fun (y:Nat×zcX zr×Nat) wT wM=>((119,.dat (.int .i64 y.1))::wT,wM)) (fun y x=>y.1≤(e.chans.getD i zg).sends.length∧Due x b y.2.1 y.2.2 (zdk p e) (zL (zdy e) i++((e.chans.getD i zg).sends.take y.1).map (plS i))) (fun y=>(e.chans.getD i zg).sends.length-y.1) (0,l2,c2) ⟨Nat.zero_le _,by simpa using hd2⟩ ?_ ?_
  ·exact qS
  ·refine zt [] qL ?_ rfl;repeat' (first | exact trivial | refine And.intro rfl ?_)
  rintro ⟨j,l3,c3⟩ x4 hsib ⟨hj,hd3⟩
  have hn:=hsib.n.trans hn
  clear hsib hd2
  refine ze hn za rfl qS ?_ ?_<;>intro hc<;>first | (replace hc:=qC2 hc;try exact qX) | exact qF2 hc | skip
  ·have hltj:j<(e.chans.getD i zg).sends.length:=by omega
   have hv1:=hd3.val (plS i ((e.chans.getD i zg).sends.getD j zi))
   dsimp only at hv1
   have hv2:=zgc (zL (zdy e) i++((e.chans.getD i zg).sends.take j).map (plS i)) (plS i ((e.chans.getD i zg).sends.getD j zi))
   have hv3:=zgc (zdk p e) (plS i ((e.chans.getD i zg).sends.getD j zi))
   rw [List.length_append,List.length_map,List.length_take] at hv2
   refine zlt hn za zu rfl ?_ 4 rfl rfl (fun _=>rfl) rfl hd3.map hd3.good zh7 zmy zlr rfl rfl rfl rfl rfl rfl rfl (plS i ((e.chans.getD i zg).sends.getD j zi)) rfl (zb7 (plS i ((e.chans.getD i zg).sends.getD j zi)) l3-1) rfl ?_ rfl rfl rfl rfl rfl rfl rfl rfl rfl rfl (fun _ _ _ _ _ h=>znH h rfl) rfl rfl rfl rfl rfl ?_ ?_ ?_ ?_;exact qS;rotate_left;(kernel_rfl);(kernel_rfl);(kernel_rfl);rotate_left
   ·intro r hr
    cases hr
    rw [zhf,hv1]
    omega
   intro x5 hf
   have hn:=hf.sib.n.trans hn
   refine zx hn za rfl ?_ ⟨(j+1,zfd (plS i ((e.chans.getD i zg).sends.getD j zi)) (zb7 (plS i ((e.chans.getD i zg).sends.getD j zi)) l3-1) (zeg (plS i ((e.chans.getD i zg).sends.getD j zi)) c3 l3),zgj (plS i ((e.chans.getD i zg).sends.getD j zi)) c3 l3),⟨?_,?_⟩,?_,?_⟩
   ·exact qS
   ·show j+1≤_;omega
   ·have:=hd3.dec (by rfl) hf
    rw [List.append_assoc,show [plS i ((e.chans.getD i zg).sends.getD j zi)]=[(e.chans.getD i zg).sends.getD j zi].map (plS i) from rfl,← List.map_append,← zei hltj] at this
    exact this
   ·show (e.chans.getD i zg).sends.length-(j+1)<(e.chans.getD i zg).sends.length-j;omega
   ·refine zt [] qL ?_ rfl;repeat' (first | exact trivial | refine And.intro rfl ?_)
  have hje:j=(e.chans.getD i zg).sends.length:=by omega
  subst hje
  have hd3:Due x4 b l3 c3 (zdk p e) (zL (zdy e) i++(e.chans.getD i zg).sends.map (plS i)):=by
   have h:=hd3
   rw [List.take_of_length_le (Nat.le_refl _)] at h
   exact h
  clear hc hj
  refine zcB hn za rfl ?_ (fun (y:Nat×zcX zr×Nat) wT wM=>((135,.dat (.int .i64 y.1))::wT,wM)) (fun y x=>y.1≤(e.chans.getD i zg).recvs.length∧Due x b y.2.1 y.2.2 (zdk p e) ((zL (zdy e) i++(e.chans.getD i zg).sends.map (plS i))++((e.chans.getD i zg).recvs.take y.1).map (plR i))) (fun y=>(e.chans.getD i zg).recvs.length-y.1) (0,l3,c3) ⟨Nat.zero_le _,by simpa using hd3⟩ ?_ ?_
  ·exact qS
  ·refine zt [] qL ?_ rfl;repeat' (first | exact trivial | refine And.intro rfl ?_)
  rintro ⟨j,l4,c4⟩ x5 hsib ⟨hj,hd4⟩
  have hn:=hsib.n.trans hn
  clear hsib hd3
  refine ze hn za rfl qS ?_ ?_<;>intro hc<;>first | (replace hc:=qC2 hc;try exact qX) | exact qF2 hc | skip
  ·have hltj:j<(e.chans.getD i zg).recvs.length:=by omega
   have hv1:=hd4.val (plR i ((e.chans.getD i zg).recvs.getD j zi))
   dsimp only at hv1
   have hv2:=zgc ((zL (zdy e) i++(e.chans.getD i zg).sends.map (plS i))++((e.chans.getD i zg).recvs.take j).map (plR i)) (plR i ((e.chans.getD i zg).recvs.getD j zi))
   have hv3:=zgc (zdk p e) (plR i ((e.chans.getD i zg).recvs.getD j zi))
   rw [List.length_append,List.length_append,List.length_map,List.length_map,List.length_take] at hv2
   refine zlt hn za zu rfl ?_ 4 rfl rfl (fun _=>rfl) rfl hd4.map hd4.good zh7 zmy zlr rfl rfl rfl rfl rfl rfl rfl (plR i ((e.chans.getD i zg).recvs.getD j zi)) rfl (zb7 (plR i ((e.chans.getD i zg).recvs.getD j zi)) l4-1) rfl ?_ rfl rfl rfl rfl rfl rfl rfl rfl rfl rfl (fun _ _ _ _ _ h=>znH h rfl) rfl rfl rfl rfl rfl ?_ ?_ ?_ ?_;exact qS;rotate_left;(kernel_rfl);(kernel_rfl);(kernel_rfl);rotate_left
   ·intro r hr
    cases hr
    rw [zhf,hv1]
    omega
   intro x6 hf
   have hn:=hf.sib.n.trans hn
   refine zx hn za rfl ?_ ⟨(j+1,zfd (plR i ((e.chans.getD i zg).recvs.getD j zi)) (zb7 (plR i ((e.chans.getD i zg).recvs.getD j zi)) l4-1) (zeg (plR i ((e.chans.getD i zg).recvs.getD j zi)) c4 l4),zgj (plR i ((e.chans.getD i zg).recvs.getD j zi)) c4 l4),⟨?_,?_⟩,?_,?_⟩
   ·exact qS
   ·show j+1≤_;omega
   ·have:=hd4.dec (by rfl) hf
    rw [List.append_assoc,show [plR i ((e.chans.getD i zg).recvs.getD j zi)]=[(e.chans.getD i zg).recvs.getD j zi].map (plR i) from rfl,← List.map_append,← zei hltj] at this
    exact this
   ·show (e.chans.getD i zg).recvs.length-(j+1)<(e.chans.getD i zg).recvs.length-j;omega
   ·refine zt [] qL ?_ rfl;repeat' (first | exact trivial | refine And.intro rfl ?_)
  have hje:j=(e.chans.getD i zg).recvs.length:=by omega
  subst hje
  refine zx hn za rfl ?_ ⟨(i+1,l4,c4),⟨?_,?_,?_⟩,?_,?_⟩
  ·exact qS
  ·show i+1≤_;omega
  ·have h:=hd4
   rw [List.take_of_length_le (Nat.le_refl _),List.append_assoc] at h
   rw [hnx,zdy];exact h
  ·exact zeC hq hfit
  ·show e.chans.length-(i+1)<e.chans.length-i;omega
  ·refine zt [] qL ?_ rfl;repeat' (first | exact trivial | refine And.intro rfl ?_)
 have hie:i=e.chans.length:=by omega
 subst hie
 have hallc:=zbw (m:=e.chans.length) (f:=zhv p e) hq
 have hdw:Due x3 b l2 c2 (zdk p e) (zL (zdy e) e.chans.length++[]):=by rw [List.append_nil];exact hd2
 clear hc hd2 hq hi
 refine zcB hn za rfl ?_ (fun (y:Nat×zcX zr×Nat) wT wM=>((152,.dat (.int .i64 y.1))::wT,wM)) (fun y x=>y.1≤e.mus.length∧Due x b y.2.1 y.2.2 (zdk p e) (zL (zdy e) e.chans.length++zL (zfR e) y.1)∧∀ j<y.1,muOk e j=true) (fun y=>e.mus.length-y.1) (0,l2,c2) ⟨Nat.zero_le _,by simpa [zL] using hdw,fun j hj=>by cases hj⟩ ?_ ?_
 ·exact qS
 ·refine zt [] qL ?_ rfl;repeat' (first | exact trivial | refine And.intro rfl ?_)
 rintro ⟨i,l5,c5⟩ x4 hsib ⟨hi,hd5,hq⟩
 have hn:=hsib.n.trans hn
 clear hsib hdw
 refine ze hn za rfl qS ?_ ?_<;>intro hc<;>first | (replace hc:=qC2 hc;try exact qX) | exact qF2 hc | skip
 ·have hlt:i<e.mus.length:=by omega
  have hbs:=hbm i hlt
  have hnx:=z6 (zfR e) i
  have hm1:=zf0 (f:=zfR e) (i:=i+1) (n:=e.mus.length) hlt
  rw [hnx,List.length_append,zfR,List.length_map] at hm1
  repeat' (first | (refine ze hn za rfl qS ?_ ?_<;>intro hc<;>first | (replace hc:=qC2 hc;try exact qX) | exact qF2 hc | skip) | refine zf hn za rfl qS ⟨_,rfl,?_⟩ | refine qK hn za rfl rfl (by (first | exact zaG _ _ | exact zG _ | exact zak _ | exact zU _ | assumption)) ?_)
  all_goals (try (
   refine hnom hlt ?_
   rw [muOk]
   first
    | (rw [hc,Bool.false_and])
    | (rw [decide_eq_false (by omega),Bool.and_false])))
  have hfit:muOk e i=true:=by
   rw [muOk,decide_eq_true (by omega),Bool.and_true];assumption
  clear hc
  refine zcB hn za rfl ?_ (fun (y:Nat×zcX zr×Nat) wT wM=>((171,.dat (.int .i64 y.1))::wT,wM)) (fun y x=>y.1≤(e.mus.getD i zj).wait.length∧Due x b y.2.1 y.2.2 (zdk p e) ((zL (zdy e) e.chans.length++zL (zfR e) i)++((e.mus.getD i zj).wait.take y.1).map (plM i))) (fun y=>(e.mus.getD i zj).wait.length-y.1) (0,l5,c5) ⟨Nat.zero_le _,by simpa using hd5⟩ ?_ ?_
  ·exact qS
  ·refine zt [] qL ?_ rfl;repeat' (first | exact trivial | refine And.intro rfl ?_)
  rintro ⟨j,l6,c6⟩ x5 hsib ⟨hj,hd6⟩
  have hn:=hsib.n.trans hn
  clear hsib hd5
  refine ze hn za rfl qS ?_ ?_<;>intro hc<;>first | (replace hc:=qC2 hc;try exact qX) | exact qF2 hc | skip
  ·have hltj:j<(e.mus.getD i zj).wait.length:=by omega
   have hv1:=hd6.val (plM i ((e.mus.getD i zj).wait.getD j 0))
   dsimp only at hv1
   have hv2:=zgc ((zL (zdy e) e.chans.length++zL (zfR e) i)++((e.mus.getD i zj).wait.take j).map (plM i)) (plM i ((e.mus.getD i zj).wait.getD j 0))
   have hv3:=zgc (zdk p e) (plM i ((e.mus.getD i zj).wait.getD j 0))
   rw [List.length_append,List.length_append,List.length_map,List.length_take] at hv2
   refine zlt hn za zu rfl ?_ 5 rfl rfl (fun _=>rfl) rfl hd6.map hd6.good zh7 zmy zlr rfl rfl rfl rfl rfl rfl rfl (plM i ((e.mus.getD i zj).wait.getD j 0)) rfl (zb7 (plM i ((e.mus.getD i zj).wait.getD j 0)) l6-1) rfl ?_ rfl rfl rfl rfl rfl rfl rfl rfl rfl rfl (fun _ _ _ _ _ h=>znH h rfl) rfl rfl rfl rfl rfl ?_ ?_ ?_ ?_;exact qS;rotate_left;(kernel_rfl);(kernel_rfl);(kernel_rfl);rotate_left
   ·intro r hr
    cases hr
    rw [zhf,hv1]
    omega
   intro x6 hf
   have hn:=hf.sib.n.trans hn
   refine zx hn za rfl ?_ ⟨(j+1,zfd (plM i ((e.mus.getD i zj).wait.getD j 0)) (zb7 (plM i ((e.mus.getD i zj).wait.getD j 0)) l6-1) (zeg (plM i ((e.mus.getD i zj).wait.getD j 0)) c6 l6),zgj (plM i ((e.mus.getD i zj).wait.getD j 0)) c6 l6),⟨?_,?_⟩,?_,?_⟩
   ·exact qS
   ·show j+1≤_;omega
   ·have:=hd6.dec (by rfl) hf
    rw [List.append_assoc,show [plM i ((e.mus.getD i zj).wait.getD j 0)]=[(e.mus.getD i zj).wait.getD j 0].map (plM i) from rfl,← List.map_append,← zei hltj] at this
    exact this
   ·show (e.mus.getD i zj).wait.length-(j+1)<(e.mus.getD i zj).wait.length-j;omega
   ·refine zt [] qL ?_ rfl;repeat' (first | exact trivial | refine And.intro rfl ?_)
  have hje:j=(e.mus.getD i zj).wait.length:=by omega
  subst hje
  refine zx hn za rfl ?_ ⟨(i+1,l6,c6),⟨?_,?_,?_⟩,?_,?_⟩
  ·exact qS
  ·show i+1≤_;omega
  ·have h:=hd6
   rw [List.take_of_length_le (Nat.le_refl _),List.append_assoc] at h
   rw [hnx,zfR];exact h
  ·exact zeC hq hfit
  ·show e.mus.length-(i+1)<e.mus.length-i;omega
  ·refine zt [] qL ?_ rfl;repeat' (first | exact trivial | refine And.intro rfl ?_)
 have hie:i=e.mus.length:=by omega
 subst hie
 have hallm:=zbw (m:=e.mus.length) (f:=muOk e) hq
 have hdw:Due x4 b l5 c5 (zdk p e) (zeu e):=hd5
 have hhd:zdJ p e=true:=by
  rw [zdJ,hp,decide_eq_true hlg,zhd,show zgT p e=true from decide_eq_true ⟨hlc,hlm⟩,hallc,hallm];rfl
 clear hc hd5 hq hi
 -- the map,entry after entry
 refine zdU hn za rfl ?_ rfl (zrS hn rfl rfl rfl rfl hdw.map zmy fun x5 r hsib hit hold=>?_)
 ·exact qS
 have hn:=hsib.n.trans hn
 have hmp:=hold _ _ hdw.map
 have hgood:=hdw.good
 have hval:=hdw.val
 clear hsib hold hdw
 have hyes:zay p e=decide (∀ x∈l5,x.2.1=0):=by
  rw [zay,hhd,hall,Bool.true_and,Bool.true_and,Bool.eq_iff_iff,znl,decide_eq_true_iff,zs7 hgood.keys]
  exact forall_congr' fun y=>by rw [hval y];omega
 refine zcB hn za rfl ?_ (fun (y:Array Nat) wT wM=>(wT,wM)) (fun y x=>z7 x r (.mapIter (some b) c5 y c5)∧z7 x b (zgz zm8 l5 c5)∧∀ x∈l5,x.2.2∈y.toList→x.2.1=0) (fun y=>(leftOf (l5.map (ent zm8)).toArray y).size) #[] ⟨hit,hmp,fun x _ h=>by cases h⟩ ?_ ?_
 ·exact qS
 ·refine zt [] qL ?_ rfl;repeat' (first | exact trivial | refine And.intro rfl ?_)
 rintro y x6 hsib ⟨hit1,hmp1,hz⟩
 have hn:=hsib.n.trans hn
 clear hsib hit hmp
 have hbrn:∀ x∈(l5.map (ent zm8)).toArray.toList,x.born<c5:=fun x hx=>by
  simp only [List.mem_map] at hx
  obtain ⟨e0,he0,rfl⟩:=hx
  exact hgood.born e0 he0
 refine zdU hn za rfl ?_ rfl (ztV hn rfl rfl rfl rfl hit1 hmp1 hbrn ?_ ?_)
 ·exact qS
 ·intro hz0 x7 hsib hold
  have hn:=hsib.n.trans hn
  have hall0:∀ x∈l5,x.2.1=0:=fun x0 hx0=>hz x0 hx0 (by
   have:=all_seen _ _ hz0 (ent zm8 x0) (List.mem_map.2 ⟨x0,hx0,rfl⟩)
   have this:y.contains x0.2.2=true:=this
   simpa using this)
  repeat' (first | (refine ze hn za rfl qS ?_ ?_<;>intro hc<;>first | (replace hc:=qC2 hc;try exact qX) | exact qF2 hc | skip) | refine zf hn za rfl qS ⟨_,rfl,?_⟩ | refine qK hn za rfl rfl (by (first | exact zaG _ _ | exact zG _ | exact zak _ | exact zU _ | assumption)) ?_)
  rw [hyes,decide_eq_true hall0];rfl
 ·intro e0 he0 x7 hsib hit2 hold
  have hn:=hsib.n.trans hn
  have hne:b≠r:=fun h=>by
   subst h
   have:=hit1.at_.symm.trans hmp1.at_
   cases this
  have hmp2:=hold b _ hne hmp1
  have hle:=he0
  unfold leftOf at hle
  simp only [Array.toList_filter,List.mem_filter,List.mem_map] at hle
  obtain ⟨⟨x0,hx0,rfl⟩,hnew⟩:=hle
  refine zdU hn za rfl ?_ rfl (zr0 hn rfl rfl rfl rfl hit2 hmp2 (e:=ent zm8 x0) (by simp only [List.mem_map];exact ⟨x0,hx0,rfl⟩) (by
   show ((l5.map (ent zm8)).map (·.born)).Nodup
   rw [List.map_map];exact hgood.stamps) rfl ?_)
  ·exact qS
  refine ze hn za rfl qS ?_ ?_<;>intro hc<;>first | (replace hc:=qC2 hc;try exact qX) | exact qF2 hc | skip
  ·repeat' (first | (refine ze hn za rfl qS ?_ ?_<;>intro hc<;>first | (replace hc:=qC2 hc;try exact qX) | exact qF2 hc | skip) | refine zf hn za rfl qS ⟨_,rfl,?_⟩ | refine qK hn za rfl rfl (by (first | exact zaG _ _ | exact zG _ | exact zak _ | exact zU _ | assumption)) ?_)
   rw [hyes,decide_eq_false (fun h=>hc (h x0 hx0))];rfl
  ·refine zx hn za rfl ?_ ⟨y.push x0.2.2,⟨hit2,hmp2,fun x1 hx1 hin=>?_⟩,?_,?_⟩
   ·exact qS
   ·rw [Array.toList_push,List.mem_append,List.mem_singleton] at hin
    rcases hin with hin | hin
    ·exact hz x1 hx1 hin
    ·have:x1=x0:=znU hgood.stamps hx1 hx0 hin
     rw [this];exact hc
   ·exact left_shrinks _ _ _ he0
   ·refine zt [] qL ?_ rfl;repeat' (first | exact trivial | refine And.intro rfl ?_)
def zod (p:zn) (e:zz) (n:Int):Bool:=zay p e && decide (0≤n∧n<e.gs.length∧(e.gs.getD n.toNat zd).state=1)
theorem zjB (p:zn) (e:zz) (n:Int) (hs:(zeu e).length≤1048576):Con Tryz.prog 125 [.dagg (zQ p),.dagg (zad e),.dat (.int .i64 n)] (.dat (.bool (zod p e n))):=by
 refine zk (rs:=[(.tmp 6,4)]) za Tryz.func125 rfl rfl rfl (Nat.le_of_ble_eq_true rfl) fun ho x hn=>?_
 obtain ⟨hb1,hb2,hb3⟩:=zmB (ho (.dagg (zad e)) (by simp))
 have hk:=zez p e hs
 repeat' (first | (refine ze hn za rfl qS ?_ ?_<;>intro hc<;>first | (replace hc:=qC2 hc;try exact qX) | exact qF2 hc | skip) | refine zf hn za rfl qS ⟨_,rfl,?_⟩ | refine qK hn za rfl rfl (by assumption) ?_)
 all_goals (refine congrArg (fun b=>LV.dat (.bool b)) (Eq.symm ?_);rw [zod])
 all_goals first
  | (rw [hc,Bool.false_and])
  | (rw [decide_eq_false (by omega),Bool.and_false])
  | (rw [show zay p e=true by assumption,Bool.true_and];exact decide_eq_decide.2 (by omega))
def zu0 (p:zn) (e:zz) (n:Int):zaD:=zb p (e.gs.getD n.toNat zd)
def ztr (p:zn) (e:zz) (n:Int):List Int:=if (zu0 p e n).op=11 then zX e (p.sels.getD (zu0 p e n).a.toNat zh).cases else []
def zxq (p:zn) (e:zz) (n:Int):Nat:=max 1 (ztr p e n).length
end Go.Proofs.YtjmefaihkblliaaGreat.Ab
namespace Go.Proofs.YtjmefaihkblliaaGreat.Wd
open Go.RowKit
open Go.Proofs.YtjmefaihkblliaaGreat.Ab (zaj zax zaD zcZ zn zo zY zal zbl zW zz zbR)
set_option linter.unusedVariables false
set_option linter.unusedSimpArgs false
theorem ztf:Bri zdq Ab.zkw:=zik (zdd zsR (zdd zdI (zdd zdI (zdd zdI zdI)))) _
theorem zqu:Bri zbE Ab.zey:=zik (zdd (zgF ztf (by decide) _ 5 rfl Ab.zE) zdI) _
theorem zsl:Bri zcq Ab.zc7:=zik (zdd zdI (zdd zdI (zdd zdI zdI))) _
theorem ztD:Bri zc3 Ab.zt4:=zik (zgF zsl (by decide) _ 4 rfl Ab.zcL) _
theorem zpJ:Bri zd3 Ab.zQ:=zik (zdd (zgF zdI (by decide) _ 1 rfl 0) (zdd zdI (zdd (zgF zqu (by decide) _ 2 rfl Ab.zh) (zgF ztD (by decide) _ 1 rfl Ab.zby)))) _
theorem zpT:Bri zdP Ab.zpK:=zik (zdd zdI zdI) _
theorem zu2 {α:Type} {d:Rp α} {w w1:World} {bs:List Nat} {x:α} {cs:List Value} (hb:Below w.heap.size w w1) (ho:d.O w bs x cs):d.O w1 bs x cs:=d.O_keep (fun b hm=>hb.block b (d.O_lt ho b hm)) ho
theorem zrv {α:Type} {d:Rp α} {e:Nat} {w w1:World} {bs:List Nat} {v:Value} {xs:List α} (hb:Below w.heap.size w w1) (ho:d.Own e w bs v xs):d.Own e w1 bs v xs:=ho.keep fun b hm=>hb.block b (ho.lt b hm)
theorem zug {S:Nat→Prop} {w:World} {v:Value} {k:IntKind} {n:Int} (h:Ab.Rf S w v (.int k n)):v=.int k n:=by cases h;rfl
end Go.Proofs.YtjmefaihkblliaaGreat.Wd

/- Texts of one claim, joined: Wd, Opn, Ab0, Ab1, Ab2, Ab3, Ab4, Ab5, Ab6, Ab6b, Ab7, Ab8, Ab9, AbA, AbB. Conditions: zas each says. -/
import Derived.WalkKit
import Derived.Below
import Derived.Deep.LoopGhost
import Derived.Deep.QuietTactic
import Derived.BigQuiet
import Derived.KernelRfl
import Derived.RowKit
import Derived.RowKit3
import Derived.Lib.Hide
import Derived.Deep.OwnRows
import Derived.Laws.MakeOwn
import Derived.StillTailTactics
import Derived.DataReads
import Derived.ChangeArms
import Derived.ChangeReads
import Derived.ReadAgain
import Derived.ProofKit
import Derived.OpenShut
import Derived.ShutString
import Derived.ChangeOld
import Derived.SizedLaws
import Derived.ChangeKeysEq
import Derived.Laws.Cells
import Derived.Laws.CopyRow
import Derived.Laws.Tables
namespace Go.Proofs.YtjmefaihkblliaaGreat.Wd
open Go.RowKit
structure Rp (α:Type) where
 sz:Nat
 K:World→α→List Value→Prop
 O:World→List Nat→α→List Value→Prop
 K_len:∀ {w x cs},K w x cs→cs.length=sz
 K_one:∀ {w x cs},K w x cs→∀ u∈cs,u.oneCell'=true
 K_below:∀ {w w1:World} {x cs},Below w.heap.size w w1→K w x cs→K w1 x cs
 O_K:∀ {w bs x cs},O w bs x cs→K w x cs
 O_keep:∀ {w w1:World} {bs x cs},(∀ b∈bs,w1.heap[b]? = w.heap[b]?)→O w bs x cs→O w1 bs x cs
 O_lt:∀ {w:World} {bs x cs},O w bs x cs→∀ b∈bs,b<w.heap.size
namespace Rp
def scalar {α:Type} (enc:α→Value) (h1:∀ x,(enc x).oneCell'=true):Rp α where
 sz:=1
 K:=fun _ x cs=>cs=[enc x]
 O:=fun _ bs x cs=>bs=[]∧cs=[enc x]
 K_len:=fun h=>by rw [h];rfl
 K_one:=fun h u hu=>by rw [h] at hu;rw [List.mem_singleton.1 hu];exact h1 _
 K_below:=fun _ h=>h
 O_K:=fun h=>h.2
 O_keep:=fun _ h=>h
 O_lt:=fun h b hb=>by rw [h.1] at hb;cases hb
def int:Rp Int:=scalar (Value.int .i64) (fun _=>rfl)
def bool:Rp Bool:=scalar Value.bool (fun _=>rfl)
def str:Rp ByteArray:=scalar Value.string (fun _=>rfl)
def Row {α:Type} (d:Rp α) (w:World) (A:Option Addr) (xs:List α):Prop:=
 xs.length≤9223372036854775807∧(xs≠[]→∃ b o,A=some ⟨b,o,none⟩∧∀ i x,xs[i]? = some x→∃ cx,d.K w x cx∧∀ j u,cx[j]? = some u→w.cell? ⟨b,o+i*d.sz+j,none⟩=some u)
theorem Row.below {α:Type} {d:Rp α} {w w1:World} {A:Option Addr} {xs:List α} (h:d.Row w A xs) (hb:Below w.heap.size w w1):d.Row w1 A xs:=
 ⟨h.1,fun hne=>by
   obtain ⟨b,o,rfl,hc⟩:=h.2 hne
   refine ⟨b,o,rfl,fun i x hx=>?_⟩
   obtain ⟨cx,hk,hcc⟩:=hc i x hx
   exact ⟨cx,d.K_below hb hk,fun j u hu=>(hb.cell (World.block_lt_of_cell? w _ (hcc j u hu))).trans (hcc j u hu)⟩⟩
def seg (cur:List Value) (at_ n:Nat):List Value:=(cur.drop at_).take n
theorem seg_get {cur:List Value} {at_ n j:Nat} {u:Value} (h:(seg cur at_ n)[j]? = some u):cur[at_+j]? = some u:=by
 unfold seg at h
 rw [List.getElem?_take] at h
 split at h
 ·rw [List.getElem?_drop] at h;exact h
 ·cases h
def Own {α:Type} (d:Rp α) (e:Nat) (w:World) (bs:List Nat) (v:Value) (xs:List α):Prop:=
 (xs=[]∧bs=[]∧∃ A,v=.slice A 0 0)∨
 ∃ g o c cur bss,v=.slice (some ⟨g,o,none⟩) xs.length c∧bs=g::List.flatten bss∧bss.length=xs.length∧w.heap[g]? = some (.cells cur e (0,0))∧
   o+c*d.sz≤cur.size∧xs.length≤c∧c≤9223372036854775807∧∀ i x b,xs[i]? = some x→bss[i]? = some b→d.O w b x (seg cur.toList (o+i*d.sz) d.sz)
theorem Own.keep {α:Type} {d:Rp α} {e:Nat} {w w1:World} {bs:List Nat} {v:Value} {xs:List α} (hk:∀ b∈bs,w1.heap[b]? = w.heap[b]?) (h:d.Own e w bs v xs):d.Own e w1 bs v xs:=by
 rcases h with h | ⟨g,o,c,cur,bss,hv,rfl,hl,hg,hsz,h1,h2,hx⟩
 ·exact .inl h
 ·refine .inr ⟨g,o,c,cur,bss,hv,rfl,hl,(hk g List.mem_cons_self).trans hg,hsz,h1,h2,fun i x b hi hb=>?_⟩
  refine d.O_keep (fun b' hb'=>hk b' (List.mem_cons_of_mem _ ?_)) (hx i x b hi hb)
  exact List.mem_flatten.2 ⟨b,List.mem_of_getElem? hb,hb'⟩
theorem Own.lt {α:Type} {d:Rp α} {e:Nat} {w:World} {bs:List Nat} {v:Value} {xs:List α} (h:d.Own e w bs v xs):∀ b∈bs,b<w.heap.size:=by
 rcases h with ⟨_,rfl,_⟩ | ⟨g,o,c,cur,bss,hv,rfl,hl,hg,hsz,h1,h2,hx⟩
 ·intro b hb;cases hb
 ·intro b hb
  rcases List.mem_cons.1 hb with rfl | hb
  ·exact (Array.getElem?_eq_some_iff.1 hg).1
  ·obtain ⟨b',hb',hm⟩:=List.mem_flatten.1 hb
   obtain ⟨i,hi⟩:=List.mem_iff_getElem?.1 hb'
   have hlt:i<xs.length:=by rw [← hl];exact (List.getElem?_eq_some_iff.1 hi).1
   exact d.O_lt (hx i _ b' (List.getElem?_eq_getElem hlt) hi) b hm
theorem Own.row {α:Type} {d:Rp α} {e:Nat} {w:World} {bs:List Nat} {v:Value} {xs:List α} (h:d.Own e w bs v xs) :
 ∃ A c,v=.slice A xs.length c∧xs.length≤c∧d.Row w A xs:=by
 rcases h with ⟨rfl,_,A,rfl⟩ | ⟨g,o,c,cur,bss,rfl,rfl,hl,hg,hsz,h1,h2,hx⟩
 ·exact ⟨A,0,rfl,Nat.le_refl _,by simp,fun h=>absurd rfl h⟩
 ·refine ⟨_,c,rfl,h1,by omega,fun _=>⟨g,o,rfl,fun i x hi=>?_⟩⟩
  have hlt:i<bss.length:=by rw [hl];exact (List.getElem?_eq_some_iff.1 hi).1
  refine ⟨_,d.O_K (hx i x _ hi (List.getElem?_eq_getElem hlt)),fun j u hu=>?_⟩
  have:=seg_get hu
  simp only [World.cell?,hg]
  simpa using this
def slice {α:Type} (e:Nat) (d:Rp α):Rp (List α) where
 sz:=1
 K:=fun w xs cs=>∃ A c,cs=[.slice A xs.length c]∧xs.length≤c∧d.Row w A xs
 O:=fun w bs xs cs=>∃ v,cs=[v]∧d.Own e w bs v xs
 K_len:=by rintro w x cs ⟨A,c,rfl,_⟩;rfl
 K_one:=by rintro w x cs ⟨A,c,rfl,_⟩ u hu;rw [List.mem_singleton.1 hu];rfl
 K_below:=by rintro w w1 x cs hb ⟨A,c,rfl,hl,hr⟩;exact ⟨A,c,rfl,hl,hr.below hb⟩
 O_K:=by rintro w bs x cs ⟨v,rfl,h⟩;obtain ⟨A,c,rfl,h1,h2⟩:=h.row;exact ⟨A,c,rfl,h1,h2⟩
 O_keep:=by rintro w w1 bs x cs hk ⟨v,rfl,h⟩;exact ⟨v,rfl,h.keep hk⟩
 O_lt:=by rintro w bs x cs ⟨v,rfl,h⟩;exact h.lt
def pair {α β:Type} (a:Rp α) (b:Rp β):Rp (α×β) where
 sz:=a.sz+b.sz
 K:=fun w x cs=>∃ c0 c1,cs=c0++c1∧a.K w x.1 c0∧b.K w x.2 c1
 O:=fun w bs x cs=>∃ c0 c1 b0 b1,cs=c0++c1∧bs=b0++b1∧a.O w b0 x.1 c0∧b.O w b1 x.2 c1
 K_len:=by rintro w x cs ⟨c0,c1,rfl,h0,h1⟩;rw [List.length_append,a.K_len h0,b.K_len h1]
 K_one:=by
  rintro w x cs ⟨c0,c1,rfl,h0,h1⟩ u hu
  rcases List.mem_append.1 hu with hu | hu
  ·exact a.K_one h0 u hu
  ·exact b.K_one h1 u hu
 K_below:=by rintro w w1 x cs hb ⟨c0,c1,rfl,h0,h1⟩;exact ⟨c0,c1,rfl,a.K_below hb h0,b.K_below hb h1⟩
 O_K:=by rintro w bs x cs ⟨c0,c1,b0,b1,rfl,rfl,h0,h1⟩;exact ⟨c0,c1,rfl,a.O_K h0,b.O_K h1⟩
 O_keep:=by
  rintro w w1 bs x cs hk ⟨c0,c1,b0,b1,rfl,rfl,h0,h1⟩
  exact ⟨c0,c1,b0,b1,rfl,rfl,a.O_keep (fun b hb=>hk b (List.mem_append_left _ hb)) h0,b.O_keep (fun b hb=>hk b (List.mem_append_right _ hb)) h1⟩
 O_lt:=by
  rintro w bs x cs ⟨c0,c1,b0,b1,rfl,rfl,h0,h1⟩ k hk
  rcases List.mem_append.1 hk with hk | hk
  ·exact a.O_lt h0 k hk
  ·exact b.O_lt h1 k hk
def iso {α β:Type} (d:Rp α) (f:β→α):Rp β where
 sz:=d.sz
 K:=fun w x cs=>d.K w (f x) cs
 O:=fun w bs x cs=>d.O w bs (f x) cs
 K_len:=d.K_len
 K_one:=d.K_one
 K_below:=d.K_below
 O_K:=d.O_K
 O_keep:=d.O_keep
 O_lt:=d.O_lt
end Rp
/-! ### the world,step by step -/
theorem zwa {B:Nat} {w W:World} (h:Below B w W) (n:Nat):Below B w (W.drewN n):=⟨h.os,h.tape,h.output,h.size,h.block⟩
theorem zm1 {w W w1:World} (h1:Below W.heap.size W w1) (h:Below w.heap.size w W):Below w.heap.size w w1:=h.trans (h1.mono h.size)
theorem zwx {w W:World} (o:Obj) (h:Below w.heap.size w W):Below w.heap.size w (W.alloc o):=h.alloc h.size o
theorem zxh {w W:World} {p:Addr} (hp:w.heap.size≤p.block) (h:Below w.heap.size w W) (u:Value):Below w.heap.size w (W.setCell p u):=h.setCell hp u
theorem bel {w w':World} (h:Below w.heap.size w w':=by repeat (first | with_reducible exact Below.refl _ _ | with_reducible refine zwx _ ?_ | with_reducible refine Below.drew ?_ | with_reducible refine zwa ?_ _ | (with_reducible refine zxh ?_ ?_ _;focus (first | omega | (simp;done) | (simp;omega))) | with_reducible refine zm1 (by assumption) ?_)):Below w.heap.size w w':=h
theorem ziC {w wr w':World} (hb:Below w.heap.size w wr) (h2:Below wr.drew.heap.size wr.drew w'):Below w.heap.size w w':=hb.drew.trans (h2.mono hb.size)
theorem zbV {W w1:World} (hb:Below W.heap.size W w1):(∀ b o,b<W.heap.size→w1.cell? ⟨b,o,none⟩=W.cell? ⟨b,o,none⟩)∧(∀ b o,b<W.heap.size→w1.frozen? ⟨b,o,none⟩=W.frozen? ⟨b,o,none⟩):=
 ⟨fun b o h=>hb.cell (p:=⟨b,o,none⟩) h,fun b o h=>hb.frozen (p:=⟨b,o,none⟩) h⟩
theorem zaf {W w1:World} (hb:Below W.heap.size W w1) {a:Addr} {v:Value} (h:W.cell? a=some v):w1.cell? a=some v:=(hb.cell (World.block_lt_of_cell? W _ h)).trans h
theorem zrR {p:Prop} [Decidable p] (h:p):Ending.returned (.bool true)=.returned (.bool (decide p)):=by rw [decide_eq_true h]
theorem zli {p:Prop} [Decidable p] (h:¬ p):Ending.returned (.bool false)=.returned (.bool (decide p)):=by rw [decide_eq_false h]
theorem zfp {α:Type} {xs ys:List α} (hl:xs.length=ys.length) (h:∀ j,j<xs.length→xs[j]? = ys[j]?):xs=ys:=by
 apply List.ext_getElem?
 intro j
 by_cases hj:j<xs.length
 ·exact h j hj
 ·rw [List.getElem?_eq_none (by omega),List.getElem?_eq_none (by omega)]
theorem zxp {P:Nat→Prop} {a b:List Nat} (f:∀ x∈a,P x) (g:∀ x∈b,P x):∀ x∈a++b,P x:=fun x h=>(List.mem_append.1 h).elim (f x) (g x)
def szr (l:Int) (n:Nat):Int:=if (n:Int)≤l then l-n else -1
theorem zpw {l m:Int} {n:Nat} (h:(n:Int)≤l) (e:m=l-n):Ending.returned (.int .i64 m)=.returned (.int .i64 (szr l n)):=by unfold szr;rw [if_pos h,e]
theorem zjw {l:Int} {n:Nat} (h:¬ (n:Int)≤l):Ending.returned (.int .i64 (-1))=.returned (.int .i64 (szr l n)):=by unfold szr;rw [if_neg h]
theorem zeJ {P:Program} {f:Nat} {a:Array Value} {w:World} {l:Int} {n m:Nat} {Q:World→Prop} (h:Calls P f a w (fun e w'=>e=.returned (.int .i64 (szr l n))∧Q w')) (e:n=m) (hn:(m:Int)≤l) :
 Calls P f a w (fun e w'=>e=.returned (.int .i64 (l-(m:Int)))∧Q w'):=by subst e;unfold szr at h;rw [if_pos hn] at h;exact h
theorem zjC {P:Program} {f:Nat} {a:Array Value} {w:World} {l:Int} {n m:Nat} {Q:World→Prop} (h:Calls P f a w (fun e w'=>e=.returned (.int .i64 (szr l n))∧Q w')) (e:n=m) (hn:¬ (m:Int)≤l) :
 Calls P f a w (fun e w'=>e=.returned (.int .i64 (-1))∧Q w'):=by subst e;unfold szr at h;rw [if_neg hn] at h;exact h
/-! ### a block of one's own,written -/
def zgy (w:World) (g at_:Nat):List Value→World
 | []=>w
 | u::us=>zgy (w.setCell ⟨g,at_,none⟩ u) g (at_+1) us
def zcM (cur:Array Value) (at_:Nat):List Value→Array Value
 | []=>cur
 | u::us=>zcM (cur.setIfInBounds at_ u) (at_+1) us
theorem zpc (cur:Array Value) (at_:Nat) (us:List Value):(zcM cur at_ us).size=cur.size:=by
 induction us generalizing cur at_ with
 | nil=>rfl
 | cons u us ih=>rw [zcM,ih];simp
theorem zmh (cur:Array Value) (at_:Nat) (us:List Value) (h:at_+us.length≤cur.size) (j:Nat) :
 (zcM cur at_ us)[j]? = if at_≤j∧j<at_+us.length then us[j-at_]? else cur[j]?:=by
 induction us generalizing cur at_ with
 | nil=>rw [zcM,if_neg (by simp)]
 | cons u us ih=>
   simp only [List.length_cons] at h ⊢
   rw [zcM,ih _ _ (by simp;omega)]
   by_cases h1:at_+1≤j∧j<at_+1+us.length
   ·rw [if_pos h1,if_pos (by omega),show j-at_=(j-(at_+1))+1 by omega,List.getElem?_cons_succ]
   ·rw [if_neg h1]
    by_cases h2:j=at_
    ·subst h2
     rw [if_pos (by omega),Nat.sub_self,List.getElem?_cons_zero,Array.getElem?_setIfInBounds_self_of_lt (by omega)]
    ·rw [if_neg (by omega),Array.getElem?_setIfInBounds_ne (by omega)]
theorem zrs {l m:List Value} {a b n:Nat} (h:∀ j,j<n→l[a+j]? = m[b+j]?):Rp.seg l a n=Rp.seg m b n:=by
 unfold Rp.seg
 apply List.ext_getElem?
 intro j
 by_cases hj:j<n
 ·rw [List.getElem?_take_of_lt hj,List.getElem?_take_of_lt hj,List.getElem?_drop,List.getElem?_drop];exact h j hj
 ·rw [List.getElem?_eq_none (by simp;omega),List.getElem?_eq_none (by simp;omega)]
theorem zlf (cur:Array Value) (at_:Nat) (us:List Value) (h:at_+us.length≤cur.size):Rp.seg (zcM cur at_ us).toList at_ us.length=us:=by
 have:Rp.seg (zcM cur at_ us).toList at_ us.length=Rp.seg us 0 us.length:=zrs fun j hj=>by
  rw [Array.getElem?_toList,zmh _ _ _ h,if_pos (by omega),Nat.add_sub_cancel_left,Nat.zero_add]
 rw [this];simp [Rp.seg]
theorem zj4 (cur:Array Value) (at_:Nat) (us:List Value) (h:at_+us.length≤cur.size) (a n:Nat) (hd:a+n≤at_∨at_+us.length≤a):Rp.seg (zcM cur at_ us).toList a n=Rp.seg cur.toList a n:=
 zrs fun j hj=>by rw [Array.getElem?_toList,zmh _ _ _ h,if_neg (by omega),Array.getElem?_toList]
theorem zob {w:World} {g e:Nat} {cur:Array Value} (h:w.heap[g]? = some (.cells cur e (0,0))) (at_:Nat) (us:List Value):(zgy w g at_ us).heap[g]? = some (.cells (zcM cur at_ us) e (0,0)):=by
 induction us generalizing w cur at_ with
 | nil=>exact h
 | cons u us ih=>
   refine ih (w:=w.setCell ⟨g,at_,none⟩ u) (cur:=cur.setIfInBounds at_ u) ?_ (at_+1)
   simp only [World.setCell,Array.getElem?_modify,if_pos,h,Option.map_some]
   simp
theorem zhT (w:World) (g at_:Nat) (us:List Value) (b:Nat) (hb:b≠g):(zgy w g at_ us).heap[b]? = w.heap[b]?:=by
 induction us generalizing w at_ with
 | nil=>rfl
 | cons u us ih=>rw [zgy,ih];exact Below.heap_setCell _ _ _ _ hb
theorem zcF {w:World} {g e:Nat} {cur:Array Value} (h:w.heap[g]? = some (.cells cur e (0,0))) {j:Nat} (hj:j<cur.size):w.cell? ⟨g,j,none⟩=some (cur[j]'hj)∧w.frozen? ⟨g,j,none⟩=false:=by
 constructor
 ·simp [World.cell?,h,hj]
 ·simp [World.frozen?,h]
/-! ### what stays zas it is from block n on -/
structure Kf (n:Nat) (w w1:World):Prop where
 le:w.heap.size≤w1.heap.size
 at_:∀ b,n≤b→b<w.heap.size→w1.heap[b]? = w.heap[b]?
theorem Kf.refl (n:Nat) (w:World):Kf n w w:=⟨Nat.le_refl _,fun _ _ _=>rfl⟩
theorem Kf.via {n:Nat} {w W w1:World} (hb:Below W.heap.size W w1) (h:Kf n w W):Kf n w w1:=⟨Nat.le_trans h.le hb.size,fun b h1 h2=>(hb.block b (Nat.lt_of_lt_of_le h2 h.le)).trans (h.at_ b h1 h2)⟩
theorem Kf.alloc {n:Nat} {w W:World} (o:Obj) (h:Kf n w W):Kf n w (W.alloc o):=⟨Nat.le_trans h.le (by simp),fun b h1 h2=>(Below.heap_alloc _ _ _ (Nat.lt_of_lt_of_le h2 h.le)).trans (h.at_ b h1 h2)⟩
theorem Kf.drew {n:Nat} {w W:World} (h:Kf n w W):Kf n w W.drew:=⟨h.le,h.at_⟩
theorem Kf.drewN {n:Nat} {w W:World} (h:Kf n w W) (k:Nat):Kf n w (W.drewN k):=⟨h.le,h.at_⟩
theorem Kf.set {n:Nat} {w W:World} {p:Addr} (hp:p.block<n) (h:Kf n w W) (u:Value):Kf n w (W.setCell p u):=⟨Nat.le_trans h.le (by simp),fun b h1 h2=>(Below.heap_setCell _ _ _ _ (by omega)).trans (h.at_ b h1 h2)⟩
theorem kep {n:Nat} {w w':World} (h:Kf n w w':=by repeat (first | with_reducible exact Kf.refl _ _ | with_reducible refine Kf.alloc _ ?_ | with_reducible refine Kf.drew ?_ | with_reducible refine Kf.drewN ?_ _ | (with_reducible refine Kf.set ?_ ?_ _;focus (first | omega | (simp;done) | (simp;omega))) | with_reducible refine Kf.via (by assumption) ?_)):Kf n w w':=h
/-! ### own rows,filled one by one -/
def zcd (w:World) (bs:List Nat):Prop:=bs.Nodup∧∀ b∈bs,w.heap.size≤b
theorem zh9 (w:World):zcd w []:=⟨List.nodup_nil,fun b h=>by cases h⟩
theorem zcd.own {α:Type} {d:Rp α} {e:Nat} {W w w1:World} {bs:List Nat} {v:Value} {xs:List α} (hf:zcd W bs) (ho:d.Own e w bs v xs) (hk:Kf W.heap.size w w1:=by exact kep):d.Own e w1 bs v xs:=
 ho.keep fun b hb=>hk.at_ b (hf.2 b hb) (ho.lt b hb)
theorem zcd.O {α:Type} {d:Rp α} {W w w1:World} {bs:List Nat} {x:α} {cs:List Value} (hf:zcd W bs) (ho:d.O w bs x cs) (hk:Kf W.heap.size w w1:=by exact kep):d.O w1 bs x cs:=
 d.O_keep (fun b hb=>hk.at_ b (hf.2 b hb) (d.O_lt ho b hb)) ho
theorem zcd.sub {w W:World} {bs:List Nat} (h:zcd W bs) (hb:Below w.heap.size w W:=by exact bel):zcd w bs:=⟨h.1,fun b hm=>Nat.le_trans hb.size (h.2 b hm)⟩
theorem zcd.app {w W:World} {b0 b1:List Nat} (h0:zcd w b0) (hl:∀ b∈b0,b<W.heap.size) (h1:zcd W b1) (hb:Below w.heap.size w W:=by exact bel):zcd w (b0++b1):=
 ⟨List.nodup_append.2 ⟨h0.1,h1.1,fun p hp q hq=>by have:=hl p hp;have:=h1.2 q hq;omega⟩,fun b hm=>by
   rcases List.mem_append.1 hm with hm | hm
   ·exact h0.2 b hm
   ·exact Nat.le_trans hb.size (h1.2 b hm)⟩
structure zbN {α:Type} (d:Rp α) (e:Nat) (w0 w:World) (g n:Nat) (xs:List α) (cur:Array Value) (bss:List (List Nat)):Prop where
 blk:w.heap[g]? = some (.cells cur e (0,0))
 size:cur.size=n*d.sz
 le:xs.length≤n
 len:bss.length=xs.length
 el:∀ k x b,xs[k]? = some x→bss[k]? = some b→d.O w b x (Rp.seg cur.toList (k*d.sz) d.sz)
 nd:(g::bss.flatten).Nodup
 fr:∀ b∈g::bss.flatten,w0.heap.size≤b
theorem zbN.lt {α:Type} {d:Rp α} {e:Nat} {w0 w:World} {g n:Nat} {xs:List α} {cur:Array Value} {bss:List (List Nat)} (h:zbN d e w0 w g n xs cur bss):∀ b∈g::bss.flatten,b<w.heap.size:=by
 intro b hb
 rcases List.mem_cons.1 hb with rfl | hb
 ·exact (Array.getElem?_eq_some_iff.1 h.blk).1
 ·obtain ⟨b',hb',hm⟩:=List.mem_flatten.1 hb
  obtain ⟨i,hi⟩:=List.mem_iff_getElem?.1 hb'
  have hlt:i<xs.length:=by rw [← h.len];exact (List.getElem?_eq_some_iff.1 hi).1
  exact d.O_lt (h.el i _ b' (List.getElem?_eq_getElem hlt) hi) b hm
theorem zbN.start {α:Type} (d:Rp α) (e:Nat) {w0 w:World} (hb:w0.heap.size≤w.heap.size) (n:Nat) (cs:Array Value) (hs:cs.size=n*d.sz):zbN d e w0 (w.alloc (.cells cs e)) w.heap.size n ([]:List α) cs []:=
 ⟨by show (w.heap.push _)[w.heap.size]? = _;simp,hs,Nat.zero_le _,rfl,fun k x b hk=>by simp at hk,by simp,fun b h=>by simp at h;omega⟩
theorem zbN.below {α:Type} {d:Rp α} {e:Nat} {w0 w w1:World} {g n:Nat} {xs:List α} {cur:Array Value} {bss:List (List Nat)} (h:zbN d e w0 w g n xs cur bss) (hb:Below w.heap.size w w1):zbN d e w0 w1 g n xs cur bss:=
 ⟨(hb.block g (h.lt g List.mem_cons_self)).trans h.blk,h.size,h.le,h.len,fun k x b hk hbk=>d.O_keep (fun b' hb'=>hb.block b' (h.lt b' (List.mem_cons_of_mem _ (List.mem_flatten.2 ⟨b,List.mem_of_getElem? hbk,hb'⟩)))) (h.el k x b hk hbk),h.nd,h.fr⟩
theorem zbN.push {α:Type} {d:Rp α} {e:Nat} {w0 w1 w:World} {g n:Nat} {xs:List α} {cur:Array Value} {bss:List (List Nat)} (h:zbN d e w0 w1 g n xs cur bss) (hb:Below w1.heap.size w1 w) (hn:xs.length<n)
 {x:α} {b:List Nat} {cs:List Value} (hx:d.O w b x cs) (hfr:zcd w1 b):zbN d e w0 (zgy w g (xs.length*d.sz) cs) g n (xs++[x]) (zcM cur (xs.length*d.sz) cs) (bss++[b]):=by
 have hw:=h.below hb
 have hcl:cs.length=d.sz:=d.K_len (d.O_K hx)
 have hsz:xs.length*d.sz+cs.length≤cur.size:=by
  rw [hcl,h.size,← Nat.succ_mul];exact Nat.mul_le_mul_right _ hn
 have hgb:∀ k∈b,k≠g:=fun k hk hkg=>by
  subst hkg
  have:=h.lt k List.mem_cons_self
  have:=hfr.2 k hk
  omega
 refine ⟨zob hw.blk _ _,by rw [zpc];exact h.size,by simp;omega,by simp [h.len],fun k y bk hk hbk=>?_,?_,?_⟩
 ·rcases Nat.lt_or_ge k xs.length with hlt | hge
  ·rw [List.getElem?_append_left hlt] at hk
   rw [List.getElem?_append_left (by rw [h.len];exact hlt)] at hbk
   rw [zj4 _ _ _ hsz _ _ (.inl (by rw [← Nat.succ_mul];exact Nat.mul_le_mul_right _ hlt))]
   refine d.O_keep (fun b' hb'=>zhT _ _ _ _ _ ?_) (hw.el k y bk hk hbk)
   rintro rfl
   exact (List.nodup_cons.1 h.nd).1 (List.mem_flatten.2 ⟨bk,List.mem_of_getElem? hbk,hb'⟩)
  ·rw [List.getElem?_append_right hge] at hk
   rw [List.getElem?_append_right (by rw [h.len];exact hge)] at hbk
   obtain ⟨hk0,rfl⟩:k-xs.length=0∧x=y:=by
    rcases hkk:k-xs.length with _ | m
    ·rw [hkk] at hk;simp at hk;exact ⟨rfl,hk⟩
    ·rw [hkk] at hk;simp at hk
   rw [h.len,hk0] at hbk
   simp at hbk
   subst hbk
   have hkx:k=xs.length:=by omega
   subst hkx
   have hss:=zlf cur (xs.length*d.sz) cs hsz
   rw [hcl] at hss
   rw [hss]
   exact d.O_keep (fun b' hb'=>zhT _ _ _ _ _ (hgb b' hb')) hx
 ·rw [List.flatten_append,← List.cons_append]
  simp only [List.flatten_cons,List.flatten_nil,List.append_nil]
  refine List.nodup_append.2 ⟨h.nd,hfr.1,fun p hp q hq=>?_⟩
  have:=h.lt p hp
  have:=hfr.2 q hq
  omega
 ·intro q hq
  rw [List.flatten_append] at hq
  simp only [List.flatten_cons,List.flatten_nil,List.append_nil,List.mem_cons,List.mem_append] at hq
  rcases hq with rfl | hq | hq
  ·exact h.fr _ List.mem_cons_self
  ·exact h.fr q (List.mem_cons_of_mem _ hq)
  ·have:=hfr.2 q hq
   have:=h.lt g List.mem_cons_self
   have:=h.fr g List.mem_cons_self
   omega
theorem zbN.own {α:Type} {d:Rp α} {e:Nat} {w0 w:World} {g n:Nat} {xs:List α} {cur:Array Value} {bss:List (List Nat)} (h:zbN d e w0 w g n xs cur bss) (hn:xs.length=n) (hm:n≤9223372036854775807) :
 d.Own e w (g::bss.flatten) (.slice (some ⟨g,0,none⟩) n n) xs∧zcd w0 (g::bss.flatten):=by
 subst hn
 refine ⟨.inr ⟨g,0,_,cur,bss,rfl,rfl,h.len,h.blk,by rw [h.size];omega,Nat.le_refl _,hm,fun i x b hi hb=>?_⟩,h.nd,h.fr⟩
 rw [Nat.zero_add]
 exact h.el i x b hi hb
theorem zbN.next {α:Type} {d:Rp α} {e:Nat} {w0 w1 w:World} {g n i:Nat} {xs:List α} {cur:Array Value} {bss:List (List Nat)} (h:Hid (zbN d e w0 w1 g n (xs.take i) cur bss)) (hlt:i<xs.length) (hn:i<n) (hb:Below w1.heap.size w1 w)
 {b:List Nat} {cs:List Value} (hx:d.O w b xs[i] cs) (hfr:zcd w1 b) {at_:Nat} (hat:i*d.sz=at_):∃ cur' bss',Hid (zbN d e w0 (zgy w g at_ cs) g n (xs.take (i+1)) cur' bss'):=by
 have htl:(xs.take i).length=i:=by rw [List.length_take];omega
 have:=h.out.push hb (by omega) hx hfr
 rw [htl,hat,← List.take_succ_eq_append_getElem hlt] at this
 exact ⟨_,_,Lib.hid this⟩
theorem zbN.cell {α:Type} {d:Rp α} {e:Nat} {w0 w1 w:World} {g n:Nat} {xs:List α} {cur:Array Value} {bss:List (List Nat)} (h:Hid (zbN d e w0 w1 g n xs cur bss)) (hb:Below w1.heap.size w1 w) {i:Nat} (hi:i<n) (j:Nat) (hj:j<d.sz) {at_:Nat} (hat:i*d.sz+j=at_) :
 ∃ u,w.cell? ⟨g,at_,none⟩=some u∧w.frozen? ⟨g,at_,none⟩=false:=by
 have h2:=h.out.below hb
 have:at_<cur.size:=by
  rw [h2.size,← hat]
  have:=Nat.mul_le_mul_right d.sz (Nat.succ_le_of_lt hi)
  rw [Nat.succ_mul] at this
  omega
 exact ⟨_,zcF h2.blk this⟩
theorem zbN.init {α:Type} (d:Rp α) (e:Nat) (w:World) (xs:List α) (n:Nat) (cs:Array Value) (hs:cs.size=n*d.sz):∃ cur' bss',Hid (zbN d e w (w.alloc (.cells cs e)) w.heap.size n (xs.take 0) cur' bss'):=⟨_,_,Lib.hid (zbN.start d e (Nat.le_refl _) n cs hs)⟩
theorem zbN.fin {α:Type} {d:Rp α} {e:Nat} {w0 w:World} {g n i:Nat} {xs:List α} {cur:Array Value} {bss:List (List Nat)} (h:Hid (zbN d e w0 w g n (xs.take i) cur bss)) (hi:i=xs.length) (hn:xs.length=n) (hm:n≤1048576) :
 ∃ bs,d.Own e w bs (.slice (some ⟨g,0,none⟩) n n) xs∧zcd w0 bs:=by
 subst hi
 have h2:=h.out
 rw [List.take_length] at h2
 exact ⟨_,h2.own hn (by omega)⟩
theorem znK {P:Program} (t e:TypeId) (sz bytes:Nat) (z:Value) (ht:P.underlying t=some (.slice e)) (hinfo:(P.info? e).map (fun i=>(i.zero,i.size,i.bytes))=some (some z,sz,bytes))
 (m:Nat) (hm:bytes*m≤281474976710656) (h63:m≤9223372036854775807):∀ W:World,(Instr.makeSlice t (.int .i64 (m:Int)) (.int .i64 (m:Int))).run P W=.ok (.slice (some ⟨W.heap.size,0,none⟩) m m) (W.alloc (.cells (madeCells z.cells (m*sz)) e)):=by
 intro W
 obtain ⟨i0,hi,hzz⟩:=Option.map_eq_some_iff.1 hinfo
 simp only [Prod.mk.injEq] at hzz
 obtain ⟨hz0,hz1,hz2⟩:=hzz
 have hr:=run_make (P:=P) W t e i0 z ht hi hz0 .i64 .i64 (m:Int) (m:Int) (by omega) (by omega)
  (by
    have h3:((i0.bytes*m:Nat):Int)≤281474976710656:=by rw [hz2];omega
    rwa [Int.natCast_mul] at h3) (by omega)
 simp only [Int.toNat_natCast] at hr
 rw [hz1] at hr
 exact hr
end Go.Proofs.YtjmefaihkblliaaGreat.Wd
namespace Go.Proofs.YtjmefaihkblliaaGreat.Wd
open Go.RowKit
set_option linter.unusedVariables false
set_option linter.unusedSimpArgs false
def zfy {α:Type} (P:Program) (t:TypeId) (d:Rp α) (R:α→Prop):Prop:=
 ∀ (H:Type) (enc:TypeId×Value→H) (w:World) (fuel:Nat) (cs:List Value) (x:DataW H×List MemPlace),DataW.trod enc P w 0 (fun _=>true) true fuel t cs=some x→∃ a,d.K w a cs∧R a
def Any {α:Type} (_:α):Prop:=True
def Wf (n:Int):Prop:=(Lit.int .i64 n).wf=true
theorem zcu {P:Program} {t:TypeId} (ht:P.underlying t=some (.int .i64)):zfy P t Rp.int Wf:=by
 intro H enc w fuel cs x h
 obtain ⟨n,rfl,_,hw⟩:=DataW.trod_int ht h
 exact ⟨n,rfl,hw⟩
theorem zqj {P:Program} {t:TypeId} (ht:P.underlying t=some .bool):zfy P t Rp.bool Any:=by
 intro H enc w fuel cs x h
 obtain ⟨b,rfl,_⟩:=DataW.trod_bool ht h
 exact ⟨b,rfl,trivial⟩
theorem zrC {α:Type} {p:Nat→α→Prop}:∀ (n:Nat),(∀ i,i<n→∃ x,p i x)→∃ xs:List α,xs.length=n∧∀ i x,xs[i]? = some x→p i x
 | 0,_=>⟨[],rfl,fun i x h=>by simp at h⟩
 | n+1,h=>by
   obtain ⟨xs,hl,hx⟩:=zrC n (fun i hi=>h i (by omega))
   obtain ⟨y,hy⟩:=h n (by omega)
   refine ⟨xs++[y],by simp [hl],fun i x hi=>?_⟩
   rcases Nat.lt_or_ge i xs.length with hlt | hge
   ·rw [List.getElem?_append_left hlt] at hi;exact hx i x hi
   ·rw [List.getElem?_append_right hge] at hi
    rcases hk:i-xs.length with _ | m
    ·rw [hk] at hi;simp at hi;subst hi;have:i=n:=by omega
     subst this;exact hy
    ·rw [hk] at hi;simp at hi
theorem zcA (b o i:Nat):(⟨b,o,none⟩:Addr).add i=⟨b,o+i,none⟩:=by unfold Addr.add;split<;>simp_all
theorem zsh {a:Addr} {w:World} {v:Value} (h:w.cell? a=some v):a.spot=none:=by
 obtain ⟨b,o,s⟩:=a
 cases s with
 | none=>rfl
 | some z=>unfold World.cell? at h;split at h<;>simp_all
theorem znF (a:Addr):a.add 0=a:=by unfold Addr.add;simp
theorem zen {α:Type} {P:Program} {t e e':TypeId} {d:Rp α} {R:α→Prop} (ht:P.underlying t=some (.slice e)) (hsz:P.cellsOf e=d.sz) (hpos:0<d.sz) (ho:zfy P e d R):zfy P t (Rp.slice e' d) (fun xs=>∀ x∈xs,R x):=by
 intro H enc w fuel cs x h
 cases fuel with
 | zero=>simp [DataW.trod] at h
 | succ n=>
   unfold DataW.trod at h
   rw [ht] at h
   split at h<;>simp_all only [Option.some.injEq,TypeDesc.slice.injEq,reduceCtorEq]
   ·exact ⟨[],⟨none,0,rfl,Nat.le_refl _,by simp,fun h=>absurd rfl h⟩,fun x hx=>by cases hx⟩
   ·rename_i e2 a len cap he
    subst he
    split at h
    ·rename_i hc
     simp only [Option.map_eq_some_iff,Option.bind_eq_some_iff] at h
     obtain ⟨elems,hel,zd9,hrest,rfl⟩:=h
     have hlen:elems.length=len:=by simpa using mapM_some_length hel
     have each:∀ i,i<len→∃ y:α,(∃ ci,w.cells? 0 (a.add (i*d.sz)) d.sz=some ci∧d.K w y ci)∧R y:=by
      intro i hi
      have h1:=mapM_some_get hel i i (by simp [hi])
      rw [List.getElem?_eq_getElem (by omega)] at h1
      simp only [Option.bind_eq_some_iff] at h1
      obtain ⟨ci,hci,hy⟩:=h1
      obtain ⟨y,hk,hr⟩:=ho H enc w n ci _ hy
      exact ⟨y,⟨ci,hci,hk⟩,hr⟩
     obtain ⟨xs,hxl,hxs⟩:=zrC len each
     subst hxl
     refine ⟨xs,⟨some a,cap,rfl,hc.2.1,by have:=hc.2.1;have:=hc.2.2;simp only [maxLen] at this;omega,fun hne=>?_⟩,fun x hx=>?_⟩
     ·have hp:0<xs.length:=List.length_pos_iff.2 hne
      have hsp:a.spot=none:=by
       obtain ⟨⟨ci,hci,hk⟩,_⟩:=hxs 0 _ (List.getElem?_eq_getElem hp)
       obtain ⟨_,hl,hcc⟩:=World.cells?_some hci
       have h0:=hcc 0 hpos
       rw [List.getElem?_eq_getElem (by omega),Nat.zero_mul,znF,znF] at h0
       exact zsh h0
      refine ⟨a.block,a.off,by obtain ⟨b,o,s⟩:=a;simp at hsp;rw [hsp],fun i x hx=>?_⟩
      obtain ⟨⟨ci,hci,hk⟩,_⟩:=hxs i x hx
      obtain ⟨_,hl,hcc⟩:=World.cells?_some hci
      refine ⟨ci,hk,fun j u hj=>?_⟩
      have hjl:j<d.sz:=by rw [← hl];exact (List.getElem?_eq_some_iff.1 hj).1
      have h0:=hcc j hjl
      rw [hj] at h0
      obtain ⟨b,o,s⟩:=a
      simp at hsp
      subst hsp
      rw [zcA,zcA] at h0
      exact h0
     ·obtain ⟨i,hi⟩:=List.mem_iff_getElem?.1 hx
      exact (hxs i x hi).2
    ·cases h
def zov {α:Type} (P:Program) (fs:List Field) (off:Nat) (d:Rp α) (R:α→Prop):Prop:=
 ∀ (H:Type) (enc:TypeId×Value→H) (w:World) (fuel:Nat) (cs:List Value),cs.length=off+d.sz→(∀ f∈fs,∃ x,DataW.trod enc P w 0 (fun _=>true) true fuel f.type ((cs.drop f.offset).take (P.cellsOf f.type))=some x)→∃ a,d.K w a (cs.drop off)∧R a
theorem zej {α:Type} {P:Program} {f:Field} {off:Nat} {d:Rp α} {R:α→Prop} (ho:zfy P f.type d R) (hoff:f.offset=off) (hsz:P.cellsOf f.type=d.sz):zov P [f] off d R:=by
 intro H enc w fuel cs hl h
 obtain ⟨x,hx⟩:=h f List.mem_cons_self
 rw [hoff,hsz,List.take_of_length_le (by simp;omega)] at hx
 exact ho H enc w fuel _ x hx
theorem zbX {α β:Type} {P:Program} {f:Field} {fs:List Field} {off:Nat} {d:Rp α} {d':Rp β} {R:α→Prop} {R':β→Prop} (ho:zfy P f.type d R) (hoff:f.offset=off) (hsz:P.cellsOf f.type=d.sz) (hr:zov P fs (off+d.sz) d' R') :
 zov P (f::fs) off (Rp.pair d d') (fun x=>R x.1∧R' x.2):=by
 intro H enc w fuel cs hl h
 have hl':cs.length=off+(d.sz+d'.sz):=hl
 obtain ⟨x,hx⟩:=h f List.mem_cons_self
 rw [hoff,hsz] at hx
 obtain ⟨a,ha,ra⟩:=ho H enc w fuel _ x hx
 obtain ⟨b,hb,rb⟩:=hr H enc w fuel cs (by omega) (fun g hg=>h g (List.mem_cons_of_mem _ hg))
 refine ⟨(a,b),⟨(cs.drop off).take d.sz,cs.drop (off+d.sz),?_,ha,hb⟩,ra,rb⟩
 rw [← List.drop_drop,List.take_append_drop]
theorem zdC {α β:Type} {P:Program} {t:TypeId} {fs:Array Field} {d:Rp α} {R:α→Prop} {f:β→α} (ht:P.underlying t=some (.struct fs)) (hsz:P.cellsOf t=d.sz) (ho:zov P fs.toList 0 d R) (g:α→β) (hg:∀ a,f (g a)=a) :
 zfy P t (Rp.iso d f) (fun x=>R (f x)):=by
 intro H enc w fuel cs x h
 obtain ⟨xs,n,rfl,_,hl,hxl,hx⟩:=DataW.trod_struct ht h
 obtain ⟨a,ha,ra⟩:=ho H enc w n cs (by omega) (fun f hf=>by
  obtain ⟨i,hi⟩:=List.mem_iff_getElem?.1 hf
  rw [Array.getElem?_toList] at hi
  have:=hx i f hi
  rw [List.getElem?_eq_getElem (by rw [hxl];exact (Array.getElem?_eq_some_iff.1 hi).1)] at this
  exact ⟨_,this⟩)
 refine ⟨g a,?_,by show R (f (g a));rw [hg];exact ra⟩
 show d.K w (f (g a)) cs
 rw [hg]
 simpa using ha
theorem ztW {α:Type} {P:Program} {t:TypeId} {fs:Array Field} {d:Rp α} {R:α→Prop} {H:Type} {enc:TypeId×Value→H} {w:World} {r:Reach} {b0:Nat} {v:Value} {x:DataW H} {ps:List MemPlace} (ht:P.underlying t=some (.struct fs)) (ho:zfy P t d R)
 (hv:Value.okWide P w r b0 t v) (h:DataW.Trod enc P w 0 (fun _=>true) true t v x ps):∃ (cs:List Value) (a:α),v=.agg cs.toArray∧d.K w a cs∧R a:=by
 obtain ⟨cs,rfl,hsz⟩:=WideShapes.okWide_struct ht hv
 obtain ⟨fuel,hf⟩:=h
 obtain ⟨a,ha,ra⟩:=ho H enc w fuel _ _ hf
 exact ⟨cs.toList,a,by simp,by simpa [Value.cells] using ha,ra⟩
theorem zrU {α:Type} {P:Program} {t e:TypeId} {d:Rp α} {R:α→Prop} {H:Type} {enc:TypeId×Value→H} {w:World} {r:Reach} {b0:Nat} {v:Value} {x:DataW H} {ps:List MemPlace} (ht:P.underlying t=some (.slice e)) (ho:zfy P t d R)
 (hv:Value.okWide P w r b0 t v) (h:DataW.Trod enc P w 0 (fun _=>true) true t v x ps):∃ a:α,d.K w a [v]∧R a:=by
 obtain ⟨fuel,hf⟩:=h
 obtain ⟨a,ha,ra⟩:=ho H enc w fuel _ _ hf
 obtain ⟨A,n,c,rfl⟩:=WideShapes.okWide_slice ht hv
 exact ⟨a,ha,ra⟩
end Go.Proofs.YtjmefaihkblliaaGreat.Wd
namespace Go.Proofs.YtjmefaihkblliaaGreat.Ab
open Go.RowKit
set_option linter.unusedVariables false
set_option linter.unusedSimpArgs false
inductive C:Type 1 where
 | int (k:IntKind) (n:Int)
 | bool (b:Bool)
 | str (s:ByteArray)
 | sl (z:Nat) {α:Type} (d:α) (f:α→List C) (xs:List α)
 | val (v:Value)
inductive Rf (S:Nat→Prop) (w:World):Value→C→Prop where
 | int (k:IntKind) (n:Int):Rf S w (.int k n) (.int k n)
 | bool (b:Bool):Rf S w (.bool b) (.bool b)
 | str (s:ByteArray):Rf S w (.string s) (.str s)
 | val (v:Value) (h:v.oneCell'=true):Rf S w v (.val v)
 | nil (A:Option Addr) (c z:Nat) {α:Type} (d:α) (f:α→List C):Rf S w (.slice A 0 c) (.sl z d f [])
 | row (b o c z n:Nat) {α:Type} (d:α) (f:α→List C) (xs:List α) (us:Nat→Nat→Value) (hn:n=xs.length) (hne:0<xs.length) (hz:0<z) (hc:xs.length≤c) (hm:c≤9223372036854775807) (hS:¬ S b)
    (hl:∀ x∈xs,(f x).length=z)
    (hu:∀ i x j q,xs[i]? = some x→(f x)[j]? = some q→w.cell? ⟨b,o+i*z+j,none⟩=some (us i j))
    (hr:∀ i x j q,xs[i]? = some x→(f x)[j]? = some q→Rf S w (us i j) q):Rf S w (.slice (some ⟨b,o,none⟩) n c) (.sl z d f xs)
structure zfw (S:Nat→Prop) (w w1:World):Prop where
 size:w.heap.size≤w1.heap.size
 at_:∀ k,k<w.heap.size→¬ S k→w1.heap[k]? = w.heap[k]?
theorem zfw.refl (S:Nat→Prop) (w:World):zfw S w w:=⟨Nat.le_refl _,fun _ _ _=>rfl⟩
theorem zfw.cell {S:Nat→Prop} {w w1:World} (h:zfw S w w1) {b o:Nat} {u:Value} (hS:¬ S b) (hc:w.cell? ⟨b,o,none⟩=some u):w1.cell? ⟨b,o,none⟩=some u:=
 (World.cell?_of_block (a:=⟨b,o,none⟩) (h.at_ b (World.block_lt_of_cell? w _ hc) hS)).trans hc
theorem Rf.move {S S1:Nat→Prop} {w w1:World} {v:Value} {c:C} (h:Rf S w v c) (hs:zfw S w w1) (h1:∀ k,S1 k→k<w.heap.size→S k):Rf S1 w1 v c:=by
 induction h with
 | int k n=>exact .int k n
 | bool b=>exact .bool b
 | str s=>exact .str s
 | val v h=>exact .val v h
 | nil A c z d f=>exact .nil A c z d f
 | row b o c z n d f xs us hn hne hz hc hm hS hl hu hr ih=>
   have hb:b<w.heap.size:=by
    have hx:=List.getElem?_eq_getElem hne
    have hl0:=hl _ (List.mem_of_getElem? hx)
    exact World.block_lt_of_cell? w _ (hu 0 _ 0 _ hx (List.getElem?_eq_getElem (by omega)))
   exact .row b o c z n d f xs us hn hne hz hc hm (fun hk=>hS (h1 b hk hb)) hl (fun i x j q hi hj=>hs.cell hS (hu i x j q hi hj)) ih
theorem Rf.one {S:Nat→Prop} {w:World} {v:Value} {c:C} (h:Rf S w v c):v.oneCell'=true:=by cases h<;>first | rfl | assumption
theorem Rf.sub {S S1:Nat→Prop} {w:World} {v:Value} {c:C} (h:Rf S w v c) (h1:∀ k,S1 k→S k):Rf S1 w v c:=h.move (.refl _ _) (fun k hk _=>h1 k hk)
inductive LV:Type 1 where
 | no
 | nil0
 | nil (c:C)
 | known (b:Bool)
 | dat (c:C)
 | dagg (cs:List C)
 | lagg (ls:List LV)
 | own (id:Nat)
 | ptr (id off:Nat)
 | ept (id i off:Nat)
 | spt (cs:List C) (off:Nat)
 | fn (f:FuncId)
 | clo (f:FuncId) (caps:List (Nat×Nat))
 | tup (ls:List LV)
inductive Blk:Type 1 where
 | box (t:TypeId) (v:LV)
 | row (e:TypeId) (z:Nat) {α:Type} (d:α) (f:α→List C) (xs:List α)
structure Mp where
 blk:Nat→Nat
 off:Nat→Nat
 cap:Nat→Nat
abbrev Mem:=Nat→Option Blk
def zJ (M:Mem) (id:Nat):Option Nat:=match M id with
 | some (.row _ _ _ _ xs)=>some xs.length
 | _=>none
def zbt (M:Mem) (id:Nat):Nat:=match M id with
 | some (.row _ z _ _ _)=>z
 | _=>0
def Own (S0:Nat→Prop) (M:Mem) (m:Mp) (k:Nat):Prop:=S0 k∨∃ id,(M id).isSome=true∧m.blk id=k
def Ds (S:Nat→Prop) (w:World) (us:List Value) (cs:List C):Prop:=us.length=cs.length∧∀ (j:Nat) u c,us[j]? = some u→cs[j]? = some c→Rf S w u c
def R1 (S0:Nat→Prop) (M:Mem) (m:Mp) (w:World) (v:Value):LV→Prop
 | .no=>True
 | .nil0=>v=.slice none 0 0
 | .nil c=>v=.slice none 0 0∧Rf (Own S0 M m) w v c
 | .known b=>v=.bool b
 | .dat c=>Rf (Own S0 M m) w v c
 | .own id=>v.oneCell'=true∧∀ n,zJ M id=some n→v=.slice (some ⟨m.blk id,m.off id,none⟩) n (m.cap id)
 | .ptr id off=>v.oneCell'=true∧((M id).isSome=true→v=.pointer (some ⟨m.blk id,off,none⟩))
 | .ept id i off=>v.oneCell'=true∧∀ n,zJ M id=some n→i<n∧v=.pointer (some ⟨m.blk id,m.off id+i*zbt M id+off,none⟩)
 | .spt cs off=>∃ b o,v=.pointer (some ⟨b,o+off,none⟩)∧∀ (j:Nat) c,cs[j]? = some c→¬ Own S0 M m b∧∃ u,w.cell? ⟨b,o+j,none⟩=some u∧Rf (Own S0 M m) w u c
 | .fn f=>v=.func (.func f) #[] #[]
 | .clo f caps=>∃ us:List Value,v=.func (.func f) #[] us.toArray∧us.length=caps.length∧∀ (j:Nat) u p,us[j]? = some u→caps[j]? = some p→u.oneCell'=true∧((M p.1).isSome=true→u=.pointer (some ⟨m.blk p.1,p.2,none⟩))
 | .dagg _=>False
 | .lagg _=>False
 | .tup _=>False
def Rs (S0:Nat→Prop) (M:Mem) (m:Mp) (w:World) (us:List Value) (ls:List LV):Prop:=
 us.length=ls.length∧∀ (j:Nat) u l,us[j]? = some u→ls[j]? = some l→R1 S0 M m w u l∧u.oneCell'=true
def R2 (S0:Nat→Prop) (M:Mem) (m:Mp) (w:World) (v:Value):LV→Prop
 | .dagg cs=>∃ us:List Value,v=.agg us.toArray∧Ds (Own S0 M m) w us cs
 | .lagg ls=>∃ us:List Value,v=.agg us.toArray∧Rs S0 M m w us ls
 | l=>R1 S0 M m w v l
def R3 (S0:Nat→Prop) (M:Mem) (m:Mp) (w:World) (v:Value):LV→Prop
 | .tup ls=>∃ us:List Value,v=.tuple us.toArray∧us.length=ls.length∧∀ (j:Nat) u l,us[j]? = some u→ls[j]? = some l→R2 S0 M m w u l
 | l=>R2 S0 M m w v l
def RC (S0:Nat→Prop) (M:Mem) (m:Mp) (w:World) (us:List Value):LV→Prop
 | .dagg cs=>Ds (Own S0 M m) w us cs
 | .lagg ls=>Rs S0 M m w us ls
 | l=>∃ u,us=[u]∧R1 S0 M m w u l∧u.oneCell'=true
def zwH (S0:Nat→Prop) (M:Mem) (m:Mp) (w:World) (id:Nat) (t:TypeId) (v:LV):Prop:=
 ∃ us:Array Value,w.heap[m.blk id]? = some (.cells us t (0,0))∧RC S0 M m w us.toList v
def zjn (S0:Nat→Prop) (M:Mem) (m:Mp) (w:World) (id:Nat) (e:TypeId) (z:Nat) {α:Type} (f:α→List C) (xs:List α):Prop:=
 ∃ us:Array Value,w.heap[m.blk id]? = some (.cells us e (0,0))∧m.off id+m.cap id*z≤us.size∧xs.length≤m.cap id∧m.cap id≤9223372036854775807∧0<z∧(∀ x∈xs,(f x).length=z)∧
   True∧
   ∀ (i:Nat) x (j:Nat) c,xs[i]? = some x→(f x)[j]? = some c→∃ u,us[m.off id+i*z+j]? = some u∧Rf (Own S0 M m) w u c
def zfe (S0:Nat→Prop) (M:Mem) (m:Mp) (w:World) (id:Nat):Blk→Prop
 | .box t v=>zwH S0 M m w id t v
 | .row e z _ f xs=>zjn S0 M m w id e z f xs
structure Cx where
 S0:Nat→Prop
 own0:Nat→Prop
 w0:World
 n:Nat
 lent:Nat→Prop
 lm:Mp
 ll:Nat→Option Nat
 lz:Nat→Nat
 big:∀ i,lent i→1000≤i
 oS:Nat→Prop
 oo:Nat→Prop
 ow:World
 p1:∀ k,oS k→S0 k
 p2:∀ k,own0 k→oo k∨ow.heap.size≤k
 p3:zfw oo ow w0
 p4:w0.os=ow.os∧w0.tape=ow.tape∧w0.output=ow.output
structure Rel (x:Cx) (T:Nat→LV) (M:Mem) (m:Mp) (a:Act) (w:World):Prop where
 tmp:∀ t,R3 x.S0 M m w (a.tmps.getD t undef) (T t)
 sz:a.tmps.size=x.n
 df:a.defers=[]
 blk:∀ id b,M id=some b→zfe x.S0 M m w id b
 inj:∀ i j,(M i).isSome=true→(M j).isSome=true→m.blk i=m.blk j→i=j
 lo:∀ i,(M i).isSome=true→(x.w0.heap.size≤m.blk i∨x.own0 (m.blk i))∧¬ x.S0 (m.blk i)
 s0:∀ k,x.S0 k→k<x.w0.heap.size
 os:w.os=x.w0.os
 tape:w.tape=x.w0.tape
 output:w.output=x.w0.output
 same:zfw x.own0 x.w0 w
 keep:∀ i,x.lent i→(M i).isSome=true→m.blk i=x.lm.blk i∧m.off i=x.lm.off i∧m.cap i=x.lm.cap i∧zJ M i=x.ll i∧zbt M i=x.lz i
theorem zfe.lt {S0:Nat→Prop} {M:Mem} {m:Mp} {w:World} {id:Nat} {b:Blk} (h:zfe S0 M m w id b):m.blk id<w.heap.size:=by
 cases b with
 | box t v=>obtain ⟨us,h,_⟩:=h;exact (Array.getElem?_eq_some_iff.1 h).1
 | row e z d f xs=>obtain ⟨us,h,_⟩:=h;exact (Array.getElem?_eq_some_iff.1 h).1
theorem Rel.live_lt {x:Cx} {T:Nat→LV} {M:Mem} {m:Mp} {a:Act} {w:World} (h:Rel x T M m a w) {id:Nat} (hl:(M id).isSome=true):m.blk id<w.heap.size:=by
 obtain ⟨b,hb⟩:=Option.isSome_iff_exists.1 hl
 exact (h.blk id b hb).lt
/-! ### how the facts move on -/
def LV.on1 (id:Nat):LV→Prop
 | .own i=>i=id
 | .ptr i _=>i=id
 | .ept i _ _=>i=id
 | .clo _ caps=>∃ p∈caps,p.1=id
 | _=>False
def LV.on2 (id:Nat):LV→Prop
 | .lagg ls=>∃ l∈ls,l.on1 id
 | l=>l.on1 id
def LV.on (id:Nat):LV→Prop
 | .tup ls=>∃ l∈ls,l.on2 id
 | l=>l.on2 id
def Blk.on (id:Nat):Blk→Prop
 | .box _ v=>v.on2 id
 | .row ..=>False
structure Mv (S0:Nat→Prop) (M:Mem) (m:Mp) (w:World) (M1:Mem) (m1:Mp) (w1:World):Prop where
 same:zfw (Own S0 M m) w w1
 own:∀ k,Own S0 M1 m1 k→k<w.heap.size→Own S0 M m k
def zdK (M:Mem) (m:Mp) (M1:Mem) (m1:Mp) (id:Nat):Prop:=
 (M1 id).isSome=true→(M id).isSome=true∧m1.blk id=m.blk id∧m1.off id=m.off id∧m1.cap id=m.cap id∧zJ M1 id=zJ M id∧zbt M1 id=zbt M id
theorem zeo {M:Mem} {id n:Nat} (h:zJ M id=some n):(M id).isSome=true:=by
 unfold zJ at h;split at h
 ·rename_i hm;rw [hm];rfl
 ·cases h
section
variable {S0:Nat→Prop} {M M1:Mem} {m m1:Mp} {w w1:World}
theorem Mv.dat (h:Mv S0 M m w M1 m1 w1) {v:Value} {c:C} (hr:Rf (Own S0 M m) w v c):Rf (Own S0 M1 m1) w1 v c:=hr.move h.same h.own
theorem Mv.ds (h:Mv S0 M m w M1 m1 w1) {us:List Value} {cs:List C} (hr:Ds (Own S0 M m) w us cs):Ds (Own S0 M1 m1) w1 us cs:=⟨hr.1,fun j u c hu hc=>h.dat (hr.2 j u c hu hc)⟩
theorem Mv.r1 (h:Mv S0 M m w M1 m1 w1) {v:Value} {l:LV} (hk:∀ id,l.on1 id→zdK M m M1 m1 id) (hr:R1 S0 M m w v l):R1 S0 M1 m1 w1 v l:=by
 cases l with
 | no=>trivial
 | nil0=>exact hr
 | known b=>exact hr
 | nil c=>exact ⟨hr.1,h.dat hr.2⟩
 | dat c=>exact h.dat hr
 | own id=>
   refine ⟨hr.1,fun n hn=>?_⟩
   obtain ⟨_,h1,h2,h3,h4,h5⟩:=hk id rfl (zeo hn)
   rw [h1,h2,h3];exact hr.2 n (h4 ▸ hn)
 | ptr id off=>
   refine ⟨hr.1,fun hs=>?_⟩
   obtain ⟨h0,h1,_⟩:=hk id rfl hs
   rw [h1];exact hr.2 h0
 | ept id i off=>
   refine ⟨hr.1,fun n hn=>?_⟩
   obtain ⟨_,h1,h2,h3,h4,h5⟩:=hk id rfl (zeo hn)
   rw [h1,h2,h5];exact hr.2 n (h4 ▸ hn)
 | spt cs off=>
   obtain ⟨b,o,hv,hc⟩:=hr
   refine ⟨b,o,hv,fun j c hj=>?_⟩
   obtain ⟨hb,u,hu,hru⟩:=hc j c hj
   exact ⟨fun hh=>hb (h.own b hh (World.block_lt_of_cell? w _ hu)),u,h.same.cell hb hu,h.dat hru⟩
 | fn f=>exact hr
 | clo f caps=>
   obtain ⟨us,hv,hl,hc⟩:=hr
   refine ⟨us,hv,hl,fun j u p hu hp=>⟨(hc j u p hu hp).1,fun hs=>?_⟩⟩
   obtain ⟨h0,h1,_⟩:=hk p.1 ⟨p,List.mem_of_getElem? hp,rfl⟩ hs
   rw [h1];exact (hc j u p hu hp).2 h0
 | dagg cs=>exact hr
 | lagg cs=>exact hr
 | tup vs=>exact hr
theorem Mv.rs (h:Mv S0 M m w M1 m1 w1) {us:List Value} {ls:List LV} (hk:∀ id,(∃ l∈ls,l.on1 id)→zdK M m M1 m1 id) (hr:Rs S0 M m w us ls):Rs S0 M1 m1 w1 us ls:=
 ⟨hr.1,fun j u l hu hl=>⟨h.r1 (fun id hi=>hk id ⟨l,List.mem_of_getElem? hl,hi⟩) (hr.2 j u l hu hl).1,(hr.2 j u l hu hl).2⟩⟩
theorem Mv.r2 (h:Mv S0 M m w M1 m1 w1) {v:Value} {l:LV} (hk:∀ id,l.on2 id→zdK M m M1 m1 id) (hr:R2 S0 M m w v l):R2 S0 M1 m1 w1 v l:=by
 cases l with
 | dagg cs=>obtain ⟨us,hv,hd⟩:=hr;exact ⟨us,hv,h.ds hd⟩
 | lagg ls=>obtain ⟨us,hv,hd⟩:=hr;exact ⟨us,hv,h.rs hk hd⟩
 | no=>trivial
 | nil0=>exact h.r1 (l:=(.nil0)) hk hr
 | nil c=>exact h.r1 (l:=(.nil c)) hk hr
 | dat c=>exact h.r1 (l:=(.dat c)) hk hr
 | known b=>exact h.r1 (l:=(.known b)) hk hr
 | own id=>exact h.r1 (l:=(.own id)) hk hr
 | ptr id off=>exact h.r1 (l:=(.ptr id off)) hk hr
 | ept id i off=>exact h.r1 (l:=(.ept id i off)) hk hr
 | spt cs off=>exact h.r1 (l:=(.spt cs off)) hk hr
 | fn f=>exact h.r1 (l:=(.fn f)) hk hr
 | clo f caps=>exact h.r1 (l:=(.clo f caps)) hk hr
 | tup ls=>exact False.elim hr
theorem Mv.r3 (h:Mv S0 M m w M1 m1 w1) {v:Value} {l:LV} (hk:∀ id,l.on id→zdK M m M1 m1 id) (hr:R3 S0 M m w v l):R3 S0 M1 m1 w1 v l:=by
 cases l with
 | tup ls=>obtain ⟨us,hv,hl,hd⟩:=hr;exact ⟨us,hv,hl,fun j u l hu hlj=>h.r2 (fun id hi=>hk id ⟨l,List.mem_of_getElem? hlj,hi⟩) (hd j u l hu hlj)⟩
 | no=>trivial
 | nil0=>exact h.r2 (l:=(.nil0)) hk hr
 | nil c=>exact h.r2 (l:=(.nil c)) hk hr
 | dat c=>exact h.r2 (l:=(.dat c)) hk hr
 | known b=>exact h.r2 (l:=(.known b)) hk hr
 | own id=>exact h.r2 (l:=(.own id)) hk hr
 | ptr id off=>exact h.r2 (l:=(.ptr id off)) hk hr
 | ept id i off=>exact h.r2 (l:=(.ept id i off)) hk hr
 | spt cs off=>exact h.r2 (l:=(.spt cs off)) hk hr
 | fn f=>exact h.r2 (l:=(.fn f)) hk hr
 | clo f caps=>exact h.r2 (l:=(.clo f caps)) hk hr
 | dagg cs=>exact h.r2 (l:=(.dagg cs)) hk hr
 | lagg ls=>exact h.r2 (l:=(.lagg ls)) hk hr
theorem Mv.rc (h:Mv S0 M m w M1 m1 w1) {us:List Value} {l:LV} (hk:∀ id,l.on2 id→zdK M m M1 m1 id) (hr:RC S0 M m w us l):RC S0 M1 m1 w1 us l:=by
 cases l with
 | dagg cs=>exact h.ds hr
 | lagg ls=>exact h.rs hk hr
 | no=>obtain ⟨u,hu,_,h1⟩:=hr;exact ⟨u,hu,trivial,h1⟩
 | nil0=>obtain ⟨u,hu,h0,h1⟩:=hr;exact ⟨u,hu,h.r1 (l:=(.nil0)) hk h0,h1⟩
 | nil c=>obtain ⟨u,hu,h0,h1⟩:=hr;exact ⟨u,hu,h.r1 (l:=(.nil c)) hk h0,h1⟩
 | dat c=>obtain ⟨u,hu,h0,h1⟩:=hr;exact ⟨u,hu,h.r1 (l:=(.dat c)) hk h0,h1⟩
 | known b=>obtain ⟨u,hu,h0,h1⟩:=hr;exact ⟨u,hu,h.r1 (l:=(.known b)) hk h0,h1⟩
 | own id=>obtain ⟨u,hu,h0,h1⟩:=hr;exact ⟨u,hu,h.r1 (l:=(.own id)) hk h0,h1⟩
 | ptr id off=>obtain ⟨u,hu,h0,h1⟩:=hr;exact ⟨u,hu,h.r1 (l:=(.ptr id off)) hk h0,h1⟩
 | ept id i off=>obtain ⟨u,hu,h0,h1⟩:=hr;exact ⟨u,hu,h.r1 (l:=(.ept id i off)) hk h0,h1⟩
 | spt cs off=>obtain ⟨u,hu,h0,h1⟩:=hr;exact ⟨u,hu,h.r1 (l:=(.spt cs off)) hk h0,h1⟩
 | fn f=>obtain ⟨u,hu,h0,h1⟩:=hr;exact ⟨u,hu,h.r1 (l:=(.fn f)) hk h0,h1⟩
 | clo f caps=>obtain ⟨u,hu,h0,h1⟩:=hr;exact ⟨u,hu,h.r1 (l:=(.clo f caps)) hk h0,h1⟩
 | tup ls=>obtain ⟨u,hu,h0,h1⟩:=hr;exact False.elim h0
theorem Mv.blk (h:Mv S0 M m w M1 m1 w1) {id:Nat} {b:Blk} (h1:m1.blk id=m.blk id) (h2:m1.off id=m.off id) (h3:m1.cap id=m.cap id) (hw:w1.heap[m.blk id]? = w.heap[m.blk id]?)
 (hk:∀ i,b.on i→zdK M m M1 m1 i) (hr:zfe S0 M m w id b):zfe S0 M1 m1 w1 id b:=by
 cases b with
 | box t v=>obtain ⟨us,hu,hc⟩:=hr;exact ⟨us,by rw [h1,hw];exact hu,h.rc hk hc⟩
 | row e z d f xs=>
   obtain ⟨us,hu,a1,a2,a3,a4,a5,a6,a7⟩:=hr
   refine ⟨us,by rw [h1,hw];exact hu,by rw [h2,h3];exact a1,by rw [h3];exact a2,by rw [h3];exact a3,a4,a5,a6,fun i x j c hi hj=>?_⟩
   obtain ⟨u,hu,hr⟩:=a7 i x j c hi hj
   exact ⟨u,by rw [h2];exact hu,h.dat hr⟩
end
open Go.RowKit
set_option linter.unusedVariables false
set_option linter.unusedSimpArgs false
def upd {β:Type 1} (F:Nat→β) (k:Nat) (v:β):Nat→β:=fun i=>if i=k then v else F i
theorem zac {β:Type 1} (F:Nat→β) (k:Nat) (v:β):upd F k v k=v:=if_pos rfl
theorem zaZ {β:Type 1} (F:Nat→β) {k i:Nat} (v:β) (h:i≠k):upd F k v i=F i:=if_neg h
def Mp.set (m:Mp) (id b o c:Nat):Mp:=⟨fun i=>if i=id then b else m.blk i,fun i=>if i=id then o else m.off i,fun i=>if i=id then c else m.cap i⟩
section
variable (m:Mp) (id b o c:Nat)
theorem Mp.set_blk:(m.set id b o c).blk id=b:=if_pos rfl
theorem Mp.set_off:(m.set id b o c).off id=o:=if_pos rfl
theorem Mp.set_cap:(m.set id b o c).cap id=c:=if_pos rfl
theorem Mp.set_ne {i:Nat} (h:i≠id):(m.set id b o c).blk i=m.blk i∧(m.set id b o c).off i=m.off i∧(m.set id b o c).cap i=m.cap i:=⟨if_neg h,if_neg h,if_neg h⟩
end
section
variable {x:Cx} {T:Nat→LV} {M:Mem} {m:Mp} {a:Act} {w:World}
theorem Rel.put (h:Rel x T M m a w) {d:Nat} (hd:d<x.n) {v:Value} {l:LV} (hv:R3 x.S0 M m w v l):Rel x (upd T d l) M m (a.put (some d) v) w:=by
 refine ⟨fun t=>?_,?_,h.df,h.blk,h.inj,h.lo,h.s0,h.os,h.tape,h.output,h.same,h.keep⟩
 ·show R3 x.S0 M m w ((a.tmps.setIfInBounds d v).getD t undef) _
  by_cases ht:t=d
  ·subst ht
   rw [zac]
   have:(a.tmps.setIfInBounds t v).getD t undef=v:=by
    rw [Array.getD_eq_getD_getElem?,Array.getElem?_setIfInBounds_self_of_lt (by rw [h.sz];exact hd)];rfl
   rw [this];exact hv
  ·rw [zaZ _ _ ht]
   have:(a.tmps.setIfInBounds d v).getD t undef=a.tmps.getD t undef:=by
    rw [Array.getD_eq_getD_getElem?,Array.getD_eq_getD_getElem?,Array.getElem?_setIfInBounds_ne (fun hh=>ht hh.symm)]
   rw [this];exact h.tmp t
 ·show (a.tmps.setIfInBounds d v).size=x.n
  rw [Array.size_setIfInBounds];exact h.sz
theorem Rel.drew (h:Rel x T M m a w):Rel x T M m a {w with drawn:=w.drawn+1}:=by
 have hmv:Mv x.S0 M m w M m {w with drawn:=w.drawn+1}:=⟨⟨Nat.le_refl _,fun _ _ _=>rfl⟩,fun _ h _=>h⟩
 have hk:∀ id,zdK M m M m id:=fun id hs=>⟨hs,rfl,rfl,rfl,rfl,rfl⟩
 exact ⟨fun t=>hmv.r3 (fun id _=>hk id) (h.tmp t),h.sz,h.df,fun id b hb=>hmv.blk rfl rfl rfl rfl (fun id _=>hk id) (h.blk id b hb),h.inj,h.lo,h.s0,h.os,h.tape,h.output,⟨h.same.size,h.same.at_⟩,h.keep⟩
def zcd (T:Nat→LV) (M:Mem) (id:Nat):Prop:=(∀ t,¬ (T t).on id)∧(∀ i b,M i=some b→¬ b.on id)∧id<1000
theorem zqz {M:Mem} {id i:Nat} {b:Option Blk} (h:i≠id):zJ (upd M id b) i=zJ M i:=by unfold zJ;rw [zaZ _ _ h]
theorem ztC {M:Mem} {id i:Nat} {b:Option Blk} (h:i≠id):zbt (upd M id b) i=zbt M i:=by unfold zbt;rw [zaZ _ _ h]
theorem Rel.upd (h:Rel x T M m a w) (id:Nat) (b1:Option Blk) {B O c:Nat} {w1:World}
 (hs:zfw (fun k=>(M id).isSome=true∧k=m.blk id) w w1) (hos:w1.os=w.os∧w1.tape=w.tape∧w1.output=w.output)
 (hn:b1.isSome=true→((M id).isSome=true∧B=m.blk id)∨w.heap.size≤B)
 (hk:zdK M m (upd M id b1) (m.set id B O c) id∨zcd T M id)
 (hb:∀ b,b1=some b→Mv x.S0 M m w (Ab.upd M id b1) (m.set id B O c) w1→(∀ i,i≠id→zdK M m (Ab.upd M id b1) (m.set id B O c) i)→zfe x.S0 (Ab.upd M id b1) (m.set id B O c) w1 id b):Rel x T (Ab.upd M id b1) (m.set id B O c) a w1:=by
 have hoth:∀ i,i≠id→(M i).isSome=true→w1.heap[m.blk i]? = w.heap[m.blk i]?:=fun i hi hl=>
  hs.at_ _ (h.live_lt hl) (fun ⟨h1,h2⟩=>hi (h.inj _ _ hl h1 h2))
 have hown:∀ k,Own x.S0 (Ab.upd M id b1) (m.set id B O c) k→k<w.heap.size→Own x.S0 M m k:=by
  intro k hk hlt
  rcases hk with hk | ⟨i,hi,hbk⟩
  ·exact .inl hk
  ·by_cases hid:i=id
   ·subst hid
    rw [zac] at hi
    rw [Mp.set_blk] at hbk
    rcases hn hi with ⟨h1,h2⟩ | h1
    ·exact .inr ⟨i,h1,h2 ▸ hbk⟩
    ·omega
   ·rw [zaZ _ _ hid] at hi
    rw [(Mp.set_ne m id B O c hid).1] at hbk
    exact .inr ⟨i,hi,hbk⟩
 have hmv:Mv x.S0 M m w (Ab.upd M id b1) (m.set id B O c) w1:=by
  refine ⟨⟨hs.size,fun k hk hO=>hs.at_ k hk (fun ⟨h1,h2⟩=>hO (.inr ⟨id,h1,h2.symm⟩))⟩,hown⟩
 have hke:∀ i,i≠id→zdK M m (Ab.upd M id b1) (m.set id B O c) i:=fun i hi hl=>by
  rw [zaZ _ _ hi] at hl
  obtain ⟨e1,e2,e3⟩:=Mp.set_ne m id B O c hi
  exact ⟨hl,e1,e2,e3,zqz hi,ztC hi⟩
 refine ⟨fun t=>hmv.r3 (fun i hi=>?_) (h.tmp t),h.sz,h.df,fun i b hbi=>?_,fun i j hi hj hij=>?_,fun i hi=>?_,h.s0,hos.1.trans h.os,hos.2.1.trans h.tape,hos.2.2.trans h.output,?_,fun i hl hi=>?_⟩
 ·by_cases hid:i=id
  ·subst hid;exact hk.elim (fun hk=>hk) (fun hf=>absurd hi (hf.1 t))
  ·exact hke i hid
 ·by_cases hid:i=id
  ·subst hid;rw [zac] at hbi;exact hb b hbi hmv hke
  ·rw [zaZ _ _ hid] at hbi
   obtain ⟨e1,e2,e3⟩:=Mp.set_ne m id B O c hid
   refine hmv.blk e1 e2 e3 (hoth i hid (by rw [hbi];rfl)) (fun j hj=>?_) (h.blk i b hbi)
   by_cases hjd:j=id
   ·subst hjd;exact hk.elim (fun hk=>hk) (fun hf=>absurd hj (hf.2.1 i b hbi))
   ·exact hke j hjd
 ·have key:∀ j,j≠id→(Ab.upd M id b1 j).isSome=true→(Ab.upd M id b1 id).isSome=true→B≠(m.set id B O c).blk j:=by
   intro j hjd hj hid hB
   rw [zaZ _ _ hjd] at hj
   rw [zac] at hid
   rw [(Mp.set_ne m id B O c hjd).1] at hB
   rcases hn hid with ⟨h1,h2⟩ | h1
   ·exact hjd (h.inj _ _ hj h1 (hB.symm.trans h2))
   ·have:=h.live_lt hj;omega
  by_cases hid:i=id
  ·by_cases hjd:j=id
   ·rw [hid,hjd]
   ·subst hid;rw [Mp.set_blk] at hij;exact absurd hij (key j hjd hj hi)
  ·by_cases hjd:j=id
   ·subst hjd;rw [Mp.set_blk] at hij;exact absurd hij.symm (key i hid hi hj)
   ·rw [zaZ _ _ hid] at hi;rw [zaZ _ _ hjd] at hj
    rw [(Mp.set_ne m id B O c hid).1,(Mp.set_ne m id B O c hjd).1] at hij
    exact h.inj i j hi hj hij
 ·by_cases hid:i=id
  ·subst hid;rw [zac] at hi;rw [Mp.set_blk]
   rcases hn hi with ⟨h1,h2⟩ | h1
   ·rw [h2];exact h.lo _ h1
   ·have:=h.same.size
    exact ⟨.inl (by omega),fun hS=>by have:=h.s0 _ hS;omega⟩
  ·rw [zaZ _ _ hid] at hi;rw [(Mp.set_ne m id B O c hid).1];exact h.lo i hi
 ·refine ⟨Nat.le_trans h.same.size hs.size,fun k hk hO=>?_⟩
  rw [hs.at_ k (Nat.lt_of_lt_of_le hk h.same.size) (fun ⟨h1,h2⟩=>?_)]
  ·exact h.same.at_ k hk hO
  ·rcases (h.lo id h1).1 with h3 | h3
   ·omega
   ·exact hO (h2 ▸ h3)
 ·by_cases hid:i=id
  ·subst hid
   rcases hk with hk | hf
   ·obtain ⟨h0,h1,h2,h3,h4,h5⟩:=hk hi
    obtain ⟨k1,k2,k3,k4,k5⟩:=h.keep i hl h0
    exact ⟨h1.trans k1,h2.trans k2,h3.trans k3,h4.trans k4,h5.trans k5⟩
   ·have h1:=x.big i hl;have h2:=hf.2.2;omega
  ·obtain ⟨h0,h1,h2,h3,h4,h5⟩:=hke i hid hi
   obtain ⟨k1,k2,k3,k4,k5⟩:=h.keep i hl h0
   exact ⟨h1.trans k1,h2.trans k2,h3.trans k3,h4.trans k4,h5.trans k5⟩
theorem Rel.rename (h:Rel x T M m a w) (id id1:Nat) (hne:id1≠id) (hm:(M id1).isSome=false) (hf:zcd T M id1):Rel x T (Ab.upd (Ab.upd M id none) id1 (M id)) (m.set id1 (m.blk id) (m.off id) (m.cap id)) a w:=by
 have hget:∀ i,i≠id→i≠id1→Ab.upd (Ab.upd M id none) id1 (M id) i=M i:=fun i h1 h2=>by rw [zaZ _ _ h2,zaZ _ _ h1]
 have h0:Ab.upd (Ab.upd M id none) id1 (M id) id=none:=by rw [zaZ _ _ (Ne.symm hne),zac]
 have h1:Ab.upd (Ab.upd M id none) id1 (M id) id1=M id:=zac _ _ _
 have hown:∀ k,Own x.S0 (Ab.upd (Ab.upd M id none) id1 (M id)) (m.set id1 (m.blk id) (m.off id) (m.cap id)) k→Own x.S0 M m k:=by
  intro k hk
  rcases hk with hk | ⟨i,hi,hbk⟩
  ·exact .inl hk
  ·by_cases e1:i=id1
   ·subst e1;rw [h1] at hi;rw [Mp.set_blk] at hbk;exact .inr ⟨id,hi,hbk⟩
   ·rw [(Mp.set_ne m id1 _ _ _ e1).1] at hbk
    by_cases e0:i=id
    ·subst e0;rw [h0] at hi;cases hi
    ·rw [hget i e0 e1] at hi;exact .inr ⟨i,hi,hbk⟩
 have hmv:Mv x.S0 M m w (Ab.upd (Ab.upd M id none) id1 (M id)) (m.set id1 (m.blk id) (m.off id) (m.cap id)) w:=⟨.refl _ _,fun k hk _=>hown k hk⟩
 have hke:∀ i,i≠id1→zdK M m (Ab.upd (Ab.upd M id none) id1 (M id)) (m.set id1 (m.blk id) (m.off id) (m.cap id)) i:=fun i hi hl=>by
  obtain ⟨e1,e2,e3⟩:=Mp.set_ne m id1 (m.blk id) (m.off id) (m.cap id) hi
  by_cases e0:i=id
  ·subst e0;rw [h0] at hl;cases hl
  ·have:=hget i e0 hi
   refine ⟨this ▸ hl,e1,e2,e3,by unfold zJ;rw [this],by unfold zbt;rw [this]⟩
 refine ⟨fun t=>hmv.r3 (fun i hi=>hke i (fun e=>hf.1 t (e ▸ hi))) (h.tmp t),h.sz,h.df,fun i b hbi=>?_,fun i j hi hj hij=>?_,fun i hi=>?_,h.s0,h.os,h.tape,h.output,h.same,fun i hl hi=>?_⟩
 ·by_cases e1:i=id1
  ·subst e1;rw [h1] at hbi
   have hb:=h.blk id b hbi
   have hon:∀ j,b.on j→zdK M m (Ab.upd (Ab.upd M id none) i (M id)) (m.set i (m.blk id) (m.off id) (m.cap id)) j:=fun j hj=>hke j (fun e=>hf.2.1 id b hbi (e ▸ hj))
   cases b with
   | box t v=>obtain ⟨us,hu,hc⟩:=hb;exact ⟨us,by rw [Mp.set_blk];exact hu,hmv.rc hon hc⟩
   | row e z d f xs=>
     obtain ⟨us,hu,a1,a2,a3,a4,a5,a6,a7⟩:=hb
     refine ⟨us,by rw [Mp.set_blk];exact hu,by rw [Mp.set_off,Mp.set_cap];exact a1,by rw [Mp.set_cap];exact a2,by rw [Mp.set_cap];exact a3,a4,a5,a6,fun i' x j c hi hj=>?_⟩
     obtain ⟨u,hu,hr⟩:=a7 i' x j c hi hj
     exact ⟨u,by rw [Mp.set_off];exact hu,hmv.dat hr⟩
  ·by_cases e0:i=id
   ·subst e0;rw [h0] at hbi;cases hbi
   ·rw [hget i e0 e1] at hbi
    obtain ⟨e1',e2,e3⟩:=Mp.set_ne m id1 (m.blk id) (m.off id) (m.cap id) e1
    exact hmv.blk e1' e2 e3 rfl (fun j hj=>hke j (fun e=>hf.2.1 i b hbi (e ▸ hj))) (h.blk i b hbi)
 ·have nm:∀ i,(Ab.upd (Ab.upd M id none) id1 (M id) i).isSome=true→i≠id:=fun i hi e=>by subst e;rw [h0] at hi;cases hi
  by_cases e1:i=id1
  ·by_cases e2:j=id1
   ·rw [e1,e2]
   ·subst e1;rw [Mp.set_blk,(Mp.set_ne m i _ _ _ e2).1] at hij
    rw [h1] at hi;have hj':=nm j hj;rw [hget j hj' e2] at hj
    exact absurd (h.inj _ _ hi hj hij).symm hj'
  ·by_cases e2:j=id1
   ·subst e2;rw [Mp.set_blk,(Mp.set_ne m j _ _ _ e1).1] at hij
    rw [h1] at hj;have hi':=nm i hi;rw [hget i hi' e1] at hi
    exact absurd (h.inj _ _ hi hj hij) hi'
   ·have hi':=nm i hi;have hj':=nm j hj
    rw [hget i hi' e1] at hi;rw [hget j hj' e2] at hj
    rw [(Mp.set_ne m id1 _ _ _ e1).1,(Mp.set_ne m id1 _ _ _ e2).1] at hij
    exact h.inj i j hi hj hij
 ·by_cases e1:i=id1
  ·subst e1;rw [h1] at hi;rw [Mp.set_blk];exact h.lo id hi
  ·by_cases e0:i=id
   ·subst e0;rw [h0] at hi;cases hi
   ·rw [hget i e0 e1] at hi;rw [(Mp.set_ne m id1 _ _ _ e1).1];exact h.lo i hi
 ·have hne1:i≠id1:=fun e=>by have h1:=x.big i hl;have h2:=hf.2.2;omega
  obtain ⟨h0,h1,h2,h3,h4,h5⟩:=hke i hne1 hi
  obtain ⟨k1,k2,k3,k4,k5⟩:=h.keep i hl h0
  exact ⟨h1.trans k1,h2.trans k2,h3.trans k3,h4.trans k4,h5.trans k5⟩
theorem zhS (m:Mp) (id:Nat):m.set id (m.blk id) (m.off id) (m.cap id)=m:=by
 have:∀ F:Nat→Nat,(fun i=>if i=id then F id else F i)=F:=fun F=>funext fun i=>by by_cases h:i=id<;>simp [h]
 show Mp.mk _ _ _=m
 simp only [this]
theorem Rel.forget (h:Rel x T M m a w) (id:Nat):Rel x T (Ab.upd M id none) m a w:=by
 have:=h.upd id none (B:=m.blk id) (O:=m.off id) (c:=m.cap id) (w1:=w) ⟨Nat.le_refl _,fun _ _ _=>rfl⟩ ⟨rfl,rfl,rfl⟩ (fun h=>by cases h) (.inl (fun hs=>by rw [zac] at hs;cases hs)) (fun b h=>by cases h)
 rwa [zhS] at this
end
/-! ### a later context -/
structure Sib (x x1:Cx):Prop where
 n:x1.n=x.n
 oS:x1.oS=x.oS
 oo:x1.oo=x.oo
 ow:x1.ow=x.ow
 lent:x1.lent=x.lent
 lm:x1.lm=x.lm
 ll:x1.ll=x.ll
 lz:x1.lz=x.lz
def zxl (x:Cx):Prop:=x.oS=x.S0∧x.oo=x.own0∧x.ow=x.w0
theorem Sib.refl (x:Cx):Sib x x:=⟨rfl,rfl,rfl,rfl,rfl,rfl,rfl,rfl⟩
theorem Sib.trans {x x1 x2:Cx} (h:Sib x x1) (h1:Sib x1 x2):Sib x x2:=
 ⟨h1.n.trans h.n,h1.oS.trans h.oS,h1.oo.trans h.oo,h1.ow.trans h.ow,h1.lent.trans h.lent,h1.lm.trans h.lm,h1.ll.trans h.ll,h1.lz.trans h.lz⟩
section
variable {S0 S1:Nat→Prop} {M:Mem} {m:Mp} {w w1:World}
theorem Own.s0 (h:∀ k,S0 k→S1 k) {k:Nat} (hk:Own S0 M m k):Own S1 M m k:=hk.imp (h k) id
structure Mws (S0 S1:Nat→Prop) (M:Mem) (m:Mp) (w w1:World):Prop where
 same:zfw (Own S0 M m) w w1
 own:∀ k,Own S1 M m k→k<w.heap.size→Own S0 M m k
theorem Mws.of (h:∀ k,S0 k→S1 k):Mws S1 S0 M m w w:=⟨.refl _ _,fun k hk _=>hk.s0 h⟩
theorem Mws.dat (h:Mws S0 S1 M m w w1) {v:Value} {c:C} (hr:Rf (Own S0 M m) w v c):Rf (Own S1 M m) w1 v c:=hr.move h.same h.own
theorem Mws.r1 (h:Mws S0 S1 M m w w1) {v:Value} {l:LV} (hr:R1 S0 M m w v l):R1 S1 M m w1 v l:=by
 cases l with
 | no=>trivial
 | nil0=>exact hr
 | nil c=>exact ⟨hr.1,h.dat hr.2⟩
 | known b=>exact hr
 | dat c=>exact h.dat hr
 | own id=>exact hr
 | ptr id off=>exact hr
 | ept id i off=>exact hr
 | spt cs off=>
   obtain ⟨b,o,hv,hc⟩:=hr
   refine ⟨b,o,hv,fun j c hj=>?_⟩
   obtain ⟨hb,u,hu,hru⟩:=hc j c hj
   exact ⟨fun hh=>hb (h.own b hh (World.block_lt_of_cell? w _ hu)),u,h.same.cell hb hu,h.dat hru⟩
 | fn f=>exact hr
 | clo f caps=>exact hr
 | dagg cs=>exact hr
 | lagg cs=>exact hr
 | tup vs=>exact hr
theorem Mws.ds (h:Mws S0 S1 M m w w1) {us:List Value} {cs:List C} (hr:Ds (Own S0 M m) w us cs):Ds (Own S1 M m) w1 us cs:=⟨hr.1,fun j u c hu hc=>h.dat (hr.2 j u c hu hc)⟩
theorem Mws.rs (h:Mws S0 S1 M m w w1) {us:List Value} {ls:List LV} (hr:Rs S0 M m w us ls):Rs S1 M m w1 us ls:=⟨hr.1,fun j u l hu hl=>⟨h.r1 (hr.2 j u l hu hl).1,(hr.2 j u l hu hl).2⟩⟩
theorem Mws.r2 (h:Mws S0 S1 M m w w1) {v:Value} {l:LV} (hr:R2 S0 M m w v l):R2 S1 M m w1 v l:=by
 cases l with
 | dagg cs=>obtain ⟨us,hv,hd⟩:=hr;exact ⟨us,hv,h.ds hd⟩
 | lagg ls=>obtain ⟨us,hv,hd⟩:=hr;exact ⟨us,hv,h.rs hd⟩
 | no=>trivial
 | nil0=>exact h.r1 (l:=.nil0) hr
 | nil c=>exact h.r1 (l:=.nil c) hr
 | dat c=>exact h.r1 (l:=.dat c) hr
 | known b=>exact h.r1 (l:=.known b) hr
 | own id=>exact h.r1 (l:=.own id) hr
 | ptr id off=>exact h.r1 (l:=.ptr id off) hr
 | ept id i off=>exact h.r1 (l:=.ept id i off) hr
 | spt cs off=>exact h.r1 (l:=.spt cs off) hr
 | fn f=>exact h.r1 (l:=.fn f) hr
 | clo f caps=>exact h.r1 (l:=.clo f caps) hr
 | tup ls=>exact False.elim hr
theorem Mws.r3 (h:Mws S0 S1 M m w w1) {v:Value} {l:LV} (hr:R3 S0 M m w v l):R3 S1 M m w1 v l:=by
 cases l with
 | tup ls=>obtain ⟨us,hv,hl,hd⟩:=hr;exact ⟨us,hv,hl,fun j u l hu hlj=>h.r2 (hd j u l hu hlj)⟩
 | no=>trivial
 | nil0=>exact h.r2 (l:=.nil0) hr
 | nil c=>exact h.r2 (l:=.nil c) hr
 | dat c=>exact h.r2 (l:=.dat c) hr
 | known b=>exact h.r2 (l:=.known b) hr
 | own id=>exact h.r2 (l:=.own id) hr
 | ptr id off=>exact h.r2 (l:=.ptr id off) hr
 | ept id i off=>exact h.r2 (l:=.ept id i off) hr
 | spt cs off=>exact h.r2 (l:=.spt cs off) hr
 | fn f=>exact h.r2 (l:=.fn f) hr
 | clo f caps=>exact h.r2 (l:=.clo f caps) hr
 | dagg cs=>exact h.r2 (l:=.dagg cs) hr
 | lagg ls=>exact h.r2 (l:=.lagg ls) hr
theorem Mws.rc (h:Mws S0 S1 M m w w1) {us:List Value} {l:LV} (hr:RC S0 M m w us l):RC S1 M m w1 us l:=by
 cases l with
 | dagg cs=>exact h.ds hr
 | lagg ls=>exact h.rs hr
 | tup ls=>obtain ⟨u,hu,h0,h1⟩:=hr;exact False.elim h0
 | no=>obtain ⟨u,hu,_,h1⟩:=hr;exact ⟨u,hu,trivial,h1⟩
 | nil0=>obtain ⟨u,hu,h0,h1⟩:=hr;exact ⟨u,hu,h.r1 (l:=.nil0) h0,h1⟩
 | nil c=>obtain ⟨u,hu,h0,h1⟩:=hr;exact ⟨u,hu,h.r1 (l:=.nil c) h0,h1⟩
 | dat c=>obtain ⟨u,hu,h0,h1⟩:=hr;exact ⟨u,hu,h.r1 (l:=.dat c) h0,h1⟩
 | known b=>obtain ⟨u,hu,h0,h1⟩:=hr;exact ⟨u,hu,h.r1 (l:=.known b) h0,h1⟩
 | own id=>obtain ⟨u,hu,h0,h1⟩:=hr;exact ⟨u,hu,h.r1 (l:=.own id) h0,h1⟩
 | ptr id off=>obtain ⟨u,hu,h0,h1⟩:=hr;exact ⟨u,hu,h.r1 (l:=.ptr id off) h0,h1⟩
 | ept id i off=>obtain ⟨u,hu,h0,h1⟩:=hr;exact ⟨u,hu,h.r1 (l:=.ept id i off) h0,h1⟩
 | spt cs off=>obtain ⟨u,hu,h0,h1⟩:=hr;exact ⟨u,hu,h.r1 (l:=.spt cs off) h0,h1⟩
 | fn f=>obtain ⟨u,hu,h0,h1⟩:=hr;exact ⟨u,hu,h.r1 (l:=.fn f) h0,h1⟩
 | clo f caps=>obtain ⟨u,hu,h0,h1⟩:=hr;exact ⟨u,hu,h.r1 (l:=.clo f caps) h0,h1⟩
theorem Mws.blk (h:Mws S0 S1 M m w w1) {id:Nat} {b:Blk} (hw:w1.heap[m.blk id]? = w.heap[m.blk id]?) (hr:zfe S0 M m w id b):zfe S1 M m w1 id b:=by
 cases b with
 | box t v=>obtain ⟨us,hu,hc⟩:=hr;exact ⟨us,by rw [hw];exact hu,h.rc hc⟩
 | row e z d f xs=>
   obtain ⟨us,hu,a1,a2,a3,a4,a5,a6,a7⟩:=hr
   refine ⟨us,by rw [hw];exact hu,a1,a2,a3,a4,a5,a6,fun i x j c hi hj=>?_⟩
   obtain ⟨u,hu,hr⟩:=a7 i x j c hi hj
   exact ⟨u,hu,h.dat hr⟩
end
theorem zfw.trans {S S1:Nat→Prop} {w w1 w2:World} (h:zfw S w w1) (h1:zfw S1 w1 w2) (ho:∀ k,S1 k→S k∨w.heap.size≤k):zfw S w w2:=
 ⟨Nat.le_trans h.size h1.size,fun k hk hn=>(h1.at_ k (Nat.lt_of_lt_of_le hk h.size) (fun hs=>(ho k hs).elim hn (fun hh=>by omega))).trans (h.at_ k hk hn)⟩
theorem Sib.rel {x x1:Cx} (hx:Sib x x1) (hh:zxl x) (hs:∀ k,x.S0 k→k<x.w0.heap.size) {T:Nat→LV} {M:Mem} {m:Mp} {a:Act} {w:World} (h:Rel x1 T M m a w):Rel x T M m a w:=by
 obtain ⟨hS,ho,hw⟩:=hh
 have h0:∀ k,x.S0 k→x1.S0 k:=fun k hk=>x1.p1 k (by rw [hx.oS,hS];exact hk)
 have h2:∀ k,x1.own0 k→x.own0 k∨x.w0.heap.size≤k:=fun k hk=>by
  have:=x1.p2 k hk
  rwa [hx.oo,hx.ow,ho,hw] at this
 have h3:zfw x.own0 x.w0 x1.w0:=by have:=x1.p3;rwa [hx.oo,hx.ow,ho,hw] at this
 have h4:=x1.p4
 rw [hx.ow,hw] at h4
 refine ⟨fun t=>(Mws.of h0).r3 (h.tmp t),h.sz.trans hx.n,h.df,fun id b hb=>(Mws.of h0).blk rfl (h.blk id b hb),h.inj,fun i hi=>?_,hs,h.os.trans h4.1,h.tape.trans h4.2.1,h.output.trans h4.2.2,h3.trans h.same h2,fun i hl hi=>?_⟩
 ·obtain ⟨h1,h5⟩:=h.lo i hi
  refine ⟨?_,fun hs=>h5 (h0 _ hs)⟩
  rcases h1 with h1 | h1
  ·exact .inl (Nat.le_trans h3.size h1)
  ·exact (h2 _ h1).symm
 ·have:=h.keep i (hx.lent ▸ hl) hi
  rwa [hx.lm,hx.ll,hx.lz] at this
structure Chg (x:Cx) (w w1:World):Prop where
 size:w.heap.size≤w1.heap.size
 blk:∀ k,k<w.heap.size→w1.heap[k]? = w.heap[k]?∨(x.S0 k∧(x.ow.heap.size≤k∨x.oo k))
 os:w1.os=w.os
 tape:w1.tape=w.tape
 output:w1.output=w.output
theorem zv4 {x:Cx} {T:Nat→LV} {M:Mem} {m:Mp} {a:Act} {w w1:World} (hr:Rel x T M m a w) (hc:Chg x w w1) :
 ∃ x1,Sib x x1∧(∀ k,x1.S0 k↔(x.S0 k∨(w.heap.size≤k∧k<w1.heap.size)))∧(∀ k,x1.own0 k→(x.own0 k∨x.w0.heap.size≤k)∧¬ x1.S0 k)∧x1.w0=w1∧Rel x1 T M m a w1:=by
 have hle:x.ow.heap.size≤x.w0.heap.size:=x.p3.size
 have hle1:x.w0.heap.size≤w.heap.size:=hr.same.size
 refine ⟨{x with S0:=fun k=>x.S0 k∨(w.heap.size≤k∧k<w1.heap.size),own0:=fun k=>(x.own0 k∨x.w0.heap.size≤k)∧¬ (x.S0 k∨(w.heap.size≤k∧k<w1.heap.size)),w0:=w1,p1:=fun k hk=>.inl (x.p1 k hk),p2:=fun k hk=>hk.1.elim (x.p2 k) (fun h=>.inr (Nat.le_trans hle h)),p3:=⟨by have:=hc.size;omega,fun k hk hn=>?_⟩,p4:=⟨hc.os.trans (hr.os.trans x.p4.1),hc.tape.trans (hr.tape.trans x.p4.2.1),hc.output.trans (hr.output.trans x.p4.2.2)⟩},⟨rfl,rfl,rfl,rfl,rfl,rfl,rfl,rfl⟩,fun k=>Iff.rfl,fun k hk=>hk,rfl,?_⟩
 ·rcases hc.blk k (by omega) with h | ⟨_,h⟩
  ·rw [h,hr.same.at_ k (by omega) (fun h=>(x.p2 k h).elim hn (fun h=>by omega)),x.p3.at_ k hk hn]
  ·rcases h with h | h
   ·omega
   ·exact absurd h hn
 ·have hm:Mws x.S0 (fun k=>x.S0 k∨(w.heap.size≤k∧k<w1.heap.size)) M m w w1:=by
   refine ⟨⟨hc.size,fun k hk hn=>?_⟩,fun k hk hlt=>?_⟩
   ·rcases hc.blk k hk with h | ⟨h,_⟩
    ·exact h
    ·exact absurd (Or.inl h) hn
   ·rcases hk with (hk | hk) | hk
    ·exact .inl hk
    ·omega
    ·exact .inr hk
  refine ⟨fun t=>hm.r3 (hr.tmp t),hr.sz,hr.df,fun id b hb=>hm.blk ?_ (hr.blk id b hb),hr.inj,fun i hi=>?_,fun k hk=>?_,rfl,rfl,rfl,.refl _ _,hr.keep⟩
  ·have hs:(M id).isSome=true:=by rw [hb];rfl
   rcases hc.blk _ (hr.live_lt hs) with h | ⟨h,_⟩
   ·exact h
   ·exact absurd h (hr.lo id hs).2
  ·have hlt:=hr.live_lt hi
   obtain ⟨h1,h2⟩:=hr.lo i hi
   have h3:¬ (x.S0 (m.blk i)∨(w.heap.size≤m.blk i∧m.blk i<w1.heap.size)):=fun h=>h.elim h2 (fun h=>by omega)
   exact ⟨.inr ⟨h1.symm,h3⟩,h3⟩
  ·have:=hc.size
   rcases hk with hk | hk
   ·have:=hr.s0 k hk
    show k<w1.heap.size
    omega
   ·exact hk.2
structure z7 (x:Cx) (b:Nat) (o:Obj):Prop where
 s0:x.S0 b
 own:¬ x.own0 b
 new:x.ow.heap.size≤b∨x.oo b
 no:¬ x.oS b
 at_:x.w0.heap[b]? = some o
theorem z7.lt {x:Cx} {b:Nat} {o:Obj} (h:z7 x b o):b<x.w0.heap.size:=(Array.getElem?_eq_some_iff.1 h.at_).1
theorem z7.now {x:Cx} {b:Nat} {o:Obj} (h:z7 x b o) {T:Nat→LV} {M:Mem} {m:Mp} {a:Act} {w:World} (hr:Rel x T M m a w):w.heap[b]? = some o:=(hr.same.at_ b h.lt h.own).trans h.at_
open Go.RowKit
set_option linter.unusedVariables false
set_option linter.unusedSimpArgs false
inductive Kd where
 | int (k:IntKind)
 | bool
 | str
 | sl (e:TypeId)
 | st
 | ptr
structure Ty:Type 1 where
 kd:Kd
 size:Nat
 bytes:Nat
 zero:List C
 zl:List LV
 fields:List (Nat×TypeId)
def Ty.agg (y:Ty):Bool:=match y.kd with
 | .st=>true
 | _=>false
abbrev Tb:=TypeId→Option Ty
abbrev Tl:=List (Nat×LV)
abbrev Ml:=List (Nat×Option Blk)
def zdM {β:Type 1} (d:β):List (Nat×β)→Nat→β
 | [],_=>d
 | (k,v)::l,n=>match Nat.beq k n with
   | true=>v
   | false=>zdM d l n
def tm (T:Tl):Nat→LV:=zdM .no T
def mm (M:Ml):Mem:=zdM none M
def cv:Value→LV
 | .int k n=>.dat (.int k n)
 | .bool b=>.known b
 | .string s=>.dat (.str s)
 | .slice none 0 0=>.nil0
 | _=>.no
def val (T:Tl):Operand→LV
 | .tmp t=>zdM .no T t
 | .const v=>cv v
 | .global _=>.no
 | .func f=>.fn f
/-! ### freshness -/
def zje (id:Nat):List (Nat×Nat)→Bool
 | []=>true
 | (i,_)::r=>!Nat.beq i id && zje id r
def LV.free1 (id:Nat):LV→Bool
 | .own i=>!Nat.beq i id
 | .ptr i _=>!Nat.beq i id
 | .ept i _ _=>!Nat.beq i id
 | .clo _ caps=>zje id caps
 | .lagg _=>false
 | .tup _=>false
 | _=>true
def LV.frees1 (id:Nat):List LV→Bool
 | []=>true
 | l::ls=>l.free1 id && frees1 id ls
def LV.free2 (id:Nat):LV→Bool
 | .lagg ls=>frees1 id ls
 | l=>l.free1 id
def LV.frees2 (id:Nat):List LV→Bool
 | []=>true
 | l::ls=>l.free2 id && frees2 id ls
def LV.free (id:Nat):LV→Bool
 | .tup ls=>frees2 id ls
 | l=>l.free2 id
def zfD (id:Nat):List (Nat×LV)→Bool
 | []=>true
 | (_,l)::r=>l.free id && zfD id r
def zcC (id:Nat):List (Nat×Option Blk)→Bool
 | []=>true
 | (_,some (.box _ v))::r=>v.free2 id && zcC id r
 | (_,some (.row ..))::r=>zcC id r
 | (_,none)::r=>zcC id r
def fresh (T:Tl) (M:Ml) (id:Nat):Bool:=zfD id T && (zcC id M && Nat.blt id 1000)
/-! ### cells -/
def nth {β:Type _}:List β→Nat→Option β
 | [],_=>none
 | x::_,0=>some x
 | _::l,n+1=>nth l n
def fc {β:Type 1} (c:C) (k:C→Option β):Option β:=match c with
 | .int q n=>k (.int q n)
 | .bool b=>k (.bool b)
 | .str s=>k (.str s)
 | .sl z d f xs=>k (.sl z d f xs)
 | .val v=>k (.val v)
def fl {β:Type 1} (l:LV) (k:LV→Option β):Option β:=match l with
 | .no=>none
 | .nil0=>k .nil0
 | .nil c=>k (.nil c)
 | .known b=>k (.known b)
 | .dat c=>k (.dat c)
 | .dagg cs=>k (.dagg cs)
 | .lagg ls=>k (.lagg ls)
 | .own id=>k (.own id)
 | .ptr id off=>k (.ptr id off)
 | .ept id i off=>k (.ept id i off)
 | .spt cs off=>k (.spt cs off)
 | .fn f=>k (.fn f)
 | .clo f caps=>k (.clo f caps)
 | .tup ls=>k (.tup ls)
def zkJ {β γ:Type _} (l:List β) (k:List β→Option γ):Option γ:=match l with
 | []=>k []
 | x::l=>zkJ l fun l=>k (x::l)
def drop {β:Type _}:Nat→List β→List β
 | 0,l=>l
 | _+1,[]=>[]
 | n+1,_::l=>drop n l
def take {β:Type _}:Nat→List β→List β
 | 0,_=>[]
 | _+1,[]=>[]
 | n+1,x::l=>x::take n l
def zcM {β:Type _}:List β→Nat→List β→List β
 | l,0,r=>r++drop r.length l
 | x::l,n+1,r=>x::zcM l n r
 | [],_+1,_=>[]
def zrZ (cs:List C) (off:Nat) (y:Ty):Option LV:=match y.agg with
 | false=>(nth cs off).bind fun c=>match y.kd with
   | .sl _=>some (.dat c)
   | _=>fc c fun c=>some (.dat c)
 | true=>match off,Nat.beq cs.length y.size with
   | 0,true=>some (.dagg cs)
   | _,_=>match Nat.ble (off+y.size) cs.length with
     | true=>some (.dagg (take y.size (drop off cs)))
     | false=>none
def zu7 (ls:List LV) (off:Nat) (y:Ty):Option LV:=match y.agg with
 | false=>(nth ls off).bind fun l=>fl l some
 | true=>match Nat.ble (off+y.size) ls.length with
   | true=>zkJ (take y.size (drop off ls)) fun l=>some (.lagg l)
   | false=>none
def LV.typed (y:Ty):LV→Option LV
 | .nil0=>match y.kd,y.zl with
   | .sl _,[.nil c]=>some (.nil c)
   | _,_=>none
 | .no=>none
 | .tup _=>none
 | .dagg cs=>match y.agg,Nat.beq cs.length y.size with
   | true,true=>some (.dagg cs)
   | _,_=>none
 | .lagg ls=>match y.agg,Nat.beq ls.length y.size with
   | true,true=>some (.lagg ls)
   | _,_=>none
 | l=>match y.agg with
   | false=>fl l some
   | true=>none
def LV.cells:LV→List LV
 | .dagg cs=>cs.map .dat
 | .lagg ls=>ls
 | l=>[l]
def LV.data (M:Mem):LV→Option C
 | .dat c=>some c
 | .known b=>some (.bool b)
 | .nil c=>some c
 | .own id=>match M id with
   | some (.row _ z d f xs)=>some (.sl z d f xs)
   | _=>none
 | _=>none
def ldP (v:LV) (off:Nat) (y:Ty):Option LV:=match v with
 | .dagg cs=>zrZ cs off y
 | .lagg ls=>zu7 ls off y
 | _=>none
def ldB (v:LV) (t1 t off:Nat) (y:Ty):Option LV:=match off,Nat.beq t1 t with
 | 0,true=>v.typed y
 | _,_=>ldP v off y
def stP (v:LV) (off:Nat) (y:Ty) (u:LV):Option LV:=match v with
 | .dagg cs=>match Nat.ble (off+y.size) cs.length with
   | true=>(u.typed y).bind fun u=>zkJ (zcM (cs.map .dat) off u.cells) fun l=>some (.lagg l)
   | false=>none
 | .lagg ls=>match Nat.ble (off+y.size) ls.length with
   | true=>(u.typed y).bind fun u=>zkJ (zcM ls off u.cells) fun l=>some (.lagg l)
   | false=>none
 | _=>none
def stB (v:LV) (t1 t off:Nat) (y:Ty) (u:LV):Option LV:=match off,Nat.beq t1 t with
 | 0,true=>(v.typed y).bind fun _=>u.typed y
 | _,_=>stP v off y u
/-! ### operations -/
abbrev Res:=Option (Option Prop×Tl×Ml)
def zhf (n:Int):Prop:=-9223372036854775808≤n∧n≤9223372036854775807
def bin (o:BinOp) (u v:LV):Option (Option Prop×LV):=match o,u,v with
 | .add,.dat (.int .i64 a),.dat (.int .i64 b)=>some (some (zhf (a+b)),.dat (.int .i64 (a+b)))
 | .sub,.dat (.int .i64 a),.dat (.int .i64 b)=>some (some (zhf (a-b)),.dat (.int .i64 (a-b)))
 | .mul,.dat (.int .i64 a),.dat (.int .i64 b)=>some (some (zhf (a*b)),.dat (.int .i64 (a*b)))
 | .lss,.dat (.int .i64 a),.dat (.int .i64 b)=>some (none,.dat (.bool (decide (a<b))))
 | .leq,.dat (.int .i64 a),.dat (.int .i64 b)=>some (none,.dat (.bool (decide (a≤b))))
 | .gtr,.dat (.int .i64 a),.dat (.int .i64 b)=>some (none,.dat (.bool (decide (b<a))))
 | .geq,.dat (.int .i64 a),.dat (.int .i64 b)=>some (none,.dat (.bool (decide (b≤a))))
 | .eql,.dat (.int .i64 a),.dat (.int .i64 b)=>some (none,.dat (.bool (decide (a=b))))
 | .neq,.dat (.int .i64 a),.dat (.int .i64 b)=>some (none,.dat (.bool (!decide (a=b))))
 | .eql,.dat (.str a),.dat (.str b)=>some (none,.dat (.bool (decide (a.toList=b.toList))))
 | .neq,.dat (.str a),.dat (.str b)=>some (none,.dat (.bool (!decide (a.toList=b.toList))))
 | .add,.dat (.str a),.dat (.str b)=>some (some (a.size+b.size≤9223372036854775807),.dat (.str (a++b)))
 | _,_,_=>none
def zvV (o:BinOp) (y:Ty) (u v:LV):Option LV:=match y.kd,o,u,v with
 | .bool,.eql,.dat (.bool a),.dat (.bool b)=>some (.dat (.bool (a == b)))
 | .bool,.neq,.dat (.bool a),.dat (.bool b)=>some (.dat (.bool (!(a == b))))
 | .bool,.eql,.known a,.dat (.bool b)=>some (.dat (.bool (a == b)))
 | .bool,.eql,.dat (.bool a),.known b=>some (.dat (.bool (a == b)))
 | _,_,_,_=>none
def lenOf (M:Mem) (y:Ty) (l:LV):Option Nat:=match y.kd,l with
 | .sl _,.dat (.sl _ _ _ xs)=>some xs.length
 | .str,.dat (.str s)=>some s.size
 | .sl _,.nil _=>some 0
 | .sl _,.nil0=>some 0
 | .sl _,.own id=>match M id with
   | some (.row _ _ _ _ xs)=>some xs.length
   | _=>none
 | _,_=>none
def putd (d:Option Nat) (l:LV) (T:Tl):Tl:=match d with
 | some t=>(t,l)::T
 | none=>T
def zaA (n:Nat) (d:Option Nat):Bool:=match d with
 | some t=>Nat.blt t n
 | none=>true
def out (n:Nat) (T:Tl) (M:Ml) (s:Option Prop) (o:Oper) (l:LV):Res:=match o.dst with
 | some t=>match Nat.blt t n with
   | true=>some (s,(t,l)::T,M)
   | false=>none
 | none=>some (s,T,M)
def zhK (tb:Tb) (e z:Nat):Bool:=match tb e with
 | some y=>Nat.beq y.size z
 | none=>false
def zot (tb:Tb) (T:Tl) (fields:List (Nat×TypeId)) (cur:List LV):List (Nat×Operand)→Option (List LV)
 | []=>some cur
 | (i,q)::r=>match nth fields i with
   | some (off,ft)=>match tb ft with
     | some y=>((val T q).typed y).bind fun v=>match Nat.ble (off+y.size) cur.length with
       | true=>zkJ (zcM cur off v.cells) fun cur=>zot tb T fields cur r
       | false=>none
     | none=>none
   | none=>none
def zou (T:Tl):List Operand→Option (List (Nat×Nat))
 | []=>some []
 | q::l=>match val T q with
   | .ptr id off=>(zou T l).bind fun r=>some ((id,off)::r)
   | _=>none
def opF (tb:Tb) (n:Nat) (o:Oper) (T:Tl) (M:Ml):Res:=match o.op with
 | .move x=>fl (val T x) (out n T M none o)
 | .assign x=>fl (val T x) (out n T M none o)
 | .unOp .not _ x=>match val T x with
   | .known true=>out n T M none o (.known false)
   | .known false=>out n T M none o (.known true)
   | .dat (.bool b)=>out n T M none o (.dat (.bool (!b)))
   | _=>none
 | .pick c x y=>match val T c with
   | .known true=>fl (val T x) (out n T M none o)
   | .known false=>fl (val T y) (out n T M none o)
   | _=>none
 | .nilCheck x=>match val T x with
   | .spt cs off=>out n T M none o (.spt cs off)
   | .ptr id off=>match mm M id with
     | some _=>out n T M none o (.ptr id off)
     | none=>none
   | .ept id i off=>match mm M id with
     | some (.row ..)=>out n T M none o (.ept id i off)
     | _=>none
   | _=>none
 | .binOp b t x y _=>match bin b (val T x) (val T y) with
   | some (s,l)=>out n T M s o l
   | none=>(tb t).bind fun q=>(zvV b q (val T x) (val T y)).bind (out n T M none o)
 | .load t x=>match tb t,val T x with
   | some y,.spt cs off=>(zrZ cs off y).bind (out n T M none o)
   | some y,.ept id i off=>match mm M id with
     | some (.row _ _ d f xs)=>(zrZ (f (xs.getD i d)) off y).bind (out n T M none o)
     | _=>none
   | some y,.ptr id off=>match mm M id with
     | some (.box t1 v)=>(ldB v t1 t off y).bind (out n T M none o)
     | _=>none
   | _,_=>none
 | .fieldAddr s x i=>match tb s with
   | some y=>match y.kd,nth y.fields i,val T x with
     | .st,some (q,_),.ptr id off=>match mm M id with
       | some _=>out n T M none o (.ptr id (off+q))
       | none=>none
     | .st,some (q,_),.ept id i off=>match mm M id with
       | some (.row ..)=>out n T M none o (.ept id i (off+q))
       | _=>none
     | .st,some (q,_),.spt cs off=>out n T M none o (.spt cs (off+q))
     | _,_,_=>none
   | none=>none
 | .indexAddr t x ix=>match tb t with
   | some y=>match y.kd,val T x,val T ix with
     | .sl e,.dat (.sl z d f xs),.dat (.int _ i)=>match zhK tb e z with
       | true=>out n T M (some (0≤i∧i<xs.length)) o (.spt (f (xs.getD i.toNat d)) 0)
       | false=>none
     | .sl e,.own id,.dat (.int _ i)=>match mm M id with
       | some (.row _ z _ _ xs)=>match zhK tb e z with
         | true=>out n T M (some (0≤i∧i<xs.length)) o (.ept id i.toNat 0)
         | false=>none
       | _=>none
     | _,_,_=>none
   | none=>none
 | .alloc t=>match tb t,o.dst with
   | some y,some d=>match fresh T M d,y.agg,y.zl with
     | true,true,l=>out n T ((d,some (.box t (.lagg l)))::M) none o (.ptr d 0)
     | true,false,[l]=>out n T ((d,some (.box t l))::M) none o (.ptr d 0)
     | _,_,_=>none
   | _,_=>none
 | .box t x=>match tb t,o.dst with
   | some y,some d=>match fresh T M d with
     | true=>((val T x).typed y).bind fun v=>out n T ((d,some (.box t v))::M) none o (.ptr d 0)
     | _=>none
   | _,_=>none
 | .store t a x=>match tb t,val T a,o.dst with
   | some y,.ptr id off,none=>match mm M id with
     | some (.box t1 v)=>(stB v t1 t off y (val T x)).bind fun v=>some (none,T,(id,some (.box t1 v))::M)
     | _=>none
   | _,_,_=>none
 | .build t parts=>match tb t with
   | some y=>match y.kd with
     | .st=>(zot tb T y.fields y.zl parts.toList).bind fun l=>out n T M none o (.lagg l)
     | _=>none
   | none=>none
 | .makeFunc (.func f) first captured=>match first.toList with
   | []=>(zou T captured.toList).bind fun caps=>out n T M none o (.clo f caps)
   | _=>none
 | .extract x i=>match val T x with
   | .tup ls=>(nth ls i).bind fun l=>fl l (out n T M none o)
   | _=>none
 | .call c=>match c.callee,c.args.toList,c.argTypes.toList with
   | .builtin .len,[x],[t]=>(tb t).bind fun y=>(lenOf (mm M) y (val T x)).bind fun k=>out n T M none o (.dat (.int .i64 k))
   | .builtin .max,[x,y],_=>match val T x,val T y with
     | .dat (.int .i64 a),.dat (.int .i64 b)=>out n T M none o (.dat (.int .i64 (max a b)))
     | _,_=>none
   | .builtin .min,[x,y],_=>match val T x,val T y with
     | .dat (.int .i64 a),.dat (.int .i64 b)=>out n T M none o (.dat (.int .i64 (min a b)))
     | _,_=>none
   | _,_,_=>none
 | _=>none
/-! ### code -/
inductive It:Type 1 where
 | code (c:Code)
 | ops (all:List Oper) (l:List Oper)
 | blk (id:Nat)
 | stop (J:Cx→Tl→Ml→Prop)
inductive Out:Type 1 where
 | ret (s:Prop) (T:Tl) (M:Ml)
 | stop (s:Prop) (J:Cx→Tl→Ml→Prop) (T:Tl) (M:Ml)
 | cond (b:Bool) (s:Prop) (M:Ml) (T1:Tl) (k1:List It) (T2:Tl) (k2:List It)
 | loop (body:Code) (s:Prop) (T Ts:Tl) (M Ms:Ml) (k:List It)
 | call (f:FuncId) (args:List LV) (dst:Option Nat) (s:Prop) (T:Tl) (M:Ml) (k:List It)
 | app (t:TypeId) (x y:LV) (o:Oper) (s:Prop) (T:Tl) (M:Ml) (k:List It)
 | set (t:TypeId) (id i off:Nat) (v:LV) (o:Oper) (s:Prop) (T:Tl) (M:Ml) (k:List It)
 | oth (o:Oper) (s:Prop) (T:Tl) (M:Ml) (k:List It)
 | bad (s:Prop) (T:Tl) (M:Ml) (k:List It)
def zkG (id:Nat):List It→Option (List It)
 | []=>none
 | .blk i::k=>match Nat.beq i id with
   | true=>some k
   | false=>zkG id k
 | .code _::k=>zkG id k
 | .ops _ _::k=>zkG id k
 | .stop _::k=>zkG id k
def zsN (tb:Tb) (T:Tl) (q:Operand) (t:TypeId):Option LV:=match val T q with
 | .fn f=>some (.fn f)
 | .clo f caps=>some (.clo f caps)
 | v=>(tb t).bind fun y=>v.typed y
def zdQ (tb:Tb) (T:Tl):List Operand→List TypeId→Option (List LV)
 | [],[]=>some []
 | x::l,t::ts=>(zsN tb T x t).bind fun v=>(zdQ tb T l ts).bind fun r=>some (v::r)
 | _,_=>none
inductive Sp:Type 1 where
 | call (f:FuncId) (args:List LV)
 | app (t:TypeId) (x y:LV)
 | set (t:TypeId) (id i off:Nat) (v:LV)
 | oth
 | no
def zkK:List (Nat×Nat)→List LV
 | []=>[]
 | (i,o)::r=>.ptr i o::zkK r
def zfk (tb:Tb) (n:Nat) (o:Oper) (T:Tl):Sp:=match zaA n o.dst with
 | false=>.no
 | true=>match o.op with
   | .call c=>match c.callee,c.args.toList,c.argTypes.toList with
     | .value q,l,ts=>match val T q,zdQ tb T l ts with
       | .fn f,some vs=>.call f vs
       | .clo f caps,some vs=>.call f (vs++zkK caps)
       | _,_=>.no
     | .builtin .append,[x,y],[t,t1]=>match Nat.beq t t1 with
       | true=>.app t (val T x) (val T y)
       | false=>.no
     | _,_,_=>.no
   | .store t a x=>match val T a with
     | .ept id i off=>.set t id i off (val T x)
     | _=>.no
   | .makeSlice _ _ _=>.oth
   | .buildSlice _ _ _=>.oth
   | .slice _ _ _ _ _=>.oth
   | _=>.no
def Oper.bare (o:Oper):Oper:={o with guard:=none}
/-! ### what a loop leaves alone -/
def zht (k:Nat):List Nat→Bool
 | []=>false
 | j::l=>match Nat.beq j k with
   | true=>true
   | false=>zht k l
def zqE:List Oper→List Nat
 | []=>[]
 | o::l=>match o.dst with
   | some d=>d::zqE l
   | none=>zqE l
def wrC:Code→List Nat
 | .region _ ops _=>zqE ops.toList
 | .seq a b=>wrC a++wrC b
 | .cond _ a b=>wrC a++wrC b
 | .block _ c=>wrC c
 | .loop c=>wrC c
 | _=>[]
def LV.keeps:LV→Bool
 | .tup _=>false
 | .no=>false
 | _=>true
def zki {β:Type _} (ws:List Nat):List Nat→Tl→(Tl→β)→β
 | _,[],k=>k []
 | seen,(t,l)::r,k=>match zht t ws,zht t seen,l.keeps with
   | false,false,true=>zki ws (t::seen) r fun r=>k ((t,l)::r)
   | _,_,_=>zki ws (t::seen) r k
def zgP {β:Type _} (ws:List Nat):List Nat→Ml→(Ml→β)→β
 | _,[],k=>k []
 | seen,(t,none)::r,k=>zgP ws (t::seen) r k
 | seen,(t,some b)::r,k=>match zht t ws,zht t seen with
   | false,false=>zgP ws (t::seen) r fun r=>k ((t,some b)::r)
   | _,_=>zgP ws (t::seen) r k
def run (tb:Tb) (n:Nat):Nat→Tl→Ml→Prop→List It→Out
 | 0,T,M,s,k=>.bad s T M k
 | _+1,T,M,s,[]=>.ret s T M
 | fu+1,T,M,s,.blk _::k=>run tb n fu T M s k
 | _+1,T,M,s,.stop J::_=>.stop s J T M
 | fu+1,T,M,s,.ops _ []::k=>run tb n fu T M s k
 | fu+1,T,M,s,.ops all (o::l)::k=>match o.guard with
   | some (j,want)=>match nth (all.map fun o=>o.dst) j with
     | some (some d)=>match tm T d with
       | .known b=>match b,want with
         | true,true=>run tb n fu T M s (.ops all (Oper.bare o::l)::k)
         | false,false=>run tb n fu T M s (.ops all (Oper.bare o::l)::k)
         | true,false=>match zaA n o.dst with
           | true=>run tb n fu (putd o.dst (.tup []) T) M s (.ops all l::k)
           | false=>.bad s T M (.ops all (o::l)::k)
         | false,true=>match zaA n o.dst with
           | true=>run tb n fu (putd o.dst (.tup []) T) M s (.ops all l::k)
           | false=>.bad s T M (.ops all (o::l)::k)
       | .tup _=>match zaA n o.dst with
         | true=>run tb n fu (putd o.dst (.tup []) T) M s (.ops all l::k)
         | false=>.bad s T M (.ops all (o::l)::k)
       | .dat (.bool b)=>match Nat.blt d n with
         | true=>.cond b s M ((d,.known true)::T) (.ops all (o::l)::k) ((d,.known false)::T) (.ops all (o::l)::k)
         | false=>.bad s T M (.ops all (o::l)::k)
       | _=>.bad s T M (.ops all (o::l)::k)
     | _=>.bad s T M (.ops all (o::l)::k)
   | none=>match zfk tb n o T with
     | .call f args=>.call f args o.dst s T M (.ops all l::k)
     | .app t x y=>.app t x y o s T M (.ops all l::k)
     | .set t id i off v=>.set t id i off v o s T M (.ops all l::k)
     | .oth=>.oth o s T M (.ops all l::k)
     | .no=>match opF tb n o T M with
       | some (some s1,T1,M1)=>run tb n fu T1 M1 (s∧s1) (.ops all l::k)
       | some (none,T1,M1)=>run tb n fu T1 M1 s (.ops all l::k)
       | none=>.bad s T M (.ops all (o::l)::k)
 | fu+1,T,M,s,.code c::k=>match c with
   | .skip=>run tb n fu T M s k
   | .seq a b=>run tb n fu T M s (.code a::.code b::k)
   | .block id c=>run tb n fu T M s (.code c::.blk id::k)
   | .region _ ops false=>run tb n fu T M s (.ops ops.toList ops.toList::k)
   | .cond c x y=>match val T c with
     | .known true=>run tb n fu T M s (.code x::k)
     | .known false=>run tb n fu T M s (.code y::k)
     | .dat (.bool b)=>.cond b s M T (.code x::k) T (.code y::k)
     | _=>.bad s T M (.code (.cond c x y)::k)
   | .loop c=>zki (wrC c) [] T fun Ts=>zgP (wrC c) [] M fun Ms=>.loop c s T Ts M Ms k
   | .exit id=>match zkG id k with
     | some k=>run tb n fu T M s k
     | none=>.bad s T M (.code c::k)
   | .ret=>.ret s T M
   | c=>.bad s T M (.code c::k)
/-! ### the functions' own words -/
theorem zwN {β:Type 1} (c:C) (k:C→Option β):fc c k=k c:=by cases c<;>rfl
theorem zkA {β:Type 1} {l:LV} {k:LV→Option β} {r:β} (h:fl l k=some r):k l=some r:=by cases l<;>first | exact h | cases h
theorem zlF {β γ:Type _} (l:List β) (k:List β→Option γ):zkJ l k=k l:=by
 induction l generalizing k with
 | nil=>rfl
 | cons x l ih=>rw [zkJ,ih]
theorem zge {β:Type _} (l:List β) (i:Nat):nth l i=l[i]?:=by
 induction l generalizing i with
 | nil=>cases i<;>rfl
 | cons x l ih=>cases i with
   | zero=>rfl
   | succ i=>rw [nth,ih];rfl
theorem zoB {β:Type _} (n:Nat) (l:List β):drop n l=l.drop n:=by
 induction n generalizing l with
 | zero=>cases l<;>rfl
 | succ n ih=>cases l with
   | nil=>rfl
   | cons x l=>rw [drop,ih];rfl
theorem zfp {β:Type _} (n:Nat) (l:List β):take n l=l.take n:=by
 induction n generalizing l with
 | zero=>cases l<;>rfl
 | succ n ih=>cases l with
   | nil=>rfl
   | cons x l=>rw [take,ih];rfl
theorem zsy {β:Type _} (l:List β) (n:Nat) (r:List β) (h:n≤l.length):zcM l n r=l.take n++r++l.drop (n+r.length):=by
 induction n generalizing l with
 | zero=>rw [zcM.eq_def];simp [zoB]
 | succ n ih=>cases l with
   | nil=>simp at h
   | cons x l=>
     rw [zcM,ih l (by simpa using h)]
     simp only [List.take_succ_cons,List.cons_append]
     rw [show n+1+r.length=(n+r.length)+1 by omega,List.drop_succ_cons]
theorem zin {a b:Nat}:Nat.beq a b=false↔a≠b:=by
 constructor
 ·intro h e;subst e;rw [Nat.beq_refl] at h;cases h
 ·intro h;cases hb:Nat.beq a b with
  | false=>rfl
  | true=>exact absurd (Nat.eq_of_beq_eq_true hb) h
theorem zbh {a b:Nat}:Nat.beq a b=true↔a=b:=⟨Nat.eq_of_beq_eq_true,fun h=>by rw [h];exact Nat.beq_refl b⟩
theorem zij (t:Nat) (l:LV) (T:Tl):tm ((t,l)::T)=upd (tm T) t l:=by
 funext i
 show (match Nat.beq t i with | true=>l | false=>zdM .no T i)=_
 unfold upd
 by_cases h:i=t
 ·subst h;rw [zbh.2 rfl,if_pos rfl]
 ·rw [if_neg h,zin.2 (fun e=>h e.symm)];rfl
theorem zI (id:Nat) (b:Option Blk) (M:Ml):mm ((id,b)::M)=upd (mm M) id b:=by
 funext i
 show (match Nat.beq id i with | true=>b | false=>zdM none M i)=_
 unfold upd
 by_cases h:i=id
 ·subst h;rw [zbh.2 rfl,if_pos rfl]
 ·rw [if_neg h,zin.2 (fun e=>h e.symm)];rfl
theorem zkC {id:Nat}:∀ {caps:List (Nat×Nat)},zje id caps=true→∀ p∈caps,¬ p.1=id
 | [],_,p,hp=>by cases hp
 | (i,o)::r,h,p,hp=>by
   simp only [zje,Bool.and_eq_true,Bool.not_eq_true'] at h
   rcases List.mem_cons.1 hp with rfl | hp
   ·exact zin.1 h.1
   ·exact zkC h.2 p hp
theorem zmI {id:Nat} {l:LV} (h:l.free1 id=true):¬ l.on1 id:=by
 cases l with
 | clo f caps=>rintro ⟨p,hp,he⟩;exact zkC h p hp he
 | _=>simp_all [LV.free1,LV.on1,zin]
theorem znw {id:Nat}:∀ {ls:List LV},LV.frees1 id ls=true→∀ l∈ls,¬ l.on1 id
 | [],_,l,hl=>by cases hl
 | x::ls,h,l,hl=>by
   simp only [LV.frees1,Bool.and_eq_true] at h
   rcases List.mem_cons.1 hl with rfl | hl
   ·exact zmI h.1
   ·exact znw h.2 l hl
theorem zlX {id:Nat} {l:LV} (h:l.free2 id=true):¬ l.on2 id:=by
 cases l with
 | lagg ls=>rintro ⟨l,hl,ho⟩;exact znw h l hl ho
 | tup ls=>exact fun h=>h
 | clo f caps=>exact zmI (l:=.clo f caps) h
 | _=>simp_all [LV.free2,LV.on2,LV.free1,LV.on1,zin]
theorem znO {id:Nat}:∀ {ls:List LV},LV.frees2 id ls=true→∀ l∈ls,¬ l.on2 id
 | [],_,l,hl=>by cases hl
 | x::ls,h,l,hl=>by
   simp only [LV.frees2,Bool.and_eq_true] at h
   rcases List.mem_cons.1 hl with rfl | hl
   ·exact zlX h.1
   ·exact znO h.2 l hl
theorem zuU {id:Nat} {l:LV} (h:l.free id=true):¬ l.on id:=by
 cases l with
 | tup ls=>rintro ⟨l,hl,ho⟩;exact znO h l hl ho
 | lagg ls=>exact zlX (l:=.lagg ls) h
 | clo f caps=>exact zmI (l:=.clo f caps) h
 | _=>simp_all [LV.free,LV.on,LV.free2,LV.on2,LV.free1,LV.on1,zin]
theorem zlV {id:Nat}:∀ {T:Tl},zfD id T=true→∀ t,¬ (tm T t).on id
 | [],_,t=>fun h=>h
 | (k,l)::T,h,t=>by
   simp only [zfD,Bool.and_eq_true] at h
   rw [zij];unfold upd
   split
   ·exact zuU h.1
   ·exact zlV h.2 t
theorem zmU {id:Nat}:∀ {M:Ml},zcC id M=true→∀ i b,mm M i=some b→¬ b.on id
 | [],_,i,b,hb=>by cases hb
 | (k,o)::M,h,i,b,hb=>by
   rw [zI] at hb;unfold upd at hb
   split at hb
   ·subst hb
    cases b with
    | box t v=>simp only [zcC,Bool.and_eq_true] at h;exact zlX h.1
    | row e z d f xs=>exact fun h=>h
   ·refine zmU (M:=M) ?_ i b hb
    cases o with
    | none=>exact h
    | some b=>cases b with
      | box t v=>simp only [zcC,Bool.and_eq_true] at h;exact h.2
      | row e z d f xs=>exact h
theorem zde {T:Tl} {M:Ml} {id:Nat} (h:fresh T M id=true):zcd (tm T) (mm M) id:=by
 simp only [fresh,Bool.and_eq_true] at h
 exact ⟨zlV h.1,zmU h.2.1,Nat.blt_eq.mp h.2.2⟩
/-! ### what values are -/
theorem zec {S:Nat→Prop} {w:World} {v:Value} {k:IntKind} {n:Int} (h:Rf S w v (.int k n)):v=.int k n:=by cases h;rfl
theorem zft {S:Nat→Prop} {w:World} {v:Value} {b:Bool} (h:Rf S w v (.bool b)):v=.bool b:=by cases h;rfl
theorem zlY {S:Nat→Prop} {w:World} {v:Value} {s:ByteArray} (h:Rf S w v (.str s)):v=.string s:=by cases h;rfl
theorem zkz {S:Nat→Prop} {w:World} {v:Value} {z:Nat} {α:Type} {d:α} {f:α→List C} {xs:List α} (h:Rf S w v (.sl z d f xs)):∃ A c,v=.slice A xs.length c∧(0<xs.length→∃ b o,A=some ⟨b,o,none⟩∧0<z∧xs.length≤c∧c≤9223372036854775807∧¬ S b∧(∀ x∈xs,(f x).length=z)∧
 ∀ i x j q,xs[i]? = some x→(f x)[j]? = some q→∃ u,w.cell? ⟨b,o+i*z+j,none⟩=some u∧Rf S w u q):=by
 cases h with
 | nil A c z d f=>exact ⟨A,c,rfl,fun h=>absurd h (by simp)⟩
 | row b o c z n d f xs us hn hne hz hc hm hS hl hu hr=>exact ⟨some ⟨b,o,none⟩,c,by rw [hn],fun _=>⟨b,o,rfl,hz,hc,hm,hS,hl,fun i x j q hi hj=>⟨us i j,hu i x j q hi hj,hr i x j q hi hj⟩⟩⟩
section
variable {x:Cx} {T:Tl} {M:Mem} {m:Mp} {a:Act} {w:World} {P:Program}
theorem zwZ (v:Value):R3 x.S0 M m w v (cv v):=by
 unfold cv
 split<;>first
  | exact Rf.int _ _
  | rfl
  | exact Rf.str _
  | trivial
theorem zah (h:Rel x (tm T) M m a w) (o:Operand):R3 x.S0 M m w (a.eval o) (val T o):=by
 cases o with
 | tmp t=>exact h.tmp t
 | const v=>exact zwZ v
 | global g=>trivial
 | func f=>rfl
def zfa (P:Program) (x:Cx) (o:Oper) (a:Act) (w:World) (T1:Tl) (M1:Mem):Prop:=
 ∃ nx v w1 m1,(execOp a.eval o).run P w=.ok nx w1∧(nx=.value v∨(nx=.skip∧v=undef))∧Rel x (tm T1) M1 m1 (a.put o.dst v) w1
theorem Rel.putd {n:Nat} (hn:x.n=n) (h:Rel x (tm T) M m a w) {d:Option Nat} (hd:zaA n d=true) {v:Value} {l:LV} (hv:R3 x.S0 M m w v l):Rel x (tm (Ab.putd d l T)) M m (a.put d v) w:=by
 cases d with
 | none=>exact h
 | some t=>
   show Rel x (tm ((t,l)::T)) M m _ w
   rw [zij]
   exact h.put (by rw [hn];simpa [zaA,Nat.blt_eq] using hd) hv
theorem zgg {n:Nat} {T:Tl} {M:Ml} {s:Option Prop} {o:Oper} {l:LV} {s1:Option Prop} {T1:Tl} {M1:Ml} (h:out n T M s o l=some (s1,T1,M1)):s1=s∧T1=Ab.putd o.dst l T∧M1=M∧zaA n o.dst=true:=by
 unfold out at h
 unfold Ab.putd zaA
 split at h
 ·split at h
  ·cases h;rename_i hd _ hb;simp [hd,hb]
  ·cases h
 ·cases h;rename_i hd;simp [hd]
theorem ziT {n:Nat} (hn:x.n=n) {o:Oper} {l:LV} {v:Value} {w1:World} {m1:Mp} {M1:Mem} (hd:zaA n o.dst=true) (hr:(execOp a.eval o).run P w=.ok (.value v) w1) (h1:Rel x (tm T) M1 m1 a w1) (hv:R3 x.S0 M1 m1 w1 v l):zfa P x o a w (Ab.putd o.dst l T) M1:=
 ⟨_,v,w1,m1,hr,.inl rfl,h1.putd hn hd hv⟩
theorem z9 {n:Nat} (hn:x.n=n) {M:Ml} (h:Rel x (tm T) (mm M) m a w) {o:Oper} {l:LV} {v:Value} {s s1:Option Prop} {T1:Tl} {M1:Ml} (ho:out n T M s o l=some (s1,T1,M1)) (hr:(execOp a.eval o).run P w=.ok (.value v) w) (hv:R3 x.S0 (mm M) m w v l):zfa P x o a w T1 (mm M1):=by
 obtain ⟨_,rfl,rfl,hd⟩:=zgg ho
 exact ziT hn hd hr h hv
end
def zv:C→Value
 | .int k n=>.int k n
 | .bool b=>.bool b
 | .str s=>.string s
 | .sl ..=>.slice none 0 0
 | .val v=>v
def zlv:C→LV
 | .sl z d f xs=>.nil (.sl z d f xs)
 | .bool b=>.known b
 | c=>.dat c
def zOk:C→Prop
 | .sl _ _ _ xs=>xs=[]
 | .val _=>False
 | _=>True
def zoN (P:Program):Kd→List (Nat×TypeId)→TypeDesc→Prop
 | .int k,_,.int k'=>k=k'
 | .bool,_,.bool=>True
 | .str,_,.string=>True
 | .sl e,_,.slice e'=>e=e'
 | .ptr,_,.pointer _=>True
 | .st,fields,.struct fs=>fs.size=fields.length∧∀ (i:Nat) q,fields[i]? = some q→∃ f,fs[i]? = some f∧f.offset=q.1∧f.type=q.2∧P.cellsOf f.type≠0∧(P.info? f.type).isSome=true
 | _,_,_=>False
structure za9 (P:Program) (t:TypeId) (y:Ty):Prop where
 info:∃ i,P.info? t=some i∧i.size=y.size∧i.bytes=y.bytes∧∃ z,i.zero=some z∧z.cells.toList=y.zero.map zv∧(y.agg=true→z=.agg z.cells)
 desc:∃ d,P.underlying t=some d∧zoN P y.kd y.fields d
 pos:0<y.size∧0<y.bytes
 zl:y.zl=y.zero.map zlv∧y.zero.length=y.size∧∀ c∈y.zero,zOk c
 one:y.agg=false→y.size=1
def zaJ (P:Program) (tb:Tb):Prop:=∀ t y,tb t=some y→za9 P t y
section
variable {P:Program} {w:World}
theorem za9.agg {t:TypeId} {y:Ty} (h:za9 P t y):(isAgg t).run P w=.ok y.agg w:=by
 obtain ⟨d,hd,hk⟩:=h.desc
 simp only [isAgg,Sem.run_bind,run_underlying hd,Result.andThen_ok]
 unfold Ty.agg
 revert hk
 cases y.kd<;>cases d<;>simp [zoN]
theorem za9.sizeOf {t:TypeId} {y:Ty} (h:za9 P t y):(sizeOf t).run P w=.ok y.size w:=by
 obtain ⟨i,hi,hs,_⟩:=h.info
 simp [Go.sizeOf,run_typeInfo w hi,hs]
theorem za9.cellsOf {t:TypeId} {y:Ty} (h:za9 P t y):P.cellsOf t=y.size:=by
 obtain ⟨i,hi,hs,_⟩:=h.info
 simp [Program.cellsOf,hi,hs]
theorem zcA (b o i:Nat):(⟨b,o,none⟩:Addr).add i=⟨b,o+i,none⟩:=by unfold Addr.add;split<;>simp_all
theorem zmp {t:TypeId} {y:Ty} (h:za9 P t y) (ha:y.agg=false) {b o:Nat} {v:Value} (hc:w.cell? ⟨b,o,none⟩=some v):(loadVar t ⟨b,o,none⟩).run P w=.ok v w:=by
 simp only [loadVar,Sem.run_bind,h.agg,Result.andThen_ok,ha,Bool.false_eq_true,if_false,run_load,hc]
theorem zl4 {t:TypeId} {y:Ty} (h:za9 P t y) (ha:y.agg=true) {b o:Nat} {us:List Value} (hl:us.length=y.size) (hc:∀ j v,us[j]? = some v→w.cell? ⟨b,o+j,none⟩=some v):(loadVar t ⟨b,o,none⟩).run P w=.ok (.agg us.toArray) w:=by
 have hr:=run_loadCells_list (P:=P) w ⟨b,o,none⟩ us (fun j v hj=>by rw [zcA];exact hc j v hj)
 rw [hl] at hr
 simp only [loadVar,Sem.run_bind,h.agg,Result.andThen_ok,ha,if_true,h.sizeOf,hr,Sem.run_pure]
end
section
variable {x:Cx} {T:Tl} {M:Ml} {m:Mp} {a:Act} {w:World} {P:Program} {tb:Tb} {n:Nat} {o:Oper} {s1:Option Prop} {T1:Tl} {M1:Ml}
theorem zuJ {q:Operand} (hop:o.op=.move q) (hn:x.n=n) (h:Rel x (tm T) (mm M) m a w) (ho:opF tb n o T M=some (s1,T1,M1)):zfa P x o a w T1 (mm M1):=by
 simp only [opF,hop] at ho
 exact z9 hn h (zkA ho) (by simp only [execOp,hop];rfl) (zah h q)
theorem zsd {q:Operand} (hop:o.op=.assign q) (hn:x.n=n) (h:Rel x (tm T) (mm M) m a w) (ho:opF tb n o T M=some (s1,T1,M1)):zfa P x o a w T1 (mm M1):=by
 simp only [opF,hop] at ho
 exact z9 hn h (zkA ho) (by simp only [execOp,hop];rfl) (zah h q)
theorem zvg {t:TypeId} {u:UnOp} {q:Operand} (hop:o.op=.unOp u t q) (hn:x.n=n) (h:Rel x (tm T) (mm M) m a w) (ho:opF tb n o T M=some (s1,T1,M1)):zfa P x o a w T1 (mm M1):=by
 have hv:=zah h q
 have hrun:∀ b,a.eval q=.bool b→u=.not→(execOp a.eval o).run P w=.ok (.value (.bool !b)) w:=fun b hb hu=>by
  subst hu;simp only [execOp,hop,hb];simp [Op.unary]
 cases u<;>simp only [opF,hop] at ho<;>try cases ho
 split at ho
 ·rename_i he;rw [he] at hv;exact z9 hn h ho (hrun _ hv rfl) rfl
 ·rename_i he;rw [he] at hv;exact z9 hn h ho (hrun _ hv rfl) rfl
 ·rename_i b he;rw [he] at hv;exact z9 hn h ho (hrun _ (zft hv) rfl) (Rf.bool _)
 ·cases ho
theorem zuO {c p q:Operand} (hop:o.op=.pick c p q) (hn:x.n=n) (h:Rel x (tm T) (mm M) m a w) (ho:opF tb n o T M=some (s1,T1,M1)):zfa P x o a w T1 (mm M1):=by
 have hv:=zah h c
 have hrun:∀ b,a.eval c=.bool b→(execOp a.eval o).run P w=.ok (.value (if b then a.eval p else a.eval q)) w:=fun b hb=>by
  simp only [execOp,hop,hb,asBool];simp
 simp only [opF,hop] at ho
 split at ho
 ·rename_i he;rw [he] at hv;exact z9 hn h (zkA ho) (hrun true hv) (zah h p)
 ·rename_i he;rw [he] at hv;exact z9 hn h (zkA ho) (hrun false hv) (zah h q)
 ·cases ho
theorem zpg {q:Operand} (hop:o.op=.nilCheck q) (hn:x.n=n) (h:Rel x (tm T) (mm M) m a w) (ho:opF tb n o T M=some (s1,T1,M1)):zfa P x o a w T1 (mm M1):=by
 have hv:=zah h q
 have hrun:∀ ad,a.eval q=.pointer (some ad)→(execOp a.eval o).run P w=.ok (.value (.pointer (some ad))) w:=fun ad hb=>by
  simp only [execOp,hop,hb];rfl
 simp only [opF,hop] at ho
 split at ho
 ·rename_i he;rw [he] at hv
  obtain ⟨b,o',hp,hc⟩:=hv
  exact z9 hn h ho (hrun _ hp) ⟨b,o',rfl,hc⟩
 ·rename_i id off he;rw [he] at hv
  split at ho
  ·rename_i bl hm
   have hp:=hv.2 (by rw [hm];rfl)
   exact z9 hn h ho (hrun _ hp) ⟨rfl,fun _=>rfl⟩
  ·cases ho
 ·rename_i id i off he;rw [he] at hv
  split at ho
  ·rename_i hm
   have hp:=(hv.2 _ (by unfold zJ;rw [hm])).2
   exact z9 hn h ho (hrun _ hp) ⟨rfl,fun n hn=>⟨(hv.2 n hn).1,rfl⟩⟩
  ·cases ho
 ·cases ho
theorem zq0 {β:Type} [BEq β] [LawfulBEq β] [DecidableEq β] (a b:β):decide (a=b)=(a == b):=by rw [Bool.eq_iff_iff];simp
theorem zuC {k:Int} (h:zhf k):IntKind.i64.wrap k=k:=by
 unfold zhf at h
 have hb:IntKind.i64.bits=64:=rfl
 have hs:IntKind.i64.signed=true:=rfl
 simp only [IntKind.wrap,hb,hs,Bool.true_and,decide_eq_true_eq,Int.reducePow,Nat.reduceSub]
 split<;>omega
theorem zr8 {b:BinOp} {y:Ty} {u v l:LV} (h:zvV b y u v=some l):y.kd=.bool∧∃ i j r,(u=.dat (.bool i)∨u=.known i)∧(v=.dat (.bool j)∨v=.known j)∧l=.dat (.bool r)∧((b=.eql∧r=(i == j))∨(b=.neq∧r=(!(i == j)))):=by
 unfold zvV at h
 split at h<;>first | cases h | skip
 all_goals (rename_i i j hk;refine ⟨hk,i,j,_,?_,?_,rfl,?_⟩<;>first | exact .inl rfl | exact .inr rfl | exact .inl ⟨rfl,rfl⟩ | exact .inr ⟨rfl,rfl⟩)
theorem zvX {b:BinOp} {t ty:TypeId} {p q:Operand} (hop:o.op=.binOp b t p q ty) (hn:x.n=n) (htb:zaJ P tb) (h:Rel x (tm T) (mm M) m a w) (ho:opF tb n o T M=some (s1,T1,M1)) (hs:∀ r,s1=some r→r):zfa P x o a w T1 (mm M1):=by
 have hp:=zah h p
 have hq:=zah h q
 have hex:∀ (u v:Value) (r:Value),a.eval p=u→a.eval q=v→(eqGuard b t p q u v).run P w=.ok () w→(binOp b t u v).run P w=.ok r w→(execOp a.eval o).run P w=.ok (.value r) w:=fun u v r hu hv hg hb=>by
  simp only [execOp,hop,hu,hv,Sem.run_bind,hg,Result.andThen_ok,hb,Sem.run_pure]
 simp only [opF,hop] at ho
 split at ho
 ·rename_i s l hb
  have hside:∀ r,s=some r→r:=by obtain ⟨rfl,_⟩:=zgg ho;exact hs
  have int2:∀ i j:Int,R3 x.S0 (mm M) m w (a.eval p) (.dat (.int .i64 i))→R3 x.S0 (mm M) m w (a.eval q) (.dat (.int .i64 j))→∀ r,(binOp b t (.int .i64 i) (.int .i64 j)).run P w=.ok r w→(execOp a.eval o).run P w=.ok (.value r) w:=
   fun i j h1 h2 r hr=>hex _ _ r (zec h1) (zec h2) (by rw [eqGuard_at_int];rfl) hr
  have str2:∀ i j:ByteArray,R3 x.S0 (mm M) m w (a.eval p) (.dat (.str i))→R3 x.S0 (mm M) m w (a.eval q) (.dat (.str j))→∀ r,(binOp b t (.string i) (.string j)).run P w=.ok r w→(execOp a.eval o).run P w=.ok (.value r) w:=
   fun i j h1 h2 r hr=>hex _ _ r (zlY h1) (zlY h2) (by rw [eqGuard_at_string];rfl) hr
  unfold bin at hb
  split at hb<;>(first | cases hb | skip)<;>rename_i e1 e2<;>rw [e1] at hp<;>rw [e2] at hq<;>
   first
    | (refine z9 hn h ho (int2 _ _ hp hq _ ?_) (Rf.int _ _);have hk:=zuC (hside _ rfl);simp only [binOp,Op.intArith];rw [hk];simp;done)
    | (refine z9 hn h ho (int2 _ _ hp hq _ ?_) (Rf.bool _);simp [binOp,Op.intCmp,bne,zq0];done)
    | (refine z9 hn h ho (str2 _ _ hp hq _ ?_) (Rf.bool _);simp [binOp,Op.stringOp,bne,zq0];done)
    | (refine z9 hn h ho (str2 _ _ hp hq _ ?_) (Rf.str _);have hk:=hside _ rfl;simp only [binOp];exact run_string_add_sum _ _ _ hk)
 ·obtain ⟨y,hy,ho⟩:=Option.bind_eq_some_iff.1 ho
  obtain ⟨l,hb,ho⟩:=Option.bind_eq_some_iff.1 ho
  obtain ⟨d,hd,hk⟩:=(htb t y hy).desc
  have bool2:y.kd=.bool→∀ i j:Bool,a.eval p=.bool i→a.eval q=.bool j→∀ r,(b=.eql∧r=(i == j))∨(b=.neq∧r=(!(i == j)))→(execOp a.eval o).run P w=.ok (.value (.bool r)) w:=fun hkd i j h1 h2 r hr=>by
   rw [hkd] at hk
   have hd':P.underlying t=some .bool:=by cases d<;>first | exact hd | exact hk.elim
   refine hex _ _ _ h1 h2 (by rw [eqGuard_at_bool];rfl) ?_
   rcases hr with ⟨rfl,rfl⟩ | ⟨rfl,rfl⟩
   ·exact run_eql_bool w t i j hd'
   ·exact run_neq_bool w t i j hd'
  obtain ⟨hkd,i,j,r,h1,h2,rfl,hr⟩:=zr8 hb
  have hp':a.eval p=.bool i:=by rcases h1 with h1 | h1<;>rw [h1] at hp<;>first | exact zft hp | exact hp
  have hq':a.eval q=.bool j:=by rcases h2 with h2 | h2<;>rw [h2] at hq<;>first | exact zft hq | exact hq
  exact z9 hn h ho (bool2 hkd i j hp' hq' r hr) (Rf.bool _)
end
section
variable {P:Program} {S0:Nat→Prop} {M:Mem} {m:Mp} {w:World}
theorem zcF {b:Nat} {us:Array Value} {t:TypeId} (h:w.heap[b]? = some (.cells us t (0,0))) (j:Nat):w.cell? ⟨b,j,none⟩=us[j]?:=by simp [World.cell?,h]
theorem zr4 {cs:List C} {off:Nat} {y:Ty} {l:LV} (h:zrZ cs off y=some l):(y.agg=false∧∃ c,cs[off]? = some c∧l=.dat c)∨(y.agg=true∧off+y.size≤cs.length∧l=.dagg ((cs.drop off).take y.size)):=by
 unfold zrZ at h
 split at h
 ·rename_i ha
  obtain ⟨c,hc,h⟩:=Option.bind_eq_some_iff.1 h
  have h:l=.dat c:=by
   split at h
   ·cases h;rfl
   ·rw [zwN] at h;cases h;rfl
  exact .inl ⟨ha,c,by rw [← zge];exact hc,h⟩
 ·rename_i ha
  split at h
  ·rename_i hb
   cases h
   have:=zbh.1 hb
   exact .inr ⟨ha,by omega,by rw [← this];simp⟩
  ·split at h
   ·rename_i hb
    cases h
    exact .inr ⟨ha,Nat.le_of_ble_eq_true hb,by rw [zfp,zoB]⟩
   ·cases h
theorem zjV {t:TypeId} {y:Ty} (hy:za9 P t y) {b o off:Nat} {cs:List C} (hc:∀ (j:Nat) c,cs[j]? = some c→∃ u,w.cell? ⟨b,o+j,none⟩=some u∧Rf (Own S0 M m) w u c) {l:LV} (hl:zrZ cs off y=some l) :
 ∃ v,(loadVar t ⟨b,o+off,none⟩).run P w=.ok v w∧R3 S0 M m w v l:=by
 rcases zr4 hl with ⟨ha,c,hcc,rfl⟩ | ⟨ha,hle,rfl⟩
 ·obtain ⟨u,hu,hr⟩:=hc off c hcc
  exact ⟨u,zmp hy ha hu,hr⟩
 ·have hall:∀ j,j<y.size→∃ u,w.cell? ⟨b,o+off+j,none⟩=some u∧∀ c,((cs.drop off).take y.size)[j]? = some c→Rf (Own S0 M m) w u c:=fun j hj=>by
   have hlt:off+j<cs.length:=by omega
   obtain ⟨u,hu,hr⟩:=hc (off+j) _ (List.getElem?_eq_getElem hlt)
   refine ⟨u,by rw [Nat.add_assoc];exact hu,fun c hcj=>?_⟩
   rw [List.getElem?_take_of_lt hj,List.getElem?_drop,List.getElem?_eq_getElem hlt] at hcj
   cases hcj;exact hr
  have hg:∀ j,j<y.size→∃ u,((List.range y.size).map fun j=>(w.cell? ⟨b,o+off+j,none⟩).getD undef)[j]? = some u∧w.cell? ⟨b,o+off+j,none⟩=some u:=fun j hj=>by
   obtain ⟨u,hu,_⟩:=hall j hj
   exact ⟨u,by simp [hj,hu],hu⟩
  refine ⟨_,zl4 hy ha (us:=(List.range y.size).map fun j=>(w.cell? ⟨b,o+off+j,none⟩).getD undef) (by simp) (fun j v hj=>?_),_,rfl,by simp;omega,fun j u c hj hcj=>?_⟩
  ·have hlt:j<y.size:=by have:=(List.getElem?_eq_some_iff.1 hj).1;simpa using this
   obtain ⟨u,h1,h2⟩:=hg j hlt
   rw [h1] at hj;cases hj;exact h2
  ·have hlt:j<y.size:=by have:=(List.getElem?_eq_some_iff.1 hj).1;simpa using this
   obtain ⟨u',h1,h2⟩:=hg j hlt
   obtain ⟨u'',h3,h4⟩:=hall j hlt
   rw [h1] at hj;cases hj
   rw [h2] at h3;cases h3
   exact h4 c hcj
structure One (S0:Nat→Prop) (M:Mem) (m:Mp) (w:World) (y:Ty) (us:List Value) (v:Value) (l:LV):Prop where
 len:us.length=y.size
 rc:RC S0 M m w us l
 r2:R2 S0 M m w v l
 cells:v.cells=us.toArray
 one:∀ u∈us,u.oneCell'=true
 val:(y.agg=true∧v=.agg us.toArray)∨(y.agg=false∧us=[v])
theorem zcQ {v:Value} (h:v.oneCell'=true):v.cells=#[v]:=by cases v<;>first | rfl | cases h
theorem zf6 {v:Value} {l:LV} (h:R1 S0 M m w v l) (hl:l≠.no):v.oneCell'=true:=by
 cases l with
 | no=>exact absurd rfl hl
 | nil0=>rw [show v=_ from h];rfl
 | nil c=>rw [h.1];rfl
 | known b=>rw [show v=_ from h];rfl
 | dat c=>exact Rf.one h
 | own id=>exact h.1
 | ptr id off=>exact h.1
 | ept id i off=>exact h.1
 | spt cs off=>obtain ⟨b,o,hv,_⟩:=h;rw [hv];rfl
 | fn f=>rw [show v=_ from h];rfl
 | clo f caps=>obtain ⟨us,hv,_⟩:=h;rw [hv];rfl
 | dagg _=>exact h.elim
 | lagg _=>exact h.elim
 | tup _=>exact h.elim
theorem zvx {us:List Value} {cs:List C} {S:Nat→Prop} (h:Ds S w us cs):∀ u∈us,u.oneCell'=true:=fun u hu=>by
 obtain ⟨j,hj⟩:=List.mem_iff_getElem?.1 hu
 have hlt:=(List.getElem?_eq_some_iff.1 hj).1
 exact (h.2 j u _ hj (List.getElem?_eq_getElem (h.1 ▸ hlt))).one
theorem zvm {us:List Value} {ls:List LV} (h:Rs S0 M m w us ls):∀ u∈us,u.oneCell'=true:=fun u hu=>by
 obtain ⟨j,hj⟩:=List.mem_iff_getElem?.1 hu
 have hlt:=(List.getElem?_eq_some_iff.1 hj).1
 exact (h.2 j u _ hj (List.getElem?_eq_getElem (h.1 ▸ hlt))).2
theorem zd1 {t:TypeId} {y:Ty} (hy:za9 P t y) {v:Value} {l l1:LV} (hr:R2 S0 M m w v l) (h:l.typed y=some l1):∃ us,One S0 M m w y us v l1:=by
 have single:∀ l2:LV,y.agg=false→R1 S0 M m w v l2→l2≠.no→(RC S0 M m w [v] l2)→R2 S0 M m w v l2→∃ us,One S0 M m w y us v l2:=fun l2 ha h1 hn hrc hr2=>by
  have ho:=zf6 h1 hn
  exact ⟨[v],by rw [hy.one ha];rfl,hrc,hr2,zcQ ho,fun u hu=>by rw [List.mem_singleton.1 hu];exact ho,.inr ⟨ha,rfl⟩⟩
 cases l with
 | no=>cases h
 | tup ls=>cases h
 | dagg cs=>
   simp only [LV.typed] at h
   split at h
   ·rename_i ha hb
    cases h
    obtain ⟨us,hv,hd⟩:=hr
    exact ⟨us,by rw [hd.1];exact zbh.1 hb,hd,⟨us,hv,hd⟩,by rw [hv];rfl,zvx hd,.inl ⟨ha,hv⟩⟩
   ·cases h
 | lagg ls=>
   simp only [LV.typed] at h
   split at h
   ·rename_i ha hb
    cases h
    obtain ⟨us,hv,hd⟩:=hr
    exact ⟨us,by rw [hd.1];exact zbh.1 hb,hd,⟨us,hv,hd⟩,by rw [hv];rfl,zvm hd,.inl ⟨ha,hv⟩⟩
   ·cases h
 | nil0=>
   simp only [LV.typed] at h
   split at h
   ·rename_i e c hk hz
    cases h
    have ha:y.agg=false:=by unfold Ty.agg;rw [hk]
    obtain ⟨h1,h2,h3⟩:=hy.zl
    have hc:Rf (Own S0 M m) w v c:=by
     rw [h1] at hz
     have hl:y.zero.length=1:=by rw [h2,hy.one ha]
     match y.zero,hl,hz,h3 with
     | [c0],_,hz,h3=>
       have hz0:zlv c0=.nil c:=by simpa using hz
       have hx:=h3 c0 (List.mem_singleton.2 rfl)
       cases c0 with
       | sl z d f xs=>
         cases hz0
         simp only [zOk] at hx
         subst hx
         rw [show v=_ from hr]
         exact .nil none 0 z d f
       | int k n=>cases hz0
       | bool b=>cases hz0
       | str s=>cases hz0
       | val v=>cases hz0
    have hvv:v=.slice none 0 0:=hr
    exact single _ ha ⟨hvv,hc⟩ (by simp) ⟨v,rfl,⟨hvv,hc⟩,by rw [hvv];rfl⟩ ⟨hvv,hc⟩
   ·cases h
 | nil c=>simp only [LV.typed] at h;split at h<;>first | cases h | skip
          exact single _ (by assumption) hr (by simp) ⟨v,rfl,hr,zf6 (S0:=S0) (M:=M) (m:=m) (w:=w) (l:=.nil c) hr (by simp)⟩ hr
 | known c=>simp only [LV.typed] at h;split at h<;>first | cases h | skip
            exact single _ (by assumption) hr (by simp) ⟨v,rfl,hr,zf6 (S0:=S0) (M:=M) (m:=m) (w:=w) (l:=.known c) hr (by simp)⟩ hr
 | dat c=>simp only [LV.typed] at h;split at h<;>first | cases h | skip
          exact single _ (by assumption) hr (by simp) ⟨v,rfl,hr,zf6 (S0:=S0) (M:=M) (m:=m) (w:=w) (l:=.dat c) hr (by simp)⟩ hr
 | own id=>simp only [LV.typed] at h;split at h<;>first | cases h | skip
           exact single _ (by assumption) hr (by simp) ⟨v,rfl,hr,zf6 (S0:=S0) (M:=M) (m:=m) (w:=w) (l:=.own id) hr (by simp)⟩ hr
 | ptr id off=>simp only [LV.typed] at h;split at h<;>first | cases h | skip
               exact single _ (by assumption) hr (by simp) ⟨v,rfl,hr,zf6 (S0:=S0) (M:=M) (m:=m) (w:=w) (l:=.ptr id off) hr (by simp)⟩ hr
 | ept id i off=>simp only [LV.typed] at h;split at h<;>first | cases h | skip
                 exact single _ (by assumption) hr (by simp) ⟨v,rfl,hr,zf6 (S0:=S0) (M:=M) (m:=m) (w:=w) (l:=.ept id i off) hr (by simp)⟩ hr
 | spt cs off=>simp only [LV.typed] at h;split at h<;>first | cases h | skip
               exact single _ (by assumption) hr (by simp) ⟨v,rfl,hr,zf6 (S0:=S0) (M:=M) (m:=m) (w:=w) (l:=.spt cs off) hr (by simp)⟩ hr
 | fn f=>simp only [LV.typed] at h;split at h<;>first | cases h | skip
         exact single _ (by assumption) hr (by simp) ⟨v,rfl,hr,zf6 (S0:=S0) (M:=M) (m:=m) (w:=w) (l:=.fn f) hr (by simp)⟩ hr
 | clo f caps=>simp only [LV.typed] at h;split at h<;>first | cases h | skip
               exact single _ (by assumption) hr (by simp) ⟨v,rfl,hr,zf6 (S0:=S0) (M:=M) (m:=m) (w:=w) (l:=.clo f caps) hr (by simp)⟩ hr
theorem ztR {us:List Value} {l:LV} (h:RC S0 M m w us l) (hl:l≠.no):∃ v,R2 S0 M m w v l∧v.cells=us.toArray:=by
 cases l with
 | no=>exact absurd rfl hl
 | dagg cs=>exact ⟨_,⟨us,rfl,h⟩,rfl⟩
 | lagg ls=>exact ⟨_,⟨us,rfl,h⟩,rfl⟩
 | tup ls=>obtain ⟨u,_,h0,_⟩:=h;exact h0.elim
 | nil0=>obtain ⟨u,hu,h0,h1⟩:=h;exact ⟨u,h0,by rw [hu];exact zcQ h1⟩
 | nil c=>obtain ⟨u,hu,h0,h1⟩:=h;exact ⟨u,h0,by rw [hu];exact zcQ h1⟩
 | known c=>obtain ⟨u,hu,h0,h1⟩:=h;exact ⟨u,h0,by rw [hu];exact zcQ h1⟩
 | dat c=>obtain ⟨u,hu,h0,h1⟩:=h;exact ⟨u,h0,by rw [hu];exact zcQ h1⟩
 | own id=>obtain ⟨u,hu,h0,h1⟩:=h;exact ⟨u,h0,by rw [hu];exact zcQ h1⟩
 | ptr id off=>obtain ⟨u,hu,h0,h1⟩:=h;exact ⟨u,h0,by rw [hu];exact zcQ h1⟩
 | ept id i off=>obtain ⟨u,hu,h0,h1⟩:=h;exact ⟨u,h0,by rw [hu];exact zcQ h1⟩
 | spt cs off=>obtain ⟨u,hu,h0,h1⟩:=h;exact ⟨u,h0,by rw [hu];exact zcQ h1⟩
 | fn f=>obtain ⟨u,hu,h0,h1⟩:=h;exact ⟨u,h0,by rw [hu];exact zcQ h1⟩
 | clo f caps=>obtain ⟨u,hu,h0,h1⟩:=h;exact ⟨u,h0,by rw [hu];exact zcQ h1⟩
theorem zta {l l1:LV} {y:Ty} (h:l.typed y=some l1):l≠.no:=by rintro rfl;cases h
theorem zpq {t:TypeId} {y:Ty} (hy:za9 P t y) {us:List Value} {l l1:LV} (hr:RC S0 M m w us l) (h:l.typed y=some l1):∃ v,One S0 M m w y us v l1:=by
 obtain ⟨v,h2,hc⟩:=ztR hr (zta h)
 obtain ⟨us1,ho⟩:=zd1 hy h2 h
 have:us1=us:=by
  have:=ho.cells.symm.trans hc
  simpa using this
 subst this
 exact ⟨v,ho⟩
theorem zpE {t t1:TypeId} {y:Ty} (hy:za9 P t y) {b off:Nat} {us:Array Value} {v l:LV} (hb:w.heap[b]? = some (.cells us t1 (0,0))) (hr:RC S0 M m w us.toList v) (hl:ldB v t1 t off y=some l) :
 ∃ u,(loadVar t ⟨b,off,none⟩).run P w=.ok u w∧R3 S0 M m w u l:=by
 have partial_:ldP v off y=some l→∃ u,(loadVar t ⟨b,off,none⟩).run P w=.ok u w∧R3 S0 M m w u l:=by
  intro hl
  cases v with
  | dagg cs=>
    have:=zjV (S0:=S0) (M:=M) (m:=m) (o:=0) hy (b:=b) (off:=off) (cs:=cs) (fun j c hj=>by
     have hlt:=(List.getElem?_eq_some_iff.1 hj).1
     rw [← hr.1] at hlt
     refine ⟨_,?_,hr.2 j _ c (List.getElem?_eq_getElem hlt) hj⟩
     rw [Nat.zero_add,zcF hb,← Array.getElem?_toList]
     exact List.getElem?_eq_getElem hlt) hl
    rwa [Nat.zero_add] at this
  | lagg ls=>
    simp only [ldP] at hl
    unfold zu7 at hl
    split at hl
    ·rename_i ha
     obtain ⟨l0,hl0,hl⟩:=Option.bind_eq_some_iff.1 hl
     have:=zkA hl;cases this
     rw [zge] at hl0
     have hlt:=(List.getElem?_eq_some_iff.1 hl0).1
     rw [← hr.1] at hlt
     have hu:=List.getElem?_eq_getElem hlt
     obtain ⟨h1,h2⟩:=hr.2 off _ _ hu hl0
     refine ⟨_,zmp hy ha (by rw [zcF hb,← Array.getElem?_toList];exact hu),?_⟩
     cases l<;>first | exact h1 | exact h1.elim
    ·rename_i ha
     split at hl
     ·rename_i hble
      have hle:=Nat.le_of_ble_eq_true hble
      rw [zlF] at hl;cases hl
      rw [zfp,zoB]
      have hul:=hr.1
      refine ⟨_,zl4 hy ha (us:=(us.toList.drop off).take y.size) (by rw [List.length_take,List.length_drop];omega) (fun j u hj=>?_),_,rfl,by rw [List.length_take,List.length_take,List.length_drop,List.length_drop];omega,fun j u l hj hlj=>?_⟩
      ·have hlt:j<y.size:=by have:=(List.getElem?_eq_some_iff.1 hj).1;rw [List.length_take] at this;omega
       rw [List.getElem?_take_of_lt hlt,List.getElem?_drop] at hj
       rw [zcF hb,← Array.getElem?_toList];exact hj
      ·have hlt:j<y.size:=by have:=(List.getElem?_eq_some_iff.1 hj).1;rw [List.length_take] at this;omega
       rw [List.getElem?_take_of_lt hlt,List.getElem?_drop] at hj hlj
       exact hr.2 _ u l hj hlj
     ·cases hl
  | _=>cases hl
 unfold ldB at hl
 split at hl
 ·rename_i hbe
  obtain ⟨u,ho⟩:=zpq hy hr hl
  refine ⟨u,?_,?_⟩
  ·rcases ho.val with ⟨ha,hv⟩ | ⟨ha,hv⟩
   ·rw [hv]
    refine zl4 hy ha (us:=us.toList) ho.len (fun j u hj=>?_)
    rw [Nat.zero_add,zcF hb,← Array.getElem?_toList];exact hj
   ·refine zmp hy ha ?_
    rw [zcF hb,← Array.getElem?_toList,hv];rfl
  ·have h2:=ho.r2
   cases l<;>first | exact h2 | exact h2.elim
 ·exact partial_ hl
end
section
variable {x:Cx} {T:Tl} {M:Ml} {m:Mp} {a:Act} {w:World} {P:Program} {tb:Tb} {n:Nat} {o:Oper} {s1:Option Prop} {T1:Tl} {M1:Ml}
theorem zd5 {β:Type} {xs:List β} {i:Nat} {d:β} (h:i<xs.length):xs[i]? = some (xs.getD i d):=by
 rw [List.getElem?_eq_getElem h,List.getD_eq_getElem?_getD,List.getElem?_eq_getElem h];rfl
theorem znJ {e z:Nat} (htb:zaJ P tb) (h:zhK tb e z=true):P.cellsOf e=z:=by
 unfold zhK at h
 split at h
 ·rename_i y hy;rw [(htb e y hy).cellsOf];exact zbh.1 h
 ·cases h
theorem zkO {e z:Nat} (htb:zaJ P tb) (h:zhK tb e z=true):(P.info? e).isSome=true:=by
 unfold zhK at h
 split at h
 ·rename_i y hy;obtain ⟨i,hi,_⟩:=(htb e y hy).info;rw [hi];rfl
 ·cases h
theorem zuo {t:TypeId} {q:Operand} (hop:o.op=.load t q) (hn:x.n=n) (htb:zaJ P tb) (h:Rel x (tm T) (mm M) m a w) (ho:opF tb n o T M=some (s1,T1,M1)):zfa P x o a w T1 (mm M1):=by
 have hv:=zah h q
 have hrun:∀ ad r,a.eval q=.pointer (some ad)→(loadVar t ad).run P w=.ok r w→(execOp a.eval o).run P w=.ok (.value r) w:=fun ad r hb hr=>by
  simp only [execOp,hop,hb,Instr.loadAt,Instr.sureAddr,Sem.run_bind,Sem.run_pure,Result.andThen_ok,hr]
 simp only [opF,hop] at ho
 split at ho
 ·rename_i y cs off hy he
  rw [he] at hv
  obtain ⟨b,oo,hp,hc⟩:=hv
  obtain ⟨l,hl,ho⟩:=Option.bind_eq_some_iff.1 ho
  obtain ⟨r,hr,hrl⟩:=zjV (S0:=x.S0) (M:=mm M) (m:=m) (htb t y hy) (fun j c hj=>(hc j c hj).2) hl
  exact z9 hn h ho (hrun _ _ hp hr) hrl
 ·rename_i y id i off hy he
  rw [he] at hv
  split at ho
  ·rename_i e z α d f xs hm
   obtain ⟨hi,hp⟩:=hv.2 xs.length (by unfold zJ;rw [hm])
   obtain ⟨us,hu,a1,a2,a3,a4,a5,a6,a7⟩:=h.blk id _ hm
   obtain ⟨l,hl,ho⟩:=Option.bind_eq_some_iff.1 ho
   have hz:zbt (mm M) id=z:=by unfold zbt;rw [hm]
   rw [hz] at hp
   obtain ⟨r,hr,hrl⟩:=zjV (S0:=x.S0) (M:=mm M) (m:=m) (htb t y hy) (b:=m.blk id) (o:=m.off id+i*z) (off:=off) (cs:=f (xs.getD i d)) (fun j c hj=>by
    obtain ⟨u,h1,h2⟩:=a7 i _ j c (zd5 hi) hj
    exact ⟨u,by rw [zcF hu];exact h1,h2⟩) hl
   exact z9 hn h ho (hrun _ _ hp hr) hrl
  ·cases ho
 ·rename_i y id off hy he
  rw [he] at hv
  split at ho
  ·rename_i t1 v hm
   have hp:=hv.2 (by rw [hm];rfl)
   obtain ⟨us,hu,hrc⟩:=h.blk id _ hm
   obtain ⟨l,hl,ho⟩:=Option.bind_eq_some_iff.1 ho
   obtain ⟨r,hr,hrl⟩:=zpE (htb t y hy) hu hrc hl
   exact z9 hn h ho (hrun _ _ hp hr) hrl
  ·cases ho
 ·cases ho
theorem zoG {t:TypeId} {q:Operand} {i:Nat} (hop:o.op=.fieldAddr t q i) (hn:x.n=n) (htb:zaJ P tb) (h:Rel x (tm T) (mm M) m a w) (ho:opF tb n o T M=some (s1,T1,M1)):zfa P x o a w T1 (mm M1):=by
 have hv:=zah h q
 simp only [opF,hop] at ho
 split at ho
 ·rename_i y hy
  have hrun:∀ fo ft b oo,y.kd=.st→nth y.fields i=some (fo,ft)→a.eval q=.pointer (some ⟨b,oo,none⟩)→(execOp a.eval o).run P w=.ok (.value (.pointer (some ⟨b,oo+fo,none⟩))) w:=fun fo ft b oo hkd hf hb=>by
   obtain ⟨d,hd,hk⟩:=(htb t y hy).desc
   rw [zge] at hf
   have hst:∃ fs f,P.underlying t=some (.struct fs)∧fs[i]? = some f∧f.offset=fo∧P.cellsOf f.type≠0∧(P.info? f.type).isSome=true:=by
    rw [hkd] at hk
    cases d<;>simp only [zoN] at hk<;>first
     | exact hk.elim
     | skip
    rename_i fs
    obtain ⟨f,h1,h2,_,h3,h4⟩:=hk.2 i _ hf
    exact ⟨fs,f,hd,h1,h2,h3,h4⟩
   obtain ⟨fs,f,h1,h2,h3,h4,h5⟩:=hst
   obtain ⟨fi,hfi⟩:=Option.isSome_iff_exists.1 h5
   simp only [execOp,hop,hb,Instr.fieldAt,Instr.sureAddr,fieldPlace,Sem.run_bind,run_underlying h1,Result.andThen_ok,h2,Sem.run_pure,run_sizeOf w hfi,h4,if_false,zcA,h3]
  split at ho
  ·rename_i fo ft id off hkd hf he
   rw [he] at hv
   split at ho
   ·rename_i bl hm
    have hp:=hv.2 (by rw [hm];rfl)
    exact z9 hn h ho (hrun _ _ _ _ hkd hf hp) ⟨rfl,fun _=>rfl⟩
   ·cases ho
  ·rename_i fo ft id j off hkd hf he
   rw [he] at hv
   split at ho
   ·rename_i hm
    obtain ⟨_,hp⟩:=hv.2 _ (by unfold zJ;rw [hm])
    exact z9 hn h ho (hrun _ _ _ _ hkd hf hp) ⟨rfl,fun k hk=>⟨(hv.2 k hk).1,by rw [Nat.add_assoc]⟩⟩
   ·cases ho
  ·rename_i fo ft cs off hkd hf he
   rw [he] at hv
   obtain ⟨b,oo,hp,hc⟩:=hv
   exact z9 hn h ho (hrun _ _ _ _ hkd hf hp) ⟨b,oo,by rw [Nat.add_assoc],hc⟩
  ·cases ho
 ·cases ho
theorem zqI {q:Operand} {i:Nat} (hop:o.op=.extract q i) (hn:x.n=n) (h:Rel x (tm T) (mm M) m a w) (ho:opF tb n o T M=some (s1,T1,M1)):zfa P x o a w T1 (mm M1):=by
 have hv:=zah h q
 simp only [opF,hop] at ho
 split at ho
 ·rename_i ls he
  rw [he] at hv
  obtain ⟨us,hu,hlen,hall⟩:=hv
  obtain ⟨l,hl,ho⟩:=Option.bind_eq_some_iff.1 ho
  rw [zge] at hl
  have hlt:=(List.getElem?_eq_some_iff.1 hl).1
  rw [← hlen] at hlt
  have hui:=List.getElem?_eq_getElem hlt
  have h2:=hall i _ l hui hl
  refine z9 hn h (zkA ho) (v:=us[i]) ?_ ?_
  ·simp only [execOp,hop,hu,Instr.extract,List.getElem?_toArray,hui];rfl
  ·cases l<;>first | exact h2 | exact h2.elim
 ·cases ho
theorem zvr {c:Call} {p q:Operand} (hop:o.op=.call c) (hc:c.callee=.builtin .max) (hargs:c.args.toList=[p,q]) (hn:x.n=n) (h:Rel x (tm T) (mm M) m a w) (ho:opF tb n o T M=some (s1,T1,M1)):zfa P x o a w T1 (mm M1):=by
 have hv:=zah h p
 have hv2:=zah h q
 have ha:c.args=#[p,q]:=by cases hcc:c.args;rw [hcc] at hargs;simp at hargs;rw [hargs]
 simp only [opF,hop,hc,hargs] at ho
 split at ho
 ·rename_i i j hi hj
  rw [hi] at hv;rw [hj] at hv2
  have hv:a.eval p=.int .i64 i:=zec hv
  have hv2:a.eval q=.int .i64 j:=zec hv2
  have he:(if j > i then j else i)=max i j:=by
   split<;>omega
  exact z9 hn h ho (v:=.int .i64 (max i j)) (by simp [execOp,hop,resolve,hc,invoke,builtin,ha,hv,hv2,Builtin.max_,Builtin.max2,he]) (Rf.int _ _)
 ·cases ho
theorem zv7 {c:Call} {p q:Operand} (hop:o.op=.call c) (hc:c.callee=.builtin .min) (hargs:c.args.toList=[p,q]) (hn:x.n=n) (h:Rel x (tm T) (mm M) m a w) (ho:opF tb n o T M=some (s1,T1,M1)):zfa P x o a w T1 (mm M1):=by
 have hv:=zah h p
 have hv2:=zah h q
 have ha:c.args=#[p,q]:=by cases hcc:c.args;rw [hcc] at hargs;simp at hargs;rw [hargs]
 simp only [opF,hop,hc,hargs] at ho
 split at ho
 ·rename_i i j hi hj
  rw [hi] at hv;rw [hj] at hv2
  have hv:a.eval p=.int .i64 i:=zec hv
  have hv2:a.eval q=.int .i64 j:=zec hv2
  have he:(if j<i then j else i)=min i j:=by
   split<;>omega
  exact z9 hn h ho (v:=.int .i64 (min i j)) (by simp [execOp,hop,resolve,hc,invoke,builtin,ha,hv,hv2,Builtin.min_,Builtin.min2,he]) (Rf.int _ _)
 ·cases ho
theorem zn1 (h:Rel x (tm T) (mm M) m a w):∀ {l:List Operand} {caps:List (Nat×Nat)},zou T l=some caps→caps.length=l.length∧∀ (j:Nat) u p,(l.map a.eval)[j]? = some u→caps[j]? = some p→u.oneCell'=true∧((mm M p.1).isSome=true→u=.pointer (some ⟨m.blk p.1,p.2,none⟩))
 | [],caps,hc=>by cases hc;exact ⟨rfl,fun j u p hu=>by cases hu⟩
 | q::l,caps,hc=>by
   simp only [zou] at hc
   split at hc
   ·rename_i id off hv
    obtain ⟨r,hr,hc⟩:=Option.bind_eq_some_iff.1 hc
    cases hc
    obtain ⟨h1,h2⟩:=zn1 h hr
    refine ⟨by simp [h1],fun j u p hu hp=>?_⟩
    cases j with
    | zero=>
      have hq:=zah h q
      rw [hv] at hq
      have e1:a.eval q=u:=by simpa using hu
      have e2:(id,off)=p:=by simpa using hp
      subst e1;subst e2
      exact hq
    | succ j=>exact h2 j u p (by simpa using hu) (by simpa using hp)
   ·cases hc
theorem zqf {f:FuncId} {first captured:Array Operand} (hop:o.op=.makeFunc (.func f) first captured) (hn:x.n=n) (h:Rel x (tm T) (mm M) m a w) (ho:opF tb n o T M=some (s1,T1,M1)):zfa P x o a w T1 (mm M1):=by
 simp only [opF,hop] at ho
 split at ho
 ·rename_i hf
  obtain ⟨caps,hc,ho⟩:=Option.bind_eq_some_iff.1 ho
  obtain ⟨h1,h2⟩:=zn1 h hc
  have hfirst:first=#[]:=by cases hcc:first;rw [hcc] at hf;simp at hf;rw [hf]
  refine z9 hn h ho (v:=.func (.func f) #[] (captured.toList.map a.eval).toArray) ?_ ⟨captured.toList.map a.eval,rfl,by rw [List.length_map,h1],h2⟩
  have hcap:captured.map a.eval=(captured.toList.map a.eval).toArray:=by rw [← Array.toList_map,Array.toArray_toList]
  simp [execOp,hop,Instr.makeFunc,hfirst,hcap]
 ·cases ho
theorem zvD {c:Call} {p:Operand} {t:TypeId} (hop:o.op=.call c) (hc:c.callee=.builtin .len) (hargs:c.args.toList=[p]) (hty:c.argTypes.toList=[t]) (hn:x.n=n) (htb:zaJ P tb) (h:Rel x (tm T) (mm M) m a w) (ho:opF tb n o T M=some (s1,T1,M1)):zfa P x o a w T1 (mm M1):=by
 have hv:=zah h p
 have ha:c.args=#[p]:=by cases hcc:c.args;rw [hcc] at hargs;simp at hargs;rw [hargs]
 have hy0:c.argTypes=#[t]:=by cases hcc:c.argTypes;rw [hcc] at hty;simp at hty;rw [hty]
 simp only [opF,hop,hc,hargs,hty] at ho
 obtain ⟨y,hy,ho⟩:=Option.bind_eq_some_iff.1 ho
 obtain ⟨k,hk,ho⟩:=Option.bind_eq_some_iff.1 ho
 obtain ⟨d,hd,hkd⟩:=(htb t y hy).desc
 have hsl:∀ e A q cc,y.kd=.sl e→a.eval p=.slice A q cc→(execOp a.eval o).run P w=.ok (.value (.int .i64 q)) w:=fun e A q cc hk hvv=>by
  rw [hk] at hkd
  have hd':P.underlying t=some (.slice e):=by cases d<;>simp only [zoN] at hkd<;>first | (subst hkd;exact hd) | exact hkd.elim
  simp [execOp,hop,resolve,hc,invoke,builtin,ha,hy0,hvv,Builtin.len_,run_underlying hd',goInt]
 have hst:∀ s,y.kd=.str→a.eval p=.string s→(execOp a.eval o).run P w=.ok (.value (.int .i64 s.size)) w:=fun s hk hvv=>by
  rw [hk] at hkd
  have hd':P.underlying t=some .string:=by cases d<;>simp only [zoN] at hkd<;>first | exact hd | exact hkd.elim
  simp [execOp,hop,resolve,hc,invoke,builtin,ha,hy0,hvv,Builtin.len_,run_underlying hd',goInt]
 unfold lenOf at hk
 split at hk
 ·rename_i e z α d' f xs hkd' he;cases hk;rw [he] at hv
  obtain ⟨A,cc,hvv,_⟩:=zkz hv
  exact z9 hn h ho (hsl _ _ _ _ hkd' hvv) (Rf.int _ _)
 ·rename_i s hkd' he;cases hk;rw [he] at hv
  exact z9 hn h ho (hst _ hkd' (zlY hv)) (Rf.int _ _)
 ·rename_i e c hkd' he;cases hk;rw [he] at hv
  exact z9 hn h ho (hsl _ _ _ _ hkd' hv.1) (Rf.int _ _)
 ·rename_i e hkd' he;cases hk;rw [he] at hv
  exact z9 hn h ho (hsl _ _ _ _ hkd' hv) (Rf.int _ _)
 ·rename_i e id hkd' he;rw [he] at hv
  split at hk
  ·rename_i hm;cases hk
   exact z9 hn h ho (hsl _ _ _ _ hkd' (hv.2 _ (by unfold zJ;rw [hm]))) (Rf.int _ _)
  ·cases hk
 ·cases hk
theorem zoh {t:TypeId} {p q:Operand} (hop:o.op=.indexAddr t p q) (hn:x.n=n) (htb:zaJ P tb) (h:Rel x (tm T) (mm M) m a w) (ho:opF tb n o T M=some (s1,T1,M1)) (hs:∀ r,s1=some r→r):zfa P x o a w T1 (mm M1):=by
 have hp:=zah h p
 have hq:=zah h q
 simp only [opF,hop] at ho
 split at ho
 ·rename_i y hy
  obtain ⟨d,hd,hkd⟩:=(htb t y hy).desc
  have hrun:∀ e b oo k c ki (i:Int),y.kd=.sl e→(P.info? e).isSome=true→a.eval p=.slice (some ⟨b,oo,none⟩) k c→a.eval q=.int ki i→0≤i→i<k→(execOp a.eval o).run P w=.ok (.value (.pointer (some ⟨b,oo+i.toNat*P.cellsOf e,none⟩))) w:=fun e b oo k c ki i hk hei h1 h2 h3 h4=>by
   rw [hk] at hkd
   have hd':P.underlying t=some (.slice e):=by cases d<;>simp only [zoN] at hkd<;>first | (subst hkd;exact hd) | exact hkd.elim
   obtain ⟨fi,hfi⟩:=Option.isSome_iff_exists.1 hei
   simp only [execOp,hop,h1,h2,Instr.indexAt,asIntOf,Sem.run_bind,Sem.run_pure,Result.andThen_ok,run_underlying hd',h3,h4,and_self,if_true,run_sizeOf w hfi,zcA]
  split at ho
  ·rename_i e z α d' f xs ki i hkd' e1 e2
   rw [e1] at hp;rw [e2] at hq
   split at ho
   case h_2=>cases ho
   rename_i hsz
   obtain ⟨rfl,_⟩:=zgg ho
   obtain ⟨h1,h2⟩:=hs _ rfl
   obtain ⟨A,c,hv,hc⟩:=zkz hp
   have hlt:i.toNat<xs.length:=by omega
   obtain ⟨b,oo,rfl,hz,_,_,hS,hl,hcc⟩:=hc (by omega)
   have hze:P.cellsOf e=z:=znJ htb hsz
   have:=hrun e b oo _ c ki i hkd' (zkO htb hsz) hv (zec hq) h1 h2
   rw [hze] at this
   refine z9 hn h ho this ⟨b,oo+i.toNat*z,rfl,fun j q hj=>⟨hS,?_⟩⟩
   exact hcc _ _ j q (zd5 hlt) hj
  ·rename_i e id ki i hkd' e1 e2
   rw [e1] at hp;rw [e2] at hq
   split at ho
   ·rename_i z α d' f xs hm
    split at ho
    case h_2=>cases ho
    rename_i hsz
    obtain ⟨rfl,_⟩:=zgg ho
    obtain ⟨h1,h2⟩:=hs _ rfl
    have hr:=hp.2 _ (show zJ (mm M) id=some _ by unfold zJ;rw [hm])
    have hze:P.cellsOf e=zbt (mm M) id:=by unfold zbt;rw [hm];exact znJ htb hsz
    have:=hrun e _ _ _ _ ki i hkd' (zkO htb hsz) hr (zec hq) h1 h2
    rw [hze] at this
    refine z9 hn h ho this ⟨rfl,fun k hk=>⟨?_,rfl⟩⟩
    unfold zJ at hk;rw [hm] at hk;cases hk;omega
   ·cases ho
  ·cases ho
 ·cases ho
end
theorem zpi (off:Nat):∀ (l:List Value) (k:Nat) (cs:Array Value),off+k+l.length≤cs.size→
 (l.zipIdx k).foldl (fun cs (p:Value×Nat)=>cs.setIfInBounds (off+p.2) p.1) cs=(cs.toList.take (off+k)++l++cs.toList.drop (off+k+l.length)).toArray
 | [],k,cs,_=>by simp
 | v::zd9,k,cs,h=>by
   have ih:=zpi off zd9 (k+1) (cs.setIfInBounds (off+k) v) (by simp at h ⊢;omega)
   rw [List.zipIdx_cons,List.foldl_cons,ih]
   have e:=list_seg_step cs.toList (off+k) v zd9 (by simp at h ⊢;omega)
   congr 1
   simpa [Array.toList_setIfInBounds,Nat.add_assoc,Nat.add_comm 1] using e
theorem zno (place:Nat→Option (Nat×Nat)) (cells:Array Value) (i:Nat) (v:Value) (zd9:List (Nat×Value)) {off size:Nat} {vs:List Value} (hp:place i=some (off,size)) (hv:v.cells=vs.toArray) (hs:vs.length=size) (hle:off+size≤cells.size) :
 Instr.fill place cells ((i,v)::zd9)=Instr.fill place (cells.toList.take off++vs++cells.toList.drop (off+vs.length)).toArray zd9:=by
 have h:=zpi off vs 0 cells (by omega)
 rw [Nat.add_zero] at h
 rw [Instr.fill,hp]
 have h1:v.cells.size=size:=by rw [hv];simpa using hs
 simp only [h1]
 rw [if_neg (by simp;omega),← h,hv]
 congr 1
 rw [← Array.foldl_toList]
 simp
section
variable {x:Cx} {T:Tl} {M:Ml} {m:Mp} {a:Act} {w:World} {P:Program} {tb:Tb} {n:Nat} {o:Oper} {s1:Option Prop} {T1:Tl} {M1:Ml}
theorem zpI {S0:Nat→Prop} {M:Mem} {m:Mp} {w:World} {us:List Value} {l:LV} (h:RC S0 M m w us l):Rs S0 M m w us l.cells:=by
 have one:∀ l:LV,(∃ u,us=[u]∧R1 S0 M m w u l∧u.oneCell'=true)→Rs S0 M m w us [l]:=by
  rintro l ⟨u,rfl,h0,h1⟩
  refine ⟨rfl,fun j u' l' hu hl=>?_⟩
  cases j with
  | zero=>cases hu;cases hl;exact ⟨h0,h1⟩
  | succ j=>cases hu
 cases l with
 | dagg cs=>
   refine ⟨by simp only [LV.cells,List.length_map];exact h.1,fun j u l hu hl=>?_⟩
   simp only [LV.cells,List.getElem?_map] at hl
   cases hc:cs[j]? with
   | none=>rw [hc] at hl;cases hl
   | some c=>rw [hc] at hl;cases hl;exact ⟨h.2 j u c hu hc,(h.2 j u c hu hc).one⟩
 | lagg ls=>exact h
 | no=>exact one _ h
 | nil0=>exact one _ h
 | nil c=>exact one _ h
 | known b=>exact one _ h
 | dat c=>exact one _ h
 | own id=>exact one _ h
 | ptr id off=>exact one _ h
 | ept id i off=>exact one _ h
 | spt cs off=>exact one _ h
 | fn f=>exact one _ h
 | clo f caps=>exact one _ h
 | tup ls=>exact one _ h
theorem znL {S0:Nat→Prop} {M:Mem} {m:Mp} {w:World} {us vs:List Value} {ls ks:List LV} (h0:Rs S0 M m w us ls) (h1:Rs S0 M m w vs ks) {off:Nat} (ho:off+vs.length≤us.length) :
 Rs S0 M m w (us.take off++vs++us.drop (off+vs.length)) (zcM ls off ks):=by
 have hul:=h0.1
 have hvl:=h1.1
 rw [zsy _ _ _ (by omega),← hvl]
 refine ⟨by simp only [List.length_append,List.length_take,List.length_drop];omega,fun j u l hu hl=>?_⟩
 rcases Nat.lt_or_ge j off with hj | hj
 ·rw [List.append_assoc,List.getElem?_append_left (by rw [List.length_take];omega),List.getElem?_take_of_lt hj] at hu hl
  exact h0.2 j u l hu hl
 ·rcases Nat.lt_or_ge j (off+vs.length) with hj2 | hj2
  ·rw [List.append_assoc,List.getElem?_append_right (by rw [List.length_take];omega),List.getElem?_append_left (by rw [List.length_take];omega)] at hu hl
   rw [List.length_take,Nat.min_eq_left (by omega)] at hu hl
   exact h1.2 _ u l hu hl
  ·rw [List.getElem?_append_right (by rw [List.length_append,List.length_take];omega),List.getElem?_drop] at hu hl
   rw [List.length_append,List.length_take,Nat.min_eq_left (by omega)] at hu hl
   rw [hvl] at hu hl hj2
   rw [show off+ks.length+(j-(off+ks.length))=j by omega] at hu hl
   exact h0.2 j u l hu hl
theorem zrd {S0:Nat→Prop} {M:Mem} {m:Mp} {w:World} {c:C} (h:zOk c):R1 S0 M m w (zv c) (zlv c)∧(zv c).oneCell'=true:=by
 cases c with
 | int k n=>exact ⟨Rf.int _ _,rfl⟩
 | bool b=>exact ⟨rfl,rfl⟩
 | str s=>exact ⟨Rf.str _,rfl⟩
 | sl z d f xs=>
   simp only [zOk] at h;subst h
   exact ⟨⟨rfl,.nil none 0 z d f⟩,rfl⟩
 | val v=>exact h.elim
theorem zrl {S0:Nat→Prop} {M:Mem} {m:Mp} {w:World} {cs:List C} (h:∀ c∈cs,zOk c):Rs S0 M m w (cs.map zv) (cs.map zlv):=by
 refine ⟨by simp,fun j u l hu hl=>?_⟩
 rw [List.getElem?_map] at hu hl
 cases hc:cs[j]? with
 | none=>rw [hc] at hu;cases hu
 | some c=>
   rw [hc] at hu hl
   cases hu;cases hl
   exact zrd (h c (List.mem_of_getElem? hc))
theorem zsK (htb:zaJ P tb) (h:Rel x (tm T) (mm M) m a w) {place:Nat→Option (Nat×Nat)} {fields:List (Nat×TypeId)} (hp:∀ (i off ft:Nat) y,fields[i]? = some (off,ft)→tb ft=some y→place i=some (off,y.size)) :
 ∀ (parts:List (Nat×Operand)) (cur l:List LV) (us:List Value),zot tb T fields cur parts=some l→Rs x.S0 (mm M) m w us cur→
   ∃ us1:List Value,Instr.fill place us.toArray (parts.map fun p=>(p.1,a.eval p.2))=some us1.toArray∧Rs x.S0 (mm M) m w us1 l
 | [],cur,l,us,hb,hr=>by cases hb;exact ⟨us,rfl,hr⟩
 | (i,q)::r,cur,l,us,hb,hr=>by
   simp only [zot] at hb
   split at hb
   ·rename_i off ft hf
    split at hb
    ·rename_i y hy
     obtain ⟨v,hv,hb⟩:=Option.bind_eq_some_iff.1 hb
     split at hb
     ·rename_i hle
      have hle:=Nat.le_of_ble_eq_true hle
      rw [zlF] at hb
      have hq:=zah h q
      have hq2:R2 x.S0 (mm M) m w (a.eval q) (val T q):=by
       revert hv hq;cases val T q<;>intro hv hq<;>first | exact hq | cases hv
      obtain ⟨vs,hone⟩:=zd1 (htb ft y hy) hq2 hv
      have hul:=hr.1
      rw [zge] at hf
      have hfs:=zno place us.toArray i (a.eval q) (r.map fun p=>(p.1,a.eval p.2)) (hp i off ft y hf hy) hone.cells hone.len (by simp;omega)
      obtain ⟨us1,h1,h2⟩:=zsK htb h hp r _ l _ hb (znL hr (zpI hone.rc) (by rw [hone.len];omega))
      refine ⟨us1,?_,h2⟩
      rw [List.map_cons,hfs]
      simpa using h1
     ·cases hb
    ·cases hb
   ·cases hb
theorem znA {β γ:Type} {f:β→Option γ} {g:β→γ}:∀ {l:List β},(∀ b∈l,f b=some (g b))→l.mapM f=some (l.map g)
 | [],_=>rfl
 | b::l,h=>by
   rw [List.mapM_cons,h b List.mem_cons_self,znA (fun c hc=>h c (List.mem_cons_of_mem _ hc))];rfl
theorem ztX {t:TypeId} {parts:Array (Nat×Operand)} (hop:o.op=.build t parts) (hn:x.n=n) (htb:zaJ P tb) (h:Rel x (tm T) (mm M) m a w) (ho:opF tb n o T M=some (s1,T1,M1)):zfa P x o a w T1 (mm M1):=by
 simp only [opF,hop] at ho
 split at ho
 ·rename_i y hy
  split at ho
  ·rename_i hkd
   obtain ⟨l,hl,ho⟩:=Option.bind_eq_some_iff.1 ho
   have hty:=htb t y hy
   obtain ⟨d,hd,hk⟩:=hty.desc
   rw [hkd] at hk
   obtain ⟨fs,rfl⟩:∃ fs,d=.struct fs:=by cases d<;>simp only [zoN] at hk<;>first | exact ⟨_,rfl⟩ | exact hk.elim
   obtain ⟨hfsz,hfs⟩:=hk
   obtain ⟨i,hi,_,_,z,hz,hzc,hza⟩:=hty.info
   obtain ⟨z1,z2,z3⟩:=hty.zl
   have hpl:fs.toList.mapM (fun f=>(P.info? f.type).map fun i=>(f.offset,i.size))=some (fs.toList.map fun f=>(f.offset,P.cellsOf f.type)):=znA (fun f hf=>by
    obtain ⟨j,hj⟩:=List.mem_iff_getElem?.1 hf
    have hjl:=(List.getElem?_eq_some_iff.1 hj).1
    rw [Array.length_toList,hfsz] at hjl
    obtain ⟨f',h1,_,_,_,h5⟩:=hfs j _ (List.getElem?_eq_getElem hjl)
    rw [Array.getElem?_toList,h1] at hj
    cases hj
    obtain ⟨fi,hfi⟩:=Option.isSome_iff_exists.1 h5
    simp [hfi,Program.cellsOf])
   have hplace:∀ (i off ft:Nat) y',y.fields[i]? = some (off,ft)→tb ft=some y'→(fs.toList.map fun f=>(f.offset,P.cellsOf f.type)).toArray[i]? = some (off,y'.size):=fun i off ft y' hf hy'=>by
    obtain ⟨f',h1,h2,h3,_,_⟩:=hfs i _ hf
    rw [List.getElem?_toArray,List.getElem?_map,Array.getElem?_toList,h1]
    simp only [Option.map_some,h2,h3]
    rw [(htb ft y' hy').cellsOf]
   obtain ⟨us1,hfill,hrs⟩:=zsK htb h (place:=fun i=>(fs.toList.map fun f=>(f.offset,P.cellsOf f.type)).toArray[i]?) hplace parts.toList y.zl l z.cells.toList hl (by rw [hzc,z1];exact zrl z3)
   have hbuilt:P.built t (parts.map fun p=>(p.1,a.eval p.2)).toList=some us1.toArray:=by
    unfold Program.built
    simp only [hi,hd,hz,hpl]
    rw [Array.toArray_toList] at hfill
    simpa using hfill
   have hrun:(execOp a.eval o).run P w=.ok (.value (.agg us1.toArray)) w:=by
    simp only [execOp,hop,Sem.run_bind]
    have:=run_build (P:=P) w t (parts.map fun p=>(p.1,a.eval p.2)) us1.toArray hbuilt
    rw [this];rfl
   exact z9 hn h ho hrun ⟨us1,rfl,hrs⟩
  ·cases ho
 ·cases ho
end
section
variable {x:Cx} {T:Tl} {M:Ml} {m:Mp} {a:Act} {w:World} {P:Program} {tb:Tb} {n:Nat} {o:Oper} {s1:Option Prop} {T1:Tl} {M1:Ml}
theorem ziU (w:World) (ob:Obj):(w.alloc ob).heap[w.heap.size]? = some ob:=by show (w.heap.push ob)[w.heap.size]? = _;simp
theorem ziR (S:Nat→Prop) (w:World) (ob:Obj):zfw S w (w.alloc ob):=⟨by simp,fun k hk _=>Below.heap_alloc _ _ _ hk⟩
theorem zs3 {l l1:LV} {y:Ty} {i:Nat} (h:l.typed y=some l1) (hi:l1.on2 i):l.on2 i:=by
 cases l<;>simp only [LV.typed] at h<;>first
  | cases h
  | (split at h<;>first | (cases h;exact hi) | cases h | (have:=zkA h;cases this;exact hi))
theorem zvZ {l:LV} {i:Nat} {y:Ty} {l1:LV} (h:l.typed y=some l1) (hi:l.on2 i):l.on i:=by
 cases l<;>first | exact hi | cases h
theorem zic {d:Nat} (hf:zcd (tm T) (mm M) d) (q:Operand):¬ (val T q).on d:=by
 cases q with
 | tmp t=>exact hf.1 t
 | const v=>show ¬ (cv v).on d;unfold cv;split<;>exact fun h=>h
 | global g=>exact fun h=>h
 | func f=>exact fun h=>h
theorem ztq {t:TypeId} (hop:o.op=.alloc t) (hn:x.n=n) (htb:zaJ P tb) (h:Rel x (tm T) (mm M) m a w) (ho:opF tb n o T M=some (s1,T1,M1)):zfa P x o a w T1 (mm M1):=by
 simp only [opF,hop] at ho
 split at ho
 ·rename_i y d hy hd
  have hty:=htb t y hy
  obtain ⟨i,hi,_,_,z,hz,hzc,hza⟩:=hty.info
  obtain ⟨z1,z2,z3⟩:=hty.zl
  have hrun:(execOp a.eval o).run P w=.ok (.value (.pointer (some ⟨w.heap.size,0,none⟩))) (w.alloc (.cells z.cells t)):=by
   simp only [execOp,hop,Instr.alloc,zeroValue,Sem.run_bind,run_typeInfo w hi,Result.andThen_ok,hz,Sem.run_pure,newVar,newRow]
   rfl
  have key:∀ v,fresh T M d=true→(∀ S0 M m w,RC S0 M m w z.cells.toList v)→zfa P x o a w (Ab.putd o.dst (.ptr d 0) T) (mm ((d,some (.box t v))::M))∨zaA n o.dst=false:=by
   intro v hf hrc
   by_cases hdo:zaA n o.dst=true
   ·refine .inl ?_
    rw [zI]
    refine ziT hn hdo hrun (m1:=m.set d w.heap.size 0 0) (h.upd d _ (ziR _ w _) ⟨rfl,rfl,rfl⟩ (fun _=>.inr (Nat.le_refl _)) (.inr (zde hf)) (fun b hb _ _=>?_)) ⟨rfl,fun _=>by rw [Mp.set_blk]⟩
    cases hb
    exact ⟨z.cells,by rw [Mp.set_blk];exact ziU _ _,hrc _ _ _ _⟩
   ·exact .inr (by simpa using hdo)
  have fin:∀ v,fresh T M d=true→(∀ S0 M m w,RC S0 M m w z.cells.toList v)→out n T ((d,some (.box t v))::M) none o (.ptr d 0)=some (s1,T1,M1)→zfa P x o a w T1 (mm M1):=by
   intro v hf hrc ho
   obtain ⟨_,rfl,rfl,hdo⟩:=zgg ho
   rcases key v hf hrc with hg | hg
   ·exact hg
   ·rw [hdo] at hg;cases hg
  split at ho
  ·rename_i hf ha
   refine fin _ hf (fun S0 M m w=>?_) ho
   rw [hzc,z1];exact zrl z3
  ·rename_i l hf ha hl
   refine fin _ hf (fun S0 M m w=>?_) ho
   rw [z1] at hl
   rw [hzc]
   have h1:y.zero.length=1:=by rw [z2,hty.one ha]
   match y.zero,h1,hl,z3 with
   | [c],_,hl,z3=>
     have hlc:zlv c=l:=by simpa using hl
     obtain ⟨hr,ho1⟩:=zrd (S0:=S0) (M:=M) (m:=m) (w:=w) (z3 c (List.mem_singleton.2 rfl))
     rw [hlc] at hr
     cases l<;>first
      | exact ⟨_,rfl,hr,ho1⟩
      | exact hr.elim
  ·cases ho
 ·cases ho
theorem zv2 {t:TypeId} {q:Operand} (hop:o.op=.box t q) (hn:x.n=n) (htb:zaJ P tb) (h:Rel x (tm T) (mm M) m a w) (ho:opF tb n o T M=some (s1,T1,M1)):zfa P x o a w T1 (mm M1):=by
 have hv:=zah h q
 simp only [opF,hop] at ho
 split at ho
 ·rename_i y d hy hd
  have hty:=htb t y hy
  split at ho
  ·rename_i hf
   obtain ⟨v,hvt,ho⟩:=Option.bind_eq_some_iff.1 ho
   have hv2:R2 x.S0 (mm M) m w (a.eval q) (val T q):=by
    revert hv hvt;cases val T q<;>intro hv hvt<;>first | exact hv | cases hvt
   obtain ⟨us,hone⟩:=zd1 hty hv2 hvt
   have hrun:(execOp a.eval o).run P w=.ok (.value (.pointer (some ⟨w.heap.size,0,none⟩))) (w.alloc (.cells us.toArray t)):=by
    simp only [execOp,hop,Instr.box,Sem.run_bind,newVar,newRow,hone.cells]
    rfl
   obtain ⟨_,rfl,rfl,hdo⟩:=zgg ho
   rw [zI]
   refine ziT hn hdo hrun (m1:=m.set d w.heap.size 0 0) (h.upd d _ (ziR _ w _) ⟨rfl,rfl,rfl⟩ (fun _=>.inr (Nat.le_refl _)) (.inr (zde hf)) (fun b hb hmv hke=>?_)) ⟨rfl,fun _=>by rw [Mp.set_blk]⟩
   cases hb
   refine ⟨us.toArray,by rw [Mp.set_blk];exact ziU _ _,hmv.rc (fun i hi=>hke i ?_) hone.rc⟩
   rintro rfl
   exact zic (zde hf) q (zvZ hvt (zs3 hvt hi))
  ·cases ho
 ·cases ho
/-! ### stores -/
theorem zc5 (w:World) (g:Nat) (us:Array Value):zfw (fun k=>k=g) w (w.setRow g us):=by
 refine ⟨?_,fun k hk hne=>?_⟩
 ·simp [World.setRow]
 ·have hgk:¬ g=k:=fun e=>hne e.symm
  simp [World.setRow,Array.getElem?_modify,hgk]
theorem znB {t:TypeId} {y:Ty} (hy:za9 P t y) {v:Value} {vs:List Value} {g off e:Nat} {us:Array Value} (hv:v.cells=vs.toArray) (hl:vs.length=y.size) (h1:∀ u∈vs,u.oneCell'=true) (hg:w.heap[g]? = some (.cells us e (0,0))) (hle:off+vs.length≤us.size) :
 (storeVar t ⟨g,off,none⟩ v).run P w=.ok () (w.setRow g (us.toList.take off++vs++us.toList.drop (off+vs.length)).toArray):=by
 have hr:=run_storeCells_at (P:=P) g off e vs 0 us w hg (by omega) h1
 rw [Nat.add_zero] at hr
 have hsz:v.cells.size=y.size:=by rw [hv];simpa using hl
 simp only [storeVar,Sem.run_bind,hy.sizeOf,Result.andThen_ok,hsz,ne_eq,not_true_eq_false,if_false,Sem.run_pure]
 rw [hv]
 exact hr
theorem ztt {t:TypeId} {p q:Operand} (hop:o.op=.store t p q) (hn:x.n=n) (htb:zaJ P tb) (h:Rel x (tm T) (mm M) m a w) (ho:opF tb n o T M=some (s1,T1,M1)):zfa P x o a w T1 (mm M1):=by
 have hp:=zah h p
 have hq:=zah h q
 simp only [opF,hop] at ho
 split at ho
 ·rename_i y id off hy he hd
  have hty:=htb t y hy
  rw [he] at hp
  split at ho
  ·rename_i t1 v hm
   have hpp:=hp.2 (by rw [hm];rfl)
   obtain ⟨us,hu,hrc⟩:=h.blk id _ hm
   obtain ⟨v1,hv1,ho⟩:=Option.bind_eq_some_iff.1 ho
   cases ho
   have fin:∀ vs,(a.eval q).cells=vs.toArray→vs.length=y.size→(∀ u∈vs,u.oneCell'=true)→off+vs.length≤us.size→RC x.S0 (mm M) m w (us.toList.take off++vs++us.toList.drop (off+vs.length)) v1→zfa P x o a w T (mm ((id,some (.box t1 v1))::M)):=by
    intro vs hvc hvl hv1' hle hrcv
    have hst:=znB hty hvc hvl hv1' hu hle
    refine ⟨.skip,undef,w.setRow (m.blk id) (us.toList.take off++vs++us.toList.drop (off+vs.length)).toArray,m,?_,.inr ⟨rfl,rfl⟩,?_⟩
    ·simp only [execOp,hop,hpp,Instr.storeAt,Instr.sureAddr,Sem.run_bind,Sem.run_pure,Result.andThen_ok,hst]
    ·rw [hd,zI]
     show Rel x (tm T) _ m a _
     have hkeep:zdK (mm M) m (Ab.upd (mm M) id (some (.box t1 v1))) m id:=fun _=>⟨by rw [hm];rfl,rfl,rfl,rfl,by unfold zJ;rw [zac,hm],by unfold zbt;rw [zac,hm]⟩
     have:=h.upd id (some (.box t1 v1)) (B:=m.blk id) (O:=m.off id) (c:=m.cap id) (w1:=w.setRow (m.blk id) (us.toList.take off++vs++us.toList.drop (off+vs.length)).toArray)
      ⟨(zc5 w _ _).size,fun k hk hne=>(zc5 w _ _).at_ k hk (fun e=>hne ⟨by rw [hm];rfl,e⟩)⟩ ⟨rfl,rfl,rfl⟩ (fun _=>.inl ⟨by rw [hm];rfl,rfl⟩) (.inl (by rw [zhS];exact hkeep))
      (fun b hb hmv hke=>by
        cases hb
        rw [zhS] at hmv hke ⊢
        refine ⟨_,setRow_heap w _ us _ t1 _ hu,hmv.rc (fun i hi=>?_) (by simpa using hrcv)⟩
        by_cases hid:i=id
        ·subst hid;exact hkeep
        ·exact hke i hid)
     rwa [zhS] at this
   have part_:∀ ls,off+y.size≤ls.length→Rs x.S0 (mm M) m w us.toList ls→((val T q).typed y).bind (fun u=>zkJ (zcM ls off u.cells) fun l=>some (LV.lagg l))=some v1→zfa P x o a w T (mm ((id,some (.box t1 v1))::M)):=by
    intro ls hle hrs hb
    obtain ⟨u,hut,hb⟩:=Option.bind_eq_some_iff.1 hb
    rw [zlF] at hb;cases hb
    have hq2:R2 x.S0 (mm M) m w (a.eval q) (val T q):=by
     revert hq hut;cases val T q<;>intro hq hut<;>first | exact hq | cases hut
    obtain ⟨vs,hone⟩:=zd1 hty hq2 hut
    have hul:=hrs.1
    refine fin vs hone.cells hone.len hone.one (by rw [hone.len,← Array.length_toList];omega) (znL hrs (zpI hone.rc) (by rw [hone.len];omega))
   unfold stB at hv1
   split at hv1
   ·obtain ⟨v0,hv0,hut⟩:=Option.bind_eq_some_iff.1 hv1
    obtain ⟨u0,hone0⟩:=zpq hty hrc hv0
    have hq2:R2 x.S0 (mm M) m w (a.eval q) (val T q):=by
     revert hq hut;cases val T q<;>intro hq hut<;>first | exact hq | cases hut
    obtain ⟨vs,hone⟩:=zd1 hty hq2 hut
    have hlen:us.toList.length=vs.length:=by rw [hone0.len,hone.len]
    refine fin vs hone.cells hone.len hone.one (by rw [← hlen];simp) ?_
    have:us.toList.take 0++vs++us.toList.drop (0+vs.length)=vs:=by
     rw [Nat.zero_add,← hlen];simp
    rw [this];exact hone.rc
   ·unfold stP at hv1
    split at hv1
    ·rename_i cs
     split at hv1
     ·rename_i hble
      exact part_ _ (by simp only [LV.cells,List.length_map];exact Nat.le_of_ble_eq_true hble) (zpI (l:=.dagg cs) hrc) hv1
     ·cases hv1
    ·rename_i ls
     split at hv1
     ·rename_i hble
      exact part_ _ (Nat.le_of_ble_eq_true hble) hrc hv1
     ·cases hv1
    ·cases hv1
  ·cases ho
 ·cases ho
theorem zsE (hn:x.n=n) (htb:zaJ P tb) (h:Rel x (tm T) (mm M) m a w) (ho:opF tb n o T M=some (s1,T1,M1)) (hs:∀ r,s1=some r→r):zfa P x o a w T1 (mm M1):=by
 cases hop:o.op with
 | move q=>exact zuJ hop hn h ho
 | assign q=>exact zsd hop hn h ho
 | unOp u t q=>exact zvg hop hn h ho
 | pick c p q=>exact zuO hop hn h ho
 | nilCheck q=>exact zpg hop hn h ho
 | binOp b t p q ty=>exact zvX hop hn htb h ho hs
 | load t q=>exact zuo hop hn htb h ho
 | fieldAddr t q i=>exact zoG hop hn htb h ho
 | indexAddr t p q=>exact zoh hop hn htb h ho hs
 | alloc t=>exact ztq hop hn htb h ho
 | box t q=>exact zv2 hop hn htb h ho
 | store t p q=>exact ztt hop hn htb h ho
 | extract q i=>exact zqI hop hn h ho
 | build t parts=>exact ztX hop hn htb h ho
 | call c=>
   have ho':=ho
   simp only [opF,hop] at ho'
   split at ho'
   ·rename_i p t hc ha hty;exact zvD hop hc ha hty hn htb h ho
   ·rename_i p q hc ha;exact zvr hop hc ha hn h ho
   ·rename_i p q hc ha;exact zv7 hop hc ha hn h ho
   ·cases ho'
 | makeFunc fn first captured=>
   cases fn with
   | func f=>exact zqf hop hn h ho
   | _=>simp only [opF,hop] at ho;cases ho
 | _=>simp only [opF,hop] at ho;cases ho
end
def zhJ (x:Cx) (J:Cx→Tl→Ml→Prop) (a:Act) (w:World):Prop:=∃ x1,Sib x x1∧∃ T M m,Rel x1 (tm T) (mm M) m a w∧J x1 T M
def zww (x:Cx) (J:Cx→Tl→Ml→Prop) (a:Act) (w:World):Prop:=∃ x1,Sib x x1∧∃ T M m,Rel x1 (tm T) (mm M) m a w∧J x1 T M
def Ka (P:Program) (x:Cx) (R:Cx→Tl→Ml→Prop):List It→Exit→Act→World→Prop
 | [],e,a,w=>match e with
   | .normal=>zhJ x R a w
   | .ret=>zhJ x R a w
   | _=>False
 | .blk id::k,e,a,w=>match e with
   | .normal=>Ka P x R k .normal a w
   | .exit i=>if i=id then Ka P x R k .normal a w else Ka P x R k (.exit i) a w
   | .ret=>zhJ x R a w
   | _=>False
 | .stop J::k,e,a,w=>match e with
   | .normal=>zww x J a w
   | .exit i=>Ka P x R k (.exit i) a w
   | .ret=>zhJ x R a w
   | _=>False
 | .ops all l::k,e,a,w=>match e with
   | .normal=>wpList P all.toArray (Ka P x R k) l a w
   | .exit i=>Ka P x R k (.exit i) a w
   | .ret=>zhJ x R a w
   | _=>False
 | .code c::k,e,a,w=>match e with
   | .normal=>c.wp P (Ka P x R k) a w
   | .exit i=>Ka P x R k (.exit i) a w
   | .ret=>zhJ x R a w
   | _=>False
section
variable {P:Program} {x:Cx} {R:Cx→Tl→Ml→Prop} {tb:Tb} {n:Nat}
theorem Ka.ret {k:List It} {a:Act} {w:World}:Ka P x R k .ret a w=zhJ x R a w:=by
 cases k with
 | nil=>rfl
 | cons i k=>cases i<;>rfl
theorem Ka.bad {k:List It} {a:Act} {w:World} {e:Exit} (h:Ka P x R k e a w):e=.normal∨(∃ i,e=.exit i)∨e=.ret:=by
 cases e with
 | normal=>exact .inl rfl
 | exit i=>exact .inr (.inl ⟨i,rfl⟩)
 | ret=>exact .inr (.inr rfl)
 | goto l=>cases k with
   | nil=>exact h.elim
   | cons i k=>cases i<;>exact h.elim
 | panic c=>cases k with
   | nil=>exact h.elim
   | cons i k=>cases i<;>exact h.elim
 | outgrown=>cases k with
   | nil=>exact h.elim
   | cons i k=>cases i<;>exact h.elim
theorem Ka.pop {id:Nat} {k k1:List It} (h:zkG id k=some k1) {a:Act} {w:World} (hk:Ka P x R k1 .normal a w):Ka P x R k (.exit id) a w:=by
 induction k with
 | nil=>cases h
 | cons i k ih=>cases i with
   | blk j=>
     simp only [zkG] at h
     show if id=j then _ else _
     split at h
     ·rename_i hb
      cases h
      rw [if_pos (zbh.1 hb).symm];exact hk
     ·rename_i hb
      rw [if_neg (fun e=>(zin.1 hb) e.symm)];exact ih h
   | code c=>exact ih h
   | ops all l=>exact ih h
   | stop J=>exact ih h
theorem zsn {o:Oper} {a:Act} {w:World} {K K':Act→World→Prop} {Q Q':Exit→Act→World→Prop} (hk:∀ a w,K a w→K' a w) (hq:∀ e a w,Q e a w→Q' e a w) (h1:o.wp P a w K Q):o.wp P a w K' Q':=by
 unfold Oper.wp at h1 ⊢
 revert h1
 cases (execOp a.eval o).run P w with
 | ok nx w1=>cases nx with
   | enter f args=>
     intro h1
     refine Calls.mono h1 fun e w2 he=>?_
     cases e with
     | returned v=>exact hk _ _ he
     | panicked c=>exact hq _ _ _ he
     | outgrown=>obtain ⟨a,w,he⟩:=he;exact ⟨a,w,hq _ _ _ he⟩
   | value v=>exact fun h1=>hk _ _ h1
   | skip=>exact fun h1=>hk _ _ h1
   | defer d=>exact fun h1=>hk _ _ h1
   | row r args=>exact fun h1=>Rows.mono h1 fun u w2 he=>hk _ _ he
   | _=>exact fun h1=>h1
 | halt hh w1=>cases hh with
   | panic v=>exact fun h1=>hq _ _ _ h1
   | _=>exact fun h1=>h1
theorem zmH {ops:Array Oper} {Q Q':Exit→Act→World→Prop} (hq:∀ e a w,Q e a w→Q' e a w):∀ (l:List Oper) (a:Act) (w:World),wpList P ops Q l a w→wpList P ops Q' l a w
 | [],a,w,h=>hq _ _ _ h
 | o::l,a,w,h=>by
   unfold wpList at h ⊢
   split at h
   ·rename_i hw
    rw [if_pos hw]
    rcases h with h | ⟨h1,a1,w1,h2⟩
    ·exact .inl (zsn (zmH hq l) hq h)
    ·exact .inr ⟨h1,a1,w1,hq _ _ _ h2⟩
   ·rename_i hw
    rw [if_neg hw]
    exact zmH hq l _ _ h
theorem zhJ.base {x1:Cx} (hx:Sib x x1) {a:Act} {w:World} (h:zhJ x1 R a w):zhJ x R a w:=by
 obtain ⟨x2,hx2,h⟩:=h
 exact ⟨x2,hx.trans hx2,h⟩
theorem Ka.base {x1:Cx} (hx:Sib x x1):∀ (k:List It) (e:Exit) (a:Act) (w:World),Ka P x1 R k e a w→Ka P x R k e a w
 | [],e,a,w,h=>by
   cases e with
   | normal=>exact zhJ.base hx h
   | ret=>exact zhJ.base hx h
   | _=>exact h
 | i::k,e,a,w,h=>by
   rcases Ka.bad h with rfl | ⟨j,rfl⟩ | rfl
   ·cases i with
    | blk id=>exact Ka.base hx k _ _ _ h
    | stop J=>
      obtain ⟨x2,hx2,T,M,m,hr,hj⟩:=h
      exact ⟨x2,hx.trans hx2,T,M,m,hr,hj⟩
    | ops all l=>exact zmH (Ka.base hx k) _ _ _ h
    | code c=>exact wp_mono h (Ka.base hx k)
   ·cases i with
    | blk id=>
      show if j=id then _ else _
      have h1:if j=id then Ka P x1 R k .normal a w else Ka P x1 R k (.exit j) a w:=h
      split
      ·rename_i hj;rw [if_pos hj] at h1;exact Ka.base hx k _ _ _ h1
      ·rename_i hj;rw [if_neg hj] at h1;exact Ka.base hx k _ _ _ h1
    | stop J=>exact Ka.base hx k _ _ _ h
    | ops all l=>exact Ka.base hx k _ _ _ h
    | code c=>exact Ka.base hx k _ _ _ h
   ·rw [Ka.ret] at h ⊢;exact zhJ.base hx h
def Wc (P:Program) (x:Cx) (R:Cx→Tl→Ml→Prop) (k:List It) (T:Tl) (M:Ml):Prop:=∀ m a w,Rel x (tm T) (mm M) m a w→Ka P x R k .normal a w
def OpW (P:Program) (x:Cx) (R:Cx→Tl→Ml→Prop) (o:Oper) (k:List It) (T:Tl) (M:Ml):Prop:=∀ m a w,Rel x (tm T) (mm M) m a w→o.wp P a w (Ka P x R k .normal) (fun _ _ _=>False)
def zgw (P:Program) (f:FuncId):Prop:=∃ fn c,P.funcs[f]? = some fn∧fn.body=some c∧(fn.name == "runtime.NumGoroutine")=false
def zmV (P:Program) (x:Cx) (R:Cx→Tl→Ml→Prop) (f:FuncId) (args:List LV) (dst:Option Nat) (k:List It) (T:Tl) (M:Ml):Prop:=zgw P f∧∀ m a w (vs:List Value),Rel x (tm T) (mm M) m a w→vs.length=args.length→(∀ (j:Nat) v l,vs[j]? = some v→args[j]? = some l→R2 x.S0 (mm M) m w v l)→
 Calls P f vs.toArray w (fun e w1=>match e with
  | .returned v=>Ka P x R k .normal (a.put dst v) w1
  | _=>False)
structure ziV (n:Nat) (o:Oper) (T:Tl) (t:TypeId) (u v:LV):Prop where
 dst:zaA n o.dst=true
 op:∃ c p q,o.op=.call c∧c.callee=.builtin .append∧c.args=#[p,q]∧c.argTypes=#[t,t]∧val T p=u∧val T q=v
structure zuE (o:Oper) (T:Tl) (t:TypeId) (id i off:Nat) (v:LV):Prop where
 op:∃ p q,o.op=.store t p q∧val T p=.ept id i off∧val T q=v
def ztY (P:Program) (x:Cx) (n:Nat) (R:Cx→Tl→Ml→Prop):Out→Prop
 | .ret s T M=>s∧R x T M
 | .stop s J T M=>s∧J x T M
 | .cond b s M T1 k1 T2 k2=>s∧(b=true→Wc P x R k1 T1 M)∧(b=false→Wc P x R k2 T2 M)
 | .loop c s T _ M _ k=>s∧Wc P x R (.code (.loop c)::k) T M
 | .call f args dst s T M k=>s∧zmV P x R f args dst k T M
 | .app t u v o s T M k=>s∧(ziV n o T t u v→OpW P x R o k T M)
 | .set t id i off v o s T M k=>s∧(zuE o T t id i off v→OpW P x R o k T M)
 | .oth o s T M k=>s∧(zaA n o.dst=true→OpW P x R o k T M)
 | .bad s T M k=>s∧Wc P x R k T M
theorem zuu {c:Code} {k:List It}:∀ e a w,Ka P x R (.code c::k) e a w→Exit.then (c.wp P (Ka P x R k)) (Ka P x R k) e a w:=by
 intro e a w h
 rcases Ka.bad h with rfl | ⟨i,rfl⟩ | rfl
 ·exact h
 ·exact h
 ·show Ka P x R k .ret a w;rw [Ka.ret];exact h
theorem zqU {id:Nat} {k:List It}:∀ e a w,Ka P x R (.blk id::k) e a w→Exit.inBlock id (Ka P x R k) e a w:=by
 intro e a w h
 rcases Ka.bad h with rfl | ⟨i,rfl⟩ | rfl
 ·exact h
 ·exact h
 ·show Ka P x R k .ret a w;rw [Ka.ret];exact h
theorem zt7 {k:List It} {T:Tl} {M:Ml} (h:Wc P x R k T M):Wc P x R (.code .skip::k) T M:=fun m a w hr=>wp_skip (h m a w hr)
theorem zvv {p q:Code} {k:List It} {T:Tl} {M:Ml} (h:Wc P x R (.code p::.code q::k) T M):Wc P x R (.code (.seq p q)::k) T M:=fun m a w hr=>wp_seq (wp_mono (h m a w hr) zuu)
theorem ztd {id:Nat} {c:Code} {k:List It} {T:Tl} {M:Ml} (h:Wc P x R (.code c::.blk id::k) T M):Wc P x R (.code (.block id c)::k) T M:=fun m a w hr=>wp_block (wp_mono (h m a w hr) zqU)
theorem zuv {id:Nat} {k k1:List It} {T:Tl} {M:Ml} (hp:zkG id k=some k1) (h:Wc P x R k1 T M):Wc P x R (.code (.exit id)::k) T M:=fun m a w hr=>wp_exit (Ka.pop hp (h m a w hr))
theorem zvo {k:List It} {T:Tl} {M:Ml} (h:R x T M):Wc P x R (.code .ret::k) T M:=fun m a w hr=>wp_ret (by rw [Ka.ret];exact ⟨x,.refl x,T,M,m,hr,h⟩)
theorem zrP {id:Nat} {ops:Array Oper} {k:List It} {T:Tl} {M:Ml} (h:Wc P x R (.ops ops.toList ops.toList::k) T M):Wc P x R (.code (.region id ops false)::k) T M:=fun m a w hr=>wp_region_list (by have:=h m a w hr;simpa only [Ka,Array.toArray_toList] using this)
theorem zoU {c:Operand} {p q:Code} {k:List It} {T:Tl} {M:Ml} {b:Bool} (hb:val T c=.dat (.bool b)∨val T c=.known b) (h1:b=true→Wc P x R (.code p::k) T M) (h2:b=false→Wc P x R (.code q::k) T M):Wc P x R (.code (.cond c p q)::k) T M:=fun m a w hr=>by
 have hv:=zah hr c
 have hv':a.eval c=.bool b:=by rcases hb with hb | hb<;>rw [hb] at hv<;>first | exact zft hv | exact hv
 exact wp_cond_split hv' (fun e=>h1 e m a w hr) (fun e=>h2 e m a w hr)
theorem zfA {all:List Oper} {j d:Nat} {T:Tl} {M:Ml} {m:Mp} {a:Act} {w:World} (hr:Rel x (tm T) (mm M) m a w) (hj:nth (all.map fun o=>o.dst) j=some (some d)) {v:Value} (hv:a.tmps.getD d undef=v):(∀ b,v=.bool b→yielded all.toArray a.tmps j=some b)∧((∀ b,v≠.bool b)→yielded all.toArray a.tmps j=none):=by
 rw [zge,List.getElem?_map] at hj
 have h1:((all.toArray[j]?).bind (·.dst))=some d:=by
  rw [List.getElem?_toArray]
  cases ho:all[j]? with
  | none=>rw [ho] at hj;cases hj
  | some o=>rw [ho] at hj;simpa using hj
 unfold yielded
 rw [h1]
 simp only [Option.bind_some]
 constructor
 ·intro b hb
  have hlt:d<a.tmps.size:=by
   rcases Nat.lt_or_ge d a.tmps.size with h | h
   ·exact h
   ·rw [Array.getD_eq_getD_getElem?,Array.getElem?_eq_none h] at hv
    rw [hb] at hv;cases hv
  have:a.tmps[d]? = some (.bool b):=by
   rw [Array.getD_eq_getD_getElem?,Array.getElem?_eq_getElem hlt] at hv
   rw [Array.getElem?_eq_getElem hlt,← hb,← hv];rfl
  rw [this]
 ·intro hb
  cases hd:a.tmps[d]? with
  | none=>rfl
  | some u=>
    have:u=v:=by rw [Array.getD_eq_getD_getElem?,hd] at hv;exact hv
    subst this
    cases u<;>first | rfl | exact absurd rfl (hb _)
theorem zoH {all l:List Oper} {o:Oper} {k:List It} {T:Tl} {M:Ml} (hn:x.n=n) (hd:zaA n o.dst=true) (hw:∀ m a w,Rel x (tm T) (mm M) m a w→Region.wanted o (yielded all.toArray a.tmps)=false)
 (h:Wc P x R (.ops all l::k) (putd o.dst (.tup []) T) M):Wc P x R (.ops all (o::l)::k) T M:=fun m a w hr=>by
 show wpList P all.toArray (Ka P x R k) (o::l) a w
 unfold wpList
 rw [if_neg (by rw [hw m a w hr];exact Bool.false_ne_true)]
 exact h m _ w (hr.putd hn hd ⟨[],rfl,rfl,fun j u l hu=>by cases hu⟩)
theorem zrD {all l:List Oper} {o:Oper} {k:List It} {T:Tl} {M:Ml} (hw:∀ m a w,Rel x (tm T) (mm M) m a w→Region.wanted o (yielded all.toArray a.tmps)=true)
 (h:Wc P x R (.ops all (Oper.bare o::l)::k) T M):Wc P x R (.ops all (o::l)::k) T M:=fun m a w hr=>by
 have h1:=h m a w hr
 show wpList P all.toArray (Ka P x R k) (o::l) a w
 have h2:wpList P all.toArray (Ka P x R k) (Oper.bare o::l) a w:=h1
 unfold wpList at h2 ⊢
 rw [if_pos (hw m a w hr)]
 rw [if_pos (by rfl)] at h2
 exact h2
theorem ziO {all l:List Oper} {o:Oper} {k:List It} {T:Tl} {M:Ml} (hg:o.guard=none) (h:OpW P x R o (.ops all l::k) T M):Wc P x R (.ops all (o::l)::k) T M:=fun m a w hr=>by
 have h1:=h m a w hr
 show wpList P all.toArray (Ka P x R k) (o::l) a w
 unfold wpList
 rw [if_pos (by unfold Region.wanted;rw [hg])]
 refine .inl ?_
 unfold Oper.wp at h1 ⊢
 revert h1
 cases (execOp a.eval o).run P w with
 | ok nx w1=>cases nx with
   | enter f args=>
     intro h1
     refine Calls.mono h1 fun e w2 he=>?_
     cases e with
     | returned v=>exact he
     | panicked c=>exact he.elim
     | outgrown=>obtain ⟨_,_,he⟩:=he;exact he.elim
   | _=>exact fun h1=>h1
 | halt hh w1=>cases hh with
   | panic v=>exact fun h1=>h1.elim
   | _=>exact fun h1=>h1
theorem zvd {all l:List Oper} {o:Oper} {k:List It} {T T1:Tl} {M M1:Ml} {s:Option Prop} (hn:x.n=n) (htb:zaJ P tb) (hg:o.guard=none) (ho:opF tb n o T M=some (s,T1,M1)) (hs:∀ r,s=some r→r) (h:Wc P x R (.ops all l::k) T1 M1):Wc P x R (.ops all (o::l)::k) T M:=
 ziO hg fun m a w hr=>by
  obtain ⟨nx,v,w1,m1,hrun,hnx,hr1⟩:=zsE hn htb hr ho hs
  unfold Oper.wp
  rw [hrun]
  rcases hnx with rfl | ⟨rfl,rfl⟩
  ·exact h m1 _ w1 hr1
  ·exact h m1 _ w1 hr1
theorem zue {T:Tl} {q:Operand} {t:TypeId} {v:LV} (h:zsN tb T q t=some v):(val T q=v∧((∃ f,v=.fn f)∨∃ f caps,v=.clo f caps))∨∃ y,tb t=some y∧(val T q).typed y=some v:=by
 unfold zsN at h
 split at h
 ·rename_i f hf;cases h;exact .inl ⟨hf,.inl ⟨f,rfl⟩⟩
 ·rename_i f caps hf;cases h;exact .inl ⟨hf,.inr ⟨f,caps,rfl⟩⟩
 ·obtain ⟨y,hy,h⟩:=Option.bind_eq_some_iff.1 h
  exact .inr ⟨y,hy,h⟩
theorem zie {T:Tl}:∀ {l:List Operand} {ts:List TypeId} {vs:List LV},zdQ tb T l ts=some vs→vs.length=l.length
 | [],[],vs,h=>by cases h;rfl
 | p::l,t::ts,vs,h=>by
   simp only [zdQ] at h
   obtain ⟨v,hv,h⟩:=Option.bind_eq_some_iff.1 h
   obtain ⟨r,hr,h⟩:=Option.bind_eq_some_iff.1 h
   cases h;simp [zie hr]
 | [],t::ts,vs,h=>by cases h
 | p::l,[],vs,h=>by cases h
theorem zjD (htb:zaJ P tb) {T:Tl} {M:Ml} {m:Mp} {a:Act} {w:World} (hr:Rel x (tm T) (mm M) m a w):∀ {l:List Operand} {ts:List TypeId} {vs:List LV},zdQ tb T l ts=some vs→∀ (j:Nat) v q,(l.map a.eval)[j]? = some v→vs[j]? = some q→R2 x.S0 (mm M) m w v q
 | [],[],vs,h=>fun j v q hv=>by cases hv
 | p::l,t::ts,vs,h=>fun j v q hv hq=>by
   simp only [zdQ] at h
   obtain ⟨v0,hv0,h⟩:=Option.bind_eq_some_iff.1 h
   obtain ⟨r,hrr,h⟩:=Option.bind_eq_some_iff.1 h
   cases h
   cases j with
   | zero=>
     have e1:a.eval p=v:=by simpa using hv
     have e2:v0=q:=by simpa using hq
     subst e1;subst e2
     have hp:=zah hr p
     rcases zue hv0 with ⟨hf,⟨f,rfl⟩ | ⟨f,caps,rfl⟩⟩ | ⟨y,hy,hv0⟩
     ·rw [hf] at hp;exact hp
     ·rw [hf] at hp;exact hp
     have hp2:R2 x.S0 (mm M) m w (a.eval p) (val T p):=by
      revert hp hv0;cases val T p<;>intro hp hv0<;>first | exact hp | cases hv0
     obtain ⟨us,h1⟩:=zd1 (htb t y hy) hp2 hv0
     exact h1.r2
   | succ j=>exact zjD htb hr hrr j v q (by simpa using hv) (by simpa using hq)
 | [],t::ts,vs,h=>by cases h
 | p::l,[],vs,h=>by cases h
theorem zum {all l:List Oper} {o:Oper} {k:List It} {T:Tl} {M:Ml} {c:Call} {q:Operand} {f:FuncId} {args:List LV} (htb:zaJ P tb) (hg:o.guard=none) (hop:o.op=.call c) (hc:c.callee=.value q) (hq:val T q=.fn f) (ha:zdQ tb T c.args.toList c.argTypes.toList=some args)
 (h:zmV P x R f args o.dst (.ops all l::k) T M):Wc P x R (.ops all (o::l)::k) T M:=
 ziO hg fun m a w hr=>by
  obtain ⟨⟨fn,cd,hf,hb,hname⟩,h⟩:=h
  have hc1:=h m a w (c.args.toList.map a.eval) hr (by rw [List.length_map,zie ha]) (zjD htb hr ha)
  have hrun:(execOp a.eval o).run P w=.ok (.enter f (c.args.toList.map a.eval).toArray) w:=by
   have h1:fn.name ≠ "runtime.NumGoroutine":=by simpa using hname
   have hfv:a.eval q=.func (.func f) #[] #[]:=by have:=zah hr q;rw [hq] at this;exact this
   have hargs:c.args.map a.eval=(c.args.toList.map a.eval).toArray:=by rw [← Array.toList_map,Array.toArray_toList]
   simp only [execOp,hop,resolve,hc,hfv,Deferred.ofValue,Sem.run_bind,Sem.run_pure,Result.andThen_ok,invoke,Array.empty_append,Array.append_empty,hargs,callFunc,run_program,hf]
   simp [h1,hb]
  unfold Oper.wp
  rw [hrun]
  refine Calls.mono hc1 fun e w1 he=>?_
  cases e with
  | returned v=>exact he
  | panicked c=>exact he.elim
  | outgrown=>exact he.elim
theorem znC:∀ {caps:List (Nat×Nat)} {j:Nat} {q:LV},(zkK caps)[j]? = some q→∃ p,caps[j]? = some p∧q=.ptr p.1 p.2
 | [],j,q,h=>by cases h
 | (i,o)::r,0,q,h=>by cases h;exact ⟨(i,o),rfl,rfl⟩
 | (i,o)::r,j+1,q,h=>by
   obtain ⟨p,h1,h2⟩:=znC (caps:=r) (j:=j) (by simpa [zkK] using h)
   exact ⟨p,by simpa using h1,h2⟩
theorem znN:∀ {caps:List (Nat×Nat)},(zkK caps).length=caps.length
 | []=>rfl
 | (i,o)::r=>by simp [zkK,znN (caps:=r)]
theorem zsX {all l:List Oper} {o:Oper} {k:List It} {T:Tl} {M:Ml} {c:Call} {q:Operand} {f:FuncId} {caps:List (Nat×Nat)} {args:List LV} (htb:zaJ P tb) (hg:o.guard=none) (hop:o.op=.call c) (hc:c.callee=.value q) (hq:val T q=.clo f caps) (ha:zdQ tb T c.args.toList c.argTypes.toList=some args)
 (h:zmV P x R f (args++zkK caps) o.dst (.ops all l::k) T M):Wc P x R (.ops all (o::l)::k) T M:=
 ziO hg fun m a w hr=>by
  obtain ⟨⟨fn,cd,hf,hb,hname⟩,h⟩:=h
  obtain ⟨us,hfv,hul,hus⟩:R3 x.S0 (mm M) m w (a.eval q) (.clo f caps):=by have:=zah hr q;rwa [hq] at this
  have hlen:(c.args.toList.map a.eval).length=args.length:=by rw [List.length_map,zie ha]
  have hc1:=h m a w (c.args.toList.map a.eval++us) hr (by rw [List.length_append,List.length_append,hlen,hul,znN]) (fun j v l hv hl=>by
   rcases Nat.lt_or_ge j args.length with hj | hj
   ·rw [List.getElem?_append_left (by rw [hlen];exact hj)] at hv
    rw [List.getElem?_append_left hj] at hl
    exact zjD htb hr ha j v l hv hl
   ·rw [List.getElem?_append_right (by rw [hlen];exact hj),hlen] at hv
    rw [List.getElem?_append_right hj] at hl
    obtain ⟨p,hp,rfl⟩:=znC hl
    exact hus _ v p hv hp)
  have hrun:(execOp a.eval o).run P w=.ok (.enter f (c.args.toList.map a.eval++us).toArray) w:=by
   have h1:fn.name ≠ "runtime.NumGoroutine":=by simpa using hname
   have hargs:c.args.map a.eval=(c.args.toList.map a.eval).toArray:=by rw [← Array.toList_map,Array.toArray_toList]
   simp only [execOp,hop,resolve,hc,hfv,Deferred.ofValue,Sem.run_bind,Sem.run_pure,Result.andThen_ok,invoke,Array.empty_append,hargs,callFunc,run_program,hf]
   simp [h1,hb]
  unfold Oper.wp
  rw [hrun]
  refine Calls.mono hc1 fun e w1 he=>?_
  cases e with
  | returned v=>exact he
  | panicked c=>exact he.elim
  | outgrown=>exact he.elim
theorem zoe {o:Oper} {T:Tl} {f:FuncId} {args:List LV} (h:zfk tb n o T=.call f args):zaA n o.dst=true∧∃ c q zas,o.op=.call c∧c.callee=.value q∧zdQ tb T c.args.toList c.argTypes.toList=some zas∧((val T q=.fn f∧args=zas)∨∃ caps,val T q=.clo f caps∧args=zas++zkK caps):=by
 unfold zfk at h
 split at h
 ·cases h
 ·rename_i hd
  split at h
  ·rename_i c hop
   split at h
   ·split at h
    ·rename_i hq hv
     cases h
     exact ⟨hd,c,_,_,hop,by assumption,hv,.inl ⟨hq,rfl⟩⟩
    ·rename_i hq hv
     cases h
     exact ⟨hd,c,_,_,hop,by assumption,hv,.inr ⟨_,hq,rfl⟩⟩
    ·cases h
   ·split at h<;>cases h
   ·cases h
  ·split at h<;>cases h
  all_goals cases h
theorem zwg {β:Type} {l:Array β} {a b:β} (h:l.toList=[a,b]):l=#[a,b]:=by cases l;simpa using h
theorem zps {o:Oper} {T:Tl} {t:TypeId} {u v:LV} (h:zfk tb n o T=.app t u v):ziV n o T t u v:=by
 unfold zfk at h
 split at h
 ·cases h
 ·rename_i hd
  split at h
  ·rename_i c hop
   split at h
   ·split at h<;>cases h
   ·rename_i p q t0 t1 hc ha hty
    split at h
    ·rename_i hb
     cases h
     have:=zbh.1 hb
     subst this
     exact ⟨hd,c,p,q,hop,hc,zwg ha,zwg hty,rfl,rfl⟩
    ·cases h
   ·cases h
  ·split at h<;>cases h
  all_goals cases h
theorem zpA {o:Oper} {T:Tl} {t:TypeId} {id i off:Nat} {v:LV} (h:zfk tb n o T=.set t id i off v):zuE o T t id i off v:=by
 unfold zfk at h
 split at h
 ·cases h
 ·split at h
  ·split at h
   ·split at h<;>cases h
   ·split at h<;>cases h
   ·cases h
  ·rename_i t0 p q hop
   split at h
   ·rename_i he
    cases h
    exact ⟨p,q,hop,he,rfl⟩
   ·cases h
  all_goals cases h
theorem zqe {o:Oper} {T:Tl} (h:zfk tb n o T=.oth):zaA n o.dst=true:=by
 unfold zfk at h
 split at h
 ·cases h
 ·assumption
theorem zjY {β:Type _} {ws:List Nat}:∀ {T:Tl} {seen:List Nat} {k:Tl→β},∃ Ts,zki ws seen T k=k Ts
 | [],seen,k=>⟨_,rfl⟩
 | (t,l)::r,seen,k=>by
   unfold zki
   split
   ·obtain ⟨Ts,h⟩:=zjY (ws:=ws) (T:=r) (seen:=t::seen) (k:=fun r=>k ((t,l)::r));exact ⟨_,h⟩
   ·exact zjY
theorem zia {β:Type _} {ws:List Nat}:∀ {T:Ml} {seen:List Nat} {k:Ml→β},∃ Ts,zgP ws seen T k=k Ts
 | [],seen,k=>⟨_,rfl⟩
 | (t,none)::r,seen,k=>by unfold zgP;exact zia
 | (t,some b)::r,seen,k=>by
   unfold zgP
   split
   ·obtain ⟨Ts,h⟩:=zia (ws:=ws) (T:=r) (seen:=t::seen) (k:=fun r=>k ((t,some b)::r));exact ⟨_,h⟩
   ·exact zia
theorem zty {c:Code} {s:Prop} {T:Tl} {M:Ml} {k:List It} {ws:List Nat} (h:ztY P x n R (zki ws [] T fun Ts=>zgP ws [] M fun Ms=>.loop c s T Ts M Ms k)):s∧Wc P x R (.code (.loop c)::k) T M:=by
 obtain ⟨Ts,e1⟩:=zjY (ws:=ws) (T:=T) (seen:=[]) (k:=fun Ts=>zgP ws [] M fun Ms=>Out.loop c s T Ts M Ms k)
 obtain ⟨Ms,e2⟩:=zia (ws:=ws) (T:=M) (seen:=[]) (k:=fun Ms=>Out.loop c s T Ts M Ms k)
 rw [e1,e2] at h
 exact h
theorem zdw (hn:x.n=n) (htb:zaJ P tb):∀ (fu:Nat) (T:Tl) (M:Ml) (s:Prop) (k:List It),ztY P x n R (run tb n fu T M s k)→s∧Wc P x R k T M
 | 0,T,M,s,k,h=>by rw [run.eq_def] at h;exact h
 | fu+1,T,M,s,[],h=>by
   rw [run.eq_def] at h
   exact ⟨h.1,fun m a w hr=>⟨x,.refl x,T,M,m,hr,h.2⟩⟩
 | fu+1,T,M,s,.blk id::k,h=>by
   rw [run.eq_def] at h
   obtain ⟨h1,h2⟩:=zdw hn htb fu T M s k h
   exact ⟨h1,fun m a w hr=>h2 m a w hr⟩
 | fu+1,T,M,s,.stop J::k,h=>by
   rw [run.eq_def] at h
   exact ⟨h.1,fun m a w hr=>⟨x,.refl x,T,M,m,hr,h.2⟩⟩
 | fu+1,T,M,s,.ops all []::k,h=>by
   rw [run.eq_def] at h
   obtain ⟨h1,h2⟩:=zdw hn htb fu T M s k h
   exact ⟨h1,fun m a w hr=>h2 m a w hr⟩
 | fu+1,T,M,s,.ops all (o::l)::k,h=>by
   rw [run.eq_def] at h
   dsimp only at h
   split at h
   ·rename_i j want hg
    split at h
    ·rename_i d hd
     have hwant:∀ m a w,Rel x (tm T) (mm M) m a w→∀ b,tm T d=.known b→Region.wanted o (yielded all.toArray a.tmps)=(some b == some want):=fun m a w hr b hb=>by
      have hv:=hr.tmp d
      rw [hb] at hv
      have:=(zfA hr hd (show a.tmps.getD d undef=.bool b from hv)).1 b rfl
      unfold Region.wanted;rw [hg];simp only [this]
     split at h
     ·rename_i b hb
      split at h
      ·obtain ⟨h1,h2⟩:=zdw hn htb fu _ _ _ _ h
       exact ⟨h1,zrD (fun m a w hr=>by rw [hwant m a w hr _ hb];rfl) h2⟩
      ·obtain ⟨h1,h2⟩:=zdw hn htb fu _ _ _ _ h
       exact ⟨h1,zrD (fun m a w hr=>by rw [hwant m a w hr _ hb];rfl) h2⟩
      ·split at h
       ·rename_i hdo
        obtain ⟨h1,h2⟩:=zdw hn htb fu _ _ _ _ h
        exact ⟨h1,zoH hn hdo (fun m a w hr=>by rw [hwant m a w hr _ hb];rfl) h2⟩
       ·exact h
      ·split at h
       ·rename_i hdo
        obtain ⟨h1,h2⟩:=zdw hn htb fu _ _ _ _ h
        exact ⟨h1,zoH hn hdo (fun m a w hr=>by rw [hwant m a w hr _ hb];rfl) h2⟩
       ·exact h
     ·rename_i ls hb
      split at h
      ·rename_i hdo
       obtain ⟨h1,h2⟩:=zdw hn htb fu _ _ _ _ h
       refine ⟨h1,zoH hn hdo (fun m a w hr=>?_) h2⟩
       have hv:=hr.tmp d
       rw [hb] at hv
       obtain ⟨us,hv,_⟩:=hv
       have:=(zfA hr hd hv).2 (fun b hh=>by cases hh)
       unfold Region.wanted;rw [hg];simp only [this];rfl
      ·exact h
     ·rename_i b hb
      split at h
      ·rename_i hlt
       obtain ⟨h1,h2,h3⟩:=h
       have hput:∀ m a w,Rel x (tm T) (mm M) m a w→Rel x (tm ((d,.known b)::T)) (mm M) m a w:=fun m a w hr=>by
        have hv:=hr.tmp d
        rw [hb] at hv
        refine ⟨fun t=>?_,hr.sz,hr.df,hr.blk,hr.inj,hr.lo,hr.s0,hr.os,hr.tape,hr.output,hr.same,hr.keep⟩
        rw [zij];unfold upd
        split
        ·rename_i ht;rw [ht];exact zft hv
        ·exact hr.tmp t
       refine ⟨h1,fun m a w hr=>?_⟩
       cases b with
       | true=>exact h2 rfl m a w (hput m a w hr)
       | false=>exact h3 rfl m a w (hput m a w hr)
      ·exact h
     ·exact h
    ·exact h
   ·rename_i hg
    split at h
    ·rename_i f args hsp
     obtain ⟨_,c,q,zas,hop,hc,ha,hor⟩:=zoe hsp
     rcases hor with ⟨hq,rfl⟩ | ⟨caps,hq,rfl⟩
     ·exact ⟨h.1,zum htb hg hop hc hq ha h.2⟩
     ·exact ⟨h.1,zsX htb hg hop hc hq ha h.2⟩
    ·rename_i t u v hsp
     exact ⟨h.1,ziO hg (h.2 (zps hsp))⟩
    ·rename_i t id i off v hsp
     exact ⟨h.1,ziO hg (h.2 (zpA hsp))⟩
    ·rename_i hsp
     exact ⟨h.1,ziO hg (h.2 (zqe hsp))⟩
    ·split at h
     ·rename_i s1 T1 M1 ho
      obtain ⟨⟨h1,h1'⟩,h2⟩:=zdw hn htb fu _ _ _ _ h
      exact ⟨h1,zvd hn htb hg ho (fun r hr=>by cases hr;exact h1') h2⟩
     ·rename_i T1 M1 ho
      obtain ⟨h1,h2⟩:=zdw hn htb fu _ _ _ _ h
      exact ⟨h1,zvd hn htb hg ho (fun r hr=>by cases hr) h2⟩
     ·exact h
 | fu+1,T,M,s,.code c::k,h=>by
   rw [run.eq_def] at h
   dsimp only at h
   split at h
   ·obtain ⟨h1,h2⟩:=zdw hn htb fu _ _ _ _ h
    exact ⟨h1,zt7 h2⟩
   ·obtain ⟨h1,h2⟩:=zdw hn htb fu _ _ _ _ h
    exact ⟨h1,zvv h2⟩
   ·obtain ⟨h1,h2⟩:=zdw hn htb fu _ _ _ _ h
    exact ⟨h1,ztd h2⟩
   ·obtain ⟨h1,h2⟩:=zdw hn htb fu _ _ _ _ h
    exact ⟨h1,zrP h2⟩
   ·split at h
    ·rename_i hb
     obtain ⟨h1,h2⟩:=zdw hn htb fu _ _ _ _ h
     exact ⟨h1,zoU (.inr hb) (fun _=>h2) (fun e=>by cases e)⟩
    ·rename_i hb
     obtain ⟨h1,h2⟩:=zdw hn htb fu _ _ _ _ h
     exact ⟨h1,zoU (.inr hb) (fun e=>by cases e) (fun _=>h2)⟩
    ·rename_i b hb
     exact ⟨h.1,zoU (.inl hb) h.2.1 h.2.2⟩
    ·exact h
   ·exact zty h
   ·split at h
    ·rename_i hp
     obtain ⟨h1,h2⟩:=zdw hn htb fu _ _ _ _ h
     exact ⟨h1,zuv hp h2⟩
    ·exact h
   ·exact ⟨h.1,zvo h.2⟩
   ·exact h
end
abbrev M0:Mem:=fun _=>none
/-! ### zas data -/
def zeG (M:Mem):List LV→Option (List C)
 | []=>some []
 | l::ls=>(l.data M).bind fun c=>(zeG M ls).bind fun cs=>some (c::cs)
def LV.pure (M:Mem):LV→Option LV
 | .dagg cs=>some (.dagg cs)
 | .lagg ls=>(zeG M ls).bind fun cs=>some (.dagg cs)
 | .fn f=>some (.fn f)
 | l=>(l.data M).bind fun c=>some (.dat c)
section
variable {x:Cx} {T:Tl} {M:Mem} {m:Mp} {a:Act} {w:World} {P:Program}
theorem own0 {S:Nat→Prop} {m:Mp} {k:Nat}:Own S M0 m k↔S k:=⟨fun h=>h.elim id (fun ⟨_,h,_⟩=>by cases h),.inl⟩
theorem Rf.own0 {S:Nat→Prop} {w:World} {v:Value} {c:C} {m:Mp} (h:Rf S w v c):Rf (Own S M0 m) w v c:=h.sub fun k hk=>Ab.own0.1 hk
theorem zlD {S:Nat→Prop} (hS:∀ k,S k→Own x.S0 M m k) (hb:∀ id b,M id=some b→zfe x.S0 M m w id b) {v:Value} {l:LV} (hr:R1 x.S0 M m w v l) {c:C} (h:l.data M=some c) (hl:∀ id,l.on1 id→(M id).isSome=true→¬ S (m.blk id)):Rf S w v c:=by
 cases l with
 | dat c'=>cases h;exact Rf.sub hr hS
 | known b=>cases h;rw [show v=_ from hr];exact .bool b
 | nil c'=>cases h;exact Rf.sub hr.2 hS
 | own id=>
   simp only [LV.data] at h
   split at h
   ·rename_i e z α d f xs hm
    cases h
    have hv:=hr.2 _ (show zJ M id=some _ by unfold zJ;rw [hm])
    obtain ⟨us,hu,a1,a2,a3,a4,a5,a6,a7⟩:=hb id _ hm
    by_cases hx:0<xs.length
    ·have hall:∀ i y j q,xs[i]? = some y→(f y)[j]? = some q→∃ u,w.cell? ⟨m.blk id,m.off id+i*z+j,none⟩=some u∧Rf (Own x.S0 M m) w u q:=fun i y j q hi hj=>by
      obtain ⟨u,h1,h2⟩:=a7 i y j q hi hj
      exact ⟨u,by rw [zcF hu];exact h1,h2⟩
     rw [hv]
     refine .row (m.blk id) (m.off id) (m.cap id) z xs.length d f xs (fun i j=>(w.cell? ⟨m.blk id,m.off id+i*z+j,none⟩).getD undef) rfl hx a4 a2 a3 (hl id rfl (by rw [hm];rfl)) a5 (fun i y j q hi hj=>?_) (fun i y j q hi hj=>?_)
     ·obtain ⟨u,h1,_⟩:=hall i y j q hi hj;rw [h1];rfl
     ·obtain ⟨u,h1,h2⟩:=hall i y j q hi hj
      show Rf S w ((w.cell? ⟨m.blk id,m.off id+i*z+j,none⟩).getD undef) q
      rw [h1];exact h2.sub hS
    ·have h0:xs=[]:=List.length_eq_zero_iff.1 (by omega)
     subst h0
     rw [hv];exact .nil _ _ z d f
   ·cases h
 | _=>cases h
theorem zid {M:Mem}:∀ {ls:List LV} {cs:List C},zeG M ls=some cs→cs.length=ls.length∧∀ (j:Nat) l,ls[j]? = some l→∃ c,cs[j]? = some c∧l.data M=some c
 | [],cs,h=>by cases h;exact ⟨rfl,fun j l hl=>by cases hl⟩
 | l::ls,cs,h=>by
   simp only [zeG] at h
   obtain ⟨c,hc,h⟩:=Option.bind_eq_some_iff.1 h
   obtain ⟨cs',hcs,h⟩:=Option.bind_eq_some_iff.1 h
   cases h
   obtain ⟨h1,h2⟩:=zid hcs
   refine ⟨by simp [h1],fun j l' hl=>?_⟩
   cases j with
   | zero=>
     have:l=l':=by simpa using hl
     subst this
     exact ⟨c,rfl,hc⟩
   | succ j=>exact h2 j l' (by simpa using hl)
theorem zjv {S:Nat→Prop} (hS:∀ k,S k→Own x.S0 M m k) (hb:∀ id b,M id=some b→zfe x.S0 M m w id b) {v:Value} {l r:LV} (hr:R2 x.S0 M m w v l) (h:l.pure M=some r) (hl:∀ id,l.on2 id→(M id).isSome=true→¬ S (m.blk id)) (m1:Mp):R2 S M0 m1 w v r:=by
 have single:∀ c,R1 x.S0 M m w v l→(∀ id,l.on1 id→(M id).isSome=true→¬ S (m.blk id))→l.data M=some c→r=.dat c→R2 S M0 m1 w v r:=fun c h1 h2 hd hrc=>by
  subst hrc
  exact (zlD hS hb h1 hd h2).own0
 cases l with
 | dagg cs=>cases h;obtain ⟨us,hv,hd⟩:=hr;exact ⟨us,hv,hd.1,fun j u c hu hc=>(Rf.sub (hd.2 j u c hu hc) hS).own0⟩
 | lagg ls=>
   simp only [LV.pure] at h
   obtain ⟨cs,hcs,h⟩:=Option.bind_eq_some_iff.1 h
   cases h
   obtain ⟨us,hv,hd⟩:=hr
   obtain ⟨h1,h2⟩:=zid hcs
   refine ⟨us,hv,by rw [hd.1,h1],fun j u c hu hc=>?_⟩
   have hlt:=(List.getElem?_eq_some_iff.1 hu).1
   rw [hd.1] at hlt
   have hlj:=List.getElem?_eq_getElem hlt
   obtain ⟨c',hc',hdat⟩:=h2 j _ hlj
   rw [hc] at hc';cases hc'
   exact (zlD hS hb (hd.2 j u _ hu hlj).1 hdat (fun id hi=>hl id ⟨_,List.mem_of_getElem? hlj,hi⟩)).own0
 | no=>cases h
 | nil0=>cases h
 | tup ls=>cases h
 | ptr id off=>cases h
 | ept id i off=>cases h
 | spt cs off=>cases h
 | fn f=>cases h;exact hr
 | clo f caps=>cases h
 | nil c=>cases h;exact single c hr (fun id h=>h.elim) rfl rfl
 | known c=>cases h;exact single _ hr (fun id h=>h.elim) rfl rfl
 | dat c=>cases h;exact single c hr (fun id h=>h.elim) rfl rfl
 | own id=>
   simp only [LV.pure] at h
   obtain ⟨c,hc,h⟩:=Option.bind_eq_some_iff.1 h
   cases h
   exact single c hr hl hc rfl
/-! ### contracts over data -/
def Con (P:Program) (f:FuncId) (args:List LV) (r:LV):Prop:=zgw P f∧
 ∀ (S:Nat→Prop) (w:World) (m:Mp) (vs:List Value),(∀ k,S k→k<w.heap.size)→vs.length=args.length→(∀ (j:Nat) v l,vs[j]? = some v→args[j]? = some l→R2 S M0 m w v l)→
   Calls P f vs.toArray w (fun e w1=>∃ v,e=.returned v∧R3 S M0 m w1 v r∧Below w.heap.size w w1)
def zuK (M:Mem) (T:Tl) (y:Ty):ResultVar→Option LV
 | .tmp t=>(zdM .no T t).typed y
 | .cell t ty=>match zdM .no T t with
   | .ptr id off=>match M id with
     | some (.box t1 v)=>(ldB v t1 ty off y).bind fun l=>l.typed y
     | _=>none
   | _=>none
def tyR (q:ResultVar×TypeId):TypeId:=match q.1 with
 | .tmp _=>q.2
 | .cell _ t=>t
def zuj (tb:Tb) (M:Mem) (T:Tl):List (ResultVar×TypeId)→Option (List LV)
 | []=>some []
 | q::l=>(tb (tyR q)).bind fun y=>(zuK M T y q.1).bind fun v=>(v.pure M).bind fun r=>(zuj tb M T l).bind fun rs=>some (r::rs)
def zdW:List LV→LV
 | [l]=>l
 | ls=>.tup ls
def Ret (tb:Tb) (rs:List (ResultVar×TypeId)) (r:LV) (_:Cx) (T:Tl) (M:Ml):Prop:=∃ ls,zuj tb (mm M) T rs=some ls∧zdW ls=r
def zhh:Nat→List LV→Tl
 | _,[]=>[]
 | i,l::ls=>(i,l)::zhh (i+1) ls
theorem zgI:∀ (ls:List LV) (i t:Nat),zdM .no (zhh i ls) t=if i≤t then (ls[t-i]?).getD .no else .no
 | [],i,t=>by simp [zhh,zdM]
 | l::ls,i,t=>by
   show (match Nat.beq i t with | true=>l | false=>zdM .no (zhh (i+1) ls) t)=_
   rw [zgI ls (i+1) t]
   by_cases h:i=t
   ·subst h;rw [zbh.2 rfl];simp
   ·rw [zin.2 h]
    by_cases h1:i<t
    ·rw [if_pos (by omega),if_pos (by omega),show t-i=(t-(i+1))+1 by omega];simp
    ·rw [if_neg (by omega),if_neg (by omega)]
def zss (P:Program) (tmps:Array Value):ResultVar→Sem Value
 | .tmp t=>Pure.pure (tmps.getD t undef)
 | .cell a t=>do loadVar t (← asAddr (tmps.getD a undef))
theorem zq5 {tb:Tb} (htb:zaJ P tb) (h:Rel x (tm T) M m a w) {q:ResultVar×TypeId} {y:Ty} {v:LV} (hy:tb (tyR q)=some y) (hv:zuK M T y q.1=some v):∃ u,(zss P a.tmps q.1).run P w=.ok u w∧R2 x.S0 M m w u v:=by
 obtain ⟨q,ty⟩:=q
 cases q with
 | tmp t=>
   have ht:=h.tmp t
   have hv':(zdM .no T t).typed y=some v:=hv
   have ht2:R2 x.S0 M m w (a.tmps.getD t undef) (zdM .no T t):=by
    revert ht hv';unfold tm;cases zdM .no T t<;>intro ht hv'<;>first | exact ht | cases hv'
   obtain ⟨us,hone⟩:=zd1 (htb _ y hy) ht2 hv'
   exact ⟨_,rfl,hone.r2⟩
 | cell t t1=>
   have ht:=h.tmp t
   simp only [zuK] at hv
   split at hv
   ·rename_i id off he
    split at hv
    ·rename_i tb1 bv hm
     obtain ⟨l,hl,hv⟩:=Option.bind_eq_some_iff.1 hv
     have ht':R3 x.S0 M m w (a.tmps.getD t undef) (zdM .no T t):=ht
     rw [he] at ht'
     have hp:=ht'.2 (by rw [hm];rfl)
     obtain ⟨us,hu,hrc⟩:=h.blk id _ hm
     obtain ⟨u,h1,h2⟩:=zpE (htb _ y hy) hu hrc hl
     have h3:R2 x.S0 M m w u l:=by
      revert hv h2;cases l<;>intro hv h2<;>first | exact h2 | cases hv
     obtain ⟨us',hone⟩:=zd1 (htb _ y hy) h3 hv
     refine ⟨u,?_,hone.r2⟩
     show (do loadVar t1 (← asAddr (a.tmps.getD t undef)):Sem Value).run P w=_
     rw [hp]
     simp only [asAddr,Sem.run_bind,Sem.run_pure,Result.andThen_ok]
     exact h1
    ·cases hv
   ·cases hv
theorem zrf {tb:Tb} (htb:zaJ P tb) {S:Nat→Prop} (hS:∀ k,S k→Own x.S0 M m k) (hS':∀ id,(M id).isSome=true→¬ S (m.blk id)) (h:Rel x (tm T) M m a w) (m1:Mp):∀ (rs:List (ResultVar×TypeId)) (ls:List LV),zuj tb M T rs=some ls→
 ∃ vs:List Value,((rs.map (·.1)).mapM (zss P a.tmps)).run P w=.ok vs w∧ls.length=vs.length∧∀ (j:Nat) v l,vs[j]? = some v→ls[j]? = some l→R2 S M0 m1 w v l
 | [],ls,hr=>by cases hr;exact ⟨[],rfl,rfl,fun j q l hq=>by cases hq⟩
 | q::rs,ls,hr=>by
   simp only [zuj] at hr
   obtain ⟨y,hy,hr⟩:=Option.bind_eq_some_iff.1 hr
   obtain ⟨v,hv,hr⟩:=Option.bind_eq_some_iff.1 hr
   obtain ⟨r,hp,hr⟩:=Option.bind_eq_some_iff.1 hr
   obtain ⟨rs',hrs,hr⟩:=Option.bind_eq_some_iff.1 hr
   cases hr
   obtain ⟨vs,h1,h2,h3⟩:=zrf htb hS hS' h m1 rs rs' hrs
   obtain ⟨u,hu,hur⟩:=zq5 htb h hy hv
   refine ⟨u::vs,?_,by simp [h2],fun j v' l hv' hl=>?_⟩
   ·rw [List.map_cons,List.mapM_cons]
    simp only [Sem.run_bind,hu,Result.andThen_ok,h1,Sem.run_pure]
   ·cases j with
    | zero=>
      have e1:u=v':=by simpa using hv'
      have e2:r=l:=by simpa using hl
      subst e1;subst e2
      exact zjv hS h.blk hur hp (fun id _ hlive=>hS' id hlive) m1
    | succ j=>exact h3 j v' l (by simpa using hv') (by simpa using hl)
end
def zri:List Value→Value
 | [v]=>v
 | vs=>.tuple vs.toArray
section
variable {P:Program} {x:Cx} {tb:Tb}
theorem zqv {fn:Func} {rs:List (ResultVar×TypeId)} (h:fn.results=(rs.map (·.1)).toArray) {tmps:Array Value} {w:World} {vs:List Value} (hr:((rs.map (·.1)).mapM (zss P tmps)).run P w=.ok vs w):(results fn tmps).run P w=.ok (zri vs) w:=by
 have hrun:(fn.results.mapM (zss P tmps)).run P w=.ok vs.toArray w:=by
  rw [h,Array.mapM_eq_mapM_toList]
  generalize hl:rs.map (·.1)=l at hr
  have hl2:l.toArray.toList=l:=by simp
  rw [hl2]
  simp [hr]
 have hf:results fn tmps=(do let vs ← fn.results.mapM (zss P tmps);Pure.pure (if h:vs.size=1 then vs[0] else .tuple vs)):=by
  unfold results
  congr 1
 rw [hf]
 simp only [Sem.run_bind,hrun,Result.andThen_ok,Sem.run_pure]
 match vs with
 | []=>rfl
 | [v]=>rfl
 | v::v1::vs=>rfl
theorem zeE {S:Nat→Prop} {M:Mem} {m:Mp} {w:World} {v:Value} {l:LV} (h:R2 S M m w v l):R3 S M m w v l:=by
 cases l<;>first | exact h | exact h.elim
theorem zlL {S:Nat→Prop} {M:Mem} {m:Mp} {w:World} {vs:List Value} {ls:List LV} (hl:ls.length=vs.length) (h:∀ (j:Nat) v l,vs[j]? = some v→ls[j]? = some l→R2 S M m w v l):R3 S M m w (zri vs) (zdW ls):=by
 match ls,vs,hl with
 | [],[],_=>exact ⟨[],rfl,rfl,fun j u l hu=>by cases hu⟩
 | [l],[v],_=>exact zeE (h 0 v l rfl rfl)
 | l::l1::ls,v::v1::vs,hl=>exact ⟨v::v1::vs,rfl,hl.symm,h⟩
 | [],_::_,hl=>simp at hl
 | _::_,[],hl=>simp at hl
 | [_],_::_::_,hl=>simp at hl
 | _::_::_,[_],hl=>simp at hl
def cx0 (S:Nat→Prop) (w:World) (n:Nat) (m:Mp):Cx:=⟨S,fun _=>False,w,n,fun _=>False,m,fun _=>none,fun _=>0,fun i h=>h.elim,S,fun _=>False,w,fun _ h=>h,fun _ h=>.inl h,.refl _ _,rfl,rfl,rfl⟩
theorem entry {S:Nat→Prop} {w:World} {m:Mp} {vs:List Value} {args:List LV} {n:Nat} (hS:∀ k,S k→k<w.heap.size) (hl:vs.length=args.length) (hn:args.length≤n) (h:∀ (j:Nat) v l,vs[j]? = some v→args[j]? = some l→R2 S M0 m w v l) :
 Rel (cx0 S w n m) (tm (zhh 0 args)) (mm []) m {tmps:=vs.toArray++Array.replicate (n-vs.toArray.size) undef,defers:=[]} w:=by
 refine ⟨fun t=>?_,by simp [cx0];omega,rfl,fun id b hb=>(by cases hb),fun i j hi=>(by cases hi),fun i hi=>(by cases hi),hS,rfl,rfl,rfl,zfw.refl _ _,fun i h=>h.elim⟩
 unfold tm
 rw [zgI,if_pos (Nat.zero_le _),Nat.sub_zero]
 by_cases ht:t<args.length
 ·have htv:t<vs.length:=by omega
  have hg:(vs.toArray++Array.replicate (n-vs.toArray.size) undef).getD t undef=vs[t]:=by
   rw [Array.getD_eq_getD_getElem?,Array.getElem?_append_left (by simpa using htv)]
   simp [htv]
  rw [List.getElem?_eq_getElem ht]
  show R3 S (mm []) m w ((vs.toArray++Array.replicate (n-vs.toArray.size) undef).getD t undef) args[t]
  rw [hg]
  exact zeE (h t _ _ (List.getElem?_eq_getElem htv) (List.getElem?_eq_getElem ht))
 ·rw [List.getElem?_eq_none (by omega)];trivial
theorem zwc {f:FuncId} {fn:Func} {c:Code} {args:List LV} {rs:List (ResultVar×TypeId)} {r:LV} (htb:zaJ P tb) (hf:P.funcs[f]? = some fn) (hb:fn.body=some c) (hname:(fn.name == "runtime.NumGoroutine")=false)
 (hres:fn.results=(rs.map (·.1)).toArray) (hn:args.length≤fn.ntmps)
 (h:∀ x:Cx,x.n=fn.ntmps→Wc P x (Ret tb rs r) [.code c] (zhh 0 args) []):Con P f args r:=by
 refine ⟨⟨fn,c,hf,hb,hname⟩,fun S w m vs hS hl hvs=>?_⟩
 refine calls_of_wp hf hb (wp_mono (h (cx0 S w fn.ntmps m) rfl m _ w (entry hS hl hn hvs)) ?_)
 have key:∀ a w1,zhJ (cx0 S w fn.ntmps m) (Ret tb rs r) a w1→a.defers=[]∧∃ v,(results fn a.tmps).run P w1=.ok v w1∧∃ v',Ending.returned v=.returned v'∧R3 S M0 m w1 v' r∧Below w.heap.size w w1:=by
  rintro a w1 ⟨x1,hx,T,M,m1,hr1,ls,hls,rfl⟩
  have hr:=hx.rel ⟨rfl,rfl,rfl⟩ hS hr1
  obtain ⟨vs1,h0,h1,h2⟩:=zrf htb (S:=S) (fun k hk=>.inl hk) (fun id hid hs=>(hr.lo id hid).2 hs) hr m rs ls hls
  refine ⟨hr.df,_,zqv hres h0,_,rfl,?_,?_⟩
  ·exact zlL h1 h2
  ·exact ⟨hr.os,hr.tape,hr.output,hr.same.size,fun k hk=>hr.same.at_ k hk (fun h=>h)⟩
 intro e a w1 he
 rcases Ka.bad he with rfl | ⟨i,rfl⟩ | rfl
 ·exact key a w1 he
 ·exact he.elim
 ·exact key a w1 he
/-! ### calls -/
def zeU (M:Mem):List LV→Option (List LV)
 | []=>some []
 | l::ls=>(l.pure M).bind fun r=>(zeU M ls).bind fun rs=>some (r::rs)
def C.flat:C→Bool
 | .sl ..=>false
 | _=>true
def zhC:List C→Bool
 | []=>true
 | c::cs=>c.flat && zhC cs
def LV.flat2:LV→Bool
 | .dat c=>c.flat
 | .dagg cs=>zhC cs
 | _=>false
def LV.flatL:List LV→Bool
 | []=>true
 | l::ls=>l.flat2 && flatL ls
def LV.flat:LV→Bool
 | .tup ls=>LV.flatL ls
 | l=>l.flat2
def LV.isPure2:LV→Bool
 | .dat _=>true
 | .dagg _=>true
 | .fn _=>true
 | _=>false
def LV.isPureL:List LV→Bool
 | []=>true
 | l::ls=>l.isPure2 && isPureL ls
def LV.isPure:LV→Bool
 | .tup ls=>LV.isPureL ls
 | l=>l.isPure2
theorem zfx {cs:List C} (h:zhC cs=true):∀ c∈cs,c.flat=true:=by
 induction cs with
 | nil=>intro c hc;cases hc
 | cons c cs ih=>
   simp only [zhC,Bool.and_eq_true] at h
   intro c' hc
   rcases List.mem_cons.1 hc with rfl | hc
   ·exact h.1
   ·exact ih h.2 c' hc
theorem zha {S S1:Nat→Prop} {w:World} {v:Value} {c:C} (hf:c.flat=true) (h:Rf S w v c):Rf S1 w v c:=by
 cases c with
 | int k n=>rw [zec h];exact .int k n
 | bool b=>rw [zft h];exact .bool b
 | str s=>rw [zlY h];exact .str s
 | val u=>cases h with | val _ h=>exact .val _ h
 | sl z d f xs=>cases hf
theorem zpe {S:Nat→Prop} {S0:Nat→Prop} {M:Mem} {m:Mp} {w:World} {v:Value} {l:LV} (hp:l.isPure2=true) (hs:(∀ k,Own S0 M m k→S k)∨l.flat2=true) (h:R2 S M0 m w v l):R2 S0 M m w v l:=by
 cases l with
 | dat c=>
   show Rf (Own S0 M m) w v c
   rcases hs with hs | hs
   ·exact Rf.sub h fun k hk=>Ab.own0.2 (hs k hk)
   ·exact zha hs h
 | dagg cs=>
   obtain ⟨us,hv,hd⟩:=h
   refine ⟨us,hv,hd.1,fun j u c hu hc=>?_⟩
   rcases hs with hs | hs
   ·exact Rf.sub (hd.2 j u c hu hc) fun k hk=>Ab.own0.2 (hs k hk)
   ·exact zha (zfx hs c (List.mem_of_getElem? hc)) (hd.2 j u c hu hc)
 | fn f=>exact h
 | _=>cases hp
theorem ztw {ls:List LV} (h:LV.flatL ls=true):∀ c∈ls,c.flat2=true:=by
 induction ls with
 | nil=>intro c hc;cases hc
 | cons c cs ih=>
   simp only [LV.flatL,Bool.and_eq_true] at h
   intro c' hc
   rcases List.mem_cons.1 hc with rfl | hc
   ·exact h.1
   ·exact ih h.2 c' hc
theorem zqx {ls:List LV} (h:LV.isPureL ls=true):∀ c∈ls,c.isPure2=true:=by
 induction ls with
 | nil=>intro c hc;cases hc
 | cons c cs ih=>
   simp only [LV.isPureL,Bool.and_eq_true] at h
   intro c' hc
   rcases List.mem_cons.1 hc with rfl | hc
   ·exact h.1
   ·exact ih h.2 c' hc
theorem zwB {S:Nat→Prop} {S0:Nat→Prop} {M:Mem} {m:Mp} {w:World} {v:Value} {l:LV} (hp:l.isPure=true) (hs:(∀ k,Own S0 M m k→S k)∨l.flat=true) (h:R3 S M0 m w v l):R3 S0 M m w v l:=by
 cases l with
 | tup ls=>
   obtain ⟨us,hv,hl,hd⟩:=h
   refine ⟨us,hv,hl,fun j u l hu hlj=>zpe (zqx hp l (List.mem_of_getElem? hlj)) ?_ (hd j u l hu hlj)⟩
   exact hs.imp id (fun hs=>ztw hs l (List.mem_of_getElem? hlj))
 | dat c=>exact zpe (l:=.dat c) hp hs h
 | dagg cs=>exact zpe (l:=.dagg cs) hp hs h
 | fn f=>exact h
 | _=>cases hp
theorem znY {M:Mem}:∀ {ls rs:List LV},zeU M ls=some rs→rs.length=ls.length∧∀ (j:Nat) l,ls[j]? = some l→∃ r,rs[j]? = some r∧l.pure M=some r
 | [],rs,h=>by cases h;exact ⟨rfl,fun j l hl=>by cases hl⟩
 | l::ls,rs,h=>by
   simp only [zeU] at h
   obtain ⟨c,hc,h⟩:=Option.bind_eq_some_iff.1 h
   obtain ⟨cs',hcs,h⟩:=Option.bind_eq_some_iff.1 h
   cases h
   obtain ⟨h1,h2⟩:=znY hcs
   refine ⟨by simp [h1],fun j l' hl=>?_⟩
   cases j with
   | zero=>
     have:l=l':=by simpa using hl
     subst this
     exact ⟨c,rfl,hc⟩
   | succ j=>exact h2 j l' (by simpa using hl)
theorem Rel.later {T:Nat→LV} {M:Mem} {m:Mp} {a:Act} {w w1:World} (h:Rel x T M m a w) (hb:Below w.heap.size w w1):Rel x T M m a w1:=by
 have hmv:Mv x.S0 M m w M m w1:=⟨⟨hb.size,fun k hk _=>hb.block k hk⟩,fun _ h _=>h⟩
 have hk:∀ id,zdK M m M m id:=fun id hs=>⟨hs,rfl,rfl,rfl,rfl,rfl⟩
 exact ⟨fun t=>hmv.r3 (fun id _=>hk id) (h.tmp t),h.sz,h.df,fun id b hbb=>hmv.blk rfl rfl rfl (hb.block _ (h.live_lt (by rw [hbb];rfl))) (fun id _=>hk id) (h.blk id b hbb),h.inj,h.lo,h.s0,hb.os.trans h.os,hb.tape.trans h.tape,hb.output.trans h.output,
  ⟨Nat.le_trans h.same.size hb.size,fun k hk hO=>(hb.block k (Nat.lt_of_lt_of_le hk h.same.size)).trans (h.same.at_ k hk hO)⟩,h.keep⟩
def dropM (vw:List Nat) (M:Ml):Ml:=match vw with
 | []=>M
 | id::vw=>(id,none)::dropM vw M
theorem Rel.dropM {T:Nat→LV} {M:Ml} {m:Mp} {a:Act} {w:World} (h:Rel x T (mm M) m a w):∀ vw,Rel x T (mm (Ab.dropM vw M)) m a w
 | []=>h
 | id::vw=>by
   show Rel x T (mm ((id,none)::Ab.dropM vw M)) m a w
   rw [zI];exact (Rel.dropM h vw).forget id
theorem zi8 {M:Ml} {id:Nat}:∀ {vw:List Nat},(mm (dropM vw M) id).isSome=true→(mm M id).isSome=true∧id∉vw
 | [],h=>⟨h,List.not_mem_nil⟩
 | k::vw,h=>by
   have h':(mm ((k,none)::dropM vw M) id).isSome=true:=h
   rw [zI] at h'
   unfold Ab.upd at h'
   split at h'
   ·cases h'
   ·rename_i hne
    obtain ⟨h1,h2⟩:=zi8 h'
    exact ⟨h1,fun hm=>by rcases List.mem_cons.1 hm with e | hm;exact hne e;exact h2 hm⟩
theorem zsQ {R:Cx→Tl→Ml→Prop} {n:Nat} {f:FuncId} {args args1:List LV} {r:LV} {dst:Option Nat} {k:List It} {T:Tl} {M:Ml} (hn:x.n=n) (hd:zaA n dst=true) (vw:List Nat) (hc:Con P f args1 r) (ha:zeU (mm M) args=some args1) (hp:r.isPure=true)
 (hv:r.flat=true∨∀ id,(∃ l∈args,l.on2 id)→id∈vw) (h:Wc P x R k (Ab.putd dst r T) (dropM vw M)):zmV P x R f args dst k T M:=by
 refine ⟨hc.1,fun m a w vs hr hl hvs=>?_⟩
 obtain ⟨h1,h2⟩:=znY ha
 let S:Nat→Prop:=fun k=>x.S0 k∨∃ id,(mm M id).isSome=true∧m.blk id=k∧¬ ∃ l∈args,l.on2 id
 have hcall:=hc.2 S w m vs (fun k hk=>by
  rcases hk with hk | ⟨id,hid,hb,_⟩
  ·exact Nat.lt_of_lt_of_le (hr.s0 k hk) hr.same.size
  ·rw [← hb];exact hr.live_lt hid) (by rw [hl,h1]) (fun j v l hvj hlj=>by
  have hlt:=(List.getElem?_eq_some_iff.1 hvj).1
  rw [hl] at hlt
  have haj:=List.getElem?_eq_getElem hlt
  obtain ⟨r',hr',hp'⟩:=h2 j _ haj
  rw [hlj] at hr';cases hr'
  refine zjv (x:=x) (fun k hk=>?_) hr.blk (hvs j v _ hvj haj) hp' (fun id hi hlive hS=>?_) m
  ·rcases hk with hk | ⟨id,hid,hb,_⟩
   ·exact .inl hk
   ·exact .inr ⟨id,hid,hb⟩
  ·rcases hS with hS | ⟨id',hid',hb',hno⟩
   ·exact (hr.lo id hlive).2 hS
   ·have:=hr.inj _ _ hid' hlive hb'
    subst this
    exact hno ⟨_,List.mem_of_getElem? haj,hi⟩)
 refine Calls.mono hcall fun e w1 he=>?_
 obtain ⟨v,rfl,hrv,hbel⟩:=he
 have hr1:=(hr.later hbel).dropM vw
 refine h m _ w1 (hr1.putd hn hd (zwB hp ?_ hrv))
 rcases hv with hv | hv
 ·exact .inr hv
 ·refine .inl fun k hk=>?_
  rcases hk with hk | ⟨id,hid,hb⟩
  ·exact .inl hk
  ·obtain ⟨h3,h4⟩:=zi8 hid
   exact .inr ⟨id,h3,hb,fun hh=>h4 (hv id hh)⟩
end
def Le (x:Cx) (T:Tl) (M:Ml) (T1:Tl) (M1:Ml):Prop:=∀ m a w,Rel x (tm T) (mm M) m a w→∃ m1,Rel x (tm T1) (mm M1) m1 a w
def LeX (x1 x:Cx) (T:Tl) (M:Ml) (T1:Tl) (M1:Ml):Prop:=∀ m a w,Rel x1 (tm T) (mm M) m a w→∃ m1,Rel x (tm T1) (mm M1) m1 a w
/-! ### the same under other names -/
def LV.ren1 (ρ:Nat→Nat):LV→LV
 | .own id=>.own (ρ id)
 | .ptr id off=>.ptr (ρ id) off
 | .ept id i off=>.ept (ρ id) i off
 | .clo f caps=>.clo f (caps.map fun p=>(ρ p.1,p.2))
 | l=>l
def LV.renL (ρ:Nat→Nat):List LV→List LV
 | []=>[]
 | l::ls=>l.ren1 ρ::renL ρ ls
def LV.ren2 (ρ:Nat→Nat):LV→LV
 | .lagg ls=>.lagg (LV.renL ρ ls)
 | l=>l.ren1 ρ
def Blk.ren (ρ:Nat→Nat):Blk→Blk
 | .box t v=>.box t (v.ren2 ρ)
 | .row e z d f xs=>.row e z d f xs
def zrY (ρ:Nat→Nat) (T:Tl):List Nat→Tl→Prop
 | _,[]=>True
 | seen,(t,l)::r=>match zht t seen,l with
   | true,_=>zrY ρ T seen r
   | false,.tup _=>False
   | false,.no=>zrY ρ T (t::seen) r
   | false,l=>zdM .no T t=l.ren2 ρ∧zrY ρ T (t::seen) r
def LeT (ρ:Nat→Nat) (T T1:Tl):Prop:=zrY ρ T [] T1
def zol (ρ:Nat→Nat) (M:Ml):List Nat→Ml→Prop
 | _,[]=>True
 | seen,(id,b)::r=>match zht id seen,b with
   | true,_=>zol ρ M seen r
   | false,none=>zol ρ M (id::seen) r
   | false,some b=>zdM none M (ρ id)=some (b.ren ρ)∧zol ρ M (id::seen) r
def LeM (ρ:Nat→Nat) (M M1:Ml):Prop:=zol ρ M [] M1
def rn (l:List (Nat×Nat)) (i:Nat):Nat:=match l with
 | []=>i
 | (a,b)::r=>match Nat.beq a i with
   | true=>b
   | false=>rn r i
def zrj:List (Nat×Nat)→Bool
 | []=>true
 | (a,_)::r=>Nat.blt a 1000 && zrj r
theorem zp1:∀ {ρ:List (Nat×Nat)},zrj ρ=true→∀ i,1000≤i→rn ρ i=i
 | [],_,i,_=>rfl
 | (a,b)::r,h,i,hi=>by
   simp only [zrj,Bool.and_eq_true] at h
   have h1:a<1000:=Nat.blt_eq.mp h.1
   show (match Nat.beq a i with | true=>b | false=>rn r i)=i
   rw [zin.2 (by omega)]
   exact zp1 h.2 i hi
def zS:Ml→List Nat
 | []=>[]
 | (id,_)::r=>id::zS r
def zhF (ρ:Nat→Nat):List Nat→Bool
 | []=>true
 | i::r=>(r.all fun j=>Nat.beq i j || !Nat.beq (ρ i) (ρ j)) && zhF ρ r
section
variable {P:Program} {x:Cx} {tb:Tb} {R:Cx→Tl→Ml→Prop}
theorem zpP {ρ:Nat→Nat}:∀ {ls:List LV} (j:Nat),(LV.renL ρ ls)[j]? = (ls[j]?).map (LV.ren1 ρ)
 | [],j=>rfl
 | l::ls,0=>rfl
 | l::ls,j+1=>by
   show (LV.renL ρ ls)[j]? = _
   rw [zpP j];rfl
theorem zpu {ρ:Nat→Nat}:∀ {ls:List LV},(LV.renL ρ ls).length=ls.length
 | []=>rfl
 | l::ls=>by show (LV.renL ρ ls).length+1=_;rw [zpu];rfl
structure Ren (ρ:Nat→Nat) (M:Mem) (m:Mp) (M1:Mem) (m1:Mp):Prop where
 live:∀ id,(M1 id).isSome=true→(M (ρ id)).isSome=true∧zJ M1 id=zJ M (ρ id)∧zbt M1 id=zbt M (ρ id)
 blk:∀ id,m1.blk id=m.blk (ρ id)
 off:∀ id,m1.off id=m.off (ρ id)
 cap:∀ id,m1.cap id=m.cap (ρ id)
variable {ρ:Nat→Nat} {S0:Nat→Prop} {M M1:Mem} {m m1:Mp} {w:World}
theorem Ren.own (h:Ren ρ M m M1 m1) {k:Nat} (hk:Own S0 M1 m1 k):Own S0 M m k:=by
 rcases hk with hk | ⟨id,hid,hb⟩
 ·exact .inl hk
 ·exact .inr ⟨ρ id,(h.live id hid).1,(h.blk id) ▸ hb⟩
theorem Ren.r1 (h:Ren ρ M m M1 m1) {v:Value} {l:LV} (hr:R1 S0 M m w v (l.ren1 ρ)):R1 S0 M1 m1 w v l:=by
 cases l with
 | no=>trivial
 | nil0=>exact hr
 | nil c=>exact ⟨hr.1,Rf.sub hr.2 fun k hk=>h.own hk⟩
 | known b=>exact hr
 | dat c=>exact Rf.sub hr fun k hk=>h.own hk
 | own id=>
   refine ⟨hr.1,fun n hn=>?_⟩
   obtain ⟨h1,h2,h3⟩:=h.live id (zeo hn)
   rw [h.blk,h.off,h.cap];exact hr.2 n (h2 ▸ hn)
 | ptr id off=>
   refine ⟨hr.1,fun hs=>?_⟩
   rw [h.blk];exact hr.2 (h.live id hs).1
 | ept id i off=>
   refine ⟨hr.1,fun n hn=>?_⟩
   obtain ⟨h1,h2,h3⟩:=h.live id (zeo hn)
   rw [h.blk,h.off,h3];exact hr.2 n (h2 ▸ hn)
 | spt cs off=>
   obtain ⟨b,o,hv,hc⟩:=hr
   refine ⟨b,o,hv,fun j c hj=>?_⟩
   obtain ⟨hb,u,hu,hru⟩:=hc j c hj
   exact ⟨fun hh=>hb (h.own hh),u,hu,Rf.sub hru fun k hk=>h.own hk⟩
 | fn f=>exact hr
 | clo f caps=>
   obtain ⟨us,hv,hl,hc⟩:=hr
   refine ⟨us,hv,by rw [hl,List.length_map],fun j u p hu hp=>?_⟩
   obtain ⟨h1,h2⟩:=hc j u (ρ p.1,p.2) hu (by rw [List.getElem?_map,hp];rfl)
   refine ⟨h1,fun hs=>?_⟩
   rw [h.blk];exact h2 (h.live p.1 hs).1
 | dagg cs=>exact hr
 | lagg cs=>exact hr
 | tup vs=>exact hr
theorem Ren.rs (h:Ren ρ M m M1 m1) {us:List Value} {ls:List LV} (hr:Rs S0 M m w us (LV.renL ρ ls)):Rs S0 M1 m1 w us ls:=by
 refine ⟨by rw [hr.1,zpu],fun j u l hu hl=>?_⟩
 have:=hr.2 j u (l.ren1 ρ) hu (by rw [zpP,hl];rfl)
 exact ⟨h.r1 this.1,this.2⟩
theorem Ren.ds (h:Ren ρ M m M1 m1) {us:List Value} {cs:List C} (hr:Ds (Own S0 M m) w us cs):Ds (Own S0 M1 m1) w us cs:=⟨hr.1,fun j u c hu hc=>Rf.sub (hr.2 j u c hu hc) fun k hk=>h.own hk⟩
theorem Ren.r2 (h:Ren ρ M m M1 m1) {v:Value} {l:LV} (hr:R2 S0 M m w v (l.ren2 ρ)):R2 S0 M1 m1 w v l:=by
 cases l with
 | dagg cs=>obtain ⟨us,hv,hd⟩:=hr;exact ⟨us,hv,h.ds hd⟩
 | lagg ls=>obtain ⟨us,hv,hd⟩:=hr;exact ⟨us,hv,h.rs hd⟩
 | no=>trivial
 | nil0=>exact h.r1 (S0:=S0) (w:=w) (l:=.nil0) hr
 | nil c=>exact h.r1 (S0:=S0) (w:=w) (l:=.nil c) hr
 | known b=>exact h.r1 (S0:=S0) (w:=w) (l:=.known b) hr
 | dat c=>exact h.r1 (S0:=S0) (w:=w) (l:=.dat c) hr
 | own id=>exact h.r1 (S0:=S0) (w:=w) (l:=.own id) hr
 | ptr id off=>exact h.r1 (S0:=S0) (w:=w) (l:=.ptr id off) hr
 | ept id i off=>exact h.r1 (S0:=S0) (w:=w) (l:=.ept id i off) hr
 | spt cs off=>exact h.r1 (S0:=S0) (w:=w) (l:=.spt cs off) hr
 | fn f=>exact h.r1 (S0:=S0) (w:=w) (l:=.fn f) hr
 | clo f caps=>exact h.r1 (S0:=S0) (w:=w) (l:=.clo f caps) hr
 | tup ls=>exact False.elim hr
theorem Ren.rc (h:Ren ρ M m M1 m1) {us:List Value} {l:LV} (hr:RC S0 M m w us (l.ren2 ρ)):RC S0 M1 m1 w us l:=by
 cases l with
 | dagg cs=>exact h.ds hr
 | lagg ls=>exact h.rs hr
 | no=>obtain ⟨u,hu,_,h1⟩:=hr;exact ⟨u,hu,trivial,h1⟩
 | nil0=>obtain ⟨u,hu,h0,h1⟩:=hr;exact ⟨u,hu,h.r1 (S0:=S0) (w:=w) (l:=.nil0) h0,h1⟩
 | nil c=>obtain ⟨u,hu,h0,h1⟩:=hr;exact ⟨u,hu,h.r1 (S0:=S0) (w:=w) (l:=.nil c) h0,h1⟩
 | known b=>obtain ⟨u,hu,h0,h1⟩:=hr;exact ⟨u,hu,h.r1 (S0:=S0) (w:=w) (l:=.known b) h0,h1⟩
 | dat c=>obtain ⟨u,hu,h0,h1⟩:=hr;exact ⟨u,hu,h.r1 (S0:=S0) (w:=w) (l:=.dat c) h0,h1⟩
 | own id=>obtain ⟨u,hu,h0,h1⟩:=hr;exact ⟨u,hu,h.r1 (S0:=S0) (w:=w) (l:=.own id) h0,h1⟩
 | ptr id off=>obtain ⟨u,hu,h0,h1⟩:=hr;exact ⟨u,hu,h.r1 (S0:=S0) (w:=w) (l:=.ptr id off) h0,h1⟩
 | ept id i off=>obtain ⟨u,hu,h0,h1⟩:=hr;exact ⟨u,hu,h.r1 (S0:=S0) (w:=w) (l:=.ept id i off) h0,h1⟩
 | spt cs off=>obtain ⟨u,hu,h0,h1⟩:=hr;exact ⟨u,hu,h.r1 (S0:=S0) (w:=w) (l:=.spt cs off) h0,h1⟩
 | fn f=>obtain ⟨u,hu,h0,h1⟩:=hr;exact ⟨u,hu,h.r1 (S0:=S0) (w:=w) (l:=.fn f) h0,h1⟩
 | clo f caps=>obtain ⟨u,hu,h0,h1⟩:=hr;exact ⟨u,hu,h.r1 (S0:=S0) (w:=w) (l:=.clo f caps) h0,h1⟩
 | tup ls=>obtain ⟨u,hu,h0,h1⟩:=hr;exact False.elim h0
theorem zhO {k:Nat}:∀ {l:List Nat},zht k l=true↔k∈l
 | []=>by simp [zht]
 | j::l=>by
   unfold zht
   cases h:Nat.beq j k with
   | true=>have:=zbh.1 h;subst this;simp
   | false=>
     have:=zin.1 h
     show zht k l=true↔_
     rw [zhO,List.mem_cons]
     exact ⟨.inr,fun h=>h.resolve_left (fun e=>this e.symm)⟩
theorem zjx {ρ:Nat→Nat} {T:Tl}:∀ {T1:Tl} {seen:List Nat},zrY ρ T seen T1→∀ t,t∉seen→tm T1 t=.no∨(tm T t=(tm T1 t).ren2 ρ∧∀ ls,tm T1 t≠.tup ls)
 | [],seen,_,t,_=>.inl rfl
 | (k,l)::r,seen,h,t,ht=>by
   unfold zrY at h
   rw [zij];unfold upd
   split at h
   ·rename_i hs
    have:=zhO.1 hs
    rw [if_neg (fun e:t=k=>ht (e ▸ this))]
    exact zjx h t ht
   ·exact h.elim
   ·split
    ·exact .inl rfl
    ·rename_i hne;exact zjx h t (fun hm=>(List.mem_cons.1 hm).elim hne ht)
   ·rename_i hnt hno
    split
    ·rename_i e;subst e;exact .inr ⟨h.1,fun ls e=>by subst e;exact hnt _ rfl⟩
    ·rename_i hne;exact zjx h.2 t (fun hm=>(List.mem_cons.1 hm).elim hne ht)
theorem zrc {ρ:Nat→Nat} {T:Tl} {T1:Tl} (h:LeT ρ T T1) (t:Nat):tm T1 t=.no∨(tm T t=(tm T1 t).ren2 ρ∧∀ ls,tm T1 t≠.tup ls):=zjx h t (by simp)
theorem zjS {ρ:Nat→Nat} {M:Ml}:∀ {M1:Ml} {seen:List Nat},zol ρ M seen M1→∀ id b,id∉seen→mm M1 id=some b→mm M (ρ id)=some (b.ren ρ)∧id∈zS M1
 | [],seen,_,id,b,_,hb=>by cases hb
 | (k,v)::r,seen,h,id,b,hi,hb=>by
   unfold zol at h
   rw [zI] at hb;unfold upd at hb
   split at h
   ·rename_i hs
    have:=zhO.1 hs
    rw [if_neg (fun e:id=k=>hi (e ▸ this))] at hb
    obtain ⟨h1,h2⟩:=zjS h id b hi hb
    exact ⟨h1,List.mem_cons_of_mem _ h2⟩
   ·split at hb
    ·cases hb
    ·rename_i hne
     obtain ⟨h1,h2⟩:=zjS h id b (fun hm=>(List.mem_cons.1 hm).elim hne hi) hb
     exact ⟨h1,List.mem_cons_of_mem _ h2⟩
   ·split at hb
    ·rename_i e;cases hb;subst e;exact ⟨h.1,List.mem_cons_self⟩
    ·rename_i hne
     obtain ⟨h1,h2⟩:=zjS h.2 id b (fun hm=>(List.mem_cons.1 hm).elim hne hi) hb
     exact ⟨h1,List.mem_cons_of_mem _ h2⟩
theorem zbv {ρ:Nat→Nat} {M:Ml} {M1:Ml} (h:LeM ρ M M1) (id:Nat) (b:Blk) (hb:mm M1 id=some b):mm M (ρ id)=some (b.ren ρ)∧id∈zS M1:=zjS h id b (by simp) hb
theorem zgx {ρ:Nat→Nat}:∀ {l:List Nat},zhF ρ l=true→∀ i∈l,∀ j∈l,ρ i=ρ j→i=j
 | [],_,i,hi,_,_,_=>by cases hi
 | k::r,h,i,hi,j,hj,he=>by
   simp only [zhF,Bool.and_eq_true,List.all_eq_true,Bool.or_eq_true,Bool.not_eq_true'] at h
   rcases List.mem_cons.1 hi with e1 | hi
   ·rcases List.mem_cons.1 hj with e2 | hj
    ·rw [e1,e2]
    ·rcases h.1 j hj with h1 | h1
     ·rw [e1];exact zbh.1 h1
     ·exact absurd (e1 ▸ he) (zin.1 h1)
   ·rcases List.mem_cons.1 hj with e2 | hj
    ·rcases h.1 i hi with h1 | h1
     ·rw [e2];exact (zbh.1 h1).symm
     ·exact absurd (e2 ▸ he).symm (zin.1 h1)
    ·exact zgx h.2 i hi j hj he
theorem zt (ρ:List (Nat×Nat)) {T T1:Tl} {M M1:Ml} (ht:LeT (rn ρ) T T1) (hm:LeM (rn ρ) M M1) (hi:zhF (rn ρ) (zS M1)=true) (hbig:zrj ρ=true:=by rfl):Le x T M T1 M1:=by
 intro m a w h
 have hren:Ren (rn ρ) (mm M) m (mm M1) ⟨fun i=>m.blk (rn ρ i),fun i=>m.off (rn ρ i),fun i=>m.cap (rn ρ i)⟩:=by
  refine ⟨fun id hid=>?_,fun _=>rfl,fun _=>rfl,fun _=>rfl⟩
  obtain ⟨b,hb⟩:=Option.isSome_iff_exists.1 hid
  obtain ⟨h1,_⟩:=zbv hm id b hb
  refine ⟨by rw [h1];rfl,?_,?_⟩
  ·unfold zJ;rw [hb,h1];cases b<;>rfl
  ·unfold zbt;rw [hb,h1];cases b<;>rfl
 refine ⟨⟨fun i=>m.blk (rn ρ i),fun i=>m.off (rn ρ i),fun i=>m.cap (rn ρ i)⟩,⟨fun t=>?_,h.sz,h.df,fun id b hb=>?_,fun i j hi' hj' hij=>?_,fun i hi'=>?_,h.s0,h.os,h.tape,h.output,h.same,fun i hl hi'=>?_⟩⟩
 ·rcases zrc ht t with e | ⟨e,hnt⟩
  ·rw [e];trivial
  ·have h1:=h.tmp t
   rw [e] at h1
   have h2:R2 x.S0 (mm M) m w (a.tmps.getD t undef) ((tm T1 t).ren2 (rn ρ)):=by
    revert hnt h1;cases tm T1 t<;>intro hnt h1<;>first | exact h1 | exact absurd rfl (hnt _)
   exact zeE (hren.r2 h2)
 ·obtain ⟨h1,_⟩:=zbv hm id b hb
  have hbk:=h.blk _ _ h1
  cases b with
  | box t v=>obtain ⟨us,hu,hc⟩:=hbk;exact ⟨us,hu,hren.rc hc⟩
  | row e z d f xs=>
    obtain ⟨us,hu,a1,a2,a3,a4,a5,a6,a7⟩:=hbk
    refine ⟨us,hu,a1,a2,a3,a4,a5,a6,fun i y j c hi hj=>?_⟩
    obtain ⟨u,h3,h4⟩:=a7 i y j c hi hj
    exact ⟨u,h3,h4.sub fun k hk=>hren.own hk⟩
 ·obtain ⟨bi,hbi⟩:=Option.isSome_iff_exists.1 hi'
  obtain ⟨bj,hbj⟩:=Option.isSome_iff_exists.1 hj'
  obtain ⟨h1,k1⟩:=zbv hm i bi hbi
  obtain ⟨h2,k2⟩:=zbv hm j bj hbj
  exact zgx hi i k1 j k2 (h.inj _ _ (by rw [h1];rfl) (by rw [h2];rfl) hij)
 ·obtain ⟨bi,hbi⟩:=Option.isSome_iff_exists.1 hi'
  obtain ⟨h1,_⟩:=zbv hm i bi hbi
  exact h.lo _ (by rw [h1];rfl)
 ·obtain ⟨h0,h1,h2⟩:=hren.live i hi'
  have hri:rn ρ i=i:=zp1 hbig i (x.big i hl)
  rw [hri] at h0 h1 h2
  obtain ⟨k1,k2,k3,k4,k5⟩:=h.keep i hl h0
  exact ⟨by show m.blk (rn ρ i)=_;rw [hri];exact k1,by show m.off (rn ρ i)=_;rw [hri];exact k2,by show m.cap (rn ρ i)=_;rw [hri];exact k3,h1.trans k4,h2.trans k5⟩
theorem zsH {k:List It} {T T1:Tl} {M M1:Ml} (hle:Le x T M T1 M1) (h:Wc P x R k T1 M1):Wc P x R k T M:=fun m a w hr=>by
 obtain ⟨m1,h1⟩:=hle m a w hr
 exact h m1 a w h1
theorem zup {α:Type} {c:Code} {k:List It} {T:Tl} {M:Ml} (I:α→Tl×Ml) (Q:α→Prop) (μ:α→Nat) (y0:α) (h0:Q y0) (hle:Le x T M (I y0).1 (I y0).2)
 (h:∀ y,Q y→Wc P x R (.code c::.stop (fun x1 T1 M1=>∃ y1,Q y1∧μ y1<μ y∧LeX x1 x T1 M1 (I y1).1 (I y1).2)::k) (I y).1 (I y).2):Wc P x R (.code (.loop c)::k) T M:=fun m a w hr=>by
 show (Code.loop c).wp P (Ka P x R k) a w
 refine wp_loop_ghost (fun n a w=>∃ y,Q y∧μ y=n∧∃ m,Rel x (tm (I y).1) (mm (I y).2) m a w) (μ y0) ⟨y0,h0,rfl,hle m a w hr⟩ ?_
 rintro n a w ⟨y,hq,rfl,m,hr⟩
 refine wp_mono (h y hq m a w hr) fun e a1 w1 he=>?_
 rcases Ka.bad he with rfl | ⟨i,rfl⟩ | rfl
 ·obtain ⟨x1,hx,T1,M1,m1,hr1,y1,hq1,hlt,hle1⟩:=he
  obtain ⟨m2,hr2⟩:=hle1 m1 a1 w1 hr1
  exact ⟨μ y1,hlt,y1,hq1,rfl,m2,hr2⟩
 ·exact he
 ·show Ka P x R k .ret a1 w1;rw [Ka.ret];exact he
end
end Go.Proofs.YtjmefaihkblliaaGreat.Ab

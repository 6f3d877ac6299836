/- Texts of one claim, joined: AbU, AbV, AbX, AbW, AbTy, Ty, OpE. Conditions: as each says. -/
import Derived.Laws.StructEq
import Derived.Test.YtjmefaihkblliaaGreatProg
import Derived.Test.YtjmefaihkblliaaGreatC00
import Derived.Test.YtjmefaihkblliaaGreatC01
/- The abstract machine: 'm[k]++' in a region of open order. Conditions: none. -/
namespace Go.Proofs.YtjmefaihkblliaaGreat.Ab
open Go.RowKit
set_option linter.unusedVariables false
set_option linter.unusedSimpArgs false
structure Fam (x : Cx) (b : Nat) (q : Obj) (x1 : Cx) : Prop where
  sib : Sib x x1
  map : Priv x1 b q
  oth : ∀ b' o', b' ≠ b → Priv x b' o' → Priv x1 b' o'
section
variable {P : Program} {x : Cx} {tb : Tb} {R : Tl → Ml → Prop} {n : Nat} {o : Oper} {T : Tl} {M : Ml} {k : List It} {b : Nat} {ob : Nat → Obj}
def Gx (x : Cx) (b : Nat) (q : Obj) (T : Nat → LV) (M : Mem) (a : Act) (w : World) : Prop := ∃ x1 m, Fam x b q x1 ∧ Rel x1 T M m a w
structure DoesF (P : Program) (x : Cx) (b : Nat) (ob : Nat → Obj) (M : Ml) (all : List Oper) (o : Oper) (e : En) (lo hi d : Nat) (T : Tl) : Prop where
  dst : e.dst = o.dst
  ok : ∀ T', (∀ t ∈ e.ts, tm T' t = tm T t) → ∀ p, lo ≤ p → p ≤ hi → ∀ a w, Gx x b (ob p) (tm T') (mm M) a w → OpG P all o (fun a w => Gx x b (ob (p + d)) (tm (putd e.dst e.val T')) (mm M) a w) a w
def phase (iM iS : Nat) (listed : Nat → Bool) : Nat := (if listed iM then 1 else 0) + (if listed iS then 1 else 0)
theorem phase_eq (iM iS : Nat) (listed : Array Bool) : phase iM iS (fun j => listed.getD j false) = (if listed.getD iM false then 1 else 0) + (if listed.getD iS false then 1 else 0) := rfl
theorem wc_drawnF {id : Nat} {ops : Array Oper} {lg : List En} (hmix : P.follows .mixedOrders = true) (hac : acB ops.toList 0 = true) (hlen : lg.length = ops.size) (hord : ordB (ancs [] ops.toList) [] lg 0 = true) {iL iM iS : Nat} (hM : iM ≠ iS)
    (hanc : ∃ al, (ancs [] ops.toList)[iS]? = some al ∧ iL ∈ al ∧ iM ∈ al)
    (hd : ∀ (i : Nat) o e, ops.toList[i]? = some o → lg[i]? = some e → e.mem = [] ∧ DoesF P x b ob M ops.toList o e (if i = iS then 1 else 0) (if i = iS then 1 else if i = iM then 0 else if i = iL then 1 else 2) (if i = iS ∨ i = iM then 1 else 0) (selT lg (pre i) 0 T))
    (h0 : Fam x b (ob 0) x) (h : ∀ x1, Fam x b (ob 2) x1 → Wc P x1 R k (selT lg (fun _ => true) 0 T) M) (hS : iS < ops.size) (hMs : iM < ops.size) : Wc P x R (.code (.region id ops true) :: k) T M := by
  intro m0 a0 w0 hr0
  show (Code.region id ops true).wp P (Ka P x R k) a0 w0
  have hac' := acB_ok hac
  simp only [Nat.zero_add] at hac'
  have hget : ∀ (i : Nat) o, ops[i]? = some o → ops.toList[i]? = some o := fun i o ho => by rw [Array.getElem?_toList]; exact ho
  have han := ancs_ok (all := ops.toList) (l := ops.toList) (acc := []) (fun i o ho => by simpa using ho) (fun i q hq => by cases hq)
  have hord' := ordB_ok (an := ancs [] ops.toList) (prev := []) (k := 0) (l := lg) rfl hord
  simp only [Nat.zero_add, List.nil_append] at hord'
  refine wp_region_any hmix (wpAny_inv (fun listed a w => Down ops.toList (fun j => listed.getD j false) ∧ Gx x b (ob (phase iM iS (fun j => listed.getD j false))) (tm (selT lg (fun j => listed.getD j false) 0 T)) (mm M) a w) ?_ ?_ ?_ ops.size _ a0 _ (by simp) ?_ ?_)
  · intro listed i a w hsz hi hinv
    obtain ⟨hdown, hG⟩ := hinv
    obtain ⟨hlt, o, ho, hall⟩ := mem_ready.1 hi
    have hio := (Array.getElem?_eq_some_iff.1 ho).1
    have hbi : listed.getD i false = false := by
      rw [Array.getD_eq_getD_getElem?, Array.getElem?_eq_getElem (by omega)] at hlt ⊢; exact hlt
    have hdeps : ∀ q ∈ deps o, listed.getD q false = true := fun q hq => by
      obtain ⟨e, he, hb, rfl⟩ := deps_mem.1 hq
      exact hall e he hb
    obtain ⟨e, he⟩ : ∃ e, lg[i]? = some e := ⟨lg[i]'(by omega), List.getElem?_eq_getElem _⟩
    obtain ⟨hmem0, hD⟩ := hd i o e (hget i o ho) he
    have agree : ∀ (j : Nat) e', lg[j]? = some e' → conflict e' e = true → listed.getD j false = pre i j := fun j e' hj hc => by
      rcases Nat.lt_trichotomy j i with hji | hji | hji
      · obtain ⟨al, hal, hmem⟩ := hord' i e he
        have := han i al hal j (hmem j e' hji hj hc) (fun j => listed.getD j false) hdown (fun o' ho' q hq => by
          rw [hget i o ho] at ho'; cases ho'; exact hdeps q hq)
        rw [pre_t.2 hji]; exact this
      · subst hji
        rw [hbi, pre_f.2 (by omega)]
      · rw [pre_f.2 (by omega)]
        cases hbj : listed.getD j false with
        | false => rfl
        | true =>
          obtain ⟨al, hal, hmem⟩ := hord' j e' hj
          have := han j al hal i (hmem i e hji he (by rw [conflict_comm]; exact hc)) (fun j => listed.getD j false) hdown (fun o' ho' q hq => hdown j o' ho' hbj q hq)
          rw [hbi] at this; cases this
    have hts : ∀ t ∈ e.ts, tm (selT lg (fun j => listed.getD j false) 0 T) t = tm (selT lg (pre i) 0 T) t := fun t ht => by
      rw [tm_selT, tm_selT]
      refine last_congr fun j e' hj hw => ?_
      rw [Nat.zero_add]; exact agree j e' hj (touch_ts hw ht)
    -- the phase
    obtain ⟨al, hal, hLin, hMin⟩ := hanc
    have hS1 : listed.getD iS false = true → listed.getD iL false = true ∧ listed.getD iM false = true := fun hs =>
      ⟨han iS al hal iL hLin (fun j => listed.getD j false) hdown (fun o' ho' q hq => hdown iS o' ho' hs q hq), han iS al hal iM hMin (fun j => listed.getD j false) hdown (fun o' ho' q hq => hdown iS o' ho' hs q hq)⟩
    have hS2 : i = iS → listed.getD iM false = true := fun hs => by
      subst hs
      exact han i al hal iM hMin (fun j => listed.getD j false) hdown (fun o' ho' q hq => by rw [hget i o ho] at ho'; cases ho'; exact hdeps q hq)
    have hlo : (if i = iS then 1 else 0) ≤ phase iM iS (fun j => listed.getD j false) := by
      unfold phase
      split
      · rename_i hs; simp only [hS2 hs, if_true]; omega
      · omega
    have hhi : phase iM iS (fun j => listed.getD j false) ≤ (if i = iS then 1 else if i = iM then 0 else if i = iL then 1 else 2) := by
      unfold phase
      by_cases h1 : i = iS
      · rw [if_pos h1]
        have : listed.getD iS false = false := h1 ▸ hbi
        simp only [this, Bool.false_eq_true, if_false]
        split <;> omega
      · rw [if_neg h1]
        by_cases h2 : i = iM
        · rw [if_pos h2]
          have hm : listed.getD iM false = false := h2 ▸ hbi
          have hs : listed.getD iS false = false := by
            cases hs : listed.getD iS false with
            | false => rfl
            | true => rw [(hS1 hs).2] at hm; cases hm
          simp [hm, hs]
        · rw [if_neg h2]
          by_cases h3 : i = iL
          · rw [if_pos h3]
            have hm : listed.getD iL false = false := h3 ▸ hbi
            have hs : listed.getD iS false = false := by
              cases hs : listed.getD iS false with
              | false => rfl
              | true => rw [(hS1 hs).1] at hm; cases hm
            simp only [hs, Bool.false_eq_true, if_false]
            split <;> omega
          · rw [if_neg h3]; split <;> split <;> omega
    have hg := hD.ok _ hts _ hlo hhi a w hG
    have hb' : ∀ j, (listed.setIfInBounds i true).getD j false = true ↔ (listed.getD j false = true ∨ j = i) := fun j => by
      rw [getD_set]
      constructor
      · rintro (h | ⟨h, _⟩)
        · exact .inl h
        · exact .inr h
      · rintro (h | h)
        · exact .inl h
        · exact .inr ⟨h, by omega⟩
    have hbe : ∀ j, j ≠ i → (listed.setIfInBounds i true).getD j false = listed.getD j false := fun j hj => by
      rw [Bool.eq_iff_iff, hb']
      exact ⟨fun h => h.resolve_right hj, .inl⟩
    have hbt : (listed.setIfInBounds i true).getD i false = true := (hb' i).2 (.inr rfl)
    have hph : phase iM iS (fun j => (listed.setIfInBounds i true).getD j false) = phase iM iS (fun j => listed.getD j false) + (if i = iS ∨ i = iM then 1 else 0) := by
      rw [phase_eq, phase_eq]
      by_cases h1 : i = iS
      · subst h1
        rw [hbe iM hM, hbt, hbi, if_pos (Or.inl rfl)]
        simp
      · by_cases h2 : i = iM
        · subst h2
          rw [hbe iS (fun e => hM e.symm), hbt, hbi, if_pos (Or.inr rfl)]
          simp only [if_true, Bool.false_eq_true, if_false]
          omega
        · rw [hbe iM (fun e => h2 e.symm), hbe iS (fun e => h1 e.symm), if_neg (c := i = iS ∨ i = iM) (fun hh => hh.elim h1 h2)]; rfl
    have hK : ∀ a' w', Gx x b (ob (phase iM iS (fun j => listed.getD j false) + (if i = iS ∨ i = iM then 1 else 0))) (tm (putd e.dst e.val (selT lg (fun j => listed.getD j false) 0 T))) (mm M) a' w' →
        Down ops.toList (fun j => (listed.setIfInBounds i true).getD j false) ∧ Gx x b (ob (phase iM iS (fun j => (listed.setIfInBounds i true).getD j false))) (tm (selT lg (fun j => (listed.setIfInBounds i true).getD j false) 0 T)) (mm M) a' w' := by
      intro a' w' hr'
      refine ⟨fun j o' ho' hbj q hq => ?_, ?_⟩
      · rcases (hb' j).1 hbj with h | h
        · exact (hb' q).2 (.inl (hdown j o' ho' h q hq))
        · subst h
          rw [hget j o ho] at ho'; cases ho'
          exact (hb' q).2 (.inl (hdeps q hq))
      · have eT : tm (putd e.dst e.val (selT lg (fun j => listed.getD j false) 0 T)) = tm (selT lg (fun j => (listed.setIfInBounds i true).getD j false) 0 T) := by
          funext t
          rw [tm_putd _ _ _ e rfl rfl, tm_selT, tm_selT]
          cases hw : wT t e with
          | none =>
            show last _ _ _ _ _ = _
            refine last_congr fun j e' hj hw' => ?_
            rw [Nat.zero_add]
            refine (hbe j fun hji => ?_).symm
            subst hji
            rw [he] at hj; cases hj; exact hw' hw
          | some v =>
            show v = _
            refine (last_at (j0 := i) he hw (by rw [Nat.zero_add]; exact hbt) (fun j e' hij hj hw' => ?_)).symm
            rw [Nat.zero_add, hbe j (by omega), agree j e' hj (touch_dst hw' (by rw [hw]; exact fun h => by cases h)), pre_f.2 (by omega)]
        rw [← eT, hph]; exact hr'
    unfold OpG at hg
    rw [Array.toArray_toList] at hg
    show wpOp P ops (Ka P x R k) i _ a w
    unfold wpOp
    simp only [ho]
    split
    · rename_i hw
      rw [if_pos hw] at hg
      exact .inl (oper_weak hg hK)
    · rename_i hw
      rw [if_neg hw] at hg
      exact hK _ _ hg
  · rintro listed a w hsz hall ⟨_, x1, m, hf, hr⟩
    have hp : phase iM iS (fun j => listed.getD j false) = 2 := by unfold phase; simp only [hall iM hMs, hall iS hS, if_true]
    rw [hp] at hf
    rw [selT_congr (b' := fun _ => true) (fun j hj => by rw [Nat.zero_add]; exact hall j (by omega))] at hr
    exact Ka.base hf.sib _ _ _ _ (h x1 hf m a w hr)
  · intro i o ho e he hb
    exact hac' i o (hget i o ho) e.on (deps_mem.2 ⟨e, he, hb, rfl⟩)
  · unfold left
    refine Nat.le_trans (List.length_filter_le _ _) (by simp)
  · have hz : ∀ j, (Array.replicate ops.size false).getD j false = false := fun j => by
      rw [Array.getD_eq_getD_getElem?, Array.getElem?_replicate]; split <;> rfl
    refine ⟨fun i o ho hb => (by
      have hb' : (Array.replicate ops.size false).getD i false = true := hb
      rw [hz] at hb'; cases hb'), x, m0, ?_, ?_⟩
    · have : phase iM iS (fun j => (Array.replicate ops.size false).getD j false) = 0 := by unfold phase; simp only [hz, Bool.false_eq_true, if_false]
      rw [this]; exact h0
    · rw [selT_none (fun j _ => hz j)]
      exact hr0.drew
/-! ### the operations -/
theorem doesF_pure {e : En} {lo hi : Nat} {all : List Oper} (h : ∀ x1, Sib x x1 → Does P x1 all o e T M) (hm : e.mem = []) (hnew : e.new = none) : DoesF P x b ob M all o e lo hi 0 T := by
  refine ⟨(h x (.refl x)).dst, fun T' ht p _ _ a w hG => ?_⟩
  obtain ⟨x1, m, hf, hr⟩ := hG
  have := (h x1 hf.sib).ok T' M ht (fun _ _ => rfl) (fun id hid => by rw [hnew] at hid; cases hid) m a w hr
  unfold OpG at this ⊢
  split
  · rename_i hw
    rw [if_pos hw] at this
    exact oper_weak this fun a w ⟨m, hr⟩ => ⟨x1, m, hf, by rw [hm] at hr; exact hr⟩
  · rename_i hw
    rw [if_neg hw] at this
    obtain ⟨m, hr⟩ := this
    exact ⟨x1, m, hf, by rw [hm] at hr; exact hr⟩
theorem opG_yes {all : List Oper} {J : Act → World → Prop} {a : Act} {w : World} (hg : o.guard = none) (h : o.wp P a w J (fun _ _ _ => False)) : OpG P all o J a w := by
  unfold OpG
  rw [if_pos (by unfold Region.wanted; rw [hg])]
  exact h
variable {K : Type} [DecidableEq K] {enc : K → Value} {kt et t : TypeId} {l : Ents K} {c : Nat} {y : K} {v1 : Int} {dm dk : Nat} {lk : LV}
def ob3 (enc : K → Value) (l : Ents K) (c : Nat) (y : K) (v1 : Int) : Nat → Obj
  | 0 => objE enc l c
  | 1 => objE enc (addE y c l) (clkE y c l)
  | _ => objE enc (setE y v1 (addE y c l)) (clkE y c l)
theorem doesF_look {all : List Oper} {d : Nat} {ts : List Nat} (htn : ∀ x1 : Cx, Sib x x1 → x1.n = n) (hg : o.guard = none) (hdo : dstOk n o.dst = true) (hd : o.dst = some d) (hk : KeyOk P kt enc) (ht : P.underlying t = some (.map kt et)) (hz : ∀ w, (zeroValue et).run P w = .ok (.int .i64 0) w) (hop : o.op = .lookup t (.tmp dm) (.tmp dk) false)
    (hm : look .no T dm = .dat (.val (.map (some b)))) (hkv : look .no T dk = lk) (hy : ∀ S M m w v, R3 S M m w v lk → v = enc y) (h1 : dm ∈ ts) (h2 : dk ∈ ts) :
    DoesF P x b (ob3 enc l c y v1) M all o ⟨o.dst, .dat (.int .i64 (valE y l)), [], none, ts, []⟩ 0 1 0 T := by
  refine ⟨rfl, fun T' hts p _ hp a w hG => opG_yes hg ?_⟩
  obtain ⟨x1, m, hf, hr⟩ := hG
  have hmv := hr.tmp dm
  rw [hts dm h1, show tm T dm = _ from hm] at hmv
  have hmv : a.tmps.getD dm undef = _ := rf_val hmv
  have hkv2 := hr.tmp dk
  rw [hts dk h2, show tm T dk = _ from hkv] at hkv2
  have hkv2 := hy _ _ _ _ _ hkv2
  have hrun : (Instr.lookup t (.map (some b)) (enc y) false).run P w = .ok (.int .i64 (valE y l)) w := by
    match p, hp with
    | 0, _ => exact run_lookE hk ht (hz w) (hf.map.now hr) y
    | 1, _ => rw [run_lookE hk ht (hz w) (hf.map.now hr) y, valE_add]
  unfold Oper.wp
  rw [show (execOp a.eval o).run P w = .ok (.value (.int .i64 (valE y l))) w by
    simp only [execOp, hop, show a.eval (.tmp dm) = _ from hmv, show a.eval (.tmp dk) = _ from hkv2, Sem.run_bind, hrun, Result.andThen_ok, Sem.run_pure]]
  exact ⟨x1, m, hf, hr.putd (htn x1 hf.sib) hdo (l := .dat (.int .i64 (valE y l))) (Rf.int _ _)⟩
theorem put_same {w : World} {b : Nat} {o : Obj} (h : b < w.heap.size) : (w.putObj b o).heap[b]? = some o := World.putObj_heap_same h
theorem fam_put {x1 : Cx} {T : Nat → LV} {M : Mem} {m : Mp} {a : Act} {w : World} {q q' : Obj} (hf : Fam x b q x1) (hr : Rel x1 T M m a w) : ∃ x2, Fam x b q' x2 ∧ Rel x2 T M m a (w.putObj b q') := by
  have hlt := (Array.getElem?_eq_some_iff.1 (hf.map.now hr)).1
  obtain ⟨x2, hl, hr2⟩ := later_of hr (w1 := w.putObj b q') ⟨by simp [World.putObj], fun k hk => by
    by_cases hkb : k = b
    · subst hkb; exact .inr ⟨hf.map.s0, hf.map.new⟩
    · exact .inl (World.putObj_heap_other hkb), rfl, rfl, rfl⟩
  refine ⟨x2, ⟨hf.sib.trans hl.sib, hl.old hf.map (put_same hlt), fun b' o' hne hp => ?_⟩, hr2⟩
  have hp1 := hf.oth b' o' hne hp
  exact hl.old hp1 (by rw [World.putObj_heap_other hne]; exact hp1.now hr)
theorem doesF_entry {all : List Oper} {d : Nat} {ts : List Nat} (htn : ∀ x1 : Cx, Sib x x1 → x1.n = n) (hg : o.guard = none) (hdo : dstOk n o.dst = true) (hd : o.dst = some d) (hk : KeyOk P kt enc) (ht : P.underlying t = some (.map kt et)) (hz : ∀ w, (zeroValue et).run P w = .ok (.int .i64 0) w) (hop : o.op = .mapEntry t (.tmp dm) (.tmp dk))
    (hm : look .no T dm = .dat (.val (.map (some b)))) (hkv : look .no T dk = lk) (hy : ∀ S M m w v, R3 S M m w v lk → v = enc y) (h1 : dm ∈ ts) (h2 : dk ∈ ts) :
    DoesF P x b (ob3 enc l c y v1) M all o ⟨o.dst, .tup [.no, .dat (.int .i64 (stampE y c l))], [], none, ts, []⟩ 0 0 1 T := by
  refine ⟨rfl, fun T' hts p _ hp a w hG => opG_yes hg ?_⟩
  obtain ⟨x1, m, hf, hr⟩ := hG
  have hp0 : p = 0 := by omega
  subst hp0
  have hmv := hr.tmp dm
  rw [hts dm h1, show tm T dm = _ from hm] at hmv
  have hmv : a.tmps.getD dm undef = _ := rf_val hmv
  have hkv2 := hr.tmp dk
  rw [hts dk h2, show tm T dk = _ from hkv] at hkv2
  have hkv2 := hy _ _ _ _ _ hkv2
  have hrun := run_entE hk ht (hz w) (hf.map.now hr) y
  obtain ⟨x2, hf2, hr2⟩ := fam_put (q' := objE enc (addE y c l) (clkE y c l)) hf hr
  unfold Oper.wp
  rw [show (execOp a.eval o).run P w = .ok (.value (.tuple #[.int .i64 (valE y l), .int .i64 (stampE y c l)])) (w.putObj b (objE enc (addE y c l) (clkE y c l))) by
    simp only [execOp, hop, show a.eval (.tmp dm) = _ from hmv, show a.eval (.tmp dk) = _ from hkv2, Sem.run_bind, hrun, Result.andThen_ok, Sem.run_pure]]
  refine ⟨x2, m, hf2, hr2.putd (htn x2 hf2.sib) hdo (l := .tup [.no, .dat (.int .i64 (stampE y c l))]) ⟨[.int .i64 (valE y l), .int .i64 (stampE y c l)], rfl, rfl, fun j u l hu hl => ?_⟩⟩
  match j with
  | 0 => cases hl; exact trivial
  | 1 => cases hu; cases hl; exact Rf.int _ _
  | j + 2 => cases hl
theorem doesF_store {all : List Oper} {ds dv : Nat} {ts : List Nat} (hg : o.guard = none) (hd : o.dst = none) (hgood : GoodE l c) (hop : o.op = .entryStore t (.tmp dm) (.tmp ds) (.tmp dv))
    (hm : look .no T dm = .dat (.val (.map (some b)))) (hs : look .no T ds = .dat (.int .i64 (stampE y c l))) (hv : look .no T dv = .dat (.int .i64 v1)) (h1 : dm ∈ ts) (h2 : ds ∈ ts) (h3 : dv ∈ ts) :
    DoesF P x b (ob3 enc l c y v1) M all o ⟨o.dst, .no, [], none, ts, []⟩ 1 1 1 T := by
  refine ⟨rfl, fun T' hts p hp0 hp a w hG => opG_yes hg ?_⟩
  obtain ⟨x1, m, hf, hr⟩ := hG
  have hp1 : p = 1 := by omega
  subst hp1
  have hmv := hr.tmp dm
  rw [hts dm h1, show tm T dm = _ from hm] at hmv
  have hmv : a.tmps.getD dm undef = _ := rf_val hmv
  have hsv := hr.tmp ds
  rw [hts ds h2, show tm T ds = _ from hs] at hsv
  have hsv : a.tmps.getD ds undef = _ := rf_int hsv
  have hvv := hr.tmp dv
  rw [hts dv h3, show tm T dv = _ from hv] at hvv
  have hvv : a.tmps.getD dv undef = _ := rf_int hvv
  have hrun := run_storeE (P := P) (t := t) (addE_good (x := y) hgood) (hf.map.now hr) (addE_has l) (stampE y c l) (stampE_add l).symm v1
  obtain ⟨x2, hf2, hr2⟩ := fam_put (q' := objE enc (setE y v1 (addE y c l)) (clkE y c l)) hf hr
  unfold Oper.wp
  rw [show (execOp a.eval o).run P w = .ok .skip (w.putObj b (objE enc (setE y v1 (addE y c l)) (clkE y c l))) by
    simp only [execOp, hop, show a.eval (.tmp dm) = _ from hmv, show a.eval (.tmp ds) = _ from hsv, show a.eval (.tmp dv) = _ from hvv, Sem.run_bind, hrun, Result.andThen_ok, Sem.run_pure]]
  show Gx x b _ _ _ (a.put o.dst undef) _
  rw [hd]
  exact ⟨x2, m, hf2, hr2⟩
def noMem : List En → Bool
  | [] => true
  | e :: l => (match e.mem, e.new with
    | [], none => true
    | _, _ => false) && noMem l
theorem noMem_ok : ∀ {l : List En}, noMem l = true → ∀ (i : Nat) e, l[i]? = some e → e.mem = [] ∧ e.new = none
  | [], _, i, e, h => by cases h
  | e0 :: l, h, i, e, he => by
    simp only [noMem, Bool.and_eq_true] at h
    cases i with
    | zero =>
      have : e0 = e := by simpa using he
      subst this
      have h1 := h.1
      split at h1
      · rename_i h2 h3; exact ⟨h2, h3⟩
      · cases h1
    | succ i => exact noMem_ok h.2 i e (by simpa using he)
theorem selM_noMem : ∀ {l : List En} {b : Nat → Bool} {i : Nat} {M : Ml}, noMem l = true → selM l b i M = M
  | [], b, i, M, h => rfl
  | e :: l, b, i, M, h => by
    have h0 := (noMem_ok h 0 e rfl).1
    simp only [noMem, Bool.and_eq_true] at h
    rw [selM, h0]
    cases b i <;> exact selM_noMem h.2
theorem selT_append : ∀ {l1 l2 : List En} {b : Nat → Bool} {i : Nat} {T : Tl}, selT (l1 ++ l2) b i T = selT l2 b (i + l1.length) (selT l1 b i T)
  | [], l2, b, i, T => by simp [selT]
  | e :: l1, l2, b, i, T => by
    rw [List.cons_append, selT, selT_append, selT, List.length_cons, show i + 1 + l1.length = i + (l1.length + 1) by omega]
theorem go_incr (hn : x.n = n) (htb : TbOk P tb) (hmix : P.follows .mixedOrders = true) {s : Prop} {T1 T2 : Tl} {M1 : Ml} {k1 : List It} {id : Nat} {ops : Array Oper} (ho : run tb n 1000 T M True k = .bad s T1 M1 (.code (.region id ops true) :: k1)) (hs : s)
    (L : Nat) {pre0 : List Oper} {lko bo me ex st : Oper} (hp0 : ops.toList.take L = pre0) (hall : ops.toList = pre0 ++ [lko, bo, me, ex, st]) {lgp : List En} (hpre : ∀ x1, drF P x1 tb n ops.toList (gslots ops.toList ops.toList) pre0 [] True T1 M1 = .done True lgp T2 M1) (hnm : noMem lgp = true)
    {d0 d1 d2 d3 : Nat} (hb : Priv x b (objE enc l c)) (hgood : GoodE l c) (hk : KeyOk P kt enc) (ht : P.underlying t = some (.map kt et)) (hz : ∀ w, (zeroValue et).run P w = .ok (.int .i64 0) w)
    (glk : lko.guard = none) (gbo : bo.guard = none) (gme : me.guard = none) (gex : ex.guard = none) (gst' : st.guard = none)
    (olk : lko.op = .lookup t (.tmp dm) (.tmp dk) false) (dlk : lko.dst = some d0) {sb : Option Prop} {Tb : Tl} {Mb : Ml} (y : K) (hbo : opF tb n bo ((d0, .dat (.int .i64 (valE y l))) :: T2) M1 = some (sb, Tb, Mb)) (v1 : Int) (hTb : Tb = putd bo.dst (.dat (.int .i64 v1)) ((d0, .dat (.int .i64 (valE y l))) :: T2)) (hsb : ∀ r, sb = some r → r) (dbo : bo.dst = some d1) (pbo : pureOp bo.op = true)
    (ome : me.op = .mapEntry t (.tmp dm) (.tmp dk)) (dme : me.dst = some d2) (oex : ex.op = .extract (.tmp d2) 1) (dex : ex.dst = some d3) (ost : st.op = .entryStore t (.tmp dm) (.tmp d3) (.tmp d1)) (dst' : st.dst = none)
    (hm : look .no T2 dm = .dat (.val (.map (some b)))) (hkv : look .no T2 dk = lk) (hy : ∀ S M m w v, R3 S M m w v lk → v = enc y)
    (h0 : Nat.blt d0 n = true) (h1 : Nat.blt d1 n = true) (h2 : Nat.blt d2 n = true) (h3 : Nat.blt d3 n = true)
    (ne : (Nat.beq d0 dm || (Nat.beq d0 dk || (Nat.beq d1 dm || (Nat.beq d1 dk || (Nat.beq d2 dm || (Nat.beq d3 dm || (Nat.beq d2 d1 || Nat.beq d3 d1))))))) = false)
    (hac : acB ops.toList 0 = true)
    (hord : ordB (ancs [] ops.toList) [] (lgp ++ [⟨some d0, .dat (.int .i64 (valE y l)), [], none, tsOf ops.toList lko, []⟩, ⟨some d1, .dat (.int .i64 v1), [], none, tsOf ops.toList bo, lookIds ((d0, .dat (.int .i64 (valE y l))) :: T2) bo.op.operands.toList⟩, ⟨some d2, .tup [.no, .dat (.int .i64 (stampE y c l))], [], none, tsOf ops.toList me, []⟩, ⟨some d3, .dat (.int .i64 (stampE y c l)), [], none, tsOf ops.toList ex, []⟩, ⟨none, .no, [], none, tsOf ops.toList st, []⟩]) 0 = true)
    (hanc : (match nth (ancs [] ops.toList) (pre0.length + 4) with
      | some al => elem pre0.length al && elem (pre0.length + 2) al
      | none => false) = true)
    (h : ∀ x1, Fam x b (objE enc (setE y v1 (addE y c l)) (clkE y c l)) x1 → Wc P x1 R k1 ((d3, .dat (.int .i64 (stampE y c l))) :: (d2, .tup [.no, .dat (.int .i64 (stampE y c l))]) :: (d1, .dat (.int .i64 v1)) :: (d0, .dat (.int .i64 (valE y l))) :: T2) M1) : Wc P x R k T M := by
  refine go hn htb ho ⟨hs, ?_⟩
  have hlp : lgp.length = pre0.length := ((drF_ok hn htb pre0 [] True T1 M1 _ _ _ _ (hpre x)) trivial).2.1.len
  have hsz : ops.size = pre0.length + 5 := by rw [← Array.length_toList (xs := ops), hall]; simp
  have hT2 : T2 = selT lgp (fun _ => true) 0 T1 := ((drF_ok hn htb pre0 [] True T1 M1 _ _ _ _ (hpre x)) trivial).2.2.1
  generalize hE : ([⟨some d0, .dat (.int .i64 (valE y l)), [], none, tsOf ops.toList lko, []⟩, ⟨some d1, .dat (.int .i64 v1), [], none, tsOf ops.toList bo, lookIds ((d0, .dat (.int .i64 (valE y l))) :: T2) bo.op.operands.toList⟩, ⟨some d2, .tup [.no, .dat (.int .i64 (stampE y c l))], [], none, tsOf ops.toList me, []⟩, ⟨some d3, .dat (.int .i64 (stampE y c l)), [], none, tsOf ops.toList ex, []⟩, ⟨none, .no, [], none, tsOf ops.toList st, []⟩] : List En) = E at hord
  have hn1 : ∀ x1 : Cx, Sib x x1 → x1.n = n := fun x1 h => h.n.trans hn
  have sel : ∀ j, selT (lgp ++ E) (pre (pre0.length + j)) 0 T1 = selT E (fun i => pre j i) 0 T2 := fun j => by
    rw [selT_append, Nat.zero_add, hlp, hT2, selT_congr (l := lgp) (b' := fun _ => true) (fun i hi => by rw [Nat.zero_add]; exact pre_t.2 (by omega))]
    have : ∀ (E : List En) (i0 : Nat) (T : Tl), selT E (pre (pre0.length + j)) (pre0.length + i0) T = selT E (fun i => pre j i) i0 T := by
      intro E
      induction E with
      | nil => intro i0 T; rfl
      | cons e E ih =>
        intro i0 T
        rw [selT, selT, Nat.add_assoc, ih]
        have : pre (pre0.length + j) (pre0.length + i0) = pre j i0 := by
          rw [Bool.eq_iff_iff, pre_t, pre_t]; omega
        rw [this]
    exact this E 0 _
  simp only [Bool.or_eq_false_iff] at ne
  obtain ⟨n0, n1, n2, n3, n4, n5, n6, n7⟩ := ne
  have lkc : ∀ (d e : Nat) (v : LV) (T : Tl), Nat.beq d e = false → look .no ((d, v) :: T) e = look .no T e := fun d e v T h => by
    show (match Nat.beq d e with | true => v | false => look .no T e) = _
    rw [h]
  have lks : ∀ (d : Nat) (v : LV) (T : Tl), look .no ((d, v) :: T) d = v := fun d v T => by
    show (match Nat.beq d d with | true => v | false => look .no T d) = _
    rw [nbeq_t.2 rfl]
  have ops0 : ∀ j, ops.toList[pre0.length + j]? = [lko, bo, me, ex, st][j]? := fun j => by rw [hall, List.getElem?_append_right (by omega)]; congr 1; omega
  have lg0 : ∀ j, (lgp ++ E)[pre0.length + j]? = E[j]? := fun j => by rw [List.getElem?_append_right (by omega), hlp]; congr 1; omega
  have tin : ∀ (o : Oper) (q : Nat), Operand.tmp q ∈ o.op.operands.toList → q ∈ tsOf ops.toList o := fun o q hq => tsOf_ok (by
    have : ∀ l : List Operand, Operand.tmp q ∈ l → q ∈ slotsOf l := by
      intro l
      induction l with
      | nil => intro h; cases h
      | cons a l ih =>
        intro h
        rcases List.mem_cons.1 h with rfl | h
        · exact List.mem_cons_self
        · have := ih h
          cases a <;> first | exact List.mem_cons_of_mem _ this | exact this
    exact this _ hq)
  refine wc_drawnF (b := b) (ob := ob3 enc l c y v1) (lg := lgp ++ E) (iL := pre0.length) (iM := pre0.length + 2) (iS := pre0.length + 4) hmix hac (by rw [List.length_append, hlp, ← hE]; simp [hsz]) hord (by omega) ?_ ?_ ⟨.refl x, hb, fun _ _ _ h => h⟩ ?_ (by omega) (by omega)
  · rw [nth_eq] at hanc
    cases ha : (ancs [] ops.toList)[pre0.length + 4]? with
    | none => rw [ha] at hanc; cases hanc
    | some al =>
      rw [ha] at hanc
      simp only [Bool.and_eq_true] at hanc
      exact ⟨al, rfl, elem_ok.1 hanc.1, elem_ok.1 hanc.2⟩
  · intro i o e hio hie
    rcases Nat.lt_or_ge i pre0.length with hlt | hge
    · rw [hall, List.getElem?_append_left hlt] at hio
      rw [List.getElem?_append_left (by omega)] at hie
      rw [if_neg (by omega), if_neg (by omega), if_neg (by omega), if_neg (by omega), if_neg (c := i = pre0.length + 4 ∨ i = pre0.length + 2) (by omega)]
      have hmn := noMem_ok hnm i e hie
      refine ⟨hmn.1, doesF_pure (fun x1 hx => ?_) hmn.1 hmn.2⟩
      have hch := ((drF_ok (hn1 x1 hx) htb pre0 [] True T1 M1 _ _ _ _ (hpre x1)) trivial).2.1
      have := hch.get 0 i o e hio hie
      rw [Nat.zero_add, selM_noMem hnm] at this
      rwa [selT_append, selT_none (l := E) (fun j hj => pre_f.2 (by omega))]
    · obtain ⟨j, rfl⟩ : ∃ j, i = pre0.length + j := ⟨i - pre0.length, by omega⟩
      rw [ops0] at hio
      rw [lg0, ← hE] at hie
      rw [sel, ← hE]
      match j, hio, hie with
      | 0, hio, hie =>
        cases hio; cases hie
        rw [if_neg (by omega), if_neg (by omega), if_neg (by omega), if_pos (by omega), if_neg (by omega)]
        have := doesF_look (x := x) (b := b) (M := M1) (T := T2) (l := l) (c := c) (v1 := v1) (all := ops.toList) (o := lko) (ts := tsOf ops.toList lko) hn1 glk (by rw [dlk]; exact h0) dlk hk ht hz olk hm hkv hy (tin _ _ (by rw [olk]; simp [Op.operands])) (tin _ _ (by rw [olk]; simp [Op.operands]))
        rw [dlk] at this
        exact ⟨rfl, this⟩
      | 1, hio, hie =>
        cases hio; cases hie
        rw [if_neg (by omega), if_neg (by omega), if_neg (by omega), if_neg (by omega), if_neg (by omega)]
        refine ⟨rfl, doesF_pure (fun x1 hx => ?_) rfl rfl⟩
        have := does_pure (P := P) (x := x1) (all := ops.toList) (v := .dat (.int .i64 v1)) (hn1 x1 hx) htb pbo (by unfold gst; rw [gbo]) hbo hsb hTb
        rw [dbo] at this
        exact this
      | 2, hio, hie =>
        cases hio; cases hie
        rw [if_neg (by omega), if_neg (by omega), if_pos (by omega), if_pos (by omega)]
        have := doesF_entry (x := x) (b := b) (M := M1) (T := (d1, .dat (.int .i64 v1)) :: (d0, .dat (.int .i64 (valE y l))) :: T2) (l := l) (c := c) (v1 := v1) (all := ops.toList) (o := me) (ts := tsOf ops.toList me) hn1 gme (by rw [dme]; exact h2) dme hk ht hz ome (by rw [lkc _ _ _ _ n2, lkc _ _ _ _ n0]; exact hm) (by rw [lkc _ _ _ _ n3, lkc _ _ _ _ n1]; exact hkv) hy (tin _ _ (by rw [ome]; simp [Op.operands])) (tin _ _ (by rw [ome]; simp [Op.operands]))
        rw [dme] at this
        exact ⟨rfl, this⟩
      | 3, hio, hie =>
        cases hio; cases hie
        rw [if_neg (by omega), if_neg (by omega), if_neg (by omega), if_neg (by omega), if_neg (by omega)]
        refine ⟨rfl, doesF_pure (fun x1 hx => ?_) rfl rfl⟩
        have hop : opF tb n ex ((d2, .tup [.no, .dat (.int .i64 (stampE y c l))]) :: (d1, .dat (.int .i64 v1)) :: (d0, .dat (.int .i64 (valE y l))) :: T2) M1 = some (none, (d3, .dat (.int .i64 (stampE y c l))) :: (d2, .tup [.no, .dat (.int .i64 (stampE y c l))]) :: (d1, .dat (.int .i64 v1)) :: (d0, .dat (.int .i64 (valE y l))) :: T2, M1) := by
          simp only [opF, oex]
          rw [show val ((d2, LV.tup [.no, .dat (.int .i64 (stampE y c l))]) :: (d1, .dat (.int .i64 v1)) :: (d0, .dat (.int .i64 (valE y l))) :: T2) (.tmp d2) = _ from lks _ _ _]
          show out n _ M1 none ex (.dat (.int .i64 (stampE y c l))) = _
          simp only [out, dex, h3]
        have := does_pure (P := P) (x := x1) (all := ops.toList) (v := .dat (.int .i64 (stampE y c l))) (hn1 x1 hx) htb (by rw [oex]; rfl) (by unfold gst; rw [gex]) hop (fun r hr => by cases hr) (by rw [dex]; rfl)
        rw [dex] at this
        have hli : lookIds ((d2, .tup [.no, .dat (.int .i64 (stampE y c l))]) :: (d1, .dat (.int .i64 v1)) :: (d0, .dat (.int .i64 (valE y l))) :: T2) ex.op.operands.toList = [] := by
          rw [oex]
          show lk2 (val _ (.tmp d2)) ++ [] = []
          rw [show val ((d2, LV.tup [.no, .dat (.int .i64 (stampE y c l))]) :: (d1, .dat (.int .i64 v1)) :: (d0, .dat (.int .i64 (valE y l))) :: T2) (.tmp d2) = _ from lks _ _ _]
          rfl
        rw [hli] at this
        exact this
      | 4, hio, hie =>
        cases hio; cases hie
        rw [if_pos (by omega), if_pos (by omega), if_pos (by omega)]
        have := doesF_store (P := P) (t := t) (x := x) (b := b) (M := M1) (T := (d3, .dat (.int .i64 (stampE y c l))) :: (d2, .tup [.no, .dat (.int .i64 (stampE y c l))]) :: (d1, .dat (.int .i64 v1)) :: (d0, .dat (.int .i64 (valE y l))) :: T2) (enc := enc) (y := y) (l := l) (c := c) (v1 := v1) (all := ops.toList) (o := st) (ts := tsOf ops.toList st) gst' dst' hgood ost (by rw [lkc _ _ _ _ n5, lkc _ _ _ _ n4, lkc _ _ _ _ n2, lkc _ _ _ _ n0]; exact hm) (lks _ _ _) (by rw [lkc _ _ _ _ n7, lkc _ _ _ _ n6]; exact lks _ _ _) (tin _ _ (by rw [ost]; simp [Op.operands])) (tin _ _ (by rw [ost]; simp [Op.operands])) (tin _ _ (by rw [ost]; simp [Op.operands]))
        rw [dst'] at this
        exact ⟨rfl, this⟩
      | j + 5, hio, hie => cases hio
  · intro x1 hf
    have hTT : selT (lgp ++ E) (fun _ => true) 0 T1 = (d3, .dat (.int .i64 (stampE y c l))) :: (d2, .tup [.no, .dat (.int .i64 (stampE y c l))]) :: (d1, .dat (.int .i64 v1)) :: (d0, .dat (.int .i64 (valE y l))) :: T2 := by
      rw [selT_append, ← hT2, ← hE]; rfl
    rw [hTT]
    exact h x1 hf
end
end Go.Proofs.YtjmefaihkblliaaGreat.Ab
/- The abstract machine: '==' of flat structs. Conditions: none. -/
namespace Go.Proofs.YtjmefaihkblliaaGreat.Ab
open Go.RowKit
set_option linter.unusedVariables false
set_option linter.unusedSimpArgs false
def C.sv : C → Value
  | .int k n => .int k n
  | .bool b => .bool b
  | .str s => .string s
  | .val v => v
  | .sl .. => undef
def C.scal : C → Bool
  | .sl .. => false
  | _ => true
def scals : List C → Bool
  | [] => true
  | c :: l => c.scal && scals l
def LV.sv1 : LV → Option Value
  | .dat c => match c.scal with
    | true => some c.sv
    | false => none
  | .known b => some (.bool b)
  | _ => none
def svL : List LV → Option (List Value)
  | [] => some []
  | l :: ls => (l.sv1).bind fun v => (svL ls).bind fun vs => some (v :: vs)
def LV.sv : LV → Option (List Value)
  | .dagg cs => match scals cs with
    | true => some (cs.map C.sv)
    | false => none
  | .lagg ls => svL ls
  | _ => none
theorem scal_sv {S : Nat → Prop} {w : World} {v : Value} {c : C} (h : Rf S w v c) (hs : c.scal = true) : v = c.sv := by
  cases h <;> first | rfl | cases hs
theorem scals_mem : ∀ {l : List C}, scals l = true → ∀ c ∈ l, c.scal = true
  | [], _, c, h => by cases h
  | a :: l, h, c, hc => by
    simp only [scals, Bool.and_eq_true] at h
    rcases List.mem_cons.1 hc with rfl | hc
    · exact h.1
    · exact scals_mem h.2 c hc
theorem svL_get : ∀ {ls : List LV} {vs : List Value}, svL ls = some vs → vs.length = ls.length ∧ ∀ (j : Nat) l v, ls[j]? = some l → vs[j]? = some v → l.sv1 = some v
  | [], vs, h => by cases h; exact ⟨rfl, fun j l v hl => by cases hl⟩
  | a :: ls, vs, h => by
    simp only [svL] at h
    obtain ⟨v0, h0, h⟩ := Option.bind_eq_some_iff.1 h
    obtain ⟨vs0, h1, h⟩ := Option.bind_eq_some_iff.1 h
    cases h
    obtain ⟨h2, h3⟩ := svL_get h1
    refine ⟨by simp [h2], fun j l v hl hv => ?_⟩
    cases j with
    | zero => cases hl; cases hv; exact h0
    | succ j => exact h3 j l v (by simpa using hl) (by simpa using hv)
theorem sv_ok {S0 : Nat → Prop} {M : Mem} {m : Mp} {w : World} {v : Value} {l : LV} {vs : List Value} (h : R3 S0 M m w v l) (hs : l.sv = some vs) : v = .agg vs.toArray := by
  cases l with
  | dagg cs =>
    obtain ⟨us, hv, hd⟩ := h
    simp only [LV.sv] at hs
    split at hs
    · rename_i hsc
      cases hs
      rw [hv]
      congr 2
      refine List.ext_getElem? fun j => ?_
      rw [List.getElem?_map]
      cases hc : cs[j]? with
      | none =>
        rw [List.getElem?_eq_none_iff] at hc
        rw [List.getElem?_eq_none (by rw [hd.1]; exact hc)]; rfl
      | some c =>
        have hlt := (List.getElem?_eq_some_iff.1 hc).1
        rw [← hd.1] at hlt
        rw [List.getElem?_eq_getElem hlt, Option.map_some]
        congr 1
        exact scal_sv (hd.2 j _ c (List.getElem?_eq_getElem hlt) hc) (scals_mem hsc c (List.mem_of_getElem? hc))
    · cases hs
  | lagg ls =>
    obtain ⟨us, hv, hd⟩ := h
    obtain ⟨h1, h2⟩ := svL_get hs
    rw [hv]
    congr 2
    refine List.ext_getElem? fun j => ?_
    cases hc : vs[j]? with
    | none =>
      rw [List.getElem?_eq_none_iff] at hc
      rw [List.getElem?_eq_none (by rw [hd.1]; omega)]
    | some u =>
      have hlt := (List.getElem?_eq_some_iff.1 hc).1
      have hl : ls[j]? = some (ls[j]'(by omega)) := List.getElem?_eq_getElem _
      have hu : us[j]? = some (us[j]'(by rw [hd.1]; omega)) := List.getElem?_eq_getElem _
      rw [hu]
      congr 1
      have h3 := h2 j _ u hl hc
      have h4 := (hd.2 j _ _ hu hl).1
      revert h3 h4
      cases ls[j]'(by omega) with
      | dat c =>
        intro h3 h4
        simp only [LV.sv1] at h3
        split at h3
        · rename_i hsc; cases h3; exact scal_sv h4 hsc
        · cases h3
      | known b => intro h3 h4; cases h3; exact h4
      | _ => intro h3; cases h3
  | _ => cases hs
section
variable {P : Program} {x : Cx} {tb : Tb} {R : Tl → Ml → Prop} {n : Nat} {o : Oper} {T : Tl} {M : Ml} {k : List It}
theorem opw_read {d : Nat} {l : LV} (hn : x.n = n) (hdo : dstOk n o.dst = true) (hd : o.dst = some d) (hex : ∀ m a w, Rel x (tm T) (mm M) m a w → ∃ v, (execOp a.eval o).run P w = .ok (.value v) w ∧ R3 x.S0 (mm M) m w v l) (h : Wc P x R k ((d, l) :: T) M) : OpW P x R o k T M := fun m a w hr => by
  obtain ⟨v, hrun, hv⟩ := hex m a w hr
  unfold Oper.wp
  rw [hrun]
  show Ka P x R k .normal (a.put o.dst v) w
  rw [hd]
  exact h m _ w (hr.putd (d := some d) (l := l) hn (hd ▸ hdo) hv)
structure EqOk (P : Program) (t : TypeId) {K : Type} [DecidableEq K] (c : K → List C) : Prop where
  guard : P.eqGuardType P.depth t = false
  eq : ∀ x y w, (Op.equalIn 10000 t (.agg ((c x).map C.sv).toArray) (.agg ((c y).map C.sv).toArray)).run P w = .ok (decide (x = y)) w
def eqRes (b : BinOp) (z : Bool) : Bool := match b with
  | .eql => z
  | _ => !z
theorem opw_eqS {K : Type} [DecidableEq K] {c : K → List C} {t : TypeId} {t1 : TypeId} {p q : Operand} {d : Nat} {b : BinOp} (u v : K) (he : EqOk P t c) (hn : x.n = n) (hdo : dstOk n o.dst = true) (hd : o.dst = some d) (hop : o.op = .binOp b t p q t1) (hb : b = .eql ∨ b = .neq) (hp : (val T p).sv = some ((c u).map C.sv)) (hq : (val T q).sv = some ((c v).map C.sv))
    (h : Wc P x R k ((d, .dat (.bool (eqRes b (decide (u = v))))) :: T) M) : OpW P x R o k T M := by
  refine opw_read (l := .dat (.bool (eqRes b (decide (u = v))))) hn hdo hd (fun m a w hr => ⟨.bool (eqRes b (decide (u = v))), ?_, Rf.bool (eqRes b (decide (u = v)))⟩) h
  have h1 := sv_ok (val_ok hr p) hp
  have h2 := sv_ok (val_ok hr q) hq
  rcases hb with rfl | rfl
  · simp only [execOp, hop, h1, h2, Sem.run_bind, run_eqGuard_agg w .eql t p q _ _ he.guard, Result.andThen_ok, run_eql_struct, he.eq, Sem.run_pure, eqRes]
  · simp only [execOp, hop, h1, h2, Sem.run_bind, run_eqGuard_agg w .neq t p q _ _ he.guard, Result.andThen_ok, run_neq_struct, he.eq, Sem.run_pure, eqRes]
end
end Go.Proofs.YtjmefaihkblliaaGreat.Ab
/- The abstract machine: contracts with lent blocks, as walks use them. Conditions: none. -/
namespace Go.Proofs.YtjmefaihkblliaaGreat.Ab
open Go.RowKit
set_option linter.unusedVariables false
set_option linter.unusedSimpArgs false
section
variable {P : Program} {x : Cx} {tb : Tb} {R : Tl → Ml → Prop}
def OkB : Blk → Prop
  | .row _ _ _ f xs => xs.length ≤ 9223372036854775807 ∧ ∀ x ∈ xs, ∀ c ∈ f x, Okc c
  | .box _ v => OkL v
theorem BlkAt.ok {S0 : Nat → Prop} {M : Mem} {m : Mp} {w : World} {id : Nat} {b : Blk} (h : BlkAt S0 M m w id b) : OkB b := by
  cases b with
  | row e z d f xs =>
    obtain ⟨us, hu, a1, a2, a3, a4, a5, a6, a7⟩ := h
    refine ⟨Nat.le_trans a2 a3, fun y hy c hc => ?_⟩
    obtain ⟨i, hi⟩ := List.mem_iff_getElem?.1 hy
    obtain ⟨j, hj⟩ := List.mem_iff_getElem?.1 hc
    obtain ⟨u, _, hr⟩ := a7 i y j c hi hj
    exact hr.ok
  | box t v =>
    obtain ⟨us, hu, hc⟩ := h
    cases v with
    | dat c => obtain ⟨u, _, h0, _⟩ := hc; exact Rf.ok h0
    | dagg cs =>
      intro c hcm
      obtain ⟨j, hj⟩ := List.mem_iff_getElem?.1 hcm
      have hlt := (List.getElem?_eq_some_iff.1 hj).1
      rw [← hc.1] at hlt
      exact (hc.2 j _ c (List.getElem?_eq_getElem hlt) hj).ok
    | _ => trivial
theorem ct_ok {f : FuncId} {args : List LV} {Mi : Ml} {Post : LV → Ml → Prop} (hca : Callable P f) (h : (∀ l ∈ args, OkL l) → (∀ id b, mm Mi id = some b → OkB b) → Ct P f args Mi Post) : Ct P f args Mi Post := by
  refine ⟨hca, fun S w m vs hS hM hl hvs => ?_⟩
  exact (h (fun l hlm => by
    obtain ⟨j, hj⟩ := List.mem_iff_getElem?.1 hlm
    have hlt := (List.getElem?_eq_some_iff.1 hj).1
    rw [← hl] at hlt
    exact (hvs j _ l (List.getElem?_eq_getElem hlt) hj).ok) fun id b hb => (hM.blk id b hb).1.ok).2 S w m vs hS hM hl hvs
theorem ct_bodyO {f : FuncId} {fn : Func} {c : Code} {args : List LV} {rs : List (ResultVar × TypeId)} {Mi : Ml} {Post : LV → Ml → Prop} (htb : TbOk P tb) (hf : P.funcs[f]? = some fn) (hb : fn.body = some c) (hname : (fn.name == "runtime.NumGoroutine") = false)
    (hres : fn.results = (rs.map (·.1)).toArray) (hn : args.length ≤ fn.ntmps) (hbig : bigM Mi = true)
    (h : (∀ l ∈ args, OkL l) → (∀ id b, mm Mi id = some b → OkB b) → ∀ x : Cx, x.n = fn.ntmps → (∀ i, x.lent i ↔ (mm Mi i).isSome = true) → Wc P x (RetC tb rs Mi Post) [.code c] (args0 0 args) Mi) : Ct P f args Mi Post :=
  ct_ok ⟨fn, c, hf, hb, hname⟩ fun ho hm => ct_body htb hf hb hname hres hn hbig (h ho hm)
def FreshPost (id : Nat) (e : TypeId) (z : Nat) {α : Type} (d : α) (f : α → List C) (xs : List α) (r : LV) (Mo : Ml) : Prop := (r = .own id ∧ Mo = [(id, some (.row e z d f xs))]) ∨ (xs = [] ∧ r = .nil (.sl z d f []) ∧ Mo = [])
theorem fresh_id {f : FuncId} {args : List LV} {id : Nat} {e : TypeId} {z : Nat} {α : Type} {d : α} {g : α → List C} {xs : List α} (h : Ct P f args [] (FreshPost id e z d g xs)) (id1 : Nat) : Ct P f args [] (FreshPost id1 e z d g xs) := by
  refine ⟨h.1, fun S w m vs hS hM hl hvs => Calls.mono (h.2 S w m vs hS hM hl hvs) ?_⟩
  rintro en w1 ⟨v, r, Mo, m1, rfl, hpo, hb⟩
  rcases hpo with ⟨rfl, rfl⟩ | ⟨rfl, rfl, rfl⟩
  · have h1 : ∀ i, mm [(i, some (Blk.row e z d g xs))] i = some (.row e z d g xs) := fun i => by rw [mm_cons]; unfold upd; rw [if_pos rfl]
    have h2 : ∀ i j, (mm [(i, some (Blk.row e z d g xs))] j).isSome = true → j = i := fun i j hj => by
      rw [mm_cons] at hj; unfold upd at hj
      split at hj
      · assumption
      · cases hj
    have hown : ∀ k, Own S (mm [(id1, some (Blk.row e z d g xs))]) ⟨fun _ => m1.blk id, fun _ => m1.off id, fun _ => m1.cap id⟩ k → Own S (mm [(id, some (Blk.row e z d g xs))]) m1 k := fun k hk => by
      rcases hk with hk | ⟨j, hj, hb'⟩
      · exact .inl hk
      · exact .inr ⟨id, by rw [h1]; rfl, hb'⟩
    refine ⟨v, .own id1, [(id1, some (.row e z d g xs))], ⟨fun _ => m1.blk id, fun _ => m1.off id, fun _ => m1.cap id⟩, rfl, .inl ⟨rfl, rfl⟩, ⟨⟨hb.val.1, fun n hn => ?_⟩, ⟨fun i b hbi => ?_, fun i j hi hj _ => (h2 _ _ hi).trans (h2 _ _ hj).symm, fun i hi => hb.mem.out id (by rw [h1]; rfl)⟩, fun i hi => ?_, fun i hi => (by cases hi), hb.same, hb.os, hb.tape, hb.output⟩⟩
    · refine hb.val.2 n ?_
      have e1 : rowLen (mm [(id1, some (Blk.row e z d g xs))]) id1 = some xs.length := by unfold rowLen; rw [h1]
      have e2 : rowLen (mm [(id, some (Blk.row e z d g xs))]) id = some xs.length := by unfold rowLen; rw [h1]
      rw [e2]; rw [e1] at hn; exact hn
    · have hi : i = id1 := h2 id1 i (by rw [hbi]; rfl)
      subst hi
      rw [h1] at hbi; cases hbi
      obtain ⟨hba, hcl⟩ := hb.mem.blk id _ (h1 id)
      obtain ⟨us, hu, a1, a2, a3, a4, a5, a6, a7⟩ := hba
      refine ⟨⟨us, hu, a1, a2, a3, a4, a5, a6, fun i y j c hi hj => ?_⟩, fun i hi => hi.elim⟩
      obtain ⟨u, h6, h7⟩ := a7 i y j c hi hj
      exact ⟨u, h6, h7.sub hown⟩
    · exact hb.new id (by rw [h1]; rfl)
  · exact ⟨v, _, [], m1, rfl, .inr ⟨rfl, rfl, rfl⟩, hb⟩
theorem go_ct {n : Nat} (hn : x.n = n) (htb : TbOk P tb) {k : List It} {T : Tl} {M : Ml} {f : FuncId} {ags args : List LV} {Mi : Ml} {Post : LV → Ml → Prop} {dst : Option Nat} {s : Prop} {T1 : Tl} {M1 : Ml} {k1 : List It} (fl : List Bool) (hc : Ct P f args Mi Post) (ho : run tb n 1000 T M True k = .call f ags dst s T1 M1 k1) (hs : s) (hd : dstOk n dst = true)
    (ha : argsV (mm M1) fl ags = some args) (hsub : LeM (rn []) M1 Mi) (hro : closedM Mi = true) (hdj : ∀ id ∈ dIds fl ags, id ∉ keysM Mi) (hv : dIds fl ags = [] ∨ ∀ r Mo, Post r Mo → FlatOut r Mo) (hkl : ∀ id ∈ keysM Mi, (mm Mi id).isSome = true)
    (h : ∀ r Mo, Post r Mo → newOk T1 M1 Mi Mo = true ∧ (∀ id, (mm Mo id).isSome = true → (mm Mi id).isSome = true ∨ ¬ x.lent id) ∧ (∀ id, r.on id → (mm Mo id).isSome = true) ∧ Wc P x R k1 (Ab.putd dst r T1) (Mo ++ dropM (keysM Mi) M1)) : Wc P x R k T M :=
  go hn htb ho ⟨hs, wc_ct hn hd fl hc ha hsub hro hdj hv (fun r Mo hp => ⟨(h r Mo hp).1, (h r Mo hp).2.1⟩) (fun r Mo hp => (h r Mo hp).2.2.1) hkl fun r Mo hp => (h r Mo hp).2.2.2⟩
theorem go_fresh {n : Nat} (hn : x.n = n) (htb : TbOk P tb) {k : List It} {T : Tl} {M : Ml} {f : FuncId} {ags args : List LV} {id0 : Nat} (id : Nat) {e : TypeId} {z : Nat} {α : Type} {d : α} {g : α → List C} {xs : List α} {dst : Option Nat} {s : Prop} {T1 : Tl} {M1 : Ml} {k1 : List It} (fl : List Bool) (hc : Ct P f args [] (FreshPost id0 e z d g xs)) (ho : run tb n 1000 T M True k = .call f ags dst s T1 M1 k1) (hs : s) (hd : dstOk n dst = true)
    (ha : argsV (mm M1) fl ags = some args) (hv : dIds fl ags = []) (hnew : newOk T1 M1 [] [(id, some (.row e z d g xs))] = true) (hsm : Nat.blt id 1000 = true)
    (h : Wc P x R k1 (Ab.putd dst (.own id) T1) ((id, some (.row e z d g xs)) :: M1)) (h0 : xs = [] → Wc P x R k1 (Ab.putd dst (.nil (.sl z d g [])) T1) M1) : Wc P x R k T M := by
  refine go_ct hn htb fl (fresh_id hc id) ho hs hd ha trivial rfl (fun i hi => by rw [hv] at hi; cases hi) (.inl hv) (fun i hi => by cases hi) ?_
  rintro r Mo (⟨rfl, rfl⟩ | ⟨hx, rfl, rfl⟩)
  · refine ⟨hnew, fun i hi => .inr fun hl => ?_, fun i hi => ?_, h⟩
    · have : i = id := by
        rw [mm_cons] at hi; unfold upd at hi
        split at hi
        · assumption
        · cases hi
      have h1 := x.big i hl
      have h2 : id < 1000 := Nat.blt_eq.mp hsm
      omega
    · have : id = i := hi
      subst this
      rw [mm_cons]; unfold upd; rw [if_pos rfl]; rfl
  · exact ⟨rfl, fun i hi => (by cases hi), fun i hi => hi.elim, h0 hx⟩
end
end Go.Proofs.YtjmefaihkblliaaGreat.Ab
/- The words of walks by the abstract machine. Conditions: none. -/
namespace Go.Proofs.YtjmefaihkblliaaGreat.Ab
theorem go_con {P : Program} {x : Cx} {tb : Tb} {R : Tl → Ml → Prop} {n : Nat} (hn : x.n = n) (htb : TbOk P tb) {k : List It} {T : Tl} {M : Ml} {f : FuncId} {args : List LV} {dst : Option Nat} {s : Prop} {T1 : Tl} {M1 : Ml} {k1 : List It} (ho : run tb n 1000 T M True k = .call f args dst s T1 M1 k1) (hs : s) (hd : dstOk n dst = true) (vw : List Nat)
    (h : ∃ args1 r, pureL (mm M1) args = some args1 ∧ Con P f args1 r ∧ r.isPure = true ∧ (r.flat = true ∨ ∀ id, (∃ l ∈ args, l.on2 id) → id ∈ vw) ∧ Wc P x R k1 (Ab.putd dst r T1) (dropM vw M1)) : Wc P x R k T M := by
  obtain ⟨args1, r, ha, hc, hp, hv, h⟩ := h
  exact go_call hn htb ho hs hd vw ha hc hp hv h
end Go.Proofs.YtjmefaihkblliaaGreat.Ab
/- The types of the program as Lean structures, their cells, and the table of types. Conditions: none. -/
namespace Go.Proofs.YtjmefaihkblliaaGreat.Ab
set_option linter.unusedVariables false
set_option linter.unusedSimpArgs false
set_option maxRecDepth 100000
def iC (n : Int) : List C := [.int .i64 n]
def bC (b : Bool) : List C := [.bool b]
def yC (n : Int) : List C := [.int .u8 n]
abbrev ints (l : List Int) : C := .sl 1 (0 : Int) iC l
abbrev bools (l : List Bool) : C := .sl 1 false bC l
abbrev bytes (l : List Int) : C := .sl 1 (0 : Int) yC l
@[ext] structure MCase where
  send : Bool
  chan : Int
  reg : Int
  ok : Int
  to : Int
  deriving DecidableEq
@[ext] structure MSelect where
  cases : List MCase
  els : Int
  deriving DecidableEq
@[ext] structure MInstr where
  op : Int
  a : Int
  b : Int
  c : Int
  deriving DecidableEq
@[ext] structure MProc where
  code : List MInstr
  deriving DecidableEq
@[ext] structure MProg where
  caps : List Int
  mus : Int
  sels : List MSelect
  procs : List MProc
  deriving DecidableEq
@[ext] structure MWaiter where
  g : Int
  cas : Int
  val : Int
  deriving DecidableEq
@[ext] structure MChan where
  cap : Int
  buf : List Int
  sends : List MWaiter
  recvs : List MWaiter
  closed : Bool
  deriving DecidableEq
@[ext] structure MMutex where
  owner : Int
  wait : List Int
  deriving DecidableEq
@[ext] structure MItem where
  kind : Int
  obj : Int
  val : Int
  ok : Bool
  deriving DecidableEq
@[ext] structure MGor where
  proc : Int
  pc : Int
  regs : List Int
  state : Int
  trace : List MItem
  deriving DecidableEq
@[ext] structure MEng where
  gs : List MGor
  chans : List MChan
  mus : List MMutex
  deriving DecidableEq
@[ext] structure MPlace where
  mutex : Bool
  obj : Int
  send : Bool
  w : MWaiter
  deriving DecidableEq
@[ext] structure MPick where
  g : Int
  c : Int
  deriving DecidableEq
@[ext] structure MDeed where
  g : Int
  op : Int
  obj : Int
  cas : Int
  deriving DecidableEq
def dCase : MCase := ⟨false, 0, 0, 0, 0⟩
def cCase (x : MCase) : List C := [.bool x.send, .int .i64 x.chan, .int .i64 x.reg, .int .i64 x.ok, .int .i64 x.to]
abbrev rows_Case (l : List MCase) : C := .sl 5 dCase cCase l
def dSelect : MSelect := ⟨[], 0⟩
def cSelect (x : MSelect) : List C := [rows_Case x.cases, .int .i64 x.els]
abbrev rows_Select (l : List MSelect) : C := .sl 2 dSelect cSelect l
def dInstr : MInstr := ⟨0, 0, 0, 0⟩
def cInstr (x : MInstr) : List C := [.int .i64 x.op, .int .i64 x.a, .int .i64 x.b, .int .i64 x.c]
abbrev rows_Instr (l : List MInstr) : C := .sl 4 dInstr cInstr l
def dProc : MProc := ⟨[]⟩
def cProc (x : MProc) : List C := [rows_Instr x.code]
abbrev rows_Proc (l : List MProc) : C := .sl 1 dProc cProc l
def cProg (x : MProg) : List C := [ints x.caps, .int .i64 x.mus, rows_Select x.sels, rows_Proc x.procs]
def dWaiter : MWaiter := ⟨0, 0, 0⟩
def cWaiter (x : MWaiter) : List C := [.int .i64 x.g, .int .i64 x.cas, .int .i64 x.val]
abbrev rows_Waiter (l : List MWaiter) : C := .sl 3 dWaiter cWaiter l
def dChan : MChan := ⟨0, [], [], [], false⟩
def cChan (x : MChan) : List C := [.int .i64 x.cap, ints x.buf, rows_Waiter x.sends, rows_Waiter x.recvs, .bool x.closed]
abbrev rows_Chan (l : List MChan) : C := .sl 5 dChan cChan l
def dMutex : MMutex := ⟨0, []⟩
def cMutex (x : MMutex) : List C := [.int .i64 x.owner, ints x.wait]
abbrev rows_Mutex (l : List MMutex) : C := .sl 2 dMutex cMutex l
def dItem : MItem := ⟨0, 0, 0, false⟩
def cItem (x : MItem) : List C := [.int .i64 x.kind, .int .i64 x.obj, .int .i64 x.val, .bool x.ok]
abbrev rows_Item (l : List MItem) : C := .sl 4 dItem cItem l
def dGor : MGor := ⟨0, 0, [], 0, []⟩
def cGor (x : MGor) : List C := [.int .i64 x.proc, .int .i64 x.pc, ints x.regs, .int .i64 x.state, rows_Item x.trace]
abbrev rows_Gor (l : List MGor) : C := .sl 5 dGor cGor l
def cEng (x : MEng) : List C := [rows_Gor x.gs, rows_Chan x.chans, rows_Mutex x.mus]
def dPlace : MPlace := ⟨false, 0, false, dWaiter⟩
def cPlace (x : MPlace) : List C := [.bool x.mutex, .int .i64 x.obj, .bool x.send, .int .i64 x.w.g, .int .i64 x.w.cas, .int .i64 x.w.val]
abbrev rows_Place (l : List MPlace) : C := .sl 6 dPlace cPlace l
def dPick : MPick := ⟨0, 0⟩
def cPick (x : MPick) : List C := [.int .i64 x.g, .int .i64 x.c]
abbrev rows_Pick (l : List MPick) : C := .sl 2 dPick cPick l
def dDeed : MDeed := ⟨0, 0, 0, 0⟩
def cDeed (x : MDeed) : List C := [.int .i64 x.g, .int .i64 x.op, .int .i64 x.obj, .int .i64 x.cas]
abbrev rows_Deed (l : List MDeed) : C := .sl 4 dDeed cDeed l
def tb : Tb := fun t => match t with
  | 3 => some ⟨.int .i64, 1, 8, [.int .i64 0], [.dat (.int .i64 0)], []⟩
  | 22 => some ⟨.sl 3, 1, 24, [ints []], [.nil (ints [])], []⟩
  | 4 => some ⟨.bool, 1, 1, [.bool false], [.known false], []⟩
  | 81 => some ⟨.sl 4, 1, 24, [bools []], [.nil (bools [])], []⟩
  | 5 => some ⟨.int .u8, 1, 1, [.int .u8 0], [.dat (.int .u8 0)], []⟩
  | 9 => some ⟨.str, 1, 16, [.str ⟨#[]⟩], [.dat (.str ⟨#[]⟩)], []⟩
  | 248 => some ⟨.st, 5, 40, [.bool false, .int .i64 0, .int .i64 0, .int .i64 0, .int .i64 0], [.known false, .dat (.int .i64 0), .dat (.int .i64 0), .dat (.int .i64 0), .dat (.int .i64 0)], [(0, 4), (1, 3), (2, 3), (3, 3), (4, 3)]⟩
  | 180 => some ⟨.sl 248, 1, 24, [rows_Case []], [.nil (rows_Case [])], []⟩
  | 182 => some ⟨.st, 2, 32, [rows_Case [], .int .i64 0], [.nil (rows_Case []), .dat (.int .i64 0)], [(0, 180), (1, 3)]⟩
  | 36 => some ⟨.sl 182, 1, 24, [rows_Select []], [.nil (rows_Select [])], []⟩
  | 203 => some ⟨.st, 4, 32, [.int .i64 0, .int .i64 0, .int .i64 0, .int .i64 0], [.dat (.int .i64 0), .dat (.int .i64 0), .dat (.int .i64 0), .dat (.int .i64 0)], [(0, 3), (1, 3), (2, 3), (3, 3)]⟩
  | 184 => some ⟨.sl 203, 1, 24, [rows_Instr []], [.nil (rows_Instr [])], []⟩
  | 186 => some ⟨.st, 1, 24, [rows_Instr []], [.nil (rows_Instr [])], [(0, 184)]⟩
  | 37 => some ⟨.sl 186, 1, 24, [rows_Proc []], [.nil (rows_Proc [])], []⟩
  | 39 => some ⟨.st, 4, 80, [ints [], .int .i64 0, rows_Select [], rows_Proc []], [.nil (ints []), .dat (.int .i64 0), .nil (rows_Select []), .nil (rows_Proc [])], [(0, 22), (1, 3), (2, 36), (3, 37)]⟩
  | 197 => some ⟨.st, 3, 24, [.int .i64 0, .int .i64 0, .int .i64 0], [.dat (.int .i64 0), .dat (.int .i64 0), .dat (.int .i64 0)], [(0, 3), (1, 3), (2, 3)]⟩
  | 189 => some ⟨.sl 197, 1, 24, [rows_Waiter []], [.nil (rows_Waiter [])], []⟩
  | 191 => some ⟨.st, 5, 88, [.int .i64 0, ints [], rows_Waiter [], rows_Waiter [], .bool false], [.dat (.int .i64 0), .nil (ints []), .nil (rows_Waiter []), .nil (rows_Waiter []), .known false], [(0, 3), (1, 22), (2, 189), (3, 189), (4, 4)]⟩
  | 42 => some ⟨.sl 191, 1, 24, [rows_Chan []], [.nil (rows_Chan [])], []⟩
  | 193 => some ⟨.st, 2, 32, [.int .i64 0, ints []], [.dat (.int .i64 0), .nil (ints [])], [(0, 3), (1, 22)]⟩
  | 43 => some ⟨.sl 193, 1, 24, [rows_Mutex []], [.nil (rows_Mutex [])], []⟩
  | 128 => some ⟨.st, 4, 32, [.int .i64 0, .int .i64 0, .int .i64 0, .bool false], [.dat (.int .i64 0), .dat (.int .i64 0), .dat (.int .i64 0), .known false], [(0, 3), (1, 3), (2, 3), (3, 4)]⟩
  | 125 => some ⟨.sl 128, 1, 24, [rows_Item []], [.nil (rows_Item [])], []⟩
  | 172 => some ⟨.st, 5, 72, [.int .i64 0, .int .i64 0, ints [], .int .i64 0, rows_Item []], [.dat (.int .i64 0), .dat (.int .i64 0), .nil (ints []), .dat (.int .i64 0), .nil (rows_Item [])], [(0, 3), (1, 3), (2, 22), (3, 3), (4, 125)]⟩
  | 41 => some ⟨.sl 172, 1, 24, [rows_Gor []], [.nil (rows_Gor [])], []⟩
  | 45 => some ⟨.st, 3, 72, [rows_Gor [], rows_Chan [], rows_Mutex []], [.nil (rows_Gor []), .nil (rows_Chan []), .nil (rows_Mutex [])], [(0, 41), (1, 42), (2, 43)]⟩
  | 199 => some ⟨.st, 6, 48, [.bool false, .int .i64 0, .bool false, .int .i64 0, .int .i64 0, .int .i64 0], [.known false, .dat (.int .i64 0), .known false, .dat (.int .i64 0), .dat (.int .i64 0), .dat (.int .i64 0)], [(0, 4), (1, 3), (2, 4), (3, 197)]⟩
  | 170 => some ⟨.sl 199, 1, 24, [rows_Place []], [.nil (rows_Place [])], []⟩
  | 101 => some ⟨.st, 2, 16, [.int .i64 0, .int .i64 0], [.dat (.int .i64 0), .dat (.int .i64 0)], [(0, 3), (1, 3)]⟩
  | 34 => some ⟨.sl 101, 1, 24, [rows_Pick []], [.nil (rows_Pick [])], []⟩
  | 144 => some ⟨.st, 4, 32, [.int .i64 0, .int .i64 0, .int .i64 0, .int .i64 0], [.dat (.int .i64 0), .dat (.int .i64 0), .dat (.int .i64 0), .dat (.int .i64 0)], [(0, 3), (1, 3), (2, 3), (3, 3)]⟩
  | 80 => some ⟨.sl 144, 1, 24, [rows_Deed []], [.nil (rows_Deed [])], []⟩
  | 269 => some ⟨.st, 5, 40, [.bool false, .int .i64 0, .int .i64 0, .int .i64 0, .int .i64 0], [.known false, .dat (.int .i64 0), .dat (.int .i64 0), .dat (.int .i64 0), .dat (.int .i64 0)], [(0, 4), (1, 3), (2, 3), (3, 3), (4, 3)]⟩
  | 152 => some ⟨.sl 269, 1, 24, [rows_Case []], [.nil (rows_Case [])], []⟩
  | 154 => some ⟨.st, 2, 32, [rows_Case [], .int .i64 0], [.nil (rows_Case []), .dat (.int .i64 0)], [(0, 152), (1, 3)]⟩
  | 23 => some ⟨.sl 154, 1, 24, [rows_Select []], [.nil (rows_Select [])], []⟩
  | 271 => some ⟨.st, 4, 32, [.int .i64 0, .int .i64 0, .int .i64 0, .int .i64 0], [.dat (.int .i64 0), .dat (.int .i64 0), .dat (.int .i64 0), .dat (.int .i64 0)], [(0, 3), (1, 3), (2, 3), (3, 3)]⟩
  | 156 => some ⟨.sl 271, 1, 24, [rows_Instr []], [.nil (rows_Instr [])], []⟩
  | 158 => some ⟨.st, 1, 24, [rows_Instr []], [.nil (rows_Instr [])], [(0, 156)]⟩
  | 24 => some ⟨.sl 158, 1, 24, [rows_Proc []], [.nil (rows_Proc [])], []⟩
  | 26 => some ⟨.st, 4, 80, [ints [], .int .i64 0, rows_Select [], rows_Proc []], [.nil (ints []), .dat (.int .i64 0), .nil (rows_Select []), .nil (rows_Proc [])], [(0, 22), (1, 3), (2, 23), (3, 24)]⟩
  | 275 => some ⟨.st, 3, 24, [.int .i64 0, .int .i64 0, .int .i64 0], [.dat (.int .i64 0), .dat (.int .i64 0), .dat (.int .i64 0)], [(0, 3), (1, 3), (2, 3)]⟩
  | 164 => some ⟨.sl 275, 1, 24, [rows_Waiter []], [.nil (rows_Waiter [])], []⟩
  | 166 => some ⟨.st, 5, 88, [.int .i64 0, ints [], rows_Waiter [], rows_Waiter [], .bool false], [.dat (.int .i64 0), .nil (ints []), .nil (rows_Waiter []), .nil (rows_Waiter []), .known false], [(0, 3), (1, 22), (2, 164), (3, 164), (4, 4)]⟩
  | 28 => some ⟨.sl 166, 1, 24, [rows_Chan []], [.nil (rows_Chan [])], []⟩
  | 169 => some ⟨.st, 2, 32, [.int .i64 0, ints []], [.dat (.int .i64 0), .nil (ints [])], [(0, 3), (1, 22)]⟩
  | 29 => some ⟨.sl 169, 1, 24, [rows_Mutex []], [.nil (rows_Mutex [])], []⟩
  | 273 => some ⟨.st, 4, 32, [.int .i64 0, .int .i64 0, .int .i64 0, .bool false], [.dat (.int .i64 0), .dat (.int .i64 0), .dat (.int .i64 0), .known false], [(0, 3), (1, 3), (2, 3), (3, 4)]⟩
  | 160 => some ⟨.sl 273, 1, 24, [rows_Item []], [.nil (rows_Item [])], []⟩
  | 162 => some ⟨.st, 5, 72, [.int .i64 0, .int .i64 0, ints [], .int .i64 0, rows_Item []], [.dat (.int .i64 0), .dat (.int .i64 0), .nil (ints []), .dat (.int .i64 0), .nil (rows_Item [])], [(0, 3), (1, 3), (2, 22), (3, 3), (4, 160)]⟩
  | 27 => some ⟨.sl 162, 1, 24, [rows_Gor []], [.nil (rows_Gor [])], []⟩
  | 31 => some ⟨.st, 3, 72, [rows_Gor [], rows_Chan [], rows_Mutex []], [.nil (rows_Gor []), .nil (rows_Chan []), .nil (rows_Mutex [])], [(0, 27), (1, 28), (2, 29)]⟩
  | 124 => some ⟨.st, 2, 16, [.int .i64 0, .int .i64 0], [.dat (.int .i64 0), .dat (.int .i64 0)], [(0, 3), (1, 3)]⟩
  | 54 => some ⟨.sl 124, 1, 24, [rows_Pick []], [.nil (rows_Pick [])], []⟩
  | 146 => some ⟨.st, 4, 32, [.int .i64 0, .int .i64 0, .int .i64 0, .int .i64 0], [.dat (.int .i64 0), .dat (.int .i64 0), .dat (.int .i64 0), .dat (.int .i64 0)], [(0, 3), (1, 3), (2, 3), (3, 3)]⟩
  | 78 => some ⟨.sl 146, 1, 24, [rows_Deed []], [.nil (rows_Deed [])], []⟩
  | _ => none
theorem ty_3 : TyOk Tryz.prog 3 ⟨.int .i64, 1, 8, [.int .i64 0], [.dat (.int .i64 0)], []⟩ := ty_ok (.int .i64 0) (by kernel_rfl) (by kernel_rfl) rfl (fun h => by cases h) (by decide) ⟨rfl, rfl, by simp [zOk]⟩ (fun _ => rfl)
theorem ty_22 : TyOk Tryz.prog 22 ⟨.sl 3, 1, 24, [ints []], [.nil (ints [])], []⟩ := ty_ok (.slice none 0 0) (by kernel_rfl) (by kernel_rfl) rfl (fun h => by cases h) (by decide) ⟨rfl, rfl, by simp [zOk]⟩ (fun _ => rfl)
theorem ty_4 : TyOk Tryz.prog 4 ⟨.bool, 1, 1, [.bool false], [.known false], []⟩ := ty_ok (.bool false) (by kernel_rfl) (by kernel_rfl) rfl (fun h => by cases h) (by decide) ⟨rfl, rfl, by simp [zOk]⟩ (fun _ => rfl)
theorem ty_81 : TyOk Tryz.prog 81 ⟨.sl 4, 1, 24, [bools []], [.nil (bools [])], []⟩ := ty_ok (.slice none 0 0) (by kernel_rfl) (by kernel_rfl) rfl (fun h => by cases h) (by decide) ⟨rfl, rfl, by simp [zOk]⟩ (fun _ => rfl)
theorem ty_5 : TyOk Tryz.prog 5 ⟨.int .u8, 1, 1, [.int .u8 0], [.dat (.int .u8 0)], []⟩ := ty_ok (.int .u8 0) (by kernel_rfl) (by kernel_rfl) rfl (fun h => by cases h) (by decide) ⟨rfl, rfl, by simp [zOk]⟩ (fun _ => rfl)
theorem ty_9 : TyOk Tryz.prog 9 ⟨.str, 1, 16, [.str ⟨#[]⟩], [.dat (.str ⟨#[]⟩)], []⟩ := ty_ok (.string ⟨#[]⟩) (by kernel_rfl) (by kernel_rfl) rfl (fun h => by cases h) (by decide) ⟨rfl, rfl, by simp [zOk]⟩ (fun _ => rfl)
theorem ty_248 : TyOk Tryz.prog 248 ⟨.st, 5, 40, [.bool false, .int .i64 0, .int .i64 0, .int .i64 0, .int .i64 0], [.known false, .dat (.int .i64 0), .dat (.int .i64 0), .dat (.int .i64 0), .dat (.int .i64 0)], [(0, 4), (1, 3), (2, 3), (3, 3), (4, 3)]⟩ := ty_ok (.agg #[.bool false, .int .i64 0, .int .i64 0, .int .i64 0, .int .i64 0]) (by kernel_rfl) (by kernel_rfl) rfl (fun h => rfl) (by decide) ⟨rfl, rfl, by simp [zOk]⟩ (fun h => by cases h)
theorem ty_180 : TyOk Tryz.prog 180 ⟨.sl 248, 1, 24, [rows_Case []], [.nil (rows_Case [])], []⟩ := ty_ok (.slice none 0 0) (by kernel_rfl) (by kernel_rfl) rfl (fun h => by cases h) (by decide) ⟨rfl, rfl, by simp [zOk]⟩ (fun _ => rfl)
theorem ty_182 : TyOk Tryz.prog 182 ⟨.st, 2, 32, [rows_Case [], .int .i64 0], [.nil (rows_Case []), .dat (.int .i64 0)], [(0, 180), (1, 3)]⟩ := ty_ok (.agg #[.slice none 0 0, .int .i64 0]) (by kernel_rfl) (by kernel_rfl) rfl (fun h => rfl) (by decide) ⟨rfl, rfl, by simp [zOk]⟩ (fun h => by cases h)
theorem ty_36 : TyOk Tryz.prog 36 ⟨.sl 182, 1, 24, [rows_Select []], [.nil (rows_Select [])], []⟩ := ty_ok (.slice none 0 0) (by kernel_rfl) (by kernel_rfl) rfl (fun h => by cases h) (by decide) ⟨rfl, rfl, by simp [zOk]⟩ (fun _ => rfl)
theorem ty_203 : TyOk Tryz.prog 203 ⟨.st, 4, 32, [.int .i64 0, .int .i64 0, .int .i64 0, .int .i64 0], [.dat (.int .i64 0), .dat (.int .i64 0), .dat (.int .i64 0), .dat (.int .i64 0)], [(0, 3), (1, 3), (2, 3), (3, 3)]⟩ := ty_ok (.agg #[.int .i64 0, .int .i64 0, .int .i64 0, .int .i64 0]) (by kernel_rfl) (by kernel_rfl) rfl (fun h => rfl) (by decide) ⟨rfl, rfl, by simp [zOk]⟩ (fun h => by cases h)
theorem ty_184 : TyOk Tryz.prog 184 ⟨.sl 203, 1, 24, [rows_Instr []], [.nil (rows_Instr [])], []⟩ := ty_ok (.slice none 0 0) (by kernel_rfl) (by kernel_rfl) rfl (fun h => by cases h) (by decide) ⟨rfl, rfl, by simp [zOk]⟩ (fun _ => rfl)
theorem ty_186 : TyOk Tryz.prog 186 ⟨.st, 1, 24, [rows_Instr []], [.nil (rows_Instr [])], [(0, 184)]⟩ := ty_ok (.agg #[.slice none 0 0]) (by kernel_rfl) (by kernel_rfl) rfl (fun h => rfl) (by decide) ⟨rfl, rfl, by simp [zOk]⟩ (fun h => by cases h)
theorem ty_37 : TyOk Tryz.prog 37 ⟨.sl 186, 1, 24, [rows_Proc []], [.nil (rows_Proc [])], []⟩ := ty_ok (.slice none 0 0) (by kernel_rfl) (by kernel_rfl) rfl (fun h => by cases h) (by decide) ⟨rfl, rfl, by simp [zOk]⟩ (fun _ => rfl)
theorem ty_39 : TyOk Tryz.prog 39 ⟨.st, 4, 80, [ints [], .int .i64 0, rows_Select [], rows_Proc []], [.nil (ints []), .dat (.int .i64 0), .nil (rows_Select []), .nil (rows_Proc [])], [(0, 22), (1, 3), (2, 36), (3, 37)]⟩ := ty_ok (.agg #[.slice none 0 0, .int .i64 0, .slice none 0 0, .slice none 0 0]) (by kernel_rfl) (by kernel_rfl) rfl (fun h => rfl) (by decide) ⟨rfl, rfl, by simp [zOk]⟩ (fun h => by cases h)
theorem ty_197 : TyOk Tryz.prog 197 ⟨.st, 3, 24, [.int .i64 0, .int .i64 0, .int .i64 0], [.dat (.int .i64 0), .dat (.int .i64 0), .dat (.int .i64 0)], [(0, 3), (1, 3), (2, 3)]⟩ := ty_ok (.agg #[.int .i64 0, .int .i64 0, .int .i64 0]) (by kernel_rfl) (by kernel_rfl) rfl (fun h => rfl) (by decide) ⟨rfl, rfl, by simp [zOk]⟩ (fun h => by cases h)
theorem ty_189 : TyOk Tryz.prog 189 ⟨.sl 197, 1, 24, [rows_Waiter []], [.nil (rows_Waiter [])], []⟩ := ty_ok (.slice none 0 0) (by kernel_rfl) (by kernel_rfl) rfl (fun h => by cases h) (by decide) ⟨rfl, rfl, by simp [zOk]⟩ (fun _ => rfl)
theorem ty_191 : TyOk Tryz.prog 191 ⟨.st, 5, 88, [.int .i64 0, ints [], rows_Waiter [], rows_Waiter [], .bool false], [.dat (.int .i64 0), .nil (ints []), .nil (rows_Waiter []), .nil (rows_Waiter []), .known false], [(0, 3), (1, 22), (2, 189), (3, 189), (4, 4)]⟩ := ty_ok (.agg #[.int .i64 0, .slice none 0 0, .slice none 0 0, .slice none 0 0, .bool false]) (by kernel_rfl) (by kernel_rfl) rfl (fun h => rfl) (by decide) ⟨rfl, rfl, by simp [zOk]⟩ (fun h => by cases h)
theorem ty_42 : TyOk Tryz.prog 42 ⟨.sl 191, 1, 24, [rows_Chan []], [.nil (rows_Chan [])], []⟩ := ty_ok (.slice none 0 0) (by kernel_rfl) (by kernel_rfl) rfl (fun h => by cases h) (by decide) ⟨rfl, rfl, by simp [zOk]⟩ (fun _ => rfl)
theorem ty_193 : TyOk Tryz.prog 193 ⟨.st, 2, 32, [.int .i64 0, ints []], [.dat (.int .i64 0), .nil (ints [])], [(0, 3), (1, 22)]⟩ := ty_ok (.agg #[.int .i64 0, .slice none 0 0]) (by kernel_rfl) (by kernel_rfl) rfl (fun h => rfl) (by decide) ⟨rfl, rfl, by simp [zOk]⟩ (fun h => by cases h)
theorem ty_43 : TyOk Tryz.prog 43 ⟨.sl 193, 1, 24, [rows_Mutex []], [.nil (rows_Mutex [])], []⟩ := ty_ok (.slice none 0 0) (by kernel_rfl) (by kernel_rfl) rfl (fun h => by cases h) (by decide) ⟨rfl, rfl, by simp [zOk]⟩ (fun _ => rfl)
theorem ty_128 : TyOk Tryz.prog 128 ⟨.st, 4, 32, [.int .i64 0, .int .i64 0, .int .i64 0, .bool false], [.dat (.int .i64 0), .dat (.int .i64 0), .dat (.int .i64 0), .known false], [(0, 3), (1, 3), (2, 3), (3, 4)]⟩ := ty_ok (.agg #[.int .i64 0, .int .i64 0, .int .i64 0, .bool false]) (by kernel_rfl) (by kernel_rfl) rfl (fun h => rfl) (by decide) ⟨rfl, rfl, by simp [zOk]⟩ (fun h => by cases h)
theorem ty_125 : TyOk Tryz.prog 125 ⟨.sl 128, 1, 24, [rows_Item []], [.nil (rows_Item [])], []⟩ := ty_ok (.slice none 0 0) (by kernel_rfl) (by kernel_rfl) rfl (fun h => by cases h) (by decide) ⟨rfl, rfl, by simp [zOk]⟩ (fun _ => rfl)
theorem ty_172 : TyOk Tryz.prog 172 ⟨.st, 5, 72, [.int .i64 0, .int .i64 0, ints [], .int .i64 0, rows_Item []], [.dat (.int .i64 0), .dat (.int .i64 0), .nil (ints []), .dat (.int .i64 0), .nil (rows_Item [])], [(0, 3), (1, 3), (2, 22), (3, 3), (4, 125)]⟩ := ty_ok (.agg #[.int .i64 0, .int .i64 0, .slice none 0 0, .int .i64 0, .slice none 0 0]) (by kernel_rfl) (by kernel_rfl) rfl (fun h => rfl) (by decide) ⟨rfl, rfl, by simp [zOk]⟩ (fun h => by cases h)
theorem ty_41 : TyOk Tryz.prog 41 ⟨.sl 172, 1, 24, [rows_Gor []], [.nil (rows_Gor [])], []⟩ := ty_ok (.slice none 0 0) (by kernel_rfl) (by kernel_rfl) rfl (fun h => by cases h) (by decide) ⟨rfl, rfl, by simp [zOk]⟩ (fun _ => rfl)
theorem ty_45 : TyOk Tryz.prog 45 ⟨.st, 3, 72, [rows_Gor [], rows_Chan [], rows_Mutex []], [.nil (rows_Gor []), .nil (rows_Chan []), .nil (rows_Mutex [])], [(0, 41), (1, 42), (2, 43)]⟩ := ty_ok (.agg #[.slice none 0 0, .slice none 0 0, .slice none 0 0]) (by kernel_rfl) (by kernel_rfl) rfl (fun h => rfl) (by decide) ⟨rfl, rfl, by simp [zOk]⟩ (fun h => by cases h)
theorem ty_199 : TyOk Tryz.prog 199 ⟨.st, 6, 48, [.bool false, .int .i64 0, .bool false, .int .i64 0, .int .i64 0, .int .i64 0], [.known false, .dat (.int .i64 0), .known false, .dat (.int .i64 0), .dat (.int .i64 0), .dat (.int .i64 0)], [(0, 4), (1, 3), (2, 4), (3, 197)]⟩ := ty_ok (.agg #[.bool false, .int .i64 0, .bool false, .int .i64 0, .int .i64 0, .int .i64 0]) (by kernel_rfl) (by kernel_rfl) rfl (fun h => rfl) (by decide) ⟨rfl, rfl, by simp [zOk]⟩ (fun h => by cases h)
theorem ty_170 : TyOk Tryz.prog 170 ⟨.sl 199, 1, 24, [rows_Place []], [.nil (rows_Place [])], []⟩ := ty_ok (.slice none 0 0) (by kernel_rfl) (by kernel_rfl) rfl (fun h => by cases h) (by decide) ⟨rfl, rfl, by simp [zOk]⟩ (fun _ => rfl)
theorem ty_101 : TyOk Tryz.prog 101 ⟨.st, 2, 16, [.int .i64 0, .int .i64 0], [.dat (.int .i64 0), .dat (.int .i64 0)], [(0, 3), (1, 3)]⟩ := ty_ok (.agg #[.int .i64 0, .int .i64 0]) (by kernel_rfl) (by kernel_rfl) rfl (fun h => rfl) (by decide) ⟨rfl, rfl, by simp [zOk]⟩ (fun h => by cases h)
theorem ty_34 : TyOk Tryz.prog 34 ⟨.sl 101, 1, 24, [rows_Pick []], [.nil (rows_Pick [])], []⟩ := ty_ok (.slice none 0 0) (by kernel_rfl) (by kernel_rfl) rfl (fun h => by cases h) (by decide) ⟨rfl, rfl, by simp [zOk]⟩ (fun _ => rfl)
theorem ty_144 : TyOk Tryz.prog 144 ⟨.st, 4, 32, [.int .i64 0, .int .i64 0, .int .i64 0, .int .i64 0], [.dat (.int .i64 0), .dat (.int .i64 0), .dat (.int .i64 0), .dat (.int .i64 0)], [(0, 3), (1, 3), (2, 3), (3, 3)]⟩ := ty_ok (.agg #[.int .i64 0, .int .i64 0, .int .i64 0, .int .i64 0]) (by kernel_rfl) (by kernel_rfl) rfl (fun h => rfl) (by decide) ⟨rfl, rfl, by simp [zOk]⟩ (fun h => by cases h)
theorem ty_80 : TyOk Tryz.prog 80 ⟨.sl 144, 1, 24, [rows_Deed []], [.nil (rows_Deed [])], []⟩ := ty_ok (.slice none 0 0) (by kernel_rfl) (by kernel_rfl) rfl (fun h => by cases h) (by decide) ⟨rfl, rfl, by simp [zOk]⟩ (fun _ => rfl)
theorem ty_269 : TyOk Tryz.prog 269 ⟨.st, 5, 40, [.bool false, .int .i64 0, .int .i64 0, .int .i64 0, .int .i64 0], [.known false, .dat (.int .i64 0), .dat (.int .i64 0), .dat (.int .i64 0), .dat (.int .i64 0)], [(0, 4), (1, 3), (2, 3), (3, 3), (4, 3)]⟩ := ty_ok (.agg #[.bool false, .int .i64 0, .int .i64 0, .int .i64 0, .int .i64 0]) (by kernel_rfl) (by kernel_rfl) rfl (fun h => rfl) (by decide) ⟨rfl, rfl, by simp [zOk]⟩ (fun h => by cases h)
theorem ty_152 : TyOk Tryz.prog 152 ⟨.sl 269, 1, 24, [rows_Case []], [.nil (rows_Case [])], []⟩ := ty_ok (.slice none 0 0) (by kernel_rfl) (by kernel_rfl) rfl (fun h => by cases h) (by decide) ⟨rfl, rfl, by simp [zOk]⟩ (fun _ => rfl)
theorem ty_154 : TyOk Tryz.prog 154 ⟨.st, 2, 32, [rows_Case [], .int .i64 0], [.nil (rows_Case []), .dat (.int .i64 0)], [(0, 152), (1, 3)]⟩ := ty_ok (.agg #[.slice none 0 0, .int .i64 0]) (by kernel_rfl) (by kernel_rfl) rfl (fun h => rfl) (by decide) ⟨rfl, rfl, by simp [zOk]⟩ (fun h => by cases h)
theorem ty_23 : TyOk Tryz.prog 23 ⟨.sl 154, 1, 24, [rows_Select []], [.nil (rows_Select [])], []⟩ := ty_ok (.slice none 0 0) (by kernel_rfl) (by kernel_rfl) rfl (fun h => by cases h) (by decide) ⟨rfl, rfl, by simp [zOk]⟩ (fun _ => rfl)
theorem ty_271 : TyOk Tryz.prog 271 ⟨.st, 4, 32, [.int .i64 0, .int .i64 0, .int .i64 0, .int .i64 0], [.dat (.int .i64 0), .dat (.int .i64 0), .dat (.int .i64 0), .dat (.int .i64 0)], [(0, 3), (1, 3), (2, 3), (3, 3)]⟩ := ty_ok (.agg #[.int .i64 0, .int .i64 0, .int .i64 0, .int .i64 0]) (by kernel_rfl) (by kernel_rfl) rfl (fun h => rfl) (by decide) ⟨rfl, rfl, by simp [zOk]⟩ (fun h => by cases h)
theorem ty_156 : TyOk Tryz.prog 156 ⟨.sl 271, 1, 24, [rows_Instr []], [.nil (rows_Instr [])], []⟩ := ty_ok (.slice none 0 0) (by kernel_rfl) (by kernel_rfl) rfl (fun h => by cases h) (by decide) ⟨rfl, rfl, by simp [zOk]⟩ (fun _ => rfl)
theorem ty_158 : TyOk Tryz.prog 158 ⟨.st, 1, 24, [rows_Instr []], [.nil (rows_Instr [])], [(0, 156)]⟩ := ty_ok (.agg #[.slice none 0 0]) (by kernel_rfl) (by kernel_rfl) rfl (fun h => rfl) (by decide) ⟨rfl, rfl, by simp [zOk]⟩ (fun h => by cases h)
theorem ty_24 : TyOk Tryz.prog 24 ⟨.sl 158, 1, 24, [rows_Proc []], [.nil (rows_Proc [])], []⟩ := ty_ok (.slice none 0 0) (by kernel_rfl) (by kernel_rfl) rfl (fun h => by cases h) (by decide) ⟨rfl, rfl, by simp [zOk]⟩ (fun _ => rfl)
theorem ty_26 : TyOk Tryz.prog 26 ⟨.st, 4, 80, [ints [], .int .i64 0, rows_Select [], rows_Proc []], [.nil (ints []), .dat (.int .i64 0), .nil (rows_Select []), .nil (rows_Proc [])], [(0, 22), (1, 3), (2, 23), (3, 24)]⟩ := ty_ok (.agg #[.slice none 0 0, .int .i64 0, .slice none 0 0, .slice none 0 0]) (by kernel_rfl) (by kernel_rfl) rfl (fun h => rfl) (by decide) ⟨rfl, rfl, by simp [zOk]⟩ (fun h => by cases h)
theorem ty_275 : TyOk Tryz.prog 275 ⟨.st, 3, 24, [.int .i64 0, .int .i64 0, .int .i64 0], [.dat (.int .i64 0), .dat (.int .i64 0), .dat (.int .i64 0)], [(0, 3), (1, 3), (2, 3)]⟩ := ty_ok (.agg #[.int .i64 0, .int .i64 0, .int .i64 0]) (by kernel_rfl) (by kernel_rfl) rfl (fun h => rfl) (by decide) ⟨rfl, rfl, by simp [zOk]⟩ (fun h => by cases h)
theorem ty_164 : TyOk Tryz.prog 164 ⟨.sl 275, 1, 24, [rows_Waiter []], [.nil (rows_Waiter [])], []⟩ := ty_ok (.slice none 0 0) (by kernel_rfl) (by kernel_rfl) rfl (fun h => by cases h) (by decide) ⟨rfl, rfl, by simp [zOk]⟩ (fun _ => rfl)
theorem ty_166 : TyOk Tryz.prog 166 ⟨.st, 5, 88, [.int .i64 0, ints [], rows_Waiter [], rows_Waiter [], .bool false], [.dat (.int .i64 0), .nil (ints []), .nil (rows_Waiter []), .nil (rows_Waiter []), .known false], [(0, 3), (1, 22), (2, 164), (3, 164), (4, 4)]⟩ := ty_ok (.agg #[.int .i64 0, .slice none 0 0, .slice none 0 0, .slice none 0 0, .bool false]) (by kernel_rfl) (by kernel_rfl) rfl (fun h => rfl) (by decide) ⟨rfl, rfl, by simp [zOk]⟩ (fun h => by cases h)
theorem ty_28 : TyOk Tryz.prog 28 ⟨.sl 166, 1, 24, [rows_Chan []], [.nil (rows_Chan [])], []⟩ := ty_ok (.slice none 0 0) (by kernel_rfl) (by kernel_rfl) rfl (fun h => by cases h) (by decide) ⟨rfl, rfl, by simp [zOk]⟩ (fun _ => rfl)
theorem ty_169 : TyOk Tryz.prog 169 ⟨.st, 2, 32, [.int .i64 0, ints []], [.dat (.int .i64 0), .nil (ints [])], [(0, 3), (1, 22)]⟩ := ty_ok (.agg #[.int .i64 0, .slice none 0 0]) (by kernel_rfl) (by kernel_rfl) rfl (fun h => rfl) (by decide) ⟨rfl, rfl, by simp [zOk]⟩ (fun h => by cases h)
theorem ty_29 : TyOk Tryz.prog 29 ⟨.sl 169, 1, 24, [rows_Mutex []], [.nil (rows_Mutex [])], []⟩ := ty_ok (.slice none 0 0) (by kernel_rfl) (by kernel_rfl) rfl (fun h => by cases h) (by decide) ⟨rfl, rfl, by simp [zOk]⟩ (fun _ => rfl)
theorem ty_273 : TyOk Tryz.prog 273 ⟨.st, 4, 32, [.int .i64 0, .int .i64 0, .int .i64 0, .bool false], [.dat (.int .i64 0), .dat (.int .i64 0), .dat (.int .i64 0), .known false], [(0, 3), (1, 3), (2, 3), (3, 4)]⟩ := ty_ok (.agg #[.int .i64 0, .int .i64 0, .int .i64 0, .bool false]) (by kernel_rfl) (by kernel_rfl) rfl (fun h => rfl) (by decide) ⟨rfl, rfl, by simp [zOk]⟩ (fun h => by cases h)
theorem ty_160 : TyOk Tryz.prog 160 ⟨.sl 273, 1, 24, [rows_Item []], [.nil (rows_Item [])], []⟩ := ty_ok (.slice none 0 0) (by kernel_rfl) (by kernel_rfl) rfl (fun h => by cases h) (by decide) ⟨rfl, rfl, by simp [zOk]⟩ (fun _ => rfl)
theorem ty_162 : TyOk Tryz.prog 162 ⟨.st, 5, 72, [.int .i64 0, .int .i64 0, ints [], .int .i64 0, rows_Item []], [.dat (.int .i64 0), .dat (.int .i64 0), .nil (ints []), .dat (.int .i64 0), .nil (rows_Item [])], [(0, 3), (1, 3), (2, 22), (3, 3), (4, 160)]⟩ := ty_ok (.agg #[.int .i64 0, .int .i64 0, .slice none 0 0, .int .i64 0, .slice none 0 0]) (by kernel_rfl) (by kernel_rfl) rfl (fun h => rfl) (by decide) ⟨rfl, rfl, by simp [zOk]⟩ (fun h => by cases h)
theorem ty_27 : TyOk Tryz.prog 27 ⟨.sl 162, 1, 24, [rows_Gor []], [.nil (rows_Gor [])], []⟩ := ty_ok (.slice none 0 0) (by kernel_rfl) (by kernel_rfl) rfl (fun h => by cases h) (by decide) ⟨rfl, rfl, by simp [zOk]⟩ (fun _ => rfl)
theorem ty_31 : TyOk Tryz.prog 31 ⟨.st, 3, 72, [rows_Gor [], rows_Chan [], rows_Mutex []], [.nil (rows_Gor []), .nil (rows_Chan []), .nil (rows_Mutex [])], [(0, 27), (1, 28), (2, 29)]⟩ := ty_ok (.agg #[.slice none 0 0, .slice none 0 0, .slice none 0 0]) (by kernel_rfl) (by kernel_rfl) rfl (fun h => rfl) (by decide) ⟨rfl, rfl, by simp [zOk]⟩ (fun h => by cases h)
theorem ty_124 : TyOk Tryz.prog 124 ⟨.st, 2, 16, [.int .i64 0, .int .i64 0], [.dat (.int .i64 0), .dat (.int .i64 0)], [(0, 3), (1, 3)]⟩ := ty_ok (.agg #[.int .i64 0, .int .i64 0]) (by kernel_rfl) (by kernel_rfl) rfl (fun h => rfl) (by decide) ⟨rfl, rfl, by simp [zOk]⟩ (fun h => by cases h)
theorem ty_54 : TyOk Tryz.prog 54 ⟨.sl 124, 1, 24, [rows_Pick []], [.nil (rows_Pick [])], []⟩ := ty_ok (.slice none 0 0) (by kernel_rfl) (by kernel_rfl) rfl (fun h => by cases h) (by decide) ⟨rfl, rfl, by simp [zOk]⟩ (fun _ => rfl)
theorem ty_146 : TyOk Tryz.prog 146 ⟨.st, 4, 32, [.int .i64 0, .int .i64 0, .int .i64 0, .int .i64 0], [.dat (.int .i64 0), .dat (.int .i64 0), .dat (.int .i64 0), .dat (.int .i64 0)], [(0, 3), (1, 3), (2, 3), (3, 3)]⟩ := ty_ok (.agg #[.int .i64 0, .int .i64 0, .int .i64 0, .int .i64 0]) (by kernel_rfl) (by kernel_rfl) rfl (fun h => rfl) (by decide) ⟨rfl, rfl, by simp [zOk]⟩ (fun h => by cases h)
theorem ty_78 : TyOk Tryz.prog 78 ⟨.sl 146, 1, 24, [rows_Deed []], [.nil (rows_Deed [])], []⟩ := ty_ok (.slice none 0 0) (by kernel_rfl) (by kernel_rfl) rfl (fun h => by cases h) (by decide) ⟨rfl, rfl, by simp [zOk]⟩ (fun _ => rfl)
theorem tb_ok : TbOk Tryz.prog tb := by
  intro t y h
  unfold tb at h
  split at h <;> first
    | cases h; done
    | (cases h; exact ty_3)
    | (cases h; exact ty_22)
    | (cases h; exact ty_4)
    | (cases h; exact ty_81)
    | (cases h; exact ty_5)
    | (cases h; exact ty_9)
    | (cases h; exact ty_248)
    | (cases h; exact ty_180)
    | (cases h; exact ty_182)
    | (cases h; exact ty_36)
    | (cases h; exact ty_203)
    | (cases h; exact ty_184)
    | (cases h; exact ty_186)
    | (cases h; exact ty_37)
    | (cases h; exact ty_39)
    | (cases h; exact ty_197)
    | (cases h; exact ty_189)
    | (cases h; exact ty_191)
    | (cases h; exact ty_42)
    | (cases h; exact ty_193)
    | (cases h; exact ty_43)
    | (cases h; exact ty_128)
    | (cases h; exact ty_125)
    | (cases h; exact ty_172)
    | (cases h; exact ty_41)
    | (cases h; exact ty_45)
    | (cases h; exact ty_199)
    | (cases h; exact ty_170)
    | (cases h; exact ty_101)
    | (cases h; exact ty_34)
    | (cases h; exact ty_144)
    | (cases h; exact ty_80)
    | (cases h; exact ty_269)
    | (cases h; exact ty_152)
    | (cases h; exact ty_154)
    | (cases h; exact ty_23)
    | (cases h; exact ty_271)
    | (cases h; exact ty_156)
    | (cases h; exact ty_158)
    | (cases h; exact ty_24)
    | (cases h; exact ty_26)
    | (cases h; exact ty_275)
    | (cases h; exact ty_164)
    | (cases h; exact ty_166)
    | (cases h; exact ty_28)
    | (cases h; exact ty_169)
    | (cases h; exact ty_29)
    | (cases h; exact ty_273)
    | (cases h; exact ty_160)
    | (cases h; exact ty_162)
    | (cases h; exact ty_27)
    | (cases h; exact ty_31)
    | (cases h; exact ty_124)
    | (cases h; exact ty_54)
    | (cases h; exact ty_146)
    | (cases h; exact ty_78)
end Go.Proofs.YtjmefaihkblliaaGreat.Ab
/- Programs and engines: how they lie in memory. Conditions: none. -/
namespace Go.Proofs.YtjmefaihkblliaaGreat.Wd
open Go.RowKit
open Go.Proofs.YtjmefaihkblliaaGreat.Ab (MCase MSelect MInstr MProc MProg MWaiter MChan MMutex MItem MGor MEng MPick)
set_option linter.unusedVariables false
set_option linter.unusedSimpArgs false
set_option maxHeartbeats 4000000
set_option maxRecDepth 100000
theorem int_at {w : World} {A : Option Addr} {xs : List Int} (h : Rp.int.Row w A xs) {i : Nat} (hi : i < xs.length) :
    ∃ b o, A = some ⟨b, o, none⟩ ∧ w.cell? ⟨b, o + i, none⟩ = some (.int .i64 xs[i]) := by
  obtain ⟨b, o, rfl, hc⟩ := h.2 (by rintro rfl; simp at hi)
  obtain ⟨cx, hk, hcc⟩ := hc i _ (List.getElem?_eq_getElem hi)
  obtain rfl : cx = _ := hk
  have := hcc 0 _ rfl
  simp only [Rp.int, Rp.scalar, Nat.mul_one, Nat.add_zero] at this
  exact ⟨b, o, rfl, this⟩
def kCase : Rp MCase := Rp.iso (Rp.pair Rp.bool (Rp.pair Rp.int (Rp.pair Rp.int (Rp.pair Rp.int Rp.int)))) (fun x => (x.send, x.chan, x.reg, x.ok, x.to))
theorem kCase_K {w : World} {x : MCase} {cs : List Value} (h : kCase.K w x cs) : cs = [.bool x.send, .int .i64 x.chan, .int .i64 x.reg, .int .i64 x.ok, .int .i64 x.to] := by
  obtain ⟨_, _, rfl, rfl, ⟨_, _, rfl, rfl, ⟨_, _, rfl, rfl, ⟨_, _, rfl, rfl, rfl⟩⟩⟩⟩ := h
  exact rfl
theorem kCase_mk (w : World) (x : MCase) : kCase.K w x [.bool x.send, .int .i64 x.chan, .int .i64 x.reg, .int .i64 x.ok, .int .i64 x.to] := ⟨_, _, rfl, rfl, ⟨_, _, rfl, rfl, ⟨_, _, rfl, rfl, ⟨_, _, rfl, rfl, rfl⟩⟩⟩⟩
theorem kCase_O {w : World} {bs : List Nat} {x : MCase} {cs : List Value} (h : kCase.O w bs x cs) : cs = [.bool x.send, .int .i64 x.chan, .int .i64 x.reg, .int .i64 x.ok, .int .i64 x.to] ∧ bs = [] := by
  obtain ⟨_, _, _, _, rfl, rfl, ⟨rfl, rfl⟩, ⟨_, _, _, _, rfl, rfl, ⟨rfl, rfl⟩, ⟨_, _, _, _, rfl, rfl, ⟨rfl, rfl⟩, ⟨_, _, _, _, rfl, rfl, ⟨rfl, rfl⟩, ⟨rfl, rfl⟩⟩⟩⟩⟩ := h
  exact ⟨rfl, rfl⟩
theorem kCase_mkO (w : World) (x : MCase) : kCase.O w [] x [.bool x.send, .int .i64 x.chan, .int .i64 x.reg, .int .i64 x.ok, .int .i64 x.to] := ⟨_, _, [], _, rfl, rfl, ⟨rfl, rfl⟩, ⟨_, _, [], _, rfl, rfl, ⟨rfl, rfl⟩, ⟨_, _, [], _, rfl, rfl, ⟨rfl, rfl⟩, ⟨_, _, [], _, rfl, rfl, ⟨rfl, rfl⟩, ⟨rfl, rfl⟩⟩⟩⟩⟩
theorem kCase_at {w : World} {A : Option Addr} {xs : List MCase} (h : kCase.Row w A xs) {i : Nat} (hi : i < xs.length) :
    ∃ b o, A = some ⟨b, o, none⟩ ∧ w.cell? ⟨b, o + i * 5, none⟩ = some (.bool xs[i].send) ∧ w.cell? ⟨b, o + i * 5 + 1, none⟩ = some (.int .i64 xs[i].chan) ∧ w.cell? ⟨b, o + i * 5 + 2, none⟩ = some (.int .i64 xs[i].reg) ∧ w.cell? ⟨b, o + i * 5 + 3, none⟩ = some (.int .i64 xs[i].ok) ∧ w.cell? ⟨b, o + i * 5 + 4, none⟩ = some (.int .i64 xs[i].to) := by
  obtain ⟨b, o, rfl, hc⟩ := h.2 (by rintro rfl; simp at hi)
  obtain ⟨cx, hk, hcc⟩ := hc i _ (List.getElem?_eq_getElem hi)
  obtain rfl := kCase_K hk
  exact ⟨b, o, rfl, hcc 0 _ rfl, hcc 1 _ rfl, hcc 2 _ rfl, hcc 3 _ rfl, hcc 4 _ rfl⟩
def kSelect : Rp MSelect := Rp.iso (Rp.pair (Rp.slice 248 kCase) Rp.int) (fun x => (x.cases, x.els))
theorem kSelect_K {w : World} {x : MSelect} {cs : List Value} (h : kSelect.K w x cs) : ∃ A0 c0, cs = [.slice A0 (x.cases).length c0, .int .i64 x.els] ∧ x.cases.length ≤ c0 ∧ kCase.Row w A0 x.cases := by
  obtain ⟨_, _, rfl, ⟨A0, c0, rfl, l0, r0⟩, rfl⟩ := h
  exact ⟨A0, c0, rfl, l0, r0⟩
theorem kSelect_mk (w : World) (x : MSelect) {A0 : Option Addr} {c0 : Nat} (l0 : x.cases.length ≤ c0) (r0 : kCase.Row w A0 x.cases) : kSelect.K w x [.slice A0 (x.cases).length c0, .int .i64 x.els] := ⟨_, _, rfl, ⟨_, _, rfl, l0, r0⟩, rfl⟩
theorem kSelect_O {w : World} {bs : List Nat} {x : MSelect} {cs : List Value} (h : kSelect.O w bs x cs) : ∃ B0 d0 b0, cs = [.slice B0 x.cases.length d0, .int .i64 x.els] ∧ bs = b0 ∧ kCase.Own 248 w b0 (.slice B0 x.cases.length d0) x.cases := by
  obtain ⟨_, _, _, _, rfl, rfl, ⟨v0, rfl, o0⟩, ⟨rfl, rfl⟩⟩ := h
  obtain ⟨B0, d0, rfl, _, _⟩ := o0.row
  exact ⟨_, _, _, rfl, by simp, o0⟩
theorem kSelect_mkO (w : World) (x : MSelect) {v0 : Value} {b0 : List Nat} (o0 : kCase.Own 248 w b0 v0 x.cases) : kSelect.O w (b0) x [v0, .int .i64 x.els] := by
  have h : kSelect.O w (b0 ++ ([])) x [v0, .int .i64 x.els] := ⟨_, _, b0, _, rfl, rfl, ⟨_, rfl, o0⟩, ⟨rfl, rfl⟩⟩
  simpa using h
theorem kSelect_at {w : World} {A : Option Addr} {xs : List MSelect} (h : kSelect.Row w A xs) {i : Nat} (hi : i < xs.length) :
    ∃ b o A0 c0, A = some ⟨b, o, none⟩ ∧ w.cell? ⟨b, o + i * 2, none⟩ = some (.slice A0 (xs[i].cases).length c0) ∧ w.cell? ⟨b, o + i * 2 + 1, none⟩ = some (.int .i64 xs[i].els) ∧ xs[i].cases.length ≤ c0 ∧ kCase.Row w A0 xs[i].cases := by
  obtain ⟨b, o, rfl, hc⟩ := h.2 (by rintro rfl; simp at hi)
  obtain ⟨cx, hk, hcc⟩ := hc i _ (List.getElem?_eq_getElem hi)
  obtain ⟨A0, c0, rfl, l0, r0⟩ := kSelect_K hk
  exact ⟨b, o, A0, c0, rfl, hcc 0 _ rfl, hcc 1 _ rfl, l0, r0⟩
def kInstr : Rp MInstr := Rp.iso (Rp.pair Rp.int (Rp.pair Rp.int (Rp.pair Rp.int Rp.int))) (fun x => (x.op, x.a, x.b, x.c))
theorem kInstr_K {w : World} {x : MInstr} {cs : List Value} (h : kInstr.K w x cs) : cs = [.int .i64 x.op, .int .i64 x.a, .int .i64 x.b, .int .i64 x.c] := by
  obtain ⟨_, _, rfl, rfl, ⟨_, _, rfl, rfl, ⟨_, _, rfl, rfl, rfl⟩⟩⟩ := h
  exact rfl
theorem kInstr_mk (w : World) (x : MInstr) : kInstr.K w x [.int .i64 x.op, .int .i64 x.a, .int .i64 x.b, .int .i64 x.c] := ⟨_, _, rfl, rfl, ⟨_, _, rfl, rfl, ⟨_, _, rfl, rfl, rfl⟩⟩⟩
theorem kInstr_O {w : World} {bs : List Nat} {x : MInstr} {cs : List Value} (h : kInstr.O w bs x cs) : cs = [.int .i64 x.op, .int .i64 x.a, .int .i64 x.b, .int .i64 x.c] ∧ bs = [] := by
  obtain ⟨_, _, _, _, rfl, rfl, ⟨rfl, rfl⟩, ⟨_, _, _, _, rfl, rfl, ⟨rfl, rfl⟩, ⟨_, _, _, _, rfl, rfl, ⟨rfl, rfl⟩, ⟨rfl, rfl⟩⟩⟩⟩ := h
  exact ⟨rfl, rfl⟩
theorem kInstr_mkO (w : World) (x : MInstr) : kInstr.O w [] x [.int .i64 x.op, .int .i64 x.a, .int .i64 x.b, .int .i64 x.c] := ⟨_, _, [], _, rfl, rfl, ⟨rfl, rfl⟩, ⟨_, _, [], _, rfl, rfl, ⟨rfl, rfl⟩, ⟨_, _, [], _, rfl, rfl, ⟨rfl, rfl⟩, ⟨rfl, rfl⟩⟩⟩⟩
theorem kInstr_at {w : World} {A : Option Addr} {xs : List MInstr} (h : kInstr.Row w A xs) {i : Nat} (hi : i < xs.length) :
    ∃ b o, A = some ⟨b, o, none⟩ ∧ w.cell? ⟨b, o + i * 4, none⟩ = some (.int .i64 xs[i].op) ∧ w.cell? ⟨b, o + i * 4 + 1, none⟩ = some (.int .i64 xs[i].a) ∧ w.cell? ⟨b, o + i * 4 + 2, none⟩ = some (.int .i64 xs[i].b) ∧ w.cell? ⟨b, o + i * 4 + 3, none⟩ = some (.int .i64 xs[i].c) := by
  obtain ⟨b, o, rfl, hc⟩ := h.2 (by rintro rfl; simp at hi)
  obtain ⟨cx, hk, hcc⟩ := hc i _ (List.getElem?_eq_getElem hi)
  obtain rfl := kInstr_K hk
  exact ⟨b, o, rfl, hcc 0 _ rfl, hcc 1 _ rfl, hcc 2 _ rfl, hcc 3 _ rfl⟩
def kProc : Rp MProc := Rp.iso (Rp.slice 203 kInstr) (fun x => x.code)
theorem kProc_K {w : World} {x : MProc} {cs : List Value} (h : kProc.K w x cs) : ∃ A0 c0, cs = [.slice A0 (x.code).length c0] ∧ x.code.length ≤ c0 ∧ kInstr.Row w A0 x.code := by
  obtain ⟨A0, c0, rfl, l0, r0⟩ := h
  exact ⟨A0, c0, rfl, l0, r0⟩
theorem kProc_mk (w : World) (x : MProc) {A0 : Option Addr} {c0 : Nat} (l0 : x.code.length ≤ c0) (r0 : kInstr.Row w A0 x.code) : kProc.K w x [.slice A0 (x.code).length c0] := ⟨_, _, rfl, l0, r0⟩
theorem kProc_O {w : World} {bs : List Nat} {x : MProc} {cs : List Value} (h : kProc.O w bs x cs) : ∃ B0 d0 b0, cs = [.slice B0 x.code.length d0] ∧ bs = b0 ∧ kInstr.Own 203 w b0 (.slice B0 x.code.length d0) x.code := by
  obtain ⟨v0, rfl, o0⟩ := h
  obtain ⟨B0, d0, rfl, _, _⟩ := o0.row
  exact ⟨_, _, _, rfl, by simp, o0⟩
theorem kProc_mkO (w : World) (x : MProc) {v0 : Value} {b0 : List Nat} (o0 : kInstr.Own 203 w b0 v0 x.code) : kProc.O w (b0) x [v0] := by
  have h : kProc.O w (b0) x [v0] := ⟨_, rfl, o0⟩
  simpa using h
theorem kProc_at {w : World} {A : Option Addr} {xs : List MProc} (h : kProc.Row w A xs) {i : Nat} (hi : i < xs.length) :
    ∃ b o A0 c0, A = some ⟨b, o, none⟩ ∧ w.cell? ⟨b, o + i, none⟩ = some (.slice A0 (xs[i].code).length c0) ∧ xs[i].code.length ≤ c0 ∧ kInstr.Row w A0 xs[i].code := by
  obtain ⟨b, o, rfl, hc⟩ := h.2 (by rintro rfl; simp at hi)
  obtain ⟨cx, hk, hcc⟩ := hc i _ (List.getElem?_eq_getElem hi)
  obtain ⟨A0, c0, rfl, l0, r0⟩ := kProc_K hk
  have := hcc 0 _ rfl
  simp only [show kProc.sz = 1 from rfl, Nat.mul_one, Nat.add_zero] at this
  exact ⟨b, o, A0, c0, rfl, this, l0, r0⟩
def kProg : Rp MProg := Rp.iso (Rp.pair (Rp.slice 3 Rp.int) (Rp.pair Rp.int (Rp.pair (Rp.slice 182 kSelect) (Rp.slice 186 kProc)))) (fun x => (x.caps, x.mus, x.sels, x.procs))
theorem kProg_K {w : World} {x : MProg} {cs : List Value} (h : kProg.K w x cs) : ∃ A0 c0 A1 c1 A2 c2, cs = [.slice A0 (x.caps).length c0, .int .i64 x.mus, .slice A1 (x.sels).length c1, .slice A2 (x.procs).length c2] ∧ x.caps.length ≤ c0 ∧ Rp.int.Row w A0 x.caps ∧ x.sels.length ≤ c1 ∧ kSelect.Row w A1 x.sels ∧ x.procs.length ≤ c2 ∧ kProc.Row w A2 x.procs := by
  obtain ⟨_, _, rfl, ⟨A0, c0, rfl, l0, r0⟩, ⟨_, _, rfl, rfl, ⟨_, _, rfl, ⟨A1, c1, rfl, l1, r1⟩, ⟨A2, c2, rfl, l2, r2⟩⟩⟩⟩ := h
  exact ⟨A0, c0, A1, c1, A2, c2, rfl, l0, r0, l1, r1, l2, r2⟩
theorem kProg_mk (w : World) (x : MProg) {A0 : Option Addr} {c0 : Nat} (l0 : x.caps.length ≤ c0) (r0 : Rp.int.Row w A0 x.caps) {A1 : Option Addr} {c1 : Nat} (l1 : x.sels.length ≤ c1) (r1 : kSelect.Row w A1 x.sels) {A2 : Option Addr} {c2 : Nat} (l2 : x.procs.length ≤ c2) (r2 : kProc.Row w A2 x.procs) : kProg.K w x [.slice A0 (x.caps).length c0, .int .i64 x.mus, .slice A1 (x.sels).length c1, .slice A2 (x.procs).length c2] := ⟨_, _, rfl, ⟨_, _, rfl, l0, r0⟩, ⟨_, _, rfl, rfl, ⟨_, _, rfl, ⟨_, _, rfl, l1, r1⟩, ⟨_, _, rfl, l2, r2⟩⟩⟩⟩
theorem kProg_O {w : World} {bs : List Nat} {x : MProg} {cs : List Value} (h : kProg.O w bs x cs) : ∃ B0 d0 b0 B1 d1 b1 B2 d2 b2, cs = [.slice B0 x.caps.length d0, .int .i64 x.mus, .slice B1 x.sels.length d1, .slice B2 x.procs.length d2] ∧ bs = b0 ++ b1 ++ b2 ∧ Rp.int.Own 3 w b0 (.slice B0 x.caps.length d0) x.caps ∧ kSelect.Own 182 w b1 (.slice B1 x.sels.length d1) x.sels ∧ kProc.Own 186 w b2 (.slice B2 x.procs.length d2) x.procs := by
  obtain ⟨_, _, _, _, rfl, rfl, ⟨v0, rfl, o0⟩, ⟨_, _, _, _, rfl, rfl, ⟨rfl, rfl⟩, ⟨_, _, _, _, rfl, rfl, ⟨v1, rfl, o1⟩, ⟨v2, rfl, o2⟩⟩⟩⟩ := h
  obtain ⟨B0, d0, rfl, _, _⟩ := o0.row
  obtain ⟨B1, d1, rfl, _, _⟩ := o1.row
  obtain ⟨B2, d2, rfl, _, _⟩ := o2.row
  exact ⟨_, _, _, _, _, _, _, _, _, rfl, by simp, o0, o1, o2⟩
theorem kProg_mkO (w : World) (x : MProg) {v0 : Value} {b0 : List Nat} (o0 : Rp.int.Own 3 w b0 v0 x.caps) {v1 : Value} {b1 : List Nat} (o1 : kSelect.Own 182 w b1 v1 x.sels) {v2 : Value} {b2 : List Nat} (o2 : kProc.Own 186 w b2 v2 x.procs) : kProg.O w (b0 ++ b1 ++ b2) x [v0, .int .i64 x.mus, v1, v2] := by
  have h : kProg.O w (b0 ++ ([] ++ (b1 ++ (b2)))) x [v0, .int .i64 x.mus, v1, v2] := ⟨_, _, b0, _, rfl, rfl, ⟨_, rfl, o0⟩, ⟨_, _, [], _, rfl, rfl, ⟨rfl, rfl⟩, ⟨_, _, b1, _, rfl, rfl, ⟨_, rfl, o1⟩, ⟨_, rfl, o2⟩⟩⟩⟩
  simpa using h
def kWaiter : Rp MWaiter := Rp.iso (Rp.pair Rp.int (Rp.pair Rp.int Rp.int)) (fun x => (x.g, x.cas, x.val))
theorem kWaiter_K {w : World} {x : MWaiter} {cs : List Value} (h : kWaiter.K w x cs) : cs = [.int .i64 x.g, .int .i64 x.cas, .int .i64 x.val] := by
  obtain ⟨_, _, rfl, rfl, ⟨_, _, rfl, rfl, rfl⟩⟩ := h
  exact rfl
theorem kWaiter_mk (w : World) (x : MWaiter) : kWaiter.K w x [.int .i64 x.g, .int .i64 x.cas, .int .i64 x.val] := ⟨_, _, rfl, rfl, ⟨_, _, rfl, rfl, rfl⟩⟩
theorem kWaiter_O {w : World} {bs : List Nat} {x : MWaiter} {cs : List Value} (h : kWaiter.O w bs x cs) : cs = [.int .i64 x.g, .int .i64 x.cas, .int .i64 x.val] ∧ bs = [] := by
  obtain ⟨_, _, _, _, rfl, rfl, ⟨rfl, rfl⟩, ⟨_, _, _, _, rfl, rfl, ⟨rfl, rfl⟩, ⟨rfl, rfl⟩⟩⟩ := h
  exact ⟨rfl, rfl⟩
theorem kWaiter_mkO (w : World) (x : MWaiter) : kWaiter.O w [] x [.int .i64 x.g, .int .i64 x.cas, .int .i64 x.val] := ⟨_, _, [], _, rfl, rfl, ⟨rfl, rfl⟩, ⟨_, _, [], _, rfl, rfl, ⟨rfl, rfl⟩, ⟨rfl, rfl⟩⟩⟩
theorem kWaiter_at {w : World} {A : Option Addr} {xs : List MWaiter} (h : kWaiter.Row w A xs) {i : Nat} (hi : i < xs.length) :
    ∃ b o, A = some ⟨b, o, none⟩ ∧ w.cell? ⟨b, o + i * 3, none⟩ = some (.int .i64 xs[i].g) ∧ w.cell? ⟨b, o + i * 3 + 1, none⟩ = some (.int .i64 xs[i].cas) ∧ w.cell? ⟨b, o + i * 3 + 2, none⟩ = some (.int .i64 xs[i].val) := by
  obtain ⟨b, o, rfl, hc⟩ := h.2 (by rintro rfl; simp at hi)
  obtain ⟨cx, hk, hcc⟩ := hc i _ (List.getElem?_eq_getElem hi)
  obtain rfl := kWaiter_K hk
  exact ⟨b, o, rfl, hcc 0 _ rfl, hcc 1 _ rfl, hcc 2 _ rfl⟩
def kChan : Rp MChan := Rp.iso (Rp.pair Rp.int (Rp.pair (Rp.slice 3 Rp.int) (Rp.pair (Rp.slice 197 kWaiter) (Rp.pair (Rp.slice 197 kWaiter) Rp.bool)))) (fun x => (x.cap, x.buf, x.sends, x.recvs, x.closed))
theorem kChan_K {w : World} {x : MChan} {cs : List Value} (h : kChan.K w x cs) : ∃ A0 c0 A1 c1 A2 c2, cs = [.int .i64 x.cap, .slice A0 (x.buf).length c0, .slice A1 (x.sends).length c1, .slice A2 (x.recvs).length c2, .bool x.closed] ∧ x.buf.length ≤ c0 ∧ Rp.int.Row w A0 x.buf ∧ x.sends.length ≤ c1 ∧ kWaiter.Row w A1 x.sends ∧ x.recvs.length ≤ c2 ∧ kWaiter.Row w A2 x.recvs := by
  obtain ⟨_, _, rfl, rfl, ⟨_, _, rfl, ⟨A0, c0, rfl, l0, r0⟩, ⟨_, _, rfl, ⟨A1, c1, rfl, l1, r1⟩, ⟨_, _, rfl, ⟨A2, c2, rfl, l2, r2⟩, rfl⟩⟩⟩⟩ := h
  exact ⟨A0, c0, A1, c1, A2, c2, rfl, l0, r0, l1, r1, l2, r2⟩
theorem kChan_mk (w : World) (x : MChan) {A0 : Option Addr} {c0 : Nat} (l0 : x.buf.length ≤ c0) (r0 : Rp.int.Row w A0 x.buf) {A1 : Option Addr} {c1 : Nat} (l1 : x.sends.length ≤ c1) (r1 : kWaiter.Row w A1 x.sends) {A2 : Option Addr} {c2 : Nat} (l2 : x.recvs.length ≤ c2) (r2 : kWaiter.Row w A2 x.recvs) : kChan.K w x [.int .i64 x.cap, .slice A0 (x.buf).length c0, .slice A1 (x.sends).length c1, .slice A2 (x.recvs).length c2, .bool x.closed] := ⟨_, _, rfl, rfl, ⟨_, _, rfl, ⟨_, _, rfl, l0, r0⟩, ⟨_, _, rfl, ⟨_, _, rfl, l1, r1⟩, ⟨_, _, rfl, ⟨_, _, rfl, l2, r2⟩, rfl⟩⟩⟩⟩
theorem kChan_O {w : World} {bs : List Nat} {x : MChan} {cs : List Value} (h : kChan.O w bs x cs) : ∃ B0 d0 b0 B1 d1 b1 B2 d2 b2, cs = [.int .i64 x.cap, .slice B0 x.buf.length d0, .slice B1 x.sends.length d1, .slice B2 x.recvs.length d2, .bool x.closed] ∧ bs = b0 ++ b1 ++ b2 ∧ Rp.int.Own 3 w b0 (.slice B0 x.buf.length d0) x.buf ∧ kWaiter.Own 197 w b1 (.slice B1 x.sends.length d1) x.sends ∧ kWaiter.Own 197 w b2 (.slice B2 x.recvs.length d2) x.recvs := by
  obtain ⟨_, _, _, _, rfl, rfl, ⟨rfl, rfl⟩, ⟨_, _, _, _, rfl, rfl, ⟨v0, rfl, o0⟩, ⟨_, _, _, _, rfl, rfl, ⟨v1, rfl, o1⟩, ⟨_, _, _, _, rfl, rfl, ⟨v2, rfl, o2⟩, ⟨rfl, rfl⟩⟩⟩⟩⟩ := h
  obtain ⟨B0, d0, rfl, _, _⟩ := o0.row
  obtain ⟨B1, d1, rfl, _, _⟩ := o1.row
  obtain ⟨B2, d2, rfl, _, _⟩ := o2.row
  exact ⟨_, _, _, _, _, _, _, _, _, rfl, by simp, o0, o1, o2⟩
theorem kChan_mkO (w : World) (x : MChan) {v0 : Value} {b0 : List Nat} (o0 : Rp.int.Own 3 w b0 v0 x.buf) {v1 : Value} {b1 : List Nat} (o1 : kWaiter.Own 197 w b1 v1 x.sends) {v2 : Value} {b2 : List Nat} (o2 : kWaiter.Own 197 w b2 v2 x.recvs) : kChan.O w (b0 ++ b1 ++ b2) x [.int .i64 x.cap, v0, v1, v2, .bool x.closed] := by
  have h : kChan.O w ([] ++ (b0 ++ (b1 ++ (b2 ++ ([]))))) x [.int .i64 x.cap, v0, v1, v2, .bool x.closed] := ⟨_, _, [], _, rfl, rfl, ⟨rfl, rfl⟩, ⟨_, _, b0, _, rfl, rfl, ⟨_, rfl, o0⟩, ⟨_, _, b1, _, rfl, rfl, ⟨_, rfl, o1⟩, ⟨_, _, b2, _, rfl, rfl, ⟨_, rfl, o2⟩, ⟨rfl, rfl⟩⟩⟩⟩⟩
  simpa using h
theorem kChan_at {w : World} {A : Option Addr} {xs : List MChan} (h : kChan.Row w A xs) {i : Nat} (hi : i < xs.length) :
    ∃ b o A0 c0 A1 c1 A2 c2, A = some ⟨b, o, none⟩ ∧ w.cell? ⟨b, o + i * 5, none⟩ = some (.int .i64 xs[i].cap) ∧ w.cell? ⟨b, o + i * 5 + 1, none⟩ = some (.slice A0 (xs[i].buf).length c0) ∧ w.cell? ⟨b, o + i * 5 + 2, none⟩ = some (.slice A1 (xs[i].sends).length c1) ∧ w.cell? ⟨b, o + i * 5 + 3, none⟩ = some (.slice A2 (xs[i].recvs).length c2) ∧ w.cell? ⟨b, o + i * 5 + 4, none⟩ = some (.bool xs[i].closed) ∧ xs[i].buf.length ≤ c0 ∧ Rp.int.Row w A0 xs[i].buf ∧ xs[i].sends.length ≤ c1 ∧ kWaiter.Row w A1 xs[i].sends ∧ xs[i].recvs.length ≤ c2 ∧ kWaiter.Row w A2 xs[i].recvs := by
  obtain ⟨b, o, rfl, hc⟩ := h.2 (by rintro rfl; simp at hi)
  obtain ⟨cx, hk, hcc⟩ := hc i _ (List.getElem?_eq_getElem hi)
  obtain ⟨A0, c0, A1, c1, A2, c2, rfl, l0, r0, l1, r1, l2, r2⟩ := kChan_K hk
  exact ⟨b, o, A0, c0, A1, c1, A2, c2, rfl, hcc 0 _ rfl, hcc 1 _ rfl, hcc 2 _ rfl, hcc 3 _ rfl, hcc 4 _ rfl, l0, r0, l1, r1, l2, r2⟩
def kMutex : Rp MMutex := Rp.iso (Rp.pair Rp.int (Rp.slice 3 Rp.int)) (fun x => (x.owner, x.wait))
theorem kMutex_K {w : World} {x : MMutex} {cs : List Value} (h : kMutex.K w x cs) : ∃ A0 c0, cs = [.int .i64 x.owner, .slice A0 (x.wait).length c0] ∧ x.wait.length ≤ c0 ∧ Rp.int.Row w A0 x.wait := by
  obtain ⟨_, _, rfl, rfl, ⟨A0, c0, rfl, l0, r0⟩⟩ := h
  exact ⟨A0, c0, rfl, l0, r0⟩
theorem kMutex_mk (w : World) (x : MMutex) {A0 : Option Addr} {c0 : Nat} (l0 : x.wait.length ≤ c0) (r0 : Rp.int.Row w A0 x.wait) : kMutex.K w x [.int .i64 x.owner, .slice A0 (x.wait).length c0] := ⟨_, _, rfl, rfl, ⟨_, _, rfl, l0, r0⟩⟩
theorem kMutex_O {w : World} {bs : List Nat} {x : MMutex} {cs : List Value} (h : kMutex.O w bs x cs) : ∃ B0 d0 b0, cs = [.int .i64 x.owner, .slice B0 x.wait.length d0] ∧ bs = b0 ∧ Rp.int.Own 3 w b0 (.slice B0 x.wait.length d0) x.wait := by
  obtain ⟨_, _, _, _, rfl, rfl, ⟨rfl, rfl⟩, ⟨v0, rfl, o0⟩⟩ := h
  obtain ⟨B0, d0, rfl, _, _⟩ := o0.row
  exact ⟨_, _, _, rfl, by simp, o0⟩
theorem kMutex_mkO (w : World) (x : MMutex) {v0 : Value} {b0 : List Nat} (o0 : Rp.int.Own 3 w b0 v0 x.wait) : kMutex.O w (b0) x [.int .i64 x.owner, v0] := by
  have h : kMutex.O w ([] ++ (b0)) x [.int .i64 x.owner, v0] := ⟨_, _, [], _, rfl, rfl, ⟨rfl, rfl⟩, ⟨_, rfl, o0⟩⟩
  simpa using h
theorem kMutex_at {w : World} {A : Option Addr} {xs : List MMutex} (h : kMutex.Row w A xs) {i : Nat} (hi : i < xs.length) :
    ∃ b o A0 c0, A = some ⟨b, o, none⟩ ∧ w.cell? ⟨b, o + i * 2, none⟩ = some (.int .i64 xs[i].owner) ∧ w.cell? ⟨b, o + i * 2 + 1, none⟩ = some (.slice A0 (xs[i].wait).length c0) ∧ xs[i].wait.length ≤ c0 ∧ Rp.int.Row w A0 xs[i].wait := by
  obtain ⟨b, o, rfl, hc⟩ := h.2 (by rintro rfl; simp at hi)
  obtain ⟨cx, hk, hcc⟩ := hc i _ (List.getElem?_eq_getElem hi)
  obtain ⟨A0, c0, rfl, l0, r0⟩ := kMutex_K hk
  exact ⟨b, o, A0, c0, rfl, hcc 0 _ rfl, hcc 1 _ rfl, l0, r0⟩
def kItem : Rp MItem := Rp.iso (Rp.pair Rp.int (Rp.pair Rp.int (Rp.pair Rp.int Rp.bool))) (fun x => (x.kind, x.obj, x.val, x.ok))
theorem kItem_K {w : World} {x : MItem} {cs : List Value} (h : kItem.K w x cs) : cs = [.int .i64 x.kind, .int .i64 x.obj, .int .i64 x.val, .bool x.ok] := by
  obtain ⟨_, _, rfl, rfl, ⟨_, _, rfl, rfl, ⟨_, _, rfl, rfl, rfl⟩⟩⟩ := h
  exact rfl
theorem kItem_mk (w : World) (x : MItem) : kItem.K w x [.int .i64 x.kind, .int .i64 x.obj, .int .i64 x.val, .bool x.ok] := ⟨_, _, rfl, rfl, ⟨_, _, rfl, rfl, ⟨_, _, rfl, rfl, rfl⟩⟩⟩
theorem kItem_O {w : World} {bs : List Nat} {x : MItem} {cs : List Value} (h : kItem.O w bs x cs) : cs = [.int .i64 x.kind, .int .i64 x.obj, .int .i64 x.val, .bool x.ok] ∧ bs = [] := by
  obtain ⟨_, _, _, _, rfl, rfl, ⟨rfl, rfl⟩, ⟨_, _, _, _, rfl, rfl, ⟨rfl, rfl⟩, ⟨_, _, _, _, rfl, rfl, ⟨rfl, rfl⟩, ⟨rfl, rfl⟩⟩⟩⟩ := h
  exact ⟨rfl, rfl⟩
theorem kItem_mkO (w : World) (x : MItem) : kItem.O w [] x [.int .i64 x.kind, .int .i64 x.obj, .int .i64 x.val, .bool x.ok] := ⟨_, _, [], _, rfl, rfl, ⟨rfl, rfl⟩, ⟨_, _, [], _, rfl, rfl, ⟨rfl, rfl⟩, ⟨_, _, [], _, rfl, rfl, ⟨rfl, rfl⟩, ⟨rfl, rfl⟩⟩⟩⟩
theorem kItem_at {w : World} {A : Option Addr} {xs : List MItem} (h : kItem.Row w A xs) {i : Nat} (hi : i < xs.length) :
    ∃ b o, A = some ⟨b, o, none⟩ ∧ w.cell? ⟨b, o + i * 4, none⟩ = some (.int .i64 xs[i].kind) ∧ w.cell? ⟨b, o + i * 4 + 1, none⟩ = some (.int .i64 xs[i].obj) ∧ w.cell? ⟨b, o + i * 4 + 2, none⟩ = some (.int .i64 xs[i].val) ∧ w.cell? ⟨b, o + i * 4 + 3, none⟩ = some (.bool xs[i].ok) := by
  obtain ⟨b, o, rfl, hc⟩ := h.2 (by rintro rfl; simp at hi)
  obtain ⟨cx, hk, hcc⟩ := hc i _ (List.getElem?_eq_getElem hi)
  obtain rfl := kItem_K hk
  exact ⟨b, o, rfl, hcc 0 _ rfl, hcc 1 _ rfl, hcc 2 _ rfl, hcc 3 _ rfl⟩
def kGor : Rp MGor := Rp.iso (Rp.pair Rp.int (Rp.pair Rp.int (Rp.pair (Rp.slice 3 Rp.int) (Rp.pair Rp.int (Rp.slice 128 kItem))))) (fun x => (x.proc, x.pc, x.regs, x.state, x.trace))
theorem kGor_K {w : World} {x : MGor} {cs : List Value} (h : kGor.K w x cs) : ∃ A0 c0 A1 c1, cs = [.int .i64 x.proc, .int .i64 x.pc, .slice A0 (x.regs).length c0, .int .i64 x.state, .slice A1 (x.trace).length c1] ∧ x.regs.length ≤ c0 ∧ Rp.int.Row w A0 x.regs ∧ x.trace.length ≤ c1 ∧ kItem.Row w A1 x.trace := by
  obtain ⟨_, _, rfl, rfl, ⟨_, _, rfl, rfl, ⟨_, _, rfl, ⟨A0, c0, rfl, l0, r0⟩, ⟨_, _, rfl, rfl, ⟨A1, c1, rfl, l1, r1⟩⟩⟩⟩⟩ := h
  exact ⟨A0, c0, A1, c1, rfl, l0, r0, l1, r1⟩
theorem kGor_mk (w : World) (x : MGor) {A0 : Option Addr} {c0 : Nat} (l0 : x.regs.length ≤ c0) (r0 : Rp.int.Row w A0 x.regs) {A1 : Option Addr} {c1 : Nat} (l1 : x.trace.length ≤ c1) (r1 : kItem.Row w A1 x.trace) : kGor.K w x [.int .i64 x.proc, .int .i64 x.pc, .slice A0 (x.regs).length c0, .int .i64 x.state, .slice A1 (x.trace).length c1] := ⟨_, _, rfl, rfl, ⟨_, _, rfl, rfl, ⟨_, _, rfl, ⟨_, _, rfl, l0, r0⟩, ⟨_, _, rfl, rfl, ⟨_, _, rfl, l1, r1⟩⟩⟩⟩⟩
theorem kGor_O {w : World} {bs : List Nat} {x : MGor} {cs : List Value} (h : kGor.O w bs x cs) : ∃ B0 d0 b0 B1 d1 b1, cs = [.int .i64 x.proc, .int .i64 x.pc, .slice B0 x.regs.length d0, .int .i64 x.state, .slice B1 x.trace.length d1] ∧ bs = b0 ++ b1 ∧ Rp.int.Own 3 w b0 (.slice B0 x.regs.length d0) x.regs ∧ kItem.Own 128 w b1 (.slice B1 x.trace.length d1) x.trace := by
  obtain ⟨_, _, _, _, rfl, rfl, ⟨rfl, rfl⟩, ⟨_, _, _, _, rfl, rfl, ⟨rfl, rfl⟩, ⟨_, _, _, _, rfl, rfl, ⟨v0, rfl, o0⟩, ⟨_, _, _, _, rfl, rfl, ⟨rfl, rfl⟩, ⟨v1, rfl, o1⟩⟩⟩⟩⟩ := h
  obtain ⟨B0, d0, rfl, _, _⟩ := o0.row
  obtain ⟨B1, d1, rfl, _, _⟩ := o1.row
  exact ⟨_, _, _, _, _, _, rfl, by simp, o0, o1⟩
theorem kGor_mkO (w : World) (x : MGor) {v0 : Value} {b0 : List Nat} (o0 : Rp.int.Own 3 w b0 v0 x.regs) {v1 : Value} {b1 : List Nat} (o1 : kItem.Own 128 w b1 v1 x.trace) : kGor.O w (b0 ++ b1) x [.int .i64 x.proc, .int .i64 x.pc, v0, .int .i64 x.state, v1] := by
  have h : kGor.O w ([] ++ ([] ++ (b0 ++ ([] ++ (b1))))) x [.int .i64 x.proc, .int .i64 x.pc, v0, .int .i64 x.state, v1] := ⟨_, _, [], _, rfl, rfl, ⟨rfl, rfl⟩, ⟨_, _, [], _, rfl, rfl, ⟨rfl, rfl⟩, ⟨_, _, b0, _, rfl, rfl, ⟨_, rfl, o0⟩, ⟨_, _, [], _, rfl, rfl, ⟨rfl, rfl⟩, ⟨_, rfl, o1⟩⟩⟩⟩⟩
  simpa using h
theorem kGor_at {w : World} {A : Option Addr} {xs : List MGor} (h : kGor.Row w A xs) {i : Nat} (hi : i < xs.length) :
    ∃ b o A0 c0 A1 c1, A = some ⟨b, o, none⟩ ∧ w.cell? ⟨b, o + i * 5, none⟩ = some (.int .i64 xs[i].proc) ∧ w.cell? ⟨b, o + i * 5 + 1, none⟩ = some (.int .i64 xs[i].pc) ∧ w.cell? ⟨b, o + i * 5 + 2, none⟩ = some (.slice A0 (xs[i].regs).length c0) ∧ w.cell? ⟨b, o + i * 5 + 3, none⟩ = some (.int .i64 xs[i].state) ∧ w.cell? ⟨b, o + i * 5 + 4, none⟩ = some (.slice A1 (xs[i].trace).length c1) ∧ xs[i].regs.length ≤ c0 ∧ Rp.int.Row w A0 xs[i].regs ∧ xs[i].trace.length ≤ c1 ∧ kItem.Row w A1 xs[i].trace := by
  obtain ⟨b, o, rfl, hc⟩ := h.2 (by rintro rfl; simp at hi)
  obtain ⟨cx, hk, hcc⟩ := hc i _ (List.getElem?_eq_getElem hi)
  obtain ⟨A0, c0, A1, c1, rfl, l0, r0, l1, r1⟩ := kGor_K hk
  exact ⟨b, o, A0, c0, A1, c1, rfl, hcc 0 _ rfl, hcc 1 _ rfl, hcc 2 _ rfl, hcc 3 _ rfl, hcc 4 _ rfl, l0, r0, l1, r1⟩
def kEng : Rp MEng := Rp.iso (Rp.pair (Rp.slice 172 kGor) (Rp.pair (Rp.slice 191 kChan) (Rp.slice 193 kMutex))) (fun x => (x.gs, x.chans, x.mus))
theorem kEng_K {w : World} {x : MEng} {cs : List Value} (h : kEng.K w x cs) : ∃ A0 c0 A1 c1 A2 c2, cs = [.slice A0 (x.gs).length c0, .slice A1 (x.chans).length c1, .slice A2 (x.mus).length c2] ∧ x.gs.length ≤ c0 ∧ kGor.Row w A0 x.gs ∧ x.chans.length ≤ c1 ∧ kChan.Row w A1 x.chans ∧ x.mus.length ≤ c2 ∧ kMutex.Row w A2 x.mus := by
  obtain ⟨_, _, rfl, ⟨A0, c0, rfl, l0, r0⟩, ⟨_, _, rfl, ⟨A1, c1, rfl, l1, r1⟩, ⟨A2, c2, rfl, l2, r2⟩⟩⟩ := h
  exact ⟨A0, c0, A1, c1, A2, c2, rfl, l0, r0, l1, r1, l2, r2⟩
theorem kEng_mk (w : World) (x : MEng) {A0 : Option Addr} {c0 : Nat} (l0 : x.gs.length ≤ c0) (r0 : kGor.Row w A0 x.gs) {A1 : Option Addr} {c1 : Nat} (l1 : x.chans.length ≤ c1) (r1 : kChan.Row w A1 x.chans) {A2 : Option Addr} {c2 : Nat} (l2 : x.mus.length ≤ c2) (r2 : kMutex.Row w A2 x.mus) : kEng.K w x [.slice A0 (x.gs).length c0, .slice A1 (x.chans).length c1, .slice A2 (x.mus).length c2] := ⟨_, _, rfl, ⟨_, _, rfl, l0, r0⟩, ⟨_, _, rfl, ⟨_, _, rfl, l1, r1⟩, ⟨_, _, rfl, l2, r2⟩⟩⟩
theorem kEng_O {w : World} {bs : List Nat} {x : MEng} {cs : List Value} (h : kEng.O w bs x cs) : ∃ B0 d0 b0 B1 d1 b1 B2 d2 b2, cs = [.slice B0 x.gs.length d0, .slice B1 x.chans.length d1, .slice B2 x.mus.length d2] ∧ bs = b0 ++ b1 ++ b2 ∧ kGor.Own 172 w b0 (.slice B0 x.gs.length d0) x.gs ∧ kChan.Own 191 w b1 (.slice B1 x.chans.length d1) x.chans ∧ kMutex.Own 193 w b2 (.slice B2 x.mus.length d2) x.mus := by
  obtain ⟨_, _, _, _, rfl, rfl, ⟨v0, rfl, o0⟩, ⟨_, _, _, _, rfl, rfl, ⟨v1, rfl, o1⟩, ⟨v2, rfl, o2⟩⟩⟩ := h
  obtain ⟨B0, d0, rfl, _, _⟩ := o0.row
  obtain ⟨B1, d1, rfl, _, _⟩ := o1.row
  obtain ⟨B2, d2, rfl, _, _⟩ := o2.row
  exact ⟨_, _, _, _, _, _, _, _, _, rfl, by simp, o0, o1, o2⟩
theorem kEng_mkO (w : World) (x : MEng) {v0 : Value} {b0 : List Nat} (o0 : kGor.Own 172 w b0 v0 x.gs) {v1 : Value} {b1 : List Nat} (o1 : kChan.Own 191 w b1 v1 x.chans) {v2 : Value} {b2 : List Nat} (o2 : kMutex.Own 193 w b2 v2 x.mus) : kEng.O w (b0 ++ b1 ++ b2) x [v0, v1, v2] := by
  have h : kEng.O w (b0 ++ (b1 ++ (b2))) x [v0, v1, v2] := ⟨_, _, b0, _, rfl, rfl, ⟨_, rfl, o0⟩, ⟨_, _, b1, _, rfl, rfl, ⟨_, rfl, o1⟩, ⟨_, rfl, o2⟩⟩⟩
  simpa using h
def kPick : Rp MPick := Rp.iso (Rp.pair Rp.int Rp.int) (fun x => (x.g, x.c))
theorem kPick_K {w : World} {x : MPick} {cs : List Value} (h : kPick.K w x cs) : cs = [.int .i64 x.g, .int .i64 x.c] := by
  obtain ⟨_, _, rfl, rfl, rfl⟩ := h
  exact rfl
theorem kPick_mk (w : World) (x : MPick) : kPick.K w x [.int .i64 x.g, .int .i64 x.c] := ⟨_, _, rfl, rfl, rfl⟩
theorem kPick_mkO (w : World) (x : MPick) : kPick.O w [] x [.int .i64 x.g, .int .i64 x.c] := ⟨_, _, [], _, rfl, rfl, ⟨rfl, rfl⟩, ⟨rfl, rfl⟩⟩
theorem kPick_at {w : World} {A : Option Addr} {xs : List MPick} (h : kPick.Row w A xs) {i : Nat} (hi : i < xs.length) :
    ∃ b o, A = some ⟨b, o, none⟩ ∧ w.cell? ⟨b, o + i * 2, none⟩ = some (.int .i64 xs[i].g) ∧ w.cell? ⟨b, o + i * 2 + 1, none⟩ = some (.int .i64 xs[i].c) := by
  obtain ⟨b, o, rfl, hc⟩ := h.2 (by rintro rfl; simp at hi)
  obtain ⟨cx, hk, hcc⟩ := hc i _ (List.getElem?_eq_getElem hi)
  obtain rfl := kPick_K hk
  exact ⟨b, o, rfl, hcc 0 _ rfl, hcc 1 _ rfl⟩
def cntSelect (x : MSelect) : Nat := (x.cases.length)
def cntSelectS : List MSelect → Nat
  | [] => 0
  | x :: xs => cntSelect x + cntSelectS xs
theorem cntSelectS_at : ∀ {xs : List MSelect} {i : Nat} (h : i < xs.length), cntSelect xs[i] ≤ cntSelectS xs
  | x :: xs, 0, _ => Nat.le_add_right _ _
  | x :: xs, i + 1, h => Nat.le_trans (cntSelectS_at (xs := xs) (Nat.lt_of_succ_lt_succ h)) (Nat.le_add_left _ _)
theorem cntSelectS_take : ∀ {xs : List MSelect} {i : Nat} (h : i < xs.length), cntSelectS (xs.take (i + 1)) = cntSelectS (xs.take i) + cntSelect xs[i]
  | x :: xs, 0, _ => by simp [cntSelectS]
  | x :: xs, i + 1, h => by
    have := cntSelectS_take (xs := xs) (i := i) (Nat.lt_of_succ_lt_succ h)
    simp only [List.take_succ_cons, cntSelectS, List.getElem_cons_succ] at this ⊢
    omega
theorem cntSelectS_le : ∀ {xs : List MSelect} {i : Nat}, cntSelectS (xs.take i) ≤ cntSelectS xs
  | [], i => by simp
  | x :: xs, 0 => Nat.zero_le _
  | x :: xs, i + 1 => Nat.add_le_add_left (cntSelectS_le (xs := xs)) _
def cntProc (x : MProc) : Nat := (x.code.length)
def cntProcS : List MProc → Nat
  | [] => 0
  | x :: xs => cntProc x + cntProcS xs
theorem cntProcS_at : ∀ {xs : List MProc} {i : Nat} (h : i < xs.length), cntProc xs[i] ≤ cntProcS xs
  | x :: xs, 0, _ => Nat.le_add_right _ _
  | x :: xs, i + 1, h => Nat.le_trans (cntProcS_at (xs := xs) (Nat.lt_of_succ_lt_succ h)) (Nat.le_add_left _ _)
theorem cntProcS_take : ∀ {xs : List MProc} {i : Nat} (h : i < xs.length), cntProcS (xs.take (i + 1)) = cntProcS (xs.take i) + cntProc xs[i]
  | x :: xs, 0, _ => by simp [cntProcS]
  | x :: xs, i + 1, h => by
    have := cntProcS_take (xs := xs) (i := i) (Nat.lt_of_succ_lt_succ h)
    simp only [List.take_succ_cons, cntProcS, List.getElem_cons_succ] at this ⊢
    omega
theorem cntProcS_le : ∀ {xs : List MProc} {i : Nat}, cntProcS (xs.take i) ≤ cntProcS xs
  | [], i => by simp
  | x :: xs, 0 => Nat.zero_le _
  | x :: xs, i + 1 => Nat.add_le_add_left (cntProcS_le (xs := xs)) _
def cntProg (x : MProg) : Nat := (x.caps.length + (x.sels.length + cntSelectS x.sels) + (x.procs.length + cntProcS x.procs))
def cntChan (x : MChan) : Nat := (x.buf.length + x.sends.length + x.recvs.length)
def cntChanS : List MChan → Nat
  | [] => 0
  | x :: xs => cntChan x + cntChanS xs
theorem cntChanS_at : ∀ {xs : List MChan} {i : Nat} (h : i < xs.length), cntChan xs[i] ≤ cntChanS xs
  | x :: xs, 0, _ => Nat.le_add_right _ _
  | x :: xs, i + 1, h => Nat.le_trans (cntChanS_at (xs := xs) (Nat.lt_of_succ_lt_succ h)) (Nat.le_add_left _ _)
theorem cntChanS_take : ∀ {xs : List MChan} {i : Nat} (h : i < xs.length), cntChanS (xs.take (i + 1)) = cntChanS (xs.take i) + cntChan xs[i]
  | x :: xs, 0, _ => by simp [cntChanS]
  | x :: xs, i + 1, h => by
    have := cntChanS_take (xs := xs) (i := i) (Nat.lt_of_succ_lt_succ h)
    simp only [List.take_succ_cons, cntChanS, List.getElem_cons_succ] at this ⊢
    omega
theorem cntChanS_le : ∀ {xs : List MChan} {i : Nat}, cntChanS (xs.take i) ≤ cntChanS xs
  | [], i => by simp
  | x :: xs, 0 => Nat.zero_le _
  | x :: xs, i + 1 => Nat.add_le_add_left (cntChanS_le (xs := xs)) _
def cntMutex (x : MMutex) : Nat := (x.wait.length)
def cntMutexS : List MMutex → Nat
  | [] => 0
  | x :: xs => cntMutex x + cntMutexS xs
theorem cntMutexS_at : ∀ {xs : List MMutex} {i : Nat} (h : i < xs.length), cntMutex xs[i] ≤ cntMutexS xs
  | x :: xs, 0, _ => Nat.le_add_right _ _
  | x :: xs, i + 1, h => Nat.le_trans (cntMutexS_at (xs := xs) (Nat.lt_of_succ_lt_succ h)) (Nat.le_add_left _ _)
theorem cntMutexS_take : ∀ {xs : List MMutex} {i : Nat} (h : i < xs.length), cntMutexS (xs.take (i + 1)) = cntMutexS (xs.take i) + cntMutex xs[i]
  | x :: xs, 0, _ => by simp [cntMutexS]
  | x :: xs, i + 1, h => by
    have := cntMutexS_take (xs := xs) (i := i) (Nat.lt_of_succ_lt_succ h)
    simp only [List.take_succ_cons, cntMutexS, List.getElem_cons_succ] at this ⊢
    omega
theorem cntMutexS_le : ∀ {xs : List MMutex} {i : Nat}, cntMutexS (xs.take i) ≤ cntMutexS xs
  | [], i => by simp
  | x :: xs, 0 => Nat.zero_le _
  | x :: xs, i + 1 => Nat.add_le_add_left (cntMutexS_le (xs := xs)) _
def cntGor (x : MGor) : Nat := (x.regs.length + x.trace.length)
def cntGorS : List MGor → Nat
  | [] => 0
  | x :: xs => cntGor x + cntGorS xs
theorem cntGorS_at : ∀ {xs : List MGor} {i : Nat} (h : i < xs.length), cntGor xs[i] ≤ cntGorS xs
  | x :: xs, 0, _ => Nat.le_add_right _ _
  | x :: xs, i + 1, h => Nat.le_trans (cntGorS_at (xs := xs) (Nat.lt_of_succ_lt_succ h)) (Nat.le_add_left _ _)
theorem cntGorS_take : ∀ {xs : List MGor} {i : Nat} (h : i < xs.length), cntGorS (xs.take (i + 1)) = cntGorS (xs.take i) + cntGor xs[i]
  | x :: xs, 0, _ => by simp [cntGorS]
  | x :: xs, i + 1, h => by
    have := cntGorS_take (xs := xs) (i := i) (Nat.lt_of_succ_lt_succ h)
    simp only [List.take_succ_cons, cntGorS, List.getElem_cons_succ] at this ⊢
    omega
theorem cntGorS_le : ∀ {xs : List MGor} {i : Nat}, cntGorS (xs.take i) ≤ cntGorS xs
  | [], i => by simp
  | x :: xs, 0 => Nat.zero_le _
  | x :: xs, i + 1 => Nat.add_le_add_left (cntGorS_le (xs := xs)) _
def cntEng (x : MEng) : Nat := ((x.gs.length + cntGorS x.gs) + (x.chans.length + cntChanS x.chans) + (x.mus.length + cntMutexS x.mus))
theorem info_int : (Tryz.prog.info? 3).map (fun i => (i.zero, i.size, i.bytes)) = some (some (.int .i64 0), 1, 8) := by kernel_rfl
theorem info_Case : (Tryz.prog.info? 248).map (fun i => (i.zero, i.size, i.bytes)) = some (some (.agg #[.bool false, .int .i64 0, .int .i64 0, .int .i64 0, .int .i64 0]), 5, 40) := by kernel_rfl
theorem info_Select : (Tryz.prog.info? 182).map (fun i => (i.zero, i.size, i.bytes)) = some (some (.agg #[.slice none 0 0, .int .i64 0]), 2, 32) := by kernel_rfl
theorem info_Instr : (Tryz.prog.info? 203).map (fun i => (i.zero, i.size, i.bytes)) = some (some (.agg #[.int .i64 0, .int .i64 0, .int .i64 0, .int .i64 0]), 4, 32) := by kernel_rfl
theorem info_Proc : (Tryz.prog.info? 186).map (fun i => (i.zero, i.size, i.bytes)) = some (some (.agg #[.slice none 0 0]), 1, 24) := by kernel_rfl
theorem info_Waiter : (Tryz.prog.info? 197).map (fun i => (i.zero, i.size, i.bytes)) = some (some (.agg #[.int .i64 0, .int .i64 0, .int .i64 0]), 3, 24) := by kernel_rfl
theorem info_Chan : (Tryz.prog.info? 191).map (fun i => (i.zero, i.size, i.bytes)) = some (some (.agg #[.int .i64 0, .slice none 0 0, .slice none 0 0, .slice none 0 0, .bool false]), 5, 88) := by kernel_rfl
theorem info_Mutex : (Tryz.prog.info? 193).map (fun i => (i.zero, i.size, i.bytes)) = some (some (.agg #[.int .i64 0, .slice none 0 0]), 2, 32) := by kernel_rfl
theorem info_Item : (Tryz.prog.info? 128).map (fun i => (i.zero, i.size, i.bytes)) = some (some (.agg #[.int .i64 0, .int .i64 0, .int .i64 0, .bool false]), 4, 32) := by kernel_rfl
theorem info_Gor : (Tryz.prog.info? 172).map (fun i => (i.zero, i.size, i.bytes)) = some (some (.agg #[.int .i64 0, .int .i64 0, .slice none 0 0, .int .i64 0, .slice none 0 0]), 5, 72) := by kernel_rfl
end Go.Proofs.YtjmefaihkblliaaGreat.Wd
/- The laws' arguments, opened. Conditions: none. -/
namespace Go.Proofs.YtjmefaihkblliaaGreat.Wd
open Go.RowKit
open Go.Proofs.YtjmefaihkblliaaGreat.Ab (MCase MSelect MInstr MProc MProg MWaiter MChan MMutex MItem MGor MEng MPick)
set_option linter.unusedVariables false
set_option linter.unusedSimpArgs false
set_option maxHeartbeats 4000000
set_option maxRecDepth 100000
def RCase (x : MCase) : Prop := Any (x.send) ∧ (Wf (x.chan) ∧ (Wf (x.reg) ∧ (Wf (x.ok) ∧ (Wf (x.to)))))
theorem opn_Case : Opens Tryz.prog 269 kCase RCase := opens_struct Tryz.underlying269 (by kernel_rfl) (opensF_cons (opens_bool Tryz.underlying4) rfl (by kernel_rfl) (opensF_cons (opens_int Tryz.underlying3) rfl (by kernel_rfl) (opensF_cons (opens_int Tryz.underlying3) rfl (by kernel_rfl) (opensF_cons (opens_int Tryz.underlying3) rfl (by kernel_rfl) (opensF_last (opens_int Tryz.underlying3) rfl (by kernel_rfl)))))) (fun a => ⟨a.1, a.2.1, a.2.2.1, a.2.2.2.1, a.2.2.2.2⟩) (fun _ => rfl)
def RSelect (x : MSelect) : Prop := (∀ e ∈ (x.cases), RCase e) ∧ (Wf (x.els))
theorem opn_Select : Opens Tryz.prog 154 kSelect RSelect := opens_struct Tryz.underlying154 (by kernel_rfl) (opensF_cons (opens_slice Tryz.underlying152 (by kernel_rfl) (by decide) opn_Case) rfl (by kernel_rfl) (opensF_last (opens_int Tryz.underlying3) rfl (by kernel_rfl))) (fun a => ⟨a.1, a.2⟩) (fun _ => rfl)
def RInstr (x : MInstr) : Prop := Wf (x.op) ∧ (Wf (x.a) ∧ (Wf (x.b) ∧ (Wf (x.c))))
theorem opn_Instr : Opens Tryz.prog 271 kInstr RInstr := opens_struct Tryz.underlying271 (by kernel_rfl) (opensF_cons (opens_int Tryz.underlying3) rfl (by kernel_rfl) (opensF_cons (opens_int Tryz.underlying3) rfl (by kernel_rfl) (opensF_cons (opens_int Tryz.underlying3) rfl (by kernel_rfl) (opensF_last (opens_int Tryz.underlying3) rfl (by kernel_rfl))))) (fun a => ⟨a.1, a.2.1, a.2.2.1, a.2.2.2⟩) (fun _ => rfl)
def RProc (x : MProc) : Prop := ∀ e ∈ (x.code), RInstr e
theorem opn_Proc : Opens Tryz.prog 158 kProc RProc := opens_struct Tryz.underlying158 (by kernel_rfl) (opensF_last (opens_slice Tryz.underlying156 (by kernel_rfl) (by decide) opn_Instr) rfl (by kernel_rfl)) (fun a => ⟨a⟩) (fun _ => rfl)
def RProg (x : MProg) : Prop := (∀ e ∈ (x.caps), Wf (e)) ∧ (Wf (x.mus) ∧ ((∀ e ∈ (x.sels), RSelect e) ∧ (∀ e ∈ (x.procs), RProc e)))
theorem opn_Prog : Opens Tryz.prog 26 kProg RProg := opens_struct Tryz.underlying26 (by kernel_rfl) (opensF_cons (opens_slice Tryz.underlying22 (by kernel_rfl) (by decide) (opens_int Tryz.underlying3)) rfl (by kernel_rfl) (opensF_cons (opens_int Tryz.underlying3) rfl (by kernel_rfl) (opensF_cons (opens_slice Tryz.underlying23 (by kernel_rfl) (by decide) opn_Select) rfl (by kernel_rfl) (opensF_last (opens_slice Tryz.underlying24 (by kernel_rfl) (by decide) opn_Proc) rfl (by kernel_rfl))))) (fun a => ⟨a.1, a.2.1, a.2.2.1, a.2.2.2⟩) (fun _ => rfl)
def RWaiter (x : MWaiter) : Prop := Wf (x.g) ∧ (Wf (x.cas) ∧ (Wf (x.val)))
theorem opn_Waiter : Opens Tryz.prog 275 kWaiter RWaiter := opens_struct Tryz.underlying275 (by kernel_rfl) (opensF_cons (opens_int Tryz.underlying3) rfl (by kernel_rfl) (opensF_cons (opens_int Tryz.underlying3) rfl (by kernel_rfl) (opensF_last (opens_int Tryz.underlying3) rfl (by kernel_rfl)))) (fun a => ⟨a.1, a.2.1, a.2.2⟩) (fun _ => rfl)
def RChan (x : MChan) : Prop := Wf (x.cap) ∧ ((∀ e ∈ (x.buf), Wf (e)) ∧ ((∀ e ∈ (x.sends), RWaiter e) ∧ ((∀ e ∈ (x.recvs), RWaiter e) ∧ (Any (x.closed)))))
theorem opn_Chan : Opens Tryz.prog 166 kChan RChan := opens_struct Tryz.underlying166 (by kernel_rfl) (opensF_cons (opens_int Tryz.underlying3) rfl (by kernel_rfl) (opensF_cons (opens_slice Tryz.underlying22 (by kernel_rfl) (by decide) (opens_int Tryz.underlying3)) rfl (by kernel_rfl) (opensF_cons (opens_slice Tryz.underlying164 (by kernel_rfl) (by decide) opn_Waiter) rfl (by kernel_rfl) (opensF_cons (opens_slice Tryz.underlying164 (by kernel_rfl) (by decide) opn_Waiter) rfl (by kernel_rfl) (opensF_last (opens_bool Tryz.underlying4) rfl (by kernel_rfl)))))) (fun a => ⟨a.1, a.2.1, a.2.2.1, a.2.2.2.1, a.2.2.2.2⟩) (fun _ => rfl)
def RMutex (x : MMutex) : Prop := Wf (x.owner) ∧ (∀ e ∈ (x.wait), Wf (e))
theorem opn_Mutex : Opens Tryz.prog 169 kMutex RMutex := opens_struct Tryz.underlying169 (by kernel_rfl) (opensF_cons (opens_int Tryz.underlying3) rfl (by kernel_rfl) (opensF_last (opens_slice Tryz.underlying22 (by kernel_rfl) (by decide) (opens_int Tryz.underlying3)) rfl (by kernel_rfl))) (fun a => ⟨a.1, a.2⟩) (fun _ => rfl)
def RItem (x : MItem) : Prop := Wf (x.kind) ∧ (Wf (x.obj) ∧ (Wf (x.val) ∧ (Any (x.ok))))
theorem opn_Item : Opens Tryz.prog 273 kItem RItem := opens_struct Tryz.underlying273 (by kernel_rfl) (opensF_cons (opens_int Tryz.underlying3) rfl (by kernel_rfl) (opensF_cons (opens_int Tryz.underlying3) rfl (by kernel_rfl) (opensF_cons (opens_int Tryz.underlying3) rfl (by kernel_rfl) (opensF_last (opens_bool Tryz.underlying4) rfl (by kernel_rfl))))) (fun a => ⟨a.1, a.2.1, a.2.2.1, a.2.2.2⟩) (fun _ => rfl)
def RGor (x : MGor) : Prop := Wf (x.proc) ∧ (Wf (x.pc) ∧ ((∀ e ∈ (x.regs), Wf (e)) ∧ (Wf (x.state) ∧ (∀ e ∈ (x.trace), RItem e))))
theorem opn_Gor : Opens Tryz.prog 162 kGor RGor := opens_struct Tryz.underlying162 (by kernel_rfl) (opensF_cons (opens_int Tryz.underlying3) rfl (by kernel_rfl) (opensF_cons (opens_int Tryz.underlying3) rfl (by kernel_rfl) (opensF_cons (opens_slice Tryz.underlying22 (by kernel_rfl) (by decide) (opens_int Tryz.underlying3)) rfl (by kernel_rfl) (opensF_cons (opens_int Tryz.underlying3) rfl (by kernel_rfl) (opensF_last (opens_slice Tryz.underlying160 (by kernel_rfl) (by decide) opn_Item) rfl (by kernel_rfl)))))) (fun a => ⟨a.1, a.2.1, a.2.2.1, a.2.2.2.1, a.2.2.2.2⟩) (fun _ => rfl)
def REng (x : MEng) : Prop := (∀ e ∈ (x.gs), RGor e) ∧ ((∀ e ∈ (x.chans), RChan e) ∧ (∀ e ∈ (x.mus), RMutex e))
theorem opn_Eng : Opens Tryz.prog 31 kEng REng := opens_struct Tryz.underlying31 (by kernel_rfl) (opensF_cons (opens_slice Tryz.underlying27 (by kernel_rfl) (by decide) opn_Gor) rfl (by kernel_rfl) (opensF_cons (opens_slice Tryz.underlying28 (by kernel_rfl) (by decide) opn_Chan) rfl (by kernel_rfl) (opensF_last (opens_slice Tryz.underlying29 (by kernel_rfl) (by decide) opn_Mutex) rfl (by kernel_rfl)))) (fun a => ⟨a.1, a.2.1, a.2.2⟩) (fun _ => rfl)
end Go.Proofs.YtjmefaihkblliaaGreat.Wd

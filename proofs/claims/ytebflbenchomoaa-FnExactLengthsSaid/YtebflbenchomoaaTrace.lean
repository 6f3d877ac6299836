/- TraceOf of both packages: a copy of a goroutine's trace, without its end. Conditions: the engine is of at most 1048576 values. -/
import Derived.Test.YtebflbenchomoaaTy
import Derived.Test.YtebflbenchomoaaApw
import Derived.Lib.LazyBuf
namespace Go.Proofs.Ytebflbenchomoaa.Wd
open Go.RowKit
set_option linter.unusedVariables false
set_option linter.unusedSimpArgs false
set_option maxHeartbeats 2000000
set_option maxRecDepth 100000
theorem flat_Item : Flat kItem := flat_iso _ (flat_pair flat_int (flat_pair flat_int (flat_pair flat_int flat_bool)))
theorem flat_Waiter : Flat kWaiter := flat_iso _ (flat_pair flat_int (flat_pair flat_int flat_int))
theorem within_calls (n l h : Int) (w : World) : Calls Try.prog 62 #[.int .i64 n, .int .i64 l, .int .i64 h] w fun e w' => e = .returned (.bool (decide (l ≤ n ∧ n < h))) ∧ Below w.heap.size w w' := by
  by_cases h1 : l ≤ n
  · by_cases h2 : n < h
    · have e1 : decide (n ≥ l) = true := decide_eq_true h1
      have e2 : decide (n < h) = true := decide_eq_true h2
      go_enter Try.func62, Try.ntmps62
      go_wp2
      all_goals (go_ret; refine ⟨?_, bel⟩; simp_all)
    · have e1 : decide (n ≥ l) = true := decide_eq_true h1
      have e2 : decide (n < h) = false := decide_eq_false h2
      go_enter Try.func62, Try.ntmps62
      go_wp2
      all_goals (go_ret; refine ⟨?_, bel⟩; simp_all)
  · have e1 : decide (n ≥ l) = false := decide_eq_false h1
    go_enter Try.func62, Try.ntmps62
    go_wp2
    all_goals (go_ret; refine ⟨?_, bel⟩; simp_all)
/-- What a call that hands back a copy of a row says. -/
def Copied {α : Type} (d : Rp α) (t : Nat) (xs : List α) (w : World) (e : Ending) (w' : World) : Prop := ∃ B c bs, e = .returned (.slice B xs.length c) ∧ d.Own t w' bs (.slice B xs.length c) xs ∧ Fresh w bs ∧ Below w.heap.size w w'
theorem copied_nil {α : Type} {d : Rp α} {t : Nat} {w w' : World} (A : Option Addr) (hb : Below w.heap.size w w') : Copied d t ([] : List α) w (.returned (.slice A 0 0)) w' := ⟨A, 0, [], rfl, .inl ⟨rfl, rfl, A, rfl⟩, fresh_nil _, hb⟩
theorem copied_mk {α : Type} {d : Rp α} {t : Nat} {w w' : World} {zs : List α} {B : Option Addr} {n c : Nat} {bs : List Nat} (hn : n = zs.length) (ho : d.Own t w' bs (.slice B n c) zs) (hf : Fresh w bs) (hb : Below w.heap.size w w') : Copied d t zs w (.returned (.slice B n c)) w' := by
  subst hn; exact ⟨_, _, _, rfl, ho, hf, hb⟩
theorem clone_Item_calls {A : Option Addr} {xs : List MItem} {c : Nat} (w : World) (h : kItem.Row w A xs) (hl : xs.length ≤ c) (hb : xs.length ≤ 2097152) :
    Calls Try.prog 77 #[.slice A xs.length c] w fun e w' => Copied kItem 43 xs w e w' := by
  have R := Lib.hid h; clear h
  cases A with
  | none =>
    have h0 : xs = [] := by
      by_cases h0 : xs = []
      · exact h0
      · obtain ⟨b, o, h1, _⟩ := R.out.2 h0; cases h1
    subst h0
    go_enter Try.func77, Try.ntmps77
    go_wp2
    rw [run_eql_slice_nil _ 66 43 _ _ _ rfl]
    go_wp2
    go_ret
    exact copied_nil _ bel
  | some ad =>
    go_enter Try.func77, Try.ntmps77
    go_wp2
    rw [run_eql_slice_nil _ 66 43 _ _ _ rfl]
    go_wp2_with (at_builtin; refine wl_app_row kItem flat_Item _ rfl _ _ 66 rfl 43 32 _ rfl rfl rfl (by decide) (by decide) rfl (xs := []) (.inl ⟨rfl, rfl, _, rfl⟩) List.nodup_nil rfl (R.out.below bel) (by simp; omega) ?_; intro A' c' w' bs' hres; obtain hb' := hres.below (w0 := w) (fun b hb => by cases hb) bel)
    go_ret
    exact ⟨_, _, _, rfl, hres.own, hres.fresh (fresh_nil _) (fun b hb => by cases hb) (by simp), hb'⟩

theorem clone_int_calls {A : Option Addr} {xs : List Int} {c : Nat} (w : World) (h : Rp.int.Row w A xs) (hl : xs.length ≤ c) (hb : xs.length ≤ 2097152) :
    Calls Try.prog 63 #[.slice A xs.length c] w fun e w' => Copied Rp.int 3 xs w e w' := by
  have R := Lib.hid h; clear h
  cases A with
  | none =>
    have h0 : xs = [] := by
      by_cases h0 : xs = []
      · exact h0
      · obtain ⟨b, o, h1, _⟩ := R.out.2 h0; cases h1
    subst h0
    go_enter Try.func63, Try.ntmps63
    go_wp2
    rw [run_eql_slice_nil _ 36 3 _ _ _ rfl]
    go_wp2
    go_ret
    exact copied_nil _ bel
  | some ad =>
    go_enter Try.func63, Try.ntmps63
    go_wp2
    rw [run_eql_slice_nil _ 36 3 _ _ _ rfl]
    go_wp2_with (at_builtin; refine wl_app_row Rp.int flat_int _ rfl _ _ 36 rfl 3 8 _ rfl rfl rfl (by decide) (by decide) rfl (xs := []) (.inl ⟨rfl, rfl, _, rfl⟩) List.nodup_nil rfl (R.out.below bel) (by simp; omega) ?_; intro A' c' w' bs' hres; obtain hb' := hres.below (w0 := w) (fun b hb => by cases hb) bel)
    go_ret
    exact ⟨_, _, _, rfl, hres.own, hres.fresh (fresh_nil _) (fun b hb => by cases hb) (by simp), hb'⟩

theorem flat_take (bss : List (List Nat)) (k : Nat) : (bss.take k).flatten.Sublist bss.flatten := by
  have h := List.sublist_append_left (bss.take k).flatten (bss.drop k).flatten
  rw [← List.flatten_append, List.take_append_drop] at h
  exact h
theorem own_take {α : Type} {d : Rp α} {e : Nat} {w : World} {bs : List Nat} {g o c : Nat} {xs : List α} {n k : Nat} (h : d.Own e w bs (.slice (some ⟨g, o, none⟩) n c) xs) (hn : 0 < xs.length) (hk : k ≤ xs.length) (hnd : bs.Nodup) :
    ∃ bs', d.Own e w bs' (.slice (some ⟨g, o, none⟩) k c) (xs.take k) ∧ bs'.Nodup ∧ ∀ b ∈ bs', b ∈ bs := by
  rcases h with ⟨rfl, _⟩ | ⟨g', o', c', cur, bss, hv, rfl, hl, hg, hsz, h1, h2, hx⟩
  · exact absurd hn (by simp)
  · cases hv
    refine ⟨g :: (bss.take k).flatten, .inr ⟨g, o, c, cur, bss.take k, by rw [List.length_take, Nat.min_eq_left hk], rfl, by simp [hl], hg, hsz, by rw [List.length_take]; omega, h2, fun i x b hi hb => ?_⟩, ?_, ?_⟩
    · rw [List.getElem?_take] at hi hb
      split at hi
      · rename_i hlt
        rw [if_pos hlt] at hb
        exact hx i x b hi hb
      · cases hi
    · refine hnd.sublist (List.Sublist.cons_cons _ ?_)
      exact flat_take bss k
    · intro b hb
      rcases List.mem_cons.1 hb with rfl | hb
      · exact List.mem_cons_self
      · exact List.mem_cons_of_mem _ ((flat_take bss k).subset hb)
/-- A trace without its end. -/
def trace (l : List MItem) : List MItem := if (l[l.length - 1]?).map (·.kind) = some 9 then l.take (l.length - 1) else l
def traceOf (x : MEng) (n : Nat) : List MItem := match x.gs[n]? with | some g => trace g.trace | none => []
theorem trace_le (l : List MItem) : (trace l).length ≤ l.length := by unfold trace; split <;> simp
theorem impl_TraceOf_calls (x : MEng) (cs : List Value) (n : Nat) (w : World) (hx : kEng.K w x cs) (hc : cntEng x ≤ 1048576) (hn : n ≤ 9223372036854775807) :
    Calls Try.prog 43 #[.agg cs.toArray, .int .i64 n] w fun e w' => Copied kItem 43 (traceOf x n) w e w' := by
  obtain ⟨A0, c0, A1, c1, A2, c2, rfl, l0, r0, l1, r1, l2, r2⟩ := kEng_K hx
  clear hx
  unfold cntEng at hc
  obtain ⟨gs, x1, x2⟩ := x
  simp only at *
  have R0 := Lib.hid r0; clear r0 r1 r2
  unfold traceOf
  simp only
  by_cases hlt : n < gs.length
  · have hcn := cntGorS_at hlt
    unfold cntGor at hcn
    rw [List.getElem?_eq_getElem hlt]
    simp only
    obtain ⟨g, hg⟩ : ∃ g, gs[n] = g := ⟨_, rfl⟩
    rw [hg] at hcn ⊢
    have Hg := Lib.hid hg; clear hg
    have hw : decide ((0 : Int) ≤ n ∧ (n : Int) < gs.length) = true := by simp; omega
    have hln : gs.length ≤ 1048576 := by omega
    have hlg : cntGorS gs ≤ 1048576 := by omega
    clear hc
    go_enter Try.func43, Try.ntmps43
    go_wp2_with fail
    refine (within_calls _ _ _ _).mono ?_
    rintro e w1 ⟨rfl, hb1⟩
    rw [hw]
    have hbw : Below w.heap.size w w1 := bel
    obtain ⟨C1, D1⟩ := bcell hb1
    have z1 : w.heap.size < w1.heap.size := by have := hb1.size; (try simp at this); omega
    obtain ⟨b, o, B0, d0, B1, d1, rfl, g0, g1, g2, g3, g4, m0, s0, m1, s1⟩ := kGor_at (R0.out.below hbw) hlt
    rw [Hg.out] at g0 g1 g2 g3 g4 m0 s0 m1 s1
    have S1 := Lib.hid s1; clear s0 s1
    have hlen : g.trace.length ≤ 1048576 := by omega
    clear hcn
    go_wp2_with fail
    refine (clone_Item_calls _ (S1.out.below bel) m1 (by omega)).mono ?_
    rintro e w2 ⟨B, d, bs, rfl, ho, hf, hb2⟩
    have HO := Lib.hid ho; have HF := Lib.hid hf; clear ho hf
    obtain ⟨C2, D2⟩ := bcell hb2
    have z2 : w.heap.size < w2.heap.size := by have := hb2.size; (try simp at this); omega
    obtain ⟨A', c', hv, hle, hr⟩ := HO.out.row
    cases hv
    by_cases h0 : g.trace.length = 0
    · have ht : trace g.trace = g.trace := by rw [List.eq_nil_of_length_eq_zero h0]; rfl
      have HT := Lib.hid ht
      have H0 := Lib.hid h0
      clear ht
      go_wp2
      go_ret
      rw [HT.out]
      exact copied_mk H0.out.symm (by rw [← H0.out]; exact HO.out) (HF.out.sub bel) bel
    · have e0 : decide ((g.trace.length : Int) - 1 ≥ 0) = true := by simp; omega
      obtain ⟨m, hm⟩ : ∃ m, g.trace.length = m + 1 := ⟨g.trace.length - 1, by omega⟩
      obtain ⟨b', o', rfl, k0, k1, k2, k3⟩ := kItem_at hr (i := m) (by omega)
      have hi : ((m : Int) + 1 - 1) = m := by omega
      by_cases hk : g.trace[m].kind = 9
      · have ht : trace g.trace = g.trace.take m := by
          unfold trace; rw [hm, Nat.add_sub_cancel, List.getElem?_eq_getElem (by omega), if_pos (by simpa using hk)]
        obtain ⟨bs', ho', hnd', hsub⟩ := own_take (k := m) HO.out (by omega) (by omega) HF.out.1
        have HT := Lib.hid ht; have HK := Lib.hid hm; have HO' := Lib.hid ho'
        rw [hk] at k0
        rw [hm] at *
        clear ht
        go_wp2
        go_ret
        rw [HT.out]
        exact copied_mk (by simp; omega) HO'.out ⟨hnd', fun b hb => Nat.le_trans (by omega) (HF.out.2 b (hsub b hb))⟩ bel
      · have ht : trace g.trace = g.trace := by
          unfold trace; rw [hm, Nat.add_sub_cancel, List.getElem?_eq_getElem (by omega), if_neg (by simpa using hk)]
        have hd : (g.trace[m].kind == 9) = false := by simpa using hk
        have HT := Lib.hid ht
        clear ht
        go_wp2
        go_ret
        rw [HT.out]
        exact copied_mk hm.symm (by rw [← hm]; exact HO.out) (HF.out.sub bel) bel
  · rw [List.getElem?_eq_none (by omega)]
    simp only
    have hw : decide ((0 : Int) ≤ n ∧ (n : Int) < gs.length) = false := by simp; omega
    have hln : gs.length ≤ 1048576 := by omega
    go_enter Try.func43, Try.ntmps43
    go_wp2_with (first
      | (go_at_call 62; (with_reducible refine (within_calls _ _ _ _).mono ?_); rintro e w1 ⟨rfl, hb1⟩; rw [hw]; obtain ⟨C1, D1⟩ := bcell hb1; have z1 : w.heap.size < w1.heap.size := by have := hb1.size; (try simp at this); omega))
    go_ret
    exact copied_nil _ bel
end Go.Proofs.Ytebflbenchomoaa.Wd

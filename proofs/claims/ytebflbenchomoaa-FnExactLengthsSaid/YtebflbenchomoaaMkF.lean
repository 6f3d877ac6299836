/- Marks: what a row holds behind a mark, and how it is told. Conditions: bounds on the sizes. -/
import Derived.Test.YtebflbenchomoaaTy
import Derived.Test.YtebflbenchomoaaMk
import Derived.Test.YtebflbenchomoaaTrace
namespace Go.Proofs.Ytebflbenchomoaa.Wd
open Go.RowKit
set_option linter.unusedVariables false
set_option linter.unusedSimpArgs false
set_option maxHeartbeats 2000000
set_option maxRecDepth 100000
theorem flatb_Item : FlatB kItem := flatb_iso _ (flatb_pair flatb_int (flatb_pair flatb_int (flatb_pair flatb_int flatb_bool)))
theorem flatb_Waiter : FlatB kWaiter := flatb_iso _ (flatb_pair flatb_int (flatb_pair flatb_int flatb_int))
def MkItem (x : MItem) (k k' : Int) : Prop := x.kind = k ∧ x.obj = k + 1 ∧ x.val = k + 1 + 1 ∧ x.ok = ((k + 1 + 1 + 1) % 3 == 0) ∧ k' = k + 1 + 1 + 1 + 1
def MkWaiter (x : MWaiter) (k k' : Int) : Prop := x.g = k ∧ x.cas = k + 1 ∧ x.val = k + 1 + 1 ∧ k' = k + 1 + 1 + 1
def MkGor (x : MGor) (k k' : Int) : Prop := ∃ m0, ∃ m1, x.proc = k ∧ x.pc = k + 1 ∧ MkS MkInt x.regs (k + 1 + 1) m0 ∧ x.state = m0 ∧ MkS MkItem x.trace (m0 + 1) m1 ∧ k' = m1
def MkChan (x : MChan) (k k' : Int) : Prop := ∃ m0, ∃ m1, ∃ m2, x.cap = k ∧ MkS MkInt x.buf (k + 1) m0 ∧ MkS MkWaiter x.sends (m0) m1 ∧ MkS MkWaiter x.recvs (m1) m2 ∧ x.closed = ((m2) % 3 == 0) ∧ k' = m2 + 1
def MkMutex (x : MMutex) (k k' : Int) : Prop := ∃ m0, x.owner = k ∧ MkS MkInt x.wait (k + 1) m0 ∧ k' = m0
theorem mkIntS_end : ∀ {xs : List Int} {k k' : Int}, MkS MkInt xs k k' → k' = k + ((xs.length : Nat) : Int)
  | [], k, k', h => by simp only [MkS] at h; simp [h]
  | x :: xs, k, k', ⟨k1, h1, h2⟩ => by
    have := mkIntS_end h2
    obtain ⟨_, e⟩ := h1
    simp only [List.length_cons]
    omega
theorem mkItemS_end : ∀ {xs : List MItem} {k k' : Int}, MkS MkItem xs k k' → k' = k + ((xs.length * 4 : Nat) : Int)
  | [], k, k', h => by simp only [MkS] at h; simp [h]
  | x :: xs, k, k', ⟨k1, h1, h2⟩ => by
    have := mkItemS_end h2
    obtain ⟨_, _, _, _, e⟩ := h1
    simp only [List.length_cons]
    omega
theorem mkWaiterS_end : ∀ {xs : List MWaiter} {k k' : Int}, MkS MkWaiter xs k k' → k' = k + ((xs.length * 3 : Nat) : Int)
  | [], k, k', h => by simp only [MkS] at h; simp [h]
  | x :: xs, k, k', ⟨k1, h1, h2⟩ => by
    have := mkWaiterS_end h2
    obtain ⟨_, _, _, e⟩ := h1
    simp only [List.length_cons]
    omega
def mcGor (x : MGor) : Nat := 3 + x.regs.length + x.trace.length * 4
def mcGorS : List MGor → Nat
  | [] => 0
  | x :: xs => mcGor x + mcGorS xs
theorem mcGorS_take : ∀ {xs : List MGor} {i : Nat} (h : i < xs.length), mcGorS (xs.take (i + 1)) = mcGorS (xs.take i) + mcGor xs[i]
  | x :: xs, 0, _ => by simp [mcGorS]
  | x :: xs, i + 1, h => by
    have := mcGorS_take (xs := xs) (i := i) (Nat.lt_of_succ_lt_succ h)
    simp only [List.take_succ_cons, mcGorS, List.getElem_cons_succ] at this ⊢
    omega
theorem mcGorS_le : ∀ (xs : List MGor), mcGorS xs ≤ 4 * (xs.length + cntGorS xs)
  | [] => Nat.zero_le _
  | x :: xs => by
    have := mcGorS_le xs
    simp only [mcGorS, mcGor, cntGorS, cntGor, List.length_cons]
    omega
theorem mcGorS_takele : ∀ {xs : List MGor} {i : Nat}, mcGorS (xs.take i) ≤ mcGorS xs
  | [], i => by simp
  | x :: xs, 0 => Nat.zero_le _
  | x :: xs, i + 1 => Nat.add_le_add_left (mcGorS_takele (xs := xs)) _
theorem mkGorS_end : ∀ {xs : List MGor} {k k' : Int}, MkS MkGor xs k k' → k' = k + ((mcGorS xs : Nat) : Int)
  | [], k, k', h => by simp only [MkS] at h; simp [h, mcGorS]
  | x :: xs, k, k', ⟨k1, h1, h2⟩ => by
    have := mkGorS_end h2
    obtain ⟨m0, m1, _, _, hh0, _, hh1, e⟩ := h1
    have := mkIntS_end hh0
    have := mkItemS_end hh1
    simp only [mcGorS, mcGor]
    omega
def mcChan (x : MChan) : Nat := 2 + x.buf.length + x.sends.length * 3 + x.recvs.length * 3
def mcChanS : List MChan → Nat
  | [] => 0
  | x :: xs => mcChan x + mcChanS xs
theorem mcChanS_take : ∀ {xs : List MChan} {i : Nat} (h : i < xs.length), mcChanS (xs.take (i + 1)) = mcChanS (xs.take i) + mcChan xs[i]
  | x :: xs, 0, _ => by simp [mcChanS]
  | x :: xs, i + 1, h => by
    have := mcChanS_take (xs := xs) (i := i) (Nat.lt_of_succ_lt_succ h)
    simp only [List.take_succ_cons, mcChanS, List.getElem_cons_succ] at this ⊢
    omega
theorem mcChanS_le : ∀ (xs : List MChan), mcChanS xs ≤ 3 * (xs.length + cntChanS xs)
  | [] => Nat.zero_le _
  | x :: xs => by
    have := mcChanS_le xs
    simp only [mcChanS, mcChan, cntChanS, cntChan, List.length_cons]
    omega
theorem mcChanS_takele : ∀ {xs : List MChan} {i : Nat}, mcChanS (xs.take i) ≤ mcChanS xs
  | [], i => by simp
  | x :: xs, 0 => Nat.zero_le _
  | x :: xs, i + 1 => Nat.add_le_add_left (mcChanS_takele (xs := xs)) _
theorem mkChanS_end : ∀ {xs : List MChan} {k k' : Int}, MkS MkChan xs k k' → k' = k + ((mcChanS xs : Nat) : Int)
  | [], k, k', h => by simp only [MkS] at h; simp [h, mcChanS]
  | x :: xs, k, k', ⟨k1, h1, h2⟩ => by
    have := mkChanS_end h2
    obtain ⟨m0, m1, m2, _, hh0, hh1, hh2, _, e⟩ := h1
    have := mkIntS_end hh0
    have := mkWaiterS_end hh1
    have := mkWaiterS_end hh2
    simp only [mcChanS, mcChan]
    omega
def mcMutex (x : MMutex) : Nat := 1 + x.wait.length
def mcMutexS : List MMutex → Nat
  | [] => 0
  | x :: xs => mcMutex x + mcMutexS xs
theorem mcMutexS_take : ∀ {xs : List MMutex} {i : Nat} (h : i < xs.length), mcMutexS (xs.take (i + 1)) = mcMutexS (xs.take i) + mcMutex xs[i]
  | x :: xs, 0, _ => by simp [mcMutexS]
  | x :: xs, i + 1, h => by
    have := mcMutexS_take (xs := xs) (i := i) (Nat.lt_of_succ_lt_succ h)
    simp only [List.take_succ_cons, mcMutexS, List.getElem_cons_succ] at this ⊢
    omega
theorem mcMutexS_le : ∀ (xs : List MMutex), mcMutexS xs ≤ 1 * (xs.length + cntMutexS xs)
  | [] => Nat.zero_le _
  | x :: xs => by
    have := mcMutexS_le xs
    simp only [mcMutexS, mcMutex, cntMutexS, cntMutex, List.length_cons]
    omega
theorem mcMutexS_takele : ∀ {xs : List MMutex} {i : Nat}, mcMutexS (xs.take i) ≤ mcMutexS xs
  | [], i => by simp
  | x :: xs, 0 => Nat.zero_le _
  | x :: xs, i + 1 => Nat.add_le_add_left (mcMutexS_takele (xs := xs)) _
theorem mkMutexS_end : ∀ {xs : List MMutex} {k k' : Int}, MkS MkMutex xs k k' → k' = k + ((mcMutexS xs : Nat) : Int)
  | [], k, k', h => by simp only [MkS] at h; simp [h, mcMutexS]
  | x :: xs, k, k', ⟨k1, h1, h2⟩ => by
    have := mkMutexS_end h2
    obtain ⟨m0, _, hh0, e⟩ := h1
    have := mkIntS_end hh0
    simp only [mcMutexS, mcMutex]
    omega
theorem markIntS_calls (xs : List Int) (A : Option Addr) (c : Nat) (k : Int) (w : World) (bs : List Nat) (ho : Rp.int.Own 3 w bs (.slice A xs.length c) xs) (hnd : bs.Nodup) (hl : xs.length ≤ 67108864) (hk0 : 0 ≤ k) (hk : k ≤ 1099511627776) :
    Calls Try.prog 19 #[.slice A xs.length c, .int .i64 k] w fun e w' => ∃ (xs' : List Int), e = .returned (.int .i64 (k + ((xs.length : Nat) : Int))) ∧ xs'.length = xs.length ∧ Rp.int.Own 3 w' bs (.slice A xs.length c) xs' ∧ MkS MkInt xs' k (k + ((xs.length : Nat) : Int)) ∧ Chg bs w w' := by
  by_cases hn : xs.length = 0
  · have h0 : xs = [] := List.eq_nil_of_length_eq_zero hn
    subst h0
    have HO := Lib.hid ho; clear ho
    go_enter Try.func19, Try.ntmps19
    go_wp2
    go_loopg [1, 5] 1 (fun kq v1 v5 w' => v5 = .int .i64 0 ∧ v1 = .int .i64 k ∧ kq = 1 ∧ w' = w)
    case atStart => exact ⟨rfl, rfl, rfl, rfl⟩
    case round =>
      obtain ⟨rfl, rfl, rfl, rfl⟩ := hrel
      go_wp2
      go_ret
      exact ⟨[], by simp, rfl, HO.out, by simp [MkS], Chg.refl _ _⟩
  · obtain ⟨g, o, c', cur, bss, hv, rfl, hX⟩ := own_x ho (by omega)
    cases hv
    obtain ⟨N, hN⟩ : ∃ N, xs.length = N := ⟨_, rfl⟩
    rw [hN] at hl ho ⊢
    have HO0 := Lib.hid ho; clear ho hX hn
    have HND := Lib.hid hnd; clear hnd
    go_enter Try.func19, Try.ntmps19
    go_wp2
    go_loopg [1, 5] (N + 1) (fun kq v1 v5 w' => ∃ (i : Nat) (k1 : Int) (ys : List Int), v5 = .int .i64 i ∧ v1 = .int .i64 k1 ∧ i + kq = N + 1 ∧ i ≤ N ∧ k1 = k + ((i : Nat) : Int) ∧ Hid (ys.length = N ∧ Rp.int.Own 3 w' (g :: bss.flatten) (.slice (some ⟨g, o, none⟩) N c) ys ∧ MkS MkInt (ys.take i) k k1 ∧ Chg (g :: bss.flatten) w w'))
    case atStart => exact ⟨0, k, xs, rfl, rfl, by omega, by omega, by omega, Lib.hid ⟨hN, HO0.out, rfl, Chg.refl _ _⟩⟩
    case round =>
      obtain ⟨i, k1, ys, rfl, rfl, hi, hi2, hk1, HH⟩ := hrel
      obtain ⟨gk, rfl⟩ : ∃ m, gk = m + 1 := ⟨gk - 1, by omega⟩
      by_cases hlt : i < N
      · obtain ⟨hyl, hOw, hMk, hCh⟩ := HH.out
        obtain ⟨g', o', c2, cur', bss', hv, hbs, hX⟩ := own_x hOw (by omega)
        simp only [Value.slice.injEq, Option.some.injEq, Addr.mk.injEq, List.cons.injEq] at hv hbs
        obtain ⟨⟨rfl, rfl, -⟩, -, rfl⟩ := hv
        have hbf := hbs.2
        have hil : i < bss'.length := by rw [hX.len]; omega
        have hsz : o + c * 1 = cur'.size := hX.size
        have hcn : ys.length ≤ c := hX.le
        have zg : g < wr.heap.size := (Array.getElem?_eq_some_iff.1 hX.blk).1
        obtain ⟨u0x, hc0, hf0⟩ : ∃ u, wr.cell? ⟨g, o + i, none⟩ = some u ∧ wr.frozen? ⟨g, o + i, none⟩ = false := ⟨_, blk_cell hX.blk (by omega)⟩
        have hb0 : bss'[i] = [] := flatb_int _ _ _ _ (hX.el i ys[i] _ (List.getElem?_eq_getElem (by omega)) (List.getElem?_eq_getElem hil))
        have HH2 := Lib.hid (And.intro hyl (And.intro hMk hCh)); have HX := Lib.hid hX; have HB := Lib.hid hb0; have HF := Lib.hid hbf; clear hX hb0 hbf hbs HH hMk hOw hCh
        have hk1b : 0 ≤ k1 ∧ k1 ≤ 1099511627776 + 67108864 * 1 := by omega
        have HK := Lib.hid hk1; clear hk1
        go_wp2
        go_roundg gk
        case measure => omega
        case rel =>
          refine ⟨i + 1, k1 + 1, ys.set i k1, by go_num, by go_num, by omega, by omega, by have := HK.out; omega, Lib.hid ?_⟩
          have hol : Hol g (o + i) (o + i + 1) 3 cur'.size bss'[i] wr _ := (Hol.set (j := o + i) (by omega) (by omega) (.int .i64 (k1)) (Hol.refl HX.out.blk))
          obtain ⟨cur2, hX2, -⟩ := own_set2 (d := Rp.int) (y := k1) (cs := [.int .i64 (k1)]) HX.out (by rw [← HF.out]; exact HND.out) (by have := HH2.out.1; omega) hil hol (by show o + i * 1 = _; omega) rfl (by rw [HB.out]; exact flat_int _ _ _ rfl) (cells_cons (by go_simp) cells_nil)
          have hown := hX2.own
          rw [List.length_set, HH2.out.1, ← HF.out] at hown
          refine ⟨by rw [List.length_set]; exact HH2.out.1, hown, ?_, HH2.out.2.2.trans (by rw [HF.out]; exact own_set_chg hil hol)⟩
          rw [take_set (by have := HH2.out.1; omega)]
          exact MkS_snoc HH2.out.2.1 ⟨rfl, by omega⟩
      · have hi' : i = N := by omega
        subst hi'
        subst hk1
        go_wp2
        go_ret
        obtain ⟨hyl, hOw, hMk, hCh⟩ := HH.out
        rw [List.take_of_length_le (by omega)] at hMk
        exact ⟨ys, rfl, hyl, hOw, hMk, hCh⟩
theorem markItemS_calls (xs : List MItem) (A : Option Addr) (c : Nat) (k : Int) (w : World) (bs : List Nat) (ho : kItem.Own 43 w bs (.slice A xs.length c) xs) (hnd : bs.Nodup) (hl : xs.length ≤ 67108864) (hk0 : 0 ≤ k) (hk : k ≤ 1099511627776) :
    Calls Try.prog 81 #[.slice A xs.length c, .int .i64 k] w fun e w' => ∃ (xs' : List MItem), e = .returned (.int .i64 (k + ((xs.length * 4 : Nat) : Int))) ∧ xs'.length = xs.length ∧ kItem.Own 43 w' bs (.slice A xs.length c) xs' ∧ MkS MkItem xs' k (k + ((xs.length * 4 : Nat) : Int)) ∧ Chg bs w w' := by
  by_cases hn : xs.length = 0
  · have h0 : xs = [] := List.eq_nil_of_length_eq_zero hn
    subst h0
    have HO := Lib.hid ho; clear ho
    go_enter Try.func81, Try.ntmps81
    go_wp2
    go_loopg [1, 5] 1 (fun kq v1 v5 w' => v5 = .int .i64 0 ∧ v1 = .int .i64 k ∧ kq = 1 ∧ w' = w)
    case atStart => exact ⟨rfl, rfl, rfl, rfl⟩
    case round =>
      obtain ⟨rfl, rfl, rfl, rfl⟩ := hrel
      go_wp2
      go_ret
      exact ⟨[], by simp, rfl, HO.out, by simp [MkS], Chg.refl _ _⟩
  · obtain ⟨g, o, c', cur, bss, hv, rfl, hX⟩ := own_x ho (by omega)
    cases hv
    obtain ⟨N, hN⟩ : ∃ N, xs.length = N := ⟨_, rfl⟩
    rw [hN] at hl ho ⊢
    have HO0 := Lib.hid ho; clear ho hX hn
    have HND := Lib.hid hnd; clear hnd
    go_enter Try.func81, Try.ntmps81
    go_wp2
    go_loopg [1, 5] (N + 1) (fun kq v1 v5 w' => ∃ (i : Nat) (k1 : Int) (ys : List MItem), v5 = .int .i64 i ∧ v1 = .int .i64 k1 ∧ i + kq = N + 1 ∧ i ≤ N ∧ k1 = k + ((i * 4 : Nat) : Int) ∧ Hid (ys.length = N ∧ kItem.Own 43 w' (g :: bss.flatten) (.slice (some ⟨g, o, none⟩) N c) ys ∧ MkS MkItem (ys.take i) k k1 ∧ Chg (g :: bss.flatten) w w'))
    case atStart => exact ⟨0, k, xs, rfl, rfl, by omega, by omega, by omega, Lib.hid ⟨hN, HO0.out, rfl, Chg.refl _ _⟩⟩
    case round =>
      obtain ⟨i, k1, ys, rfl, rfl, hi, hi2, hk1, HH⟩ := hrel
      obtain ⟨gk, rfl⟩ : ∃ m, gk = m + 1 := ⟨gk - 1, by omega⟩
      by_cases hlt : i < N
      · obtain ⟨hyl, hOw, hMk, hCh⟩ := HH.out
        obtain ⟨g', o', c2, cur', bss', hv, hbs, hX⟩ := own_x hOw (by omega)
        simp only [Value.slice.injEq, Option.some.injEq, Addr.mk.injEq, List.cons.injEq] at hv hbs
        obtain ⟨⟨rfl, rfl, -⟩, -, rfl⟩ := hv
        have hbf := hbs.2
        have hil : i < bss'.length := by rw [hX.len]; omega
        have hsz : o + c * 4 = cur'.size := hX.size
        have hcn : ys.length ≤ c := hX.le
        have zg : g < wr.heap.size := (Array.getElem?_eq_some_iff.1 hX.blk).1
        obtain ⟨u0x, hc0, hf0⟩ : ∃ u, wr.cell? ⟨g, o + i * 4, none⟩ = some u ∧ wr.frozen? ⟨g, o + i * 4, none⟩ = false := ⟨_, blk_cell hX.blk (by omega)⟩
        obtain ⟨u1x, hc1, hf1⟩ : ∃ u, wr.cell? ⟨g, o + i * 4 + 1, none⟩ = some u ∧ wr.frozen? ⟨g, o + i * 4 + 1, none⟩ = false := ⟨_, blk_cell hX.blk (by omega)⟩
        obtain ⟨u2x, hc2, hf2⟩ : ∃ u, wr.cell? ⟨g, o + i * 4 + 2, none⟩ = some u ∧ wr.frozen? ⟨g, o + i * 4 + 2, none⟩ = false := ⟨_, blk_cell hX.blk (by omega)⟩
        obtain ⟨u3x, hc3, hf3⟩ : ∃ u, wr.cell? ⟨g, o + i * 4 + 3, none⟩ = some u ∧ wr.frozen? ⟨g, o + i * 4 + 3, none⟩ = false := ⟨_, blk_cell hX.blk (by omega)⟩
        have hb0 : bss'[i] = [] := flatb_Item _ _ _ _ (hX.el i ys[i] _ (List.getElem?_eq_getElem (by omega)) (List.getElem?_eq_getElem hil))
        have HH2 := Lib.hid (And.intro hyl (And.intro hMk hCh)); have HX := Lib.hid hX; have HB := Lib.hid hb0; have HF := Lib.hid hbf; clear hX hb0 hbf hbs HH hMk hOw hCh
        have hk1b : 0 ≤ k1 ∧ k1 ≤ 1099511627776 + 67108864 * 4 := by omega
        have HK := Lib.hid hk1; clear hk1
        go_wp2
        go_roundg gk
        case measure => omega
        case rel =>
          refine ⟨i + 1, k1 + 4, ys.set i ⟨k1, k1 + 1, k1 + 1 + 1, ((k1 + 1 + 1 + 1) % 3 == 0)⟩, by go_num, by go_num, by omega, by omega, by have := HK.out; omega, Lib.hid ?_⟩
          have hol : Hol g (o + i * 4) (o + i * 4 + 4) 43 cur'.size bss'[i] wr _ := (Hol.set (j := o + i * 4 + 3) (by omega) (by omega) (.bool ((k1 + 1 + 1 + 1) % 3 == 0)) ((Hol.set (j := o + i * 4 + 2) (by omega) (by omega) (.int .i64 (k1 + 1 + 1)) ((Hol.set (j := o + i * 4 + 1) (by omega) (by omega) (.int .i64 (k1 + 1)) ((Hol.set (j := o + i * 4) (by omega) (by omega) (.int .i64 (k1)) (Hol.refl HX.out.blk))))))))
          obtain ⟨cur2, hX2, -⟩ := own_set2 (d := kItem) (y := ⟨k1, k1 + 1, k1 + 1 + 1, ((k1 + 1 + 1 + 1) % 3 == 0)⟩) (cs := [.int .i64 (k1), .int .i64 (k1 + 1), .int .i64 (k1 + 1 + 1), .bool ((k1 + 1 + 1 + 1) % 3 == 0)]) HX.out (by rw [← HF.out]; exact HND.out) (by have := HH2.out.1; omega) hil hol (by show o + i * 4 = _; omega) rfl (by rw [HB.out]; exact flat_Item _ _ _ (kItem_mk _ _)) (cells_cons (by go_simp) (cells_cons (by go_simp) (cells_cons (by go_simp) (cells_cons (by go_simp) cells_nil))))
          have hown := hX2.own
          rw [List.length_set, HH2.out.1, ← HF.out] at hown
          refine ⟨by rw [List.length_set]; exact HH2.out.1, hown, ?_, HH2.out.2.2.trans (by rw [HF.out]; exact own_set_chg hil hol)⟩
          rw [take_set (by have := HH2.out.1; omega)]
          exact MkS_snoc HH2.out.2.1 ⟨rfl, rfl, rfl, rfl, by omega⟩
      · have hi' : i = N := by omega
        subst hi'
        subst hk1
        go_wp2
        go_ret
        obtain ⟨hyl, hOw, hMk, hCh⟩ := HH.out
        rw [List.take_of_length_le (by omega)] at hMk
        exact ⟨ys, rfl, hyl, hOw, hMk, hCh⟩
theorem markWaiterS_calls (xs : List MWaiter) (A : Option Addr) (c : Nat) (k : Int) (w : World) (bs : List Nat) (ho : kWaiter.Own 120 w bs (.slice A xs.length c) xs) (hnd : bs.Nodup) (hl : xs.length ≤ 67108864) (hk0 : 0 ≤ k) (hk : k ≤ 1099511627776) :
    Calls Try.prog 82 #[.slice A xs.length c, .int .i64 k] w fun e w' => ∃ (xs' : List MWaiter), e = .returned (.int .i64 (k + ((xs.length * 3 : Nat) : Int))) ∧ xs'.length = xs.length ∧ kWaiter.Own 120 w' bs (.slice A xs.length c) xs' ∧ MkS MkWaiter xs' k (k + ((xs.length * 3 : Nat) : Int)) ∧ Chg bs w w' := by
  by_cases hn : xs.length = 0
  · have h0 : xs = [] := List.eq_nil_of_length_eq_zero hn
    subst h0
    have HO := Lib.hid ho; clear ho
    go_enter Try.func82, Try.ntmps82
    go_wp2
    go_loopg [1, 5] 1 (fun kq v1 v5 w' => v5 = .int .i64 0 ∧ v1 = .int .i64 k ∧ kq = 1 ∧ w' = w)
    case atStart => exact ⟨rfl, rfl, rfl, rfl⟩
    case round =>
      obtain ⟨rfl, rfl, rfl, rfl⟩ := hrel
      go_wp2
      go_ret
      exact ⟨[], by simp, rfl, HO.out, by simp [MkS], Chg.refl _ _⟩
  · obtain ⟨g, o, c', cur, bss, hv, rfl, hX⟩ := own_x ho (by omega)
    cases hv
    obtain ⟨N, hN⟩ : ∃ N, xs.length = N := ⟨_, rfl⟩
    rw [hN] at hl ho ⊢
    have HO0 := Lib.hid ho; clear ho hX hn
    have HND := Lib.hid hnd; clear hnd
    go_enter Try.func82, Try.ntmps82
    go_wp2
    go_loopg [1, 5] (N + 1) (fun kq v1 v5 w' => ∃ (i : Nat) (k1 : Int) (ys : List MWaiter), v5 = .int .i64 i ∧ v1 = .int .i64 k1 ∧ i + kq = N + 1 ∧ i ≤ N ∧ k1 = k + ((i * 3 : Nat) : Int) ∧ Hid (ys.length = N ∧ kWaiter.Own 120 w' (g :: bss.flatten) (.slice (some ⟨g, o, none⟩) N c) ys ∧ MkS MkWaiter (ys.take i) k k1 ∧ Chg (g :: bss.flatten) w w'))
    case atStart => exact ⟨0, k, xs, rfl, rfl, by omega, by omega, by omega, Lib.hid ⟨hN, HO0.out, rfl, Chg.refl _ _⟩⟩
    case round =>
      obtain ⟨i, k1, ys, rfl, rfl, hi, hi2, hk1, HH⟩ := hrel
      obtain ⟨gk, rfl⟩ : ∃ m, gk = m + 1 := ⟨gk - 1, by omega⟩
      by_cases hlt : i < N
      · obtain ⟨hyl, hOw, hMk, hCh⟩ := HH.out
        obtain ⟨g', o', c2, cur', bss', hv, hbs, hX⟩ := own_x hOw (by omega)
        simp only [Value.slice.injEq, Option.some.injEq, Addr.mk.injEq, List.cons.injEq] at hv hbs
        obtain ⟨⟨rfl, rfl, -⟩, -, rfl⟩ := hv
        have hbf := hbs.2
        have hil : i < bss'.length := by rw [hX.len]; omega
        have hsz : o + c * 3 = cur'.size := hX.size
        have hcn : ys.length ≤ c := hX.le
        have zg : g < wr.heap.size := (Array.getElem?_eq_some_iff.1 hX.blk).1
        obtain ⟨u0x, hc0, hf0⟩ : ∃ u, wr.cell? ⟨g, o + i * 3, none⟩ = some u ∧ wr.frozen? ⟨g, o + i * 3, none⟩ = false := ⟨_, blk_cell hX.blk (by omega)⟩
        obtain ⟨u1x, hc1, hf1⟩ : ∃ u, wr.cell? ⟨g, o + i * 3 + 1, none⟩ = some u ∧ wr.frozen? ⟨g, o + i * 3 + 1, none⟩ = false := ⟨_, blk_cell hX.blk (by omega)⟩
        obtain ⟨u2x, hc2, hf2⟩ : ∃ u, wr.cell? ⟨g, o + i * 3 + 2, none⟩ = some u ∧ wr.frozen? ⟨g, o + i * 3 + 2, none⟩ = false := ⟨_, blk_cell hX.blk (by omega)⟩
        have hb0 : bss'[i] = [] := flatb_Waiter _ _ _ _ (hX.el i ys[i] _ (List.getElem?_eq_getElem (by omega)) (List.getElem?_eq_getElem hil))
        have HH2 := Lib.hid (And.intro hyl (And.intro hMk hCh)); have HX := Lib.hid hX; have HB := Lib.hid hb0; have HF := Lib.hid hbf; clear hX hb0 hbf hbs HH hMk hOw hCh
        have hk1b : 0 ≤ k1 ∧ k1 ≤ 1099511627776 + 67108864 * 3 := by omega
        have HK := Lib.hid hk1; clear hk1
        go_wp2
        go_roundg gk
        case measure => omega
        case rel =>
          refine ⟨i + 1, k1 + 3, ys.set i ⟨k1, k1 + 1, k1 + 1 + 1⟩, by go_num, by go_num, by omega, by omega, by have := HK.out; omega, Lib.hid ?_⟩
          have hol : Hol g (o + i * 3) (o + i * 3 + 3) 120 cur'.size bss'[i] wr _ := (Hol.set (j := o + i * 3 + 2) (by omega) (by omega) (.int .i64 (k1 + 1 + 1)) ((Hol.set (j := o + i * 3 + 1) (by omega) (by omega) (.int .i64 (k1 + 1)) ((Hol.set (j := o + i * 3) (by omega) (by omega) (.int .i64 (k1)) (Hol.refl HX.out.blk))))))
          obtain ⟨cur2, hX2, -⟩ := own_set2 (d := kWaiter) (y := ⟨k1, k1 + 1, k1 + 1 + 1⟩) (cs := [.int .i64 (k1), .int .i64 (k1 + 1), .int .i64 (k1 + 1 + 1)]) HX.out (by rw [← HF.out]; exact HND.out) (by have := HH2.out.1; omega) hil hol (by show o + i * 3 = _; omega) rfl (by rw [HB.out]; exact flat_Waiter _ _ _ (kWaiter_mk _ _)) (cells_cons (by go_simp) (cells_cons (by go_simp) (cells_cons (by go_simp) cells_nil)))
          have hown := hX2.own
          rw [List.length_set, HH2.out.1, ← HF.out] at hown
          refine ⟨by rw [List.length_set]; exact HH2.out.1, hown, ?_, HH2.out.2.2.trans (by rw [HF.out]; exact own_set_chg hil hol)⟩
          rw [take_set (by have := HH2.out.1; omega)]
          exact MkS_snoc HH2.out.2.1 ⟨rfl, rfl, rfl, by omega⟩
      · have hi' : i = N := by omega
        subst hi'
        subst hk1
        go_wp2
        go_ret
        obtain ⟨hyl, hOw, hMk, hCh⟩ := HH.out
        rw [List.take_of_length_le (by omega)] at hMk
        exact ⟨ys, rfl, hyl, hOw, hMk, hCh⟩
theorem heldIntS_calls (xs : List Int) (A : Option Addr) (c : Nat) (k : Int) (w : World) (hr : Rp.int.Row w A xs) (ke : Int) (hM : MkS MkInt xs k ke) (hl : xs.length ≤ 67108864) (hk0 : 0 ≤ k) (hk : k ≤ 1099511627776) :
    Calls Try.prog 20 #[.slice A xs.length c, .int .i64 k] w fun e w' => e = .returned (.int .i64 ke) ∧ Below w.heap.size w w' := by
  have HR := Lib.hid hr; clear hr
  have HM0 := Lib.hid hM; clear hM
  go_enter Try.func20, Try.ntmps20
  go_wp2
  go_loopg [1, 5] (xs.length + 1) (fun kq v1 v5 w' => ∃ (i : Nat) (k1 : Int), v5 = .int .i64 i ∧ v1 = .int .i64 k1 ∧ i + kq = xs.length + 1 ∧ i ≤ xs.length ∧ 0 ≤ k1 ∧ k1 ≤ 1099511627776 + ((i * 1 : Nat) : Int) ∧ Hid (MkS MkInt (xs.drop i) k1 ke) ∧ Below w.heap.size w w')
  case atStart => exact ⟨0, k, rfl, rfl, by omega, by omega, by omega, by omega, Lib.hid HM0.out, bel⟩
  case round =>
    clear HM0
    obtain ⟨i, k1, rfl, rfl, hi, hi2, hk10, hk1, HM, hb⟩ := hrel
    obtain ⟨gk, rfl⟩ : ∃ m, gk = m + 1 := ⟨gk - 1, by omega⟩
    by_cases hlt : i < xs.length
    · obtain ⟨k2, hm, hMr⟩ := MkS_drop hlt HM.out
      obtain ⟨b, o, rfl, g0⟩ := int_at (HR.out.below hb) hlt
      obtain ⟨e0, eN⟩ := hm
      rw [e0] at g0
      subst eN
      have HMr := Lib.hid hMr; clear hMr
      go_wp2
      go_roundg gk
      case measure => omega
      case rel => exact ⟨i + 1, k1 + 1, by go_num, by go_num, by omega, by omega, by omega, by omega, Lib.hid (by have := HMr.out; rw [show k1 + 1 = k1 + 1 by omega]; exact this), bel⟩
    · have hi' : i = xs.length := by omega
      have hke : k1 = ke := by have := HM.out; rw [List.drop_of_length_le (by omega)] at this; exact this.symm
      have HK := Lib.hid hke; clear hke
      go_wp2
      go_ret
      exact ⟨by rw [HK.out]; rfl, hb⟩
end Go.Proofs.Ytebflbenchomoaa.Wd

/- Marks: what a row holds behind a mark, and how it is told. Conditions: bounds on the sizes. -/
import Derived.Test.YtcidbencoebfaaaDoorTyC
import Derived.Test.YtcidbencoebfaaaDoorMk
namespace Go.Proofs.YtcidbencoebfaaaDoor.Wd
open Go.RowKit
set_option linter.unusedVariables false
set_option linter.unusedSimpArgs false
set_option maxHeartbeats 2000000
set_option maxRecDepth 100000
theorem flat_Pick : Flat kPick := flat_iso _ (flat_pair flat_int flat_int)
theorem flatb_Pick : FlatB kPick := flatb_iso _ (flatb_pair flatb_int flatb_int)
def MkPick (x : MPick) (k k' : Int) : Prop := x.g = k ∧ x.c = k + 1 ∧ k' = k + 1 + 1
def MkCmd (x : MCmd) (k k' : Int) : Prop := ∃ m0, x.kind = k ∧ x.a = k + 1 ∧ x.b = k + 1 + 1 ∧ MkS MkPick x.picks (k + 1 + 1 + 1) m0 ∧ k' = m0
theorem mkPickS_end : ∀ {xs : List MPick} {k k' : Int}, MkS MkPick xs k k' → k' = k + ((xs.length * 2 : Nat) : Int)
  | [], k, k', h => by simp only [MkS] at h; simp [h]
  | x :: xs, k, k', ⟨k1, h1, h2⟩ => by
    have := mkPickS_end h2
    obtain ⟨_, _, e⟩ := h1
    simp only [List.length_cons]
    omega
def mcCmd (x : MCmd) : Nat := 3 + x.picks.length * 2
def mcCmdS : List MCmd → Nat
  | [] => 0
  | x :: xs => mcCmd x + mcCmdS xs
theorem mcCmdS_take : ∀ {xs : List MCmd} {i : Nat} (h : i < xs.length), mcCmdS (xs.take (i + 1)) = mcCmdS (xs.take i) + mcCmd xs[i]
  | x :: xs, 0, _ => by simp [mcCmdS]
  | x :: xs, i + 1, h => by
    have := mcCmdS_take (xs := xs) (i := i) (Nat.lt_of_succ_lt_succ h)
    simp only [List.take_succ_cons, mcCmdS, List.getElem_cons_succ] at this ⊢
    omega
theorem mcCmdS_le : ∀ (xs : List MCmd), mcCmdS xs ≤ 3 * (xs.length + cntCmdS xs)
  | [] => Nat.zero_le _
  | x :: xs => by
    have := mcCmdS_le xs
    simp only [mcCmdS, mcCmd, cntCmdS, cntCmd, List.length_cons]
    omega
theorem mcCmdS_takele : ∀ {xs : List MCmd} {i : Nat}, mcCmdS (xs.take i) ≤ mcCmdS xs
  | [], i => by simp
  | x :: xs, 0 => Nat.zero_le _
  | x :: xs, i + 1 => Nat.add_le_add_left (mcCmdS_takele (xs := xs)) _
theorem mkCmdS_end : ∀ {xs : List MCmd} {k k' : Int}, MkS MkCmd xs k k' → k' = k + ((mcCmdS xs : Nat) : Int)
  | [], k, k', h => by simp only [MkS] at h; simp [h, mcCmdS]
  | x :: xs, k, k', ⟨k1, h1, h2⟩ => by
    have := mkCmdS_end h2
    obtain ⟨m0, _, _, _, hh0, e⟩ := h1
    have := mkPickS_end hh0
    simp only [mcCmdS, mcCmd]
    omega
theorem markPickS_calls (xs : List MPick) (A : Option Addr) (c : Nat) (k : Int) (w : World) (bs : List Nat) (ho : kPick.Own 32 w bs (.slice A xs.length c) xs) (hnd : bs.Nodup) (hl : xs.length ≤ 67108864) (hk0 : 0 ≤ k) (hk : k ≤ 1099511627776) :
    Calls Tryd.prog 36 #[.slice A xs.length c, .int .i64 k] w fun e w' => ∃ (xs' : List MPick), e = .returned (.int .i64 (k + ((xs.length * 2 : Nat) : Int))) ∧ xs'.length = xs.length ∧ kPick.Own 32 w' bs (.slice A xs.length c) xs' ∧ MkS MkPick xs' k (k + ((xs.length * 2 : Nat) : Int)) ∧ Chg bs w w' := by
  by_cases hn : xs.length = 0
  · have h0 : xs = [] := List.eq_nil_of_length_eq_zero hn
    subst h0
    have HO := Lib.hid ho; clear ho
    go_enter Tryd.func36, Tryd.ntmps36
    go_wp2
    go_loopg [1, 5] 1 (fun kq v1 v5 w' => v5 = .int .i64 0 ∧ v1 = .int .i64 k ∧ kq = 1 ∧ w' = w)
    case atStart => exact ⟨rfl, rfl, rfl, rfl⟩
    case round =>
      obtain ⟨rfl, rfl, rfl, rfl⟩ := hrel
      go_wp2
      go_ret
      exact ⟨[], by simp, rfl, HO.out, by simp [MkS], Chg.refl _ _⟩
  · obtain ⟨g, o, c', cur, bss, hv, rfl, hX⟩ := own_x ho (by omega)
    cases hv
    obtain ⟨N, hN⟩ : ∃ N, xs.length = N := ⟨_, rfl⟩
    rw [hN] at hl ho ⊢
    have HO0 := Lib.hid ho; clear ho hX hn
    have HND := Lib.hid hnd; clear hnd
    go_enter Tryd.func36, Tryd.ntmps36
    go_wp2
    go_loopg [1, 5] (N + 1) (fun kq v1 v5 w' => ∃ (i : Nat) (k1 : Int) (ys : List MPick), v5 = .int .i64 i ∧ v1 = .int .i64 k1 ∧ i + kq = N + 1 ∧ i ≤ N ∧ k1 = k + ((i * 2 : Nat) : Int) ∧ Hid (ys.length = N ∧ kPick.Own 32 w' (g :: bss.flatten) (.slice (some ⟨g, o, none⟩) N c) ys ∧ MkS MkPick (ys.take i) k k1 ∧ Chg (g :: bss.flatten) w w'))
    case atStart => exact ⟨0, k, xs, rfl, rfl, by omega, by omega, by omega, Lib.hid ⟨hN, HO0.out, rfl, Chg.refl _ _⟩⟩
    case round =>
      obtain ⟨i, k1, ys, rfl, rfl, hi, hi2, hk1, HH⟩ := hrel
      obtain ⟨gk, rfl⟩ : ∃ m, gk = m + 1 := ⟨gk - 1, by omega⟩
      by_cases hlt : i < N
      · obtain ⟨hyl, hOw, hMk, hCh⟩ := HH.out
        obtain ⟨g', o', c2, cur', bss', hv, hbs, hX⟩ := own_x hOw (by omega)
        simp only [Value.slice.injEq, Option.some.injEq, Addr.mk.injEq, List.cons.injEq] at hv hbs
        obtain ⟨⟨rfl, rfl, -⟩, -, rfl⟩ := hv
        have hbf := hbs.2
        have hil : i < bss'.length := by rw [hX.len]; omega
        have hsz : o + c * 2 = cur'.size := hX.size
        have hcn : ys.length ≤ c := hX.le
        have zg : g < wr.heap.size := (Array.getElem?_eq_some_iff.1 hX.blk).1
        obtain ⟨u0x, hc0, hf0⟩ : ∃ u, wr.cell? ⟨g, o + i * 2, none⟩ = some u ∧ wr.frozen? ⟨g, o + i * 2, none⟩ = false := ⟨_, blk_cell hX.blk (by omega)⟩
        obtain ⟨u1x, hc1, hf1⟩ : ∃ u, wr.cell? ⟨g, o + i * 2 + 1, none⟩ = some u ∧ wr.frozen? ⟨g, o + i * 2 + 1, none⟩ = false := ⟨_, blk_cell hX.blk (by omega)⟩
        have hb0 : bss'[i] = [] := flatb_Pick _ _ _ _ (hX.el i ys[i] _ (List.getElem?_eq_getElem (by omega)) (List.getElem?_eq_getElem hil))
        have HH2 := Lib.hid (And.intro hyl (And.intro hMk hCh)); have HX := Lib.hid hX; have HB := Lib.hid hb0; have HF := Lib.hid hbf; clear hX hb0 hbf hbs HH hMk hOw hCh
        have hk1b : 0 ≤ k1 ∧ k1 ≤ 1099511627776 + 67108864 * 2 := by omega
        have HK := Lib.hid hk1; clear hk1
        go_wp2
        go_roundg gk
        case measure => omega
        case rel =>
          refine ⟨i + 1, k1 + 2, ys.set i ⟨k1, k1 + 1⟩, by go_num, by go_num, by omega, by omega, by have := HK.out; omega, Lib.hid ?_⟩
          have hol : Hol g (o + i * 2) (o + i * 2 + 2) 32 cur'.size bss'[i] wr _ := (Hol.set (j := o + i * 2 + 1) (by omega) (by omega) (.int .i64 (k1 + 1)) ((Hol.set (j := o + i * 2) (by omega) (by omega) (.int .i64 (k1)) (Hol.refl HX.out.blk))))
          obtain ⟨cur2, hX2, -⟩ := own_set2 (d := kPick) (y := ⟨k1, k1 + 1⟩) (cs := [.int .i64 (k1), .int .i64 (k1 + 1)]) HX.out (by rw [← HF.out]; exact HND.out) (by have := HH2.out.1; omega) hil hol (by show o + i * 2 = _; omega) rfl (by rw [HB.out]; exact flat_Pick _ _ _ (kPick_mk _ _)) (cells_cons (by go_simp) (cells_cons (by go_simp) cells_nil))
          have hown := hX2.own
          rw [List.length_set, HH2.out.1, ← HF.out] at hown
          refine ⟨by rw [List.length_set]; exact HH2.out.1, hown, ?_, HH2.out.2.2.trans (by rw [HF.out]; exact own_set_chg hil hol)⟩
          rw [take_set (by have := HH2.out.1; omega)]
          exact MkS_snoc HH2.out.2.1 ⟨rfl, rfl, by omega⟩
      · have hi' : i = N := by omega
        subst hi'
        subst hk1
        go_wp2
        go_ret
        obtain ⟨hyl, hOw, hMk, hCh⟩ := HH.out
        rw [List.take_of_length_le (by omega)] at hMk
        exact ⟨ys, rfl, hyl, hOw, hMk, hCh⟩
theorem heldPickS_calls (xs : List MPick) (A : Option Addr) (c : Nat) (k : Int) (w : World) (hr : kPick.Row w A xs) (ke : Int) (hM : MkS MkPick xs k ke) (hl : xs.length ≤ 67108864) (hk0 : 0 ≤ k) (hk : k ≤ 1099511627776) :
    Calls Tryd.prog 37 #[.slice A xs.length c, .int .i64 k] w fun e w' => e = .returned (.int .i64 ke) ∧ Below w.heap.size w w' := by
  have HR := Lib.hid hr; clear hr
  have HM0 := Lib.hid hM; clear hM
  go_enter Tryd.func37, Tryd.ntmps37
  go_wp2
  go_loopg [1, 5] (xs.length + 1) (fun kq v1 v5 w' => ∃ (i : Nat) (k1 : Int), v5 = .int .i64 i ∧ v1 = .int .i64 k1 ∧ i + kq = xs.length + 1 ∧ i ≤ xs.length ∧ 0 ≤ k1 ∧ k1 ≤ 1099511627776 + ((i * 2 : Nat) : Int) ∧ Hid (MkS MkPick (xs.drop i) k1 ke) ∧ Below w.heap.size w w')
  case atStart => exact ⟨0, k, rfl, rfl, by omega, by omega, by omega, by omega, Lib.hid HM0.out, bel⟩
  case round =>
    clear HM0
    obtain ⟨i, k1, rfl, rfl, hi, hi2, hk10, hk1, HM, hb⟩ := hrel
    obtain ⟨gk, rfl⟩ : ∃ m, gk = m + 1 := ⟨gk - 1, by omega⟩
    by_cases hlt : i < xs.length
    · obtain ⟨k2, hm, hMr⟩ := MkS_drop hlt HM.out
      obtain ⟨b, o, rfl, g0, g1⟩ := kPick_at (HR.out.below hb) hlt
      obtain ⟨e0, e1, eN⟩ := hm
      rw [e0] at g0
      rw [e1] at g1
      subst eN
      have HMr := Lib.hid hMr; clear hMr
      go_wp2
      go_roundg gk
      case measure => omega
      case rel => exact ⟨i + 1, k1 + 2, by go_num, by go_num, by omega, by omega, by omega, by omega, Lib.hid (by have := HMr.out; rw [show k1 + 2 = k1 + 1 + 1 by omega]; exact this), bel⟩
    · have hi' : i = xs.length := by omega
      have hke : k1 = ke := by have := HM.out; rw [List.drop_of_length_le (by omega)] at this; exact this.symm
      have HK := Lib.hid hke; clear hke
      go_wp2
      go_ret
      exact ⟨by rw [HK.out]; rfl, hb⟩
end Go.Proofs.YtcidbencoebfaaaDoor.Wd


/- Contracts of the laws' helpers over commands. Conditions: none. -/
import Derived.Test.YtplkfpjcfalifaaTyC
namespace Go.Proofs.Ytplkfpjcfalifaa.Wd
open Go.RowKit
set_option linter.unusedVariables false
set_option linter.unusedSimpArgs false
set_option maxHeartbeats 2000000
set_option maxRecDepth 100000
theorem eqPick_calls (x y : MPick) (cs ds : List Value) (w : World) (hx : kPick.K w x cs) (hy : kPick.K w y ds) :
    Calls Try.prog 70 #[.agg cs.toArray, .agg ds.toArray] w fun e w' => e = .returned (.bool (decide (x = y))) ∧ Below w.heap.size w w' := by
  obtain rfl := kPick_K hx
  obtain rfl := kPick_K hy
  clear hx hy
  obtain ⟨x0, x1⟩ := x
  obtain ⟨y0, y1⟩ := y
  go_enter Try.func70, Try.ntmps70
  go_wp2
  all_goals (go_ret; refine ⟨?_, bel⟩; simp_all)

theorem eqPickS_calls (xs ys : List MPick) (A B : Option Addr) (c d : Nat) (w : World) (hr : kPick.Row w A xs) (hs : kPick.Row w B ys) :
    Calls Try.prog 44 #[.slice A xs.length c, .slice B ys.length d] w fun e w' => e = .returned (.bool (decide (xs = ys))) ∧ Below w.heap.size w w' := by
  have hm := hr.1
  have HR := Lib.hid hr; clear hr
  have HS := Lib.hid hs; clear hs
  by_cases hl : xs.length = ys.length
  · have b2 : ((xs.length : Int) != (ys.length : Int)) = false := by simp [hl]
    have b3 : (xs.length != ys.length) = false := by simp [hl]
    have Hl := Lib.hid hl; clear hl
    go_enter Try.func44, Try.ntmps44
    go_wp2
    go_loopg [5] (xs.length + 1) (fun kq v5 w' => ∃ i : Nat, v5 = .int .i64 i ∧ i + kq = xs.length + 1 ∧ i ≤ xs.length ∧ Hid (∀ j, j < i → xs[j]? = ys[j]?) ∧ Below w.heap.size w w')
    case atStart => exact ⟨0, rfl, by omega, by omega, Lib.hid fun j hj => absurd hj (by omega), Below.refl _ _⟩
    case round =>
      obtain ⟨i, rfl, hi, hi2, HP, hb⟩ := hrel
      obtain ⟨gk, rfl⟩ : ∃ m, gk = m + 1 := ⟨gk - 1, by omega⟩
      by_cases hlt : i < xs.length
      · have hlt' : i < ys.length := by have := Hl.out; omega
        obtain ⟨b, o, rfl, g0, g1⟩ := kPick_at (HR.out.below hb) hlt
        obtain ⟨b', o', rfl, k0, k1⟩ := kPick_at (HS.out.below hb) hlt'
        go_wp2_with fail
        go_still_tail 8, (by kernel_rfl)
        change wpList _ _ _ _ _ wr.drew
        by_cases he : xs[i] = ys[i]
        · have hd : decide (xs[i] = ys[i]) = true := decide_eq_true he
          have He := Lib.hid he; clear he
          go_wp2_with fail
          refine (eqPick_calls xs[i] ys[i] [_, _] [_, _] _ (kPick_mk _ _) (kPick_mk _ _)).mono ?_
          rintro e w' ⟨rfl, hb2⟩
          go_wp2
          go_roundg gk
          case measure => omega
          case rel => exact ⟨i + 1, by go_num, by omega, by omega, Lib.hid fun j hj => (by
            rcases Nat.lt_succ_iff_lt_or_eq.1 hj with h | rfl
            · exact HP.out j h
            · rw [List.getElem?_eq_getElem hlt, List.getElem?_eq_getElem hlt', He.out]), bstep hb hb2⟩
        · have hd : decide (xs[i] = ys[i]) = false := decide_eq_false he
          have He := Lib.hid he; clear he
          go_wp2_with fail
          refine (eqPick_calls xs[i] ys[i] [_, _] [_, _] _ (kPick_mk _ _) (kPick_mk _ _)).mono ?_
          rintro e w' ⟨rfl, hb2⟩
          go_wp2
          go_ret
          exact ⟨retF (by rintro rfl; exact He.out rfl), bstep hb hb2⟩
      · have hi' : i = xs.length := by omega
        subst hi'
        go_wp2
        go_ret
        exact ⟨retT (take_eq Hl.out HP.out), bel⟩
  · have b2 : ((xs.length : Int) != (ys.length : Int)) = true := by simp; omega
    have b3 : (xs.length != ys.length) = true := by simp [hl]
    go_enter Try.func44, Try.ntmps44
    go_wp2
    go_ret
    exact ⟨retF (by rintro rfl; exact hl rfl), bel⟩

theorem eqCmd_calls (x y : MCmd) (cs ds : List Value) (w : World) (hx : kCmd.K w x cs) (hy : kCmd.K w y ds) :
    Calls Try.prog 19 #[.agg cs.toArray, .agg ds.toArray] w fun e w' => e = .returned (.bool (decide (x = y))) ∧ Below w.heap.size w w' := by
  obtain ⟨A0, c0, rfl, l0, r0⟩ := kCmd_K hx
  obtain ⟨B0, d0, rfl, m0, s0⟩ := kCmd_K hy
  clear hx hy
  obtain ⟨x0, x1, x2, x3⟩ := x
  obtain ⟨y0, y1, y2, y3⟩ := y
  simp only at *
  have R0 := Lib.hid r0; clear r0
  have S0 := Lib.hid s0; clear s0
  go_enter Try.func19, Try.ntmps19
  go_wp2_with (first
    | (go_at_call 44; (with_reducible refine (eqPickS_calls _ _ _ _ _ _ _ (R0.out.below bel) (S0.out.below bel)).mono ?_); rintro e w4 ⟨rfl, hb4⟩; obtain ⟨C4, D4⟩ := bcell hb4; obtain ⟨za4, zb4⟩ : w.heap.size < w4.heap.size ∧ w.heap.size + 1 < w4.heap.size := (by have := hb4.size; (try simp at this); omega)))
  all_goals (go_ret; refine ⟨?_, bel⟩; simp_all)
theorem toPick_calls (x : MPick) (cs : List Value) (w : World) (hx : kPick.K w x cs) :
    Calls Try.prog 67 #[.agg cs.toArray] w fun e w' => ∃ cs' bs, e = .returned (.agg cs'.toArray) ∧ kPick.O w' bs x cs' ∧ Fresh w bs ∧ Below w.heap.size w w' := by
  obtain rfl := kPick_K hx
  clear hx
  obtain ⟨x0, x1⟩ := x
  go_enter Try.func67, Try.ntmps67
  go_wp2
  refine bodyPost_ret (v := .agg #[.int .i64 x0, .int .i64 x1]) ?_ ?_ ?_
  · simp only [results, Try.results67]
    go_simp
  · rfl
  · exact ⟨_, _, rfl, kPick_mkO _ ⟨x0, x1⟩, fresh_nil _, bel⟩

theorem toPickS_calls (xs : List MPick) (A : Option Addr) (c : Nat) (w : World) (hr : kPick.Row w A xs) (hm : xs.length ≤ 1048576) :
    Calls Try.prog 40 #[.slice A xs.length c] w fun e w' => ∃ B d bs, e = .returned (.slice B xs.length d) ∧ kPick.Own 82 w' bs (.slice B xs.length d) xs ∧ Fresh w bs ∧ Below w.heap.size w w' := by
  have HR := Lib.hid hr; clear hr
  have hmk := mkrow (P := Try.prog) 32 82 2 16 _ Try.underlying32 info_Pick xs.length (by omega) (by omega)
  go_enter Try.func40, Try.ntmps40
  go_wp2
  clear hmk
  have F0 := Fill.init kPick 82 w xs xs.length (madeCells #[.int .i64 0, .int .i64 0] (xs.length * 2)) (by rw [size_madeCells]; rfl)
  have hb0 : Below w.heap.size w (w.alloc (.cells (madeCells #[.int .i64 0, .int .i64 0] (xs.length * 2)) 82)) := bel
  generalize hg : w.heap.size = g at F0 ⊢
  replace hg : w.heap.size ≤ g := Nat.le_of_eq hg
  go_loopg [4] (xs.length + 1) (fun kq v4 w' => ∃ i : Nat, v4 = .int .i64 i ∧ i + kq = xs.length + 1 ∧ i ≤ xs.length ∧ (∃ cur bss, Hid (Fill kPick 82 w w' g xs.length (xs.take i) cur bss)) ∧ Below w.heap.size w w')
  case atStart => exact ⟨0, rfl, by omega, by omega, F0, hb0⟩
  case round =>
    clear F0 hb0
    obtain ⟨i, rfl, hi, hi2, ⟨cur, bss, HF⟩, hb⟩ := hrel
    obtain ⟨gk, rfl⟩ : ∃ m, gk = m + 1 := ⟨gk - 1, by omega⟩
    by_cases hlt : i < xs.length
    · obtain ⟨b, o, rfl, g0, g1⟩ := kPick_at (HR.out.below hb) hlt
      go_wp2_with fail
      refine (toPick_calls xs[i] [_, _] _ (kPick_mk _ _)).mono ?_
      rintro e w1 ⟨cs', bs, rfl, ho, hfr, hb1⟩
      have HO := Lib.hid ho
      obtain ⟨rfl, rfl⟩ := kPick_O ho
      obtain ⟨u0, q0, f0⟩ := Fill.cell HF hb1 hlt 0 (at_ := i * 2) (by decide) rfl
      obtain ⟨u1, q1, f1⟩ := Fill.cell HF hb1 hlt 1 (at_ := i * 2 + 1) (by decide) rfl
      have HFR := Lib.hid hfr; clear hfr
      clear ho
      go_wp2
      go_roundg gk
      case measure => omega
      case rel => exact ⟨i + 1, by go_num, by omega, by omega, Fill.next HF hlt hlt hb1 HO.out HFR.out rfl, ((bvia hb1 hb).setCell hg _).setCell hg _⟩
    · go_wp2
      go_ret
      obtain ⟨bs, h1, h2⟩ := Fill.fin HF (by omega) rfl (by omega)
      exact ⟨_, _, bs, rfl, h1, h2, bel⟩

theorem toCmd_calls (x : MCmd) (cs : List Value) (w : World) (hx : kCmd.K w x cs) (hc : cntCmd x ≤ 1048576) :
    Calls Try.prog 17 #[.agg cs.toArray] w fun e w' => ∃ cs' bs, e = .returned (.agg cs'.toArray) ∧ kCmd.O w' bs x cs' ∧ Fresh w bs ∧ Below w.heap.size w w' := by
  obtain ⟨A0, c0, rfl, l0, r0⟩ := kCmd_K hx
  clear hx
  unfold cntCmd at hc
  obtain ⟨x0, x1, x2, x3⟩ := x
  simp only at *
  have R0 := Lib.hid r0; clear r0
  go_enter Try.func17, Try.ntmps17
  go_wp2_with (first
    | (go_at_call 40; (with_reducible refine (toPickS_calls x3 _ _ _ (R0.out.below bel) (by omega)).mono ?_); rintro e w0 ⟨E0, e0, b0, rfl, o0, f0, hb0⟩; obtain ⟨C0, D0⟩ := bcell hb0; obtain ⟨za0, zb0, zc0⟩ : w.heap.size < w0.heap.size ∧ w.heap.size + 1 < w0.heap.size ∧ w.heap.size + 1 + 1 < w0.heap.size := (by have := hb0.size; (try simp at this); omega); have Ho0 := Lib.hid o0; clear o0; have Hf0 := Lib.hid f0; clear f0))
  refine bodyPost_ret (v := .agg #[.int .i64 x0, .int .i64 x1, .int .i64 x2, .slice E0 x3.length e0]) ?_ ?_ ?_
  · simp only [results, Try.results17]
    go_simp
  · rfl
  · exact ⟨_, _, rfl, kCmd_mkO _ ⟨x0, x1, x2, x3⟩ (Hf0.out.own Ho0.out), Hf0.out.sub, bel⟩
theorem szPickS_calls (xs : List MPick) (A : Option Addr) (c : Nat) (l : Int) (w : World) (hr : kPick.Row w A xs) (h0 : 0 ≤ l) (h1 : l ≤ 1048576) :
    Calls Try.prog 34 #[.slice A xs.length c, .int .i64 l] w fun e w' => e = .returned (.int .i64 (szr l xs.length)) ∧ Below w.heap.size w w' := by
  have hm := hr.1
  clear hr
  unfold szr
  by_cases h : (xs.length : Int) ≤ l
  · rw [if_pos h]
    have t1 : decide (l - (xs.length : Int) < 0) = false := by simp; omega
    go_enter Try.func34, Try.ntmps34
    go_wp2
    go_ret
    exact ⟨rfl, bel⟩
  · rw [if_neg h]
    have t1 : decide (l - (xs.length : Int) < 0) = true := by simp; omega
    go_enter Try.func34, Try.ntmps34
    go_wp2
    go_ret
    exact ⟨rfl, bel⟩

theorem szCmd_calls (x : MCmd) (cs : List Value) (l : Int) (w : World) (hx : kCmd.K w x cs) (h0 : 0 ≤ l) (h1 : l ≤ 1048576) :
    Calls Try.prog 15 #[.agg cs.toArray, .int .i64 l] w fun e w' => e = .returned (.int .i64 (szr l (cntCmd x))) ∧ Below w.heap.size w w' := by
  obtain ⟨A0, c0, rfl, l0, r0⟩ := kCmd_K hx
  clear hx
  unfold cntCmd
  obtain ⟨x0, x1, x2, x3⟩ := x
  simp only at *
  have R0 := Lib.hid r0; clear r0
  by_cases h2 : ((x3.length : Nat) : Int) ≤ l
  rotate_left
  · go_enter Try.func15, Try.ntmps15
    go_wp2_with fail
    refine (sz_no (szPickS_calls x3 _ _ (l) _ (R0.out.below bel) (by omega) (by omega)) rfl (by omega)).mono ?_
    rintro e w0 ⟨rfl, hb0⟩
    obtain ⟨C0, D0⟩ := bcell hb0
    have za0 : w.heap.size < w0.heap.size := by have := hb0.size; (try simp at this); omega
    go_wp2
    go_ret
    refine ⟨?_, bel⟩
    exact szr_n (by omega)
  have t0 : decide (l - ((x3.length : Nat) : Int) < 0) = false := by simp; omega
  go_enter Try.func15, Try.ntmps15
  go_wp2_with fail
  refine (sz_yes (szPickS_calls x3 _ _ (l) _ (R0.out.below bel) (by omega) (by omega)) rfl (by omega)).mono ?_
  rintro e w0 ⟨rfl, hb0⟩
  obtain ⟨C0, D0⟩ := bcell hb0
  have za0 : w.heap.size < w0.heap.size := by have := hb0.size; (try simp at this); omega
  go_wp2
  go_ret
  refine ⟨?_, bel⟩
  exact szr_y (by omega) (by omega)
end Go.Proofs.Ytplkfpjcfalifaa.Wd

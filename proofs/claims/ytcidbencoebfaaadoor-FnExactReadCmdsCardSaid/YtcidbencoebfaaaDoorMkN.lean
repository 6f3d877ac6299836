/- Marks: what a row holds behind a mark, and how it is told. Conditions: bounds on the sizes. -/
import Derived.Test.YtcidbencoebfaaaDoorMkF
namespace Go.Proofs.YtcidbencoebfaaaDoor.Wd
open Go.RowKit
set_option linter.unusedVariables false
set_option linter.unusedSimpArgs false
set_option maxHeartbeats 2000000
set_option maxRecDepth 100000
theorem markCmdS_calls (xs : List MCmd) (A : Option Addr) (c : Nat) (k : Int) (w : World) (bs : List Nat) (ho : kCmd.Own 27 w bs (.slice A xs.length c) xs) (hnd : bs.Nodup) (hl : xs.length + cntCmdS xs ≤ 67108864) (hk0 : 0 ≤ k) (hk : k ≤ 549755813888) :
    Calls Tryd.prog 16 #[.slice A xs.length c, .int .i64 k] w fun e w' => ∃ (xs' : List MCmd), e = .returned (.int .i64 (k + ((mcCmdS xs : Nat) : Int))) ∧ xs'.length = xs.length ∧ kCmd.Own 27 w' bs (.slice A xs.length c) xs' ∧ MkS MkCmd xs' k (k + ((mcCmdS xs : Nat) : Int)) ∧ Chg bs w w' := by
  have hmle := mcCmdS_le xs
  by_cases hn : xs.length = 0
  · have h0 : xs = [] := List.eq_nil_of_length_eq_zero hn
    subst h0
    have HO := Lib.hid ho; clear ho
    go_enter Tryd.func16, Tryd.ntmps16
    go_wp2
    go_loopg [1, 5] 1 (fun kq v1 v5 w' => v5 = .int .i64 0 ∧ v1 = .int .i64 k ∧ kq = 1 ∧ w' = w)
    case atStart => exact ⟨rfl, rfl, rfl, rfl⟩
    case round =>
      obtain ⟨rfl, rfl, rfl, rfl⟩ := hrel
      go_wp2
      go_ret
      exact ⟨[], by simp [mcCmdS], rfl, HO.out, by simp [MkS, mcCmdS], Chg.refl _ _⟩
  · obtain ⟨g, o, c', cur, bss, hv, rfl, hX⟩ := own_x ho (by omega)
    cases hv
    obtain ⟨N, hN⟩ : ∃ N, xs.length = N := ⟨_, rfl⟩
    rw [hN] at ho ⊢
    have HO0 := Lib.hid ho; clear ho hX hn
    have HND := Lib.hid hnd; clear hnd
    go_enter Tryd.func16, Tryd.ntmps16
    go_wp2
    go_loopg [1, 5] (N + 1) (fun kq v1 v5 w' => ∃ (i : Nat) (k1 : Int) (ys : List MCmd), v5 = .int .i64 i ∧ v1 = .int .i64 k1 ∧ i + kq = N + 1 ∧ i ≤ N ∧ k1 = k + ((mcCmdS (xs.take i) : Nat) : Int) ∧ Hid (ys.length = N ∧ kCmd.Own 27 w' (g :: bss.flatten) (.slice (some ⟨g, o, none⟩) N c) ys ∧ MkS MkCmd (ys.take i) k k1 ∧ ys.drop i = xs.drop i ∧ Chg (g :: bss.flatten) w w'))
    case atStart => exact ⟨0, k, xs, rfl, rfl, by omega, by omega, by simp [mcCmdS], Lib.hid ⟨hN, HO0.out, rfl, rfl, Chg.refl _ _⟩⟩
    case round =>
      obtain ⟨i, k1, ys, rfl, rfl, hi, hi2, hk1, HH⟩ := hrel
      obtain ⟨gk, rfl⟩ : ∃ m, gk = m + 1 := ⟨gk - 1, by omega⟩
      have htl := mcCmdS_takele (xs := xs) (i := i)
      by_cases hlt : i < N
      · obtain ⟨hyl, hOw, hMk, hdr, hCh⟩ := HH.out
        obtain ⟨g', o', c2, cur', bss', hv, hbs, hX⟩ := own_x hOw (by omega)
        simp only [Value.slice.injEq, Option.some.injEq, Addr.mk.injEq, List.cons.injEq] at hv hbs
        obtain ⟨⟨rfl, rfl, -⟩, -, rfl⟩ := hv
        have hbf := hbs.2
        have hil : i < bss'.length := by rw [hX.len]; omega
        have hsz : o + c * 4 = cur'.size := hX.size
        have hcn : ys.length ≤ c := hX.le
        have zg : g < wr.heap.size := (Array.getElem?_eq_some_iff.1 hX.blk).1
        have hxi : i < xs.length := by omega
        have hcx := cntCmdS_at hxi
        unfold cntCmd at hcx
        obtain ⟨ex, hex⟩ : ∃ ex, xs[i] = ex := ⟨_, rfl⟩
        rw [hex] at hcx
        have HEX := Lib.hid hex
        have hel := hX.el i ex bss'[i] (by rw [List.getElem?_eq_getElem (by omega), drop_at hdr hxi (by omega), hex]) (List.getElem?_eq_getElem hil)
        clear hex
        have hk1b : 0 ≤ k1 ∧ k1 ≤ 549755813888 + 1073741824 := by omega
        have HK := Lib.hid hk1; clear hk1
        have HH2 := Lib.hid (And.intro hyl (And.intro hMk hCh))
        obtain ⟨B0, d0, b0, hcs, hbs2, o0⟩ := kCmd_O hel
        have g0 : wr.cell? ⟨g, o + i * 4, none⟩ = some (.int .i64 ex.kind) := seg_cell hX.blk hcs (j := 0) rfl
        have f0 : wr.frozen? ⟨g, o + i * 4, none⟩ = false := (blk_cell hX.blk (j := o + i * 4) (by omega)).2
        have g1 : wr.cell? ⟨g, o + i * 4 + 1, none⟩ = some (.int .i64 ex.a) := seg_cell hX.blk hcs (j := 1) rfl
        have f1 : wr.frozen? ⟨g, o + i * 4 + 1, none⟩ = false := (blk_cell hX.blk (j := o + i * 4 + 1) (by omega)).2
        have g2 : wr.cell? ⟨g, o + i * 4 + 2, none⟩ = some (.int .i64 ex.b) := seg_cell hX.blk hcs (j := 2) rfl
        have f2 : wr.frozen? ⟨g, o + i * 4 + 2, none⟩ = false := (blk_cell hX.blk (j := o + i * 4 + 2) (by omega)).2
        have g3 : wr.cell? ⟨g, o + i * 4 + 3, none⟩ = some (.slice B0 ex.picks.length d0) := seg_cell hX.blk hcs (j := 3) rfl
        have f3 : wr.frozen? ⟨g, o + i * 4 + 3, none⟩ = false := (blk_cell hX.blk (j := o + i * 4 + 3) (by omega)).2
        have hnd2 : (g :: (b0)).Nodup := by
          have h1 := HND.out; rw [hbf] at h1
          have h2 : bss'[i].Sublist bss'.flatten := sub_flat hil
          rw [hbs2] at h2; exact h1.sublist (List.Sublist.cons_cons _ h2)
        have hg0 : g ∉ b0 := fun h => (List.nodup_cons.1 hnd2).1 (by simp [h])
        have hnn := (List.nodup_cons.1 hnd2).2
        have hn0 := hnn
        have HX := Lib.hid hX; have HB2 := Lib.hid hbs2; have HF := Lib.hid hbf; have HND2 := Lib.hid hnd2; have HD := Lib.hid hdr; clear hX hbs2 hcs hel hbf hbs HH hMk hOw hCh hdr hnd2
        have O0 := Lib.hid o0; clear o0
        go_wp2_with fail
        refine settleC ?_
        intro V0 hV0
        have hol0 : Hol g (o + i * 4) (o + i * 4 + 4) 27 cur'.size bss'[i] wr V0 := by rw [hV0]; exact Hol.set (j := o + i * 4 + 2) (by omega) (by omega) (.int .i64 (k1 + 1 + 1)) (Hol.set (j := o + i * 4 + 1) (by omega) (by omega) (.int .i64 (k1 + 1)) (Hol.set (j := o + i * 4) (by omega) (by omega) (.int .i64 (k1)) (Hol.refl HX.out.blk)))
        have chg0 : Chg ([g]) wr V0 := by rw [hV0]; exact Chg.setc (g := g) (j := o + i * 4 + 2) (by simp) (.int .i64 (k1 + 1 + 1)) (Chg.setc (g := g) (j := o + i * 4 + 1) (by simp) (.int .i64 (k1 + 1)) (Chg.setc (g := g) (j := o + i * 4) (by simp) (.int .i64 (k1)) (Chg.refl _ _)))
        have G0_0 : V0.cell? ⟨g, o + i * 4, none⟩ = some (.int .i64 (k1)) := by rw [hV0]; go_simp
        have G0_1 : V0.cell? ⟨g, o + i * 4 + 1, none⟩ = some (.int .i64 (k1 + 1)) := by rw [hV0]; go_simp
        have G0_2 : V0.cell? ⟨g, o + i * 4 + 2, none⟩ = some (.int .i64 (k1 + 1 + 1)) := by rw [hV0]; go_simp
        have G0_3 : V0.cell? ⟨g, o + i * 4 + 3, none⟩ = some (.slice B0 ex.picks.length d0) := by rw [hV0]; go_simp
        clear hV0
        have P0_0 := Lib.hid (chg0.own (fun b hb hm => by simp only [List.mem_singleton] at hm; subst hm; exact hg0 hb) O0.out)
        refine (markPickS_calls ex.picks B0 d0 (k1 + 1 + 1 + 1) V0 b0 P0_0.out hn0 (by omega) (by omega) (by omega)).mono ?_
        rintro e w0 ⟨y0, he, hl0, p0, hm0, hc0⟩
        obtain ⟨kq0, hkq0⟩ : ∃ kq : Int, k1 + 1 + 1 + 1 + ((ex.picks.length * 2 : Nat) : Int) = kq := ⟨_, rfl⟩
        rw [hkq0] at he hm0; subst he
        have bkq0 : 0 ≤ kq0 ∧ kq0 ≤ 549755813888 + 1073741824 + 1073741824 := by omega
        have HKQ0 := Lib.hid hkq0; clear hkq0
        have holc0 : Hol g (o + i * 4) (o + i * 4 + 4) 27 cur'.size bss'[i] wr w0 := Hol.chg hc0 hg0 (fun b hb => .inl (by rw [HB2.out]; simp [hb])) hol0
        obtain ⟨cu0, hcu0, hsz0⟩ := holc0.shape
        have g0 := hc0.cell hg0 G0_0
        have f0 : w0.frozen? ⟨g, o + i * 4, none⟩ = false := (blk_cell hcu0 (j := o + i * 4) (by omega)).2
        have g1 := hc0.cell hg0 G0_1
        have f1 : w0.frozen? ⟨g, o + i * 4 + 1, none⟩ = false := (blk_cell hcu0 (j := o + i * 4 + 1) (by omega)).2
        have g2 := hc0.cell hg0 G0_2
        have f2 : w0.frozen? ⟨g, o + i * 4 + 2, none⟩ = false := (blk_cell hcu0 (j := o + i * 4 + 2) (by omega)).2
        have g3 := hc0.cell hg0 G0_3
        have f3 : w0.frozen? ⟨g, o + i * 4 + 3, none⟩ = false := (blk_cell hcu0 (j := o + i * 4 + 3) (by omega)).2
        clear G0_0 G0_1 G0_2 G0_3
        have zg0 : g < w0.heap.size := (Array.getElem?_eq_some_iff.1 hcu0).1
        have Q0_0 := Lib.hid p0; clear p0
        go_wp2
        go_roundg gk
        case measure => omega
        case rel =>
          have hkk := mcCmdS_take (xs := xs) (i := i) (by omega)
          have hexl := HEX.out
          rw [hexl] at hkk; unfold mcCmd at hkk
          have hkq0 := HKQ0.out
          refine ⟨i + 1, kq0, ys.set i ⟨k1, k1 + 1, k1 + 1 + 1, y0⟩, by go_num, by go_num, by omega, by omega, by have := HK.out; omega, Lib.hid ?_⟩
          have hol : Hol g (o + i * 4) (o + i * 4 + 4) 27 cur'.size bss'[i] wr _ := holc0
          have chg : Chg [g] w0 _ := Chg.refl _ _
          obtain ⟨cur2, hX2, -⟩ := own_set2 (d := kCmd) (y := ⟨k1, k1 + 1, k1 + 1 + 1, y0⟩) (cs := [.int .i64 (k1), .int .i64 (k1 + 1), .int .i64 (k1 + 1 + 1), .slice B0 ex.picks.length d0]) HX.out (by rw [← HF.out]; exact HND.out) (by have := HH2.out.1; omega) hil hol (by show o + i * 4 = _; omega) rfl (by rw [HB2.out]; exact kCmd_mkO _ ⟨k1, k1 + 1, k1 + 1 + 1, y0⟩ (chg.own (fun b hb hm => by simp only [List.mem_singleton] at hm; subst hm; exact hg0 hb) Q0_0.out)) (cells_cons (by go_simp) (cells_cons (by go_simp) (cells_cons (by go_simp) (cells_cons (by go_simp) cells_nil))))
          have hown := hX2.own
          rw [List.length_set, HH2.out.1, ← HF.out] at hown
          refine ⟨by rw [List.length_set]; exact HH2.out.1, hown, ?_, by rw [drop_set]; exact drop_next HD.out, HH2.out.2.2.trans (by rw [HF.out]; exact own_set_chg hil hol)⟩
          rw [take_set (by have := HH2.out.1; omega)]
          exact MkS_snoc HH2.out.2.1 ⟨_, rfl, rfl, rfl, hm0, by omega⟩
      · have hi' : i = N := by omega
        subst hi'
        rw [List.take_of_length_le (by omega)] at hk1
        subst hk1
        go_wp2
        go_ret
        obtain ⟨hyl, hOw, hMk, _, hCh⟩ := HH.out
        rw [List.take_of_length_le (by omega)] at hMk
        exact ⟨ys, rfl, hyl, hOw, hMk, hCh⟩
theorem heldCmdS_calls (xs : List MCmd) (A : Option Addr) (c : Nat) (k : Int) (w : World) (hr : kCmd.Row w A xs) (ke : Int) (hM : MkS MkCmd xs k ke) (hl : xs.length + cntCmdS xs ≤ 67108864) (hk0 : 0 ≤ k) (hk : k ≤ 549755813888) :
    Calls Tryd.prog 17 #[.slice A xs.length c, .int .i64 k] w fun e w' => e = .returned (.int .i64 ke) ∧ Below w.heap.size w w' := by
  have HR := Lib.hid hr; clear hr
  have HM0 := Lib.hid hM; clear hM
  have hmle := mcCmdS_le xs
  go_enter Tryd.func17, Tryd.ntmps17
  go_wp2
  go_loopg [1, 5] (xs.length + 1) (fun kq v1 v5 w' => ∃ (i : Nat) (k1 : Int), v5 = .int .i64 i ∧ v1 = .int .i64 k1 ∧ i + kq = xs.length + 1 ∧ i ≤ xs.length ∧ 0 ≤ k1 ∧ k1 ≤ 549755813888 + 1073741824 ∧ Hid (k1 = k + ((mcCmdS (xs.take i) : Nat) : Int)) ∧ Hid (MkS MkCmd (xs.drop i) k1 ke) ∧ Below w.heap.size w w')
  case atStart => exact ⟨0, k, rfl, rfl, by omega, by omega, by omega, by omega, Lib.hid (by simp [mcCmdS]), Lib.hid HM0.out, bel⟩
  case round =>
    clear HM0
    obtain ⟨i, k1, rfl, rfl, hi, hi2, hk10, hk11, HK1, HM, hb⟩ := hrel
    obtain ⟨gk, rfl⟩ : ∃ m, gk = m + 1 := ⟨gk - 1, by omega⟩
    have htl := mcCmdS_takele (xs := xs) (i := i + 1)
    have hk1 := HK1.out
    by_cases hlt : i < xs.length
    · obtain ⟨k2, hm, hMr⟩ := MkS_drop hlt HM.out
      obtain ⟨b, o, A0, c0, rfl, g0, g1, g2, g3, l0, r0⟩ := kCmd_at (HR.out.below hb) hlt
      have zb : b < wr.heap.size := World.block_lt_of_cell? wr _ g0
      have R0 := Lib.hid r0; clear r0
      obtain ⟨m0, e0, e1, e2, p0, eN⟩ := hm
      have hcx := cntCmdS_at hlt
      unfold cntCmd at hcx
      have hmt := mcCmdS_take hlt
      unfold mcCmd at hmt
      have n0 := mkPickS_end p0; have P0 := Lib.hid p0; clear p0
      have b0 : 0 ≤ m0 ∧ m0 ≤ 549755813888 + 2147483648 := by omega
      have t0 : decide (m0 < 0) = false := by simp; omega
      have hke : k2 = k + ((mcCmdS (xs.take (i + 1)) : Nat) : Int) := by omega
      have hkb : 0 ≤ k2 ∧ k2 ≤ 549755813888 + 1073741824 := by omega
      have HKE := Lib.hid hke; have HMr := Lib.hid hMr; clear hke hMr hmt hcx hk1
      rw [e0] at g0
      rw [e1] at g1
      rw [e2] at g2
      have hl0 : xs[i].picks.length ≤ 67108864 := by have := cntCmdS_at hlt; unfold cntCmd at this; omega
      have N0 := Lib.hid n0; clear n0
      have eN2 := eN.symm; clear eN; subst eN2
      go_wp2_with fail
      refine (heldPickS_calls xs[i].picks _ _ _ _ (R0.out.below bel) m0 P0.out (by omega) (by omega) (by omega)).mono ?_
      rintro e w0 ⟨rfl, hb0⟩
      obtain ⟨C0, D0⟩ := bcell hb0
      go_wp2
      go_roundg gk
      case measure => omega
      case rel => exact ⟨i + 1, m0, by go_num, by go_num, by omega, by omega, by omega, by omega, Lib.hid HKE.out, HMr, bel⟩
    · clear hk1
      have hi' : i = xs.length := by omega
      have hke : k1 = ke := by have := HM.out; rw [List.drop_of_length_le (by omega)] at this; exact this.symm
      have HK := Lib.hid hke; clear hke
      go_wp2
      go_ret
      exact ⟨by rw [HK.out]; rfl, hb⟩
end Go.Proofs.YtcidbencoebfaaaDoor.Wd


/- Marks: what a row holds behind a mark, and how it is told. Conditions: bounds on the sizes. -/
import Derived.Test.YtebflbenchomoaaMkF
namespace Go.Proofs.Ytebflbenchomoaa.Wd
open Go.RowKit
set_option linter.unusedVariables false
set_option linter.unusedSimpArgs false
set_option maxHeartbeats 2000000
set_option maxRecDepth 100000
theorem markGorS_calls (xs : List MGor) (A : Option Addr) (c : Nat) (k : Int) (w : World) (bs : List Nat) (ho : kGor.Own 82 w bs (.slice A xs.length c) xs) (hnd : bs.Nodup) (hl : xs.length + cntGorS xs ≤ 67108864) (hk0 : 0 ≤ k) (hk : k ≤ 549755813888) :
    Calls Try.prog 48 #[.slice A xs.length c, .int .i64 k] w fun e w' => ∃ (xs' : List MGor), e = .returned (.int .i64 (k + ((mcGorS xs : Nat) : Int))) ∧ xs'.length = xs.length ∧ kGor.Own 82 w' bs (.slice A xs.length c) xs' ∧ MkS MkGor xs' k (k + ((mcGorS xs : Nat) : Int)) ∧ Chg bs w w' := by
  have hmle := mcGorS_le xs
  by_cases hn : xs.length = 0
  · have h0 : xs = [] := List.eq_nil_of_length_eq_zero hn
    subst h0
    have HO := Lib.hid ho; clear ho
    go_enter Try.func48, Try.ntmps48
    go_wp2
    go_loopg [1, 5] 1 (fun kq v1 v5 w' => v5 = .int .i64 0 ∧ v1 = .int .i64 k ∧ kq = 1 ∧ w' = w)
    case atStart => exact ⟨rfl, rfl, rfl, rfl⟩
    case round =>
      obtain ⟨rfl, rfl, rfl, rfl⟩ := hrel
      go_wp2
      go_ret
      exact ⟨[], by simp [mcGorS], rfl, HO.out, by simp [MkS, mcGorS], Chg.refl _ _⟩
  · obtain ⟨g, o, c', cur, bss, hv, rfl, hX⟩ := own_x ho (by omega)
    cases hv
    obtain ⟨N, hN⟩ : ∃ N, xs.length = N := ⟨_, rfl⟩
    rw [hN] at ho ⊢
    have HO0 := Lib.hid ho; clear ho hX hn
    have HND := Lib.hid hnd; clear hnd
    go_enter Try.func48, Try.ntmps48
    go_wp2
    go_loopg [1, 5] (N + 1) (fun kq v1 v5 w' => ∃ (i : Nat) (k1 : Int) (ys : List MGor), v5 = .int .i64 i ∧ v1 = .int .i64 k1 ∧ i + kq = N + 1 ∧ i ≤ N ∧ k1 = k + ((mcGorS (xs.take i) : Nat) : Int) ∧ Hid (ys.length = N ∧ kGor.Own 82 w' (g :: bss.flatten) (.slice (some ⟨g, o, none⟩) N c) ys ∧ MkS MkGor (ys.take i) k k1 ∧ ys.drop i = xs.drop i ∧ Chg (g :: bss.flatten) w w'))
    case atStart => exact ⟨0, k, xs, rfl, rfl, by omega, by omega, by simp [mcGorS], Lib.hid ⟨hN, HO0.out, rfl, rfl, Chg.refl _ _⟩⟩
    case round =>
      obtain ⟨i, k1, ys, rfl, rfl, hi, hi2, hk1, HH⟩ := hrel
      obtain ⟨gk, rfl⟩ : ∃ m, gk = m + 1 := ⟨gk - 1, by omega⟩
      have htl := mcGorS_takele (xs := xs) (i := i)
      by_cases hlt : i < N
      · obtain ⟨hyl, hOw, hMk, hdr, hCh⟩ := HH.out
        obtain ⟨g', o', c2, cur', bss', hv, hbs, hX⟩ := own_x hOw (by omega)
        simp only [Value.slice.injEq, Option.some.injEq, Addr.mk.injEq, List.cons.injEq] at hv hbs
        obtain ⟨⟨rfl, rfl, -⟩, -, rfl⟩ := hv
        have hbf := hbs.2
        have hil : i < bss'.length := by rw [hX.len]; omega
        have hsz : o + c * 5 = cur'.size := hX.size
        have hcn : ys.length ≤ c := hX.le
        have zg : g < wr.heap.size := (Array.getElem?_eq_some_iff.1 hX.blk).1
        have hxi : i < xs.length := by omega
        have hcx := cntGorS_at hxi
        unfold cntGor at hcx
        obtain ⟨ex, hex⟩ : ∃ ex, xs[i] = ex := ⟨_, rfl⟩
        rw [hex] at hcx
        have HEX := Lib.hid hex
        have hel := hX.el i ex bss'[i] (by rw [List.getElem?_eq_getElem (by omega), drop_at hdr hxi (by omega), hex]) (List.getElem?_eq_getElem hil)
        clear hex
        have hk1b : 0 ≤ k1 ∧ k1 ≤ 549755813888 + 1073741824 := by omega
        have HK := Lib.hid hk1; clear hk1
        have HH2 := Lib.hid (And.intro hyl (And.intro hMk hCh))
        obtain ⟨B0, d0, b0, B1, d1, b1, hcs, hbs2, o0, o1⟩ := kGor_O hel
        have g0 : wr.cell? ⟨g, o + i * 5, none⟩ = some (.int .i64 ex.proc) := seg_cell hX.blk hcs (j := 0) rfl
        have f0 : wr.frozen? ⟨g, o + i * 5, none⟩ = false := (blk_cell hX.blk (j := o + i * 5) (by omega)).2
        have g1 : wr.cell? ⟨g, o + i * 5 + 1, none⟩ = some (.int .i64 ex.pc) := seg_cell hX.blk hcs (j := 1) rfl
        have f1 : wr.frozen? ⟨g, o + i * 5 + 1, none⟩ = false := (blk_cell hX.blk (j := o + i * 5 + 1) (by omega)).2
        have g2 : wr.cell? ⟨g, o + i * 5 + 2, none⟩ = some (.slice B0 ex.regs.length d0) := seg_cell hX.blk hcs (j := 2) rfl
        have f2 : wr.frozen? ⟨g, o + i * 5 + 2, none⟩ = false := (blk_cell hX.blk (j := o + i * 5 + 2) (by omega)).2
        have g3 : wr.cell? ⟨g, o + i * 5 + 3, none⟩ = some (.int .i64 ex.state) := seg_cell hX.blk hcs (j := 3) rfl
        have f3 : wr.frozen? ⟨g, o + i * 5 + 3, none⟩ = false := (blk_cell hX.blk (j := o + i * 5 + 3) (by omega)).2
        have g4 : wr.cell? ⟨g, o + i * 5 + 4, none⟩ = some (.slice B1 ex.trace.length d1) := seg_cell hX.blk hcs (j := 4) rfl
        have f4 : wr.frozen? ⟨g, o + i * 5 + 4, none⟩ = false := (blk_cell hX.blk (j := o + i * 5 + 4) (by omega)).2
        have hnd2 : (g :: (b0 ++ b1)).Nodup := by
          have h1 := HND.out; rw [hbf] at h1
          have h2 : bss'[i].Sublist bss'.flatten := sub_flat hil
          rw [hbs2] at h2; exact h1.sublist (List.Sublist.cons_cons _ h2)
        have hg0 : g ∉ b0 := fun h => (List.nodup_cons.1 hnd2).1 (by simp [h])
        have hg1 : g ∉ b1 := fun h => (List.nodup_cons.1 hnd2).1 (by simp [h])
        have hnn := (List.nodup_cons.1 hnd2).2
        obtain ⟨hn0, hn1, ea1, eb1⟩ := nd2 hnn
        have DJ0_1 : Hid (∀ k ∈ b0, k ∉ b1) := Lib.hid fun k h => ea1 k h
        have DJ1_0 : Hid (∀ k ∈ b1, k ∉ b0) := Lib.hid fun k h h2 => eb1 k h h2
        clear ea1 eb1
        have HX := Lib.hid hX; have HB2 := Lib.hid hbs2; have HF := Lib.hid hbf; have HND2 := Lib.hid hnd2; have HD := Lib.hid hdr; clear hX hbs2 hcs hel hbf hbs HH hMk hOw hCh hdr hnd2
        have O0 := Lib.hid o0; clear o0
        have O1 := Lib.hid o1; clear o1
        go_wp2_with fail
        refine settleC ?_
        intro V0 hV0
        have hol0 : Hol g (o + i * 5) (o + i * 5 + 5) 82 cur'.size bss'[i] wr V0 := by rw [hV0]; exact Hol.set (j := o + i * 5 + 1) (by omega) (by omega) (.int .i64 (k1 + 1)) (Hol.set (j := o + i * 5) (by omega) (by omega) (.int .i64 (k1)) (Hol.refl HX.out.blk))
        have chg0 : Chg ([g]) wr V0 := by rw [hV0]; exact Chg.setc (g := g) (j := o + i * 5 + 1) (by simp) (.int .i64 (k1 + 1)) (Chg.setc (g := g) (j := o + i * 5) (by simp) (.int .i64 (k1)) (Chg.refl _ _))
        have G0_0 : V0.cell? ⟨g, o + i * 5, none⟩ = some (.int .i64 (k1)) := by rw [hV0]; go_simp
        have G0_1 : V0.cell? ⟨g, o + i * 5 + 1, none⟩ = some (.int .i64 (k1 + 1)) := by rw [hV0]; go_simp
        have G0_2 : V0.cell? ⟨g, o + i * 5 + 2, none⟩ = some (.slice B0 ex.regs.length d0) := by rw [hV0]; go_simp
        have G0_3 : V0.cell? ⟨g, o + i * 5 + 3, none⟩ = some (.int .i64 ex.state) := by rw [hV0]; go_simp
        have G0_4 : V0.cell? ⟨g, o + i * 5 + 4, none⟩ = some (.slice B1 ex.trace.length d1) := by rw [hV0]; go_simp
        clear hV0
        have P0_0 := Lib.hid (chg0.own (fun b hb hm => by simp only [List.mem_singleton] at hm; subst hm; exact hg0 hb) O0.out)
        have P0_1 := Lib.hid (chg0.own (fun b hb hm => by simp only [List.mem_singleton] at hm; subst hm; exact hg1 hb) O1.out)
        refine (markIntS_calls ex.regs B0 d0 (k1 + 1 + 1) V0 b0 P0_0.out hn0 (by omega) (by omega) (by omega)).mono ?_
        rintro e w0 ⟨y0, he, hl0, p0, hm0, hc0⟩
        obtain ⟨kq0, hkq0⟩ : ∃ kq : Int, k1 + 1 + 1 + ((ex.regs.length : Nat) : Int) = kq := ⟨_, rfl⟩
        rw [hkq0] at he hm0; subst he
        have bkq0 : 0 ≤ kq0 ∧ kq0 ≤ 549755813888 + 1073741824 + 1073741824 := by omega
        have HKQ0 := Lib.hid hkq0; clear hkq0
        have holc0 : Hol g (o + i * 5) (o + i * 5 + 5) 82 cur'.size bss'[i] wr w0 := Hol.chg hc0 hg0 (fun b hb => .inl (by rw [HB2.out]; simp [hb])) hol0
        obtain ⟨cu0, hcu0, hsz0⟩ := holc0.shape
        have g0 := hc0.cell hg0 G0_0
        have f0 : w0.frozen? ⟨g, o + i * 5, none⟩ = false := (blk_cell hcu0 (j := o + i * 5) (by omega)).2
        have g1 := hc0.cell hg0 G0_1
        have f1 : w0.frozen? ⟨g, o + i * 5 + 1, none⟩ = false := (blk_cell hcu0 (j := o + i * 5 + 1) (by omega)).2
        have g2 := hc0.cell hg0 G0_2
        have f2 : w0.frozen? ⟨g, o + i * 5 + 2, none⟩ = false := (blk_cell hcu0 (j := o + i * 5 + 2) (by omega)).2
        have g3 := hc0.cell hg0 G0_3
        have f3 : w0.frozen? ⟨g, o + i * 5 + 3, none⟩ = false := (blk_cell hcu0 (j := o + i * 5 + 3) (by omega)).2
        have g4 := hc0.cell hg0 G0_4
        have f4 : w0.frozen? ⟨g, o + i * 5 + 4, none⟩ = false := (blk_cell hcu0 (j := o + i * 5 + 4) (by omega)).2
        clear G0_0 G0_1 G0_2 G0_3 G0_4
        have zg0 : g < w0.heap.size := (Array.getElem?_eq_some_iff.1 hcu0).1
        have Q0_0 := Lib.hid p0; clear p0
        have Q0_1 := Lib.hid (hc0.own DJ1_0.out P0_1.out)
        go_wp2_with fail
        refine settleC ?_
        intro V1 hV1
        have hol1 : Hol g (o + i * 5) (o + i * 5 + 5) 82 cur'.size bss'[i] wr V1 := by rw [hV1]; exact Hol.set (j := o + i * 5 + 3) (by omega) (by omega) (.int .i64 (kq0)) (holc0)
        have chg1 : Chg ([g]) w0 V1 := by rw [hV1]; exact Chg.setc (g := g) (j := o + i * 5 + 3) (by simp) (.int .i64 (kq0)) (Chg.refl _ _)
        have G1_0 : V1.cell? ⟨g, o + i * 5, none⟩ = some (.int .i64 (k1)) := by rw [hV1]; go_simp
        have G1_1 : V1.cell? ⟨g, o + i * 5 + 1, none⟩ = some (.int .i64 (k1 + 1)) := by rw [hV1]; go_simp
        have G1_2 : V1.cell? ⟨g, o + i * 5 + 2, none⟩ = some (.slice B0 ex.regs.length d0) := by rw [hV1]; go_simp
        have G1_3 : V1.cell? ⟨g, o + i * 5 + 3, none⟩ = some (.int .i64 (kq0)) := by rw [hV1]; go_simp
        have G1_4 : V1.cell? ⟨g, o + i * 5 + 4, none⟩ = some (.slice B1 ex.trace.length d1) := by rw [hV1]; go_simp
        clear hV1
        have P1_0 := Lib.hid (chg1.own (fun b hb hm => by simp only [List.mem_singleton] at hm; subst hm; exact hg0 hb) Q0_0.out)
        have P1_1 := Lib.hid (chg1.own (fun b hb hm => by simp only [List.mem_singleton] at hm; subst hm; exact hg1 hb) Q0_1.out)
        refine (markItemS_calls ex.trace B1 d1 (kq0 + 1) V1 b1 P1_1.out hn1 (by omega) (by omega) (by omega)).mono ?_
        rintro e w1 ⟨y1, he, hl1, p1, hm1, hc1⟩
        obtain ⟨kq1, hkq1⟩ : ∃ kq : Int, kq0 + 1 + ((ex.trace.length * 4 : Nat) : Int) = kq := ⟨_, rfl⟩
        rw [hkq1] at he hm1; subst he
        have bkq1 : 0 ≤ kq1 ∧ kq1 ≤ 549755813888 + 1073741824 + 2147483648 := by omega
        have HKQ1 := Lib.hid hkq1; clear hkq1
        have holc1 : Hol g (o + i * 5) (o + i * 5 + 5) 82 cur'.size bss'[i] wr w1 := Hol.chg hc1 hg1 (fun b hb => .inl (by rw [HB2.out]; simp [hb])) hol1
        obtain ⟨cu1, hcu1, hsz1⟩ := holc1.shape
        have g0 := hc1.cell hg1 G1_0
        have f0 : w1.frozen? ⟨g, o + i * 5, none⟩ = false := (blk_cell hcu1 (j := o + i * 5) (by omega)).2
        have g1 := hc1.cell hg1 G1_1
        have f1 : w1.frozen? ⟨g, o + i * 5 + 1, none⟩ = false := (blk_cell hcu1 (j := o + i * 5 + 1) (by omega)).2
        have g2 := hc1.cell hg1 G1_2
        have f2 : w1.frozen? ⟨g, o + i * 5 + 2, none⟩ = false := (blk_cell hcu1 (j := o + i * 5 + 2) (by omega)).2
        have g3 := hc1.cell hg1 G1_3
        have f3 : w1.frozen? ⟨g, o + i * 5 + 3, none⟩ = false := (blk_cell hcu1 (j := o + i * 5 + 3) (by omega)).2
        have g4 := hc1.cell hg1 G1_4
        have f4 : w1.frozen? ⟨g, o + i * 5 + 4, none⟩ = false := (blk_cell hcu1 (j := o + i * 5 + 4) (by omega)).2
        clear G1_0 G1_1 G1_2 G1_3 G1_4
        have zg1 : g < w1.heap.size := (Array.getElem?_eq_some_iff.1 hcu1).1
        have Q1_0 := Lib.hid (hc1.own DJ0_1.out P1_0.out)
        have Q1_1 := Lib.hid p1; clear p1
        go_wp2
        go_roundg gk
        case measure => omega
        case rel =>
          have hkk := mcGorS_take (xs := xs) (i := i) (by omega)
          have hexl := HEX.out
          rw [hexl] at hkk; unfold mcGor at hkk
          have hkq0 := HKQ0.out
          have hkq1 := HKQ1.out
          refine ⟨i + 1, kq1, ys.set i ⟨k1, k1 + 1, y0, kq0, y1⟩, by go_num, by go_num, by omega, by omega, by have := HK.out; omega, Lib.hid ?_⟩
          have hol : Hol g (o + i * 5) (o + i * 5 + 5) 82 cur'.size bss'[i] wr _ := holc1
          have chg : Chg [g] w1 _ := Chg.refl _ _
          obtain ⟨cur2, hX2, -⟩ := own_set2 (d := kGor) (y := ⟨k1, k1 + 1, y0, kq0, y1⟩) (cs := [.int .i64 (k1), .int .i64 (k1 + 1), .slice B0 ex.regs.length d0, .int .i64 (kq0), .slice B1 ex.trace.length d1]) HX.out (by rw [← HF.out]; exact HND.out) (by have := HH2.out.1; omega) hil hol (by show o + i * 5 = _; omega) rfl (by rw [HB2.out]; exact kGor_mkO _ ⟨k1, k1 + 1, y0, kq0, y1⟩ (chg.own (fun b hb hm => by simp only [List.mem_singleton] at hm; subst hm; exact hg0 hb) Q1_0.out) (chg.own (fun b hb hm => by simp only [List.mem_singleton] at hm; subst hm; exact hg1 hb) Q1_1.out)) (cells_cons (by go_simp) (cells_cons (by go_simp) (cells_cons (by go_simp) (cells_cons (by go_simp) (cells_cons (by go_simp) cells_nil)))))
          have hown := hX2.own
          rw [List.length_set, HH2.out.1, ← HF.out] at hown
          refine ⟨by rw [List.length_set]; exact HH2.out.1, hown, ?_, by rw [drop_set]; exact drop_next HD.out, HH2.out.2.2.trans (by rw [HF.out]; exact own_set_chg hil hol)⟩
          rw [take_set (by have := HH2.out.1; omega)]
          exact MkS_snoc HH2.out.2.1 ⟨_, _, rfl, rfl, hm0, rfl, hm1, by omega⟩
      · have hi' : i = N := by omega
        subst hi'
        rw [List.take_of_length_le (by omega)] at hk1
        subst hk1
        go_wp2
        go_ret
        obtain ⟨hyl, hOw, hMk, _, hCh⟩ := HH.out
        rw [List.take_of_length_le (by omega)] at hMk
        exact ⟨ys, rfl, hyl, hOw, hMk, hCh⟩
end Go.Proofs.Ytebflbenchomoaa.Wd

/- Marks: what a row holds behind a mark, and how it is told. Conditions: bounds on the sizes. -/
import Derived.Test.YtebflbenchomoaaMkF
namespace Go.Proofs.Ytebflbenchomoaa.Wd
open Go.RowKit
set_option linter.unusedVariables false
set_option linter.unusedSimpArgs false
set_option maxHeartbeats 2000000
set_option maxRecDepth 100000
theorem markMutexS_calls (xs : List MMutex) (A : Option Addr) (c : Nat) (k : Int) (w : World) (bs : List Nat) (ho : kMutex.Own 76 w bs (.slice A xs.length c) xs) (hnd : bs.Nodup) (hl : xs.length + cntMutexS xs ≤ 67108864) (hk0 : 0 ≤ k) (hk : k ≤ 549755813888) :
    Calls Try.prog 50 #[.slice A xs.length c, .int .i64 k] w fun e w' => ∃ (xs' : List MMutex), e = .returned (.int .i64 (k + ((mcMutexS xs : Nat) : Int))) ∧ xs'.length = xs.length ∧ kMutex.Own 76 w' bs (.slice A xs.length c) xs' ∧ MkS MkMutex xs' k (k + ((mcMutexS xs : Nat) : Int)) ∧ Chg bs w w' := by
  have hmle := mcMutexS_le xs
  by_cases hn : xs.length = 0
  · have h0 : xs = [] := List.eq_nil_of_length_eq_zero hn
    subst h0
    have HO := Lib.hid ho; clear ho
    go_enter Try.func50, Try.ntmps50
    go_wp2
    go_loopg [1, 5] 1 (fun kq v1 v5 w' => v5 = .int .i64 0 ∧ v1 = .int .i64 k ∧ kq = 1 ∧ w' = w)
    case atStart => exact ⟨rfl, rfl, rfl, rfl⟩
    case round =>
      obtain ⟨rfl, rfl, rfl, rfl⟩ := hrel
      go_wp2
      go_ret
      exact ⟨[], by simp [mcMutexS], rfl, HO.out, by simp [MkS, mcMutexS], Chg.refl _ _⟩
  · obtain ⟨g, o, c', cur, bss, hv, rfl, hX⟩ := own_x ho (by omega)
    cases hv
    obtain ⟨N, hN⟩ : ∃ N, xs.length = N := ⟨_, rfl⟩
    rw [hN] at ho ⊢
    have HO0 := Lib.hid ho; clear ho hX hn
    have HND := Lib.hid hnd; clear hnd
    go_enter Try.func50, Try.ntmps50
    go_wp2
    go_loopg [1, 5] (N + 1) (fun kq v1 v5 w' => ∃ (i : Nat) (k1 : Int) (ys : List MMutex), v5 = .int .i64 i ∧ v1 = .int .i64 k1 ∧ i + kq = N + 1 ∧ i ≤ N ∧ k1 = k + ((mcMutexS (xs.take i) : Nat) : Int) ∧ Hid (ys.length = N ∧ kMutex.Own 76 w' (g :: bss.flatten) (.slice (some ⟨g, o, none⟩) N c) ys ∧ MkS MkMutex (ys.take i) k k1 ∧ ys.drop i = xs.drop i ∧ Chg (g :: bss.flatten) w w'))
    case atStart => exact ⟨0, k, xs, rfl, rfl, by omega, by omega, by simp [mcMutexS], Lib.hid ⟨hN, HO0.out, rfl, rfl, Chg.refl _ _⟩⟩
    case round =>
      obtain ⟨i, k1, ys, rfl, rfl, hi, hi2, hk1, HH⟩ := hrel
      obtain ⟨gk, rfl⟩ : ∃ m, gk = m + 1 := ⟨gk - 1, by omega⟩
      have htl := mcMutexS_takele (xs := xs) (i := i)
      by_cases hlt : i < N
      · obtain ⟨hyl, hOw, hMk, hdr, hCh⟩ := HH.out
        obtain ⟨g', o', c2, cur', bss', hv, hbs, hX⟩ := own_x hOw (by omega)
        simp only [Value.slice.injEq, Option.some.injEq, Addr.mk.injEq, List.cons.injEq] at hv hbs
        obtain ⟨⟨rfl, rfl, -⟩, -, rfl⟩ := hv
        have hbf := hbs.2
        have hil : i < bss'.length := by rw [hX.len]; omega
        have hsz : o + c * 2 = cur'.size := hX.size
        have hcn : ys.length ≤ c := hX.le
        have zg : g < wr.heap.size := (Array.getElem?_eq_some_iff.1 hX.blk).1
        have hxi : i < xs.length := by omega
        have hcx := cntMutexS_at hxi
        unfold cntMutex at hcx
        obtain ⟨ex, hex⟩ : ∃ ex, xs[i] = ex := ⟨_, rfl⟩
        rw [hex] at hcx
        have HEX := Lib.hid hex
        have hel := hX.el i ex bss'[i] (by rw [List.getElem?_eq_getElem (by omega), drop_at hdr hxi (by omega), hex]) (List.getElem?_eq_getElem hil)
        clear hex
        have hk1b : 0 ≤ k1 ∧ k1 ≤ 549755813888 + 1073741824 := by omega
        have HK := Lib.hid hk1; clear hk1
        have HH2 := Lib.hid (And.intro hyl (And.intro hMk hCh))
        obtain ⟨B0, d0, b0, hcs, hbs2, o0⟩ := kMutex_O hel
        have g0 : wr.cell? ⟨g, o + i * 2, none⟩ = some (.int .i64 ex.owner) := seg_cell hX.blk hcs (j := 0) rfl
        have f0 : wr.frozen? ⟨g, o + i * 2, none⟩ = false := (blk_cell hX.blk (j := o + i * 2) (by omega)).2
        have g1 : wr.cell? ⟨g, o + i * 2 + 1, none⟩ = some (.slice B0 ex.wait.length d0) := seg_cell hX.blk hcs (j := 1) rfl
        have f1 : wr.frozen? ⟨g, o + i * 2 + 1, none⟩ = false := (blk_cell hX.blk (j := o + i * 2 + 1) (by omega)).2
        have hnd2 : (g :: (b0)).Nodup := by
          have h1 := HND.out; rw [hbf] at h1
          have h2 : bss'[i].Sublist bss'.flatten := sub_flat hil
          rw [hbs2] at h2; exact h1.sublist (List.Sublist.cons_cons _ h2)
        have hg0 : g ∉ b0 := fun h => (List.nodup_cons.1 hnd2).1 (by simp [h])
        have hnn := (List.nodup_cons.1 hnd2).2
        have hn0 := hnn
        have HX := Lib.hid hX; have HB2 := Lib.hid hbs2; have HF := Lib.hid hbf; have HND2 := Lib.hid hnd2; have HD := Lib.hid hdr; clear hX hbs2 hcs hel hbf hbs HH hMk hOw hCh hdr hnd2
        have O0 := Lib.hid o0; clear o0
        go_wp2_with fail
        refine settleC ?_
        intro V0 hV0
        have hol0 : Hol g (o + i * 2) (o + i * 2 + 2) 76 cur'.size bss'[i] wr V0 := by rw [hV0]; exact Hol.set (j := o + i * 2) (by omega) (by omega) (.int .i64 (k1)) (Hol.refl HX.out.blk)
        have chg0 : Chg ([g]) wr V0 := by rw [hV0]; exact Chg.setc (g := g) (j := o + i * 2) (by simp) (.int .i64 (k1)) (Chg.refl _ _)
        have G0_0 : V0.cell? ⟨g, o + i * 2, none⟩ = some (.int .i64 (k1)) := by rw [hV0]; go_simp
        have G0_1 : V0.cell? ⟨g, o + i * 2 + 1, none⟩ = some (.slice B0 ex.wait.length d0) := by rw [hV0]; go_simp
        clear hV0
        have P0_0 := Lib.hid (chg0.own (fun b hb hm => by simp only [List.mem_singleton] at hm; subst hm; exact hg0 hb) O0.out)
        refine (markIntS_calls ex.wait B0 d0 (k1 + 1) V0 b0 P0_0.out hn0 (by omega) (by omega) (by omega)).mono ?_
        rintro e w0 ⟨y0, he, hl0, p0, hm0, hc0⟩
        obtain ⟨kq0, hkq0⟩ : ∃ kq : Int, k1 + 1 + ((ex.wait.length : Nat) : Int) = kq := ⟨_, rfl⟩
        rw [hkq0] at he hm0; subst he
        have bkq0 : 0 ≤ kq0 ∧ kq0 ≤ 549755813888 + 1073741824 + 1073741824 := by omega
        have HKQ0 := Lib.hid hkq0; clear hkq0
        have holc0 : Hol g (o + i * 2) (o + i * 2 + 2) 76 cur'.size bss'[i] wr w0 := Hol.chg hc0 hg0 (fun b hb => .inl (by rw [HB2.out]; simp [hb])) hol0
        obtain ⟨cu0, hcu0, hsz0⟩ := holc0.shape
        have g0 := hc0.cell hg0 G0_0
        have f0 : w0.frozen? ⟨g, o + i * 2, none⟩ = false := (blk_cell hcu0 (j := o + i * 2) (by omega)).2
        have g1 := hc0.cell hg0 G0_1
        have f1 : w0.frozen? ⟨g, o + i * 2 + 1, none⟩ = false := (blk_cell hcu0 (j := o + i * 2 + 1) (by omega)).2
        clear G0_0 G0_1
        have zg0 : g < w0.heap.size := (Array.getElem?_eq_some_iff.1 hcu0).1
        have Q0_0 := Lib.hid p0; clear p0
        go_wp2
        go_roundg gk
        case measure => omega
        case rel =>
          have hkk := mcMutexS_take (xs := xs) (i := i) (by omega)
          have hexl := HEX.out
          rw [hexl] at hkk; unfold mcMutex at hkk
          have hkq0 := HKQ0.out
          refine ⟨i + 1, kq0, ys.set i ⟨k1, y0⟩, by go_num, by go_num, by omega, by omega, by have := HK.out; omega, Lib.hid ?_⟩
          have hol : Hol g (o + i * 2) (o + i * 2 + 2) 76 cur'.size bss'[i] wr _ := holc0
          have chg : Chg [g] w0 _ := Chg.refl _ _
          obtain ⟨cur2, hX2, -⟩ := own_set2 (d := kMutex) (y := ⟨k1, y0⟩) (cs := [.int .i64 (k1), .slice B0 ex.wait.length d0]) HX.out (by rw [← HF.out]; exact HND.out) (by have := HH2.out.1; omega) hil hol (by show o + i * 2 = _; omega) rfl (by rw [HB2.out]; exact kMutex_mkO _ ⟨k1, y0⟩ (chg.own (fun b hb hm => by simp only [List.mem_singleton] at hm; subst hm; exact hg0 hb) Q0_0.out)) (cells_cons (by go_simp) (cells_cons (by go_simp) cells_nil))
          have hown := hX2.own
          rw [List.length_set, HH2.out.1, ← HF.out] at hown
          refine ⟨by rw [List.length_set]; exact HH2.out.1, hown, ?_, by rw [drop_set]; exact drop_next HD.out, HH2.out.2.2.trans (by rw [HF.out]; exact own_set_chg hil hol)⟩
          rw [take_set (by have := HH2.out.1; omega)]
          exact MkS_snoc HH2.out.2.1 ⟨_, rfl, hm0, by omega⟩
      · have hi' : i = N := by omega
        subst hi'
        rw [List.take_of_length_le (by omega)] at hk1
        subst hk1
        go_wp2
        go_ret
        obtain ⟨hyl, hOw, hMk, _, hCh⟩ := HH.out
        rw [List.take_of_length_le (by omega)] at hMk
        exact ⟨ys, rfl, hyl, hOw, hMk, hCh⟩
end Go.Proofs.Ytebflbenchomoaa.Wd

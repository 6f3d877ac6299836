/- The program's CmdText. Conditions: the command is of at most 1048576 values. -/
import Derived.Test.YtcidbencoebfaaaDoorCmdF
import Derived.Test.YtcidbencoebfaaaDoorMk
namespace Go.Proofs.YtcidbencoebfaaaDoor.Wd
open Go.RowKit
set_option linter.unusedVariables false
set_option linter.unusedSimpArgs false
set_option maxHeartbeats 2000000
set_option maxRecDepth 100000
theorem numText_le (n : Int) : (numText n).size ≤ 64 := Nat.le_trans (numText_size n) (by decide)
theorem pickT_le (p : MPick) : (pickT p).size ≤ 64 := by
  have h := joined_size (xs := [numText p.g, numText p.c]) (sep := colon) (m := 10) (by intro x hx; simp at hx; rcases hx with rfl | rfl <;> exact numText_size _) (by decide)
  exact Nat.le_trans h (by simp)
theorem cmdWord_le (k : Int) : (cmdWord k).size ≤ 64 := by
  unfold cmdWord
  repeat' split
  all_goals decide
theorem cmdCount_le (k : Int) : cmdCount k ≤ 2 := by unfold cmdCount; repeat' split
                                                     all_goals decide
theorem cmdText_no {x : MCmd} (h : ¬ cmdFine x) : cmdText x = ⟨#[]⟩ := by unfold cmdText; rw [if_neg h]
theorem cmdText_yes {x : MCmd} (h : cmdFine x) : cmdText x = joined (wsTo x 2 ++ x.picks.map pickT) sp := by unfold cmdText; rw [if_pos h]
theorem wsTo_in {x : MCmd} {i : Nat} {n : Int} (hi : i < cmdCount x.kind) (hn : (nums x)[i]? = some n) : wsTo x (i + 1) = wsTo x i ++ [numText n] := by
  unfold wsTo
  rw [show min (i + 1) (cmdCount x.kind) = i + 1 by omega, show min i (cmdCount x.kind) = i by omega, List.take_add_one, hn]
  simp
theorem wsTo_out {x : MCmd} {i : Nat} (hi : cmdCount x.kind ≤ i) : wsTo x (i + 1) = wsTo x i := by
  unfold wsTo
  rw [show min (i + 1) (cmdCount x.kind) = cmdCount x.kind by omega, show min i (cmdCount x.kind) = cmdCount x.kind by omega]
theorem wsTo_le {x : MCmd} {i : Nat} : ∀ y ∈ wsTo x i, y.size ≤ 64 := by
  intro y hy
  unfold wsTo at hy
  rcases List.mem_cons.1 hy with rfl | hy
  · exact cmdWord_le _
  · obtain ⟨n, _, rfl⟩ := List.mem_map.1 hy
    exact numText_le n
theorem impl_CmdText_calls (x : MCmd) (cs : List Value) (w : World) (hx : kCmd.K w x cs) (hc : cntCmd x ≤ 1048576) :
    Calls Tryd.prog 7 #[.agg cs.toArray] w fun e w' => e = .returned (.string (cmdText x)) ∧ Below w.heap.size w w' := by
  obtain ⟨A0, c0, rfl, l0, r0⟩ := kCmd_K hx
  clear hx
  unfold cntCmd at hc
  have R0 := Lib.hid r0; clear r0
  have hC := cmdCount_le x.kind
  obtain ⟨R, hR⟩ : ∃ R, cmdText x = R := ⟨_, rfl⟩
  rw [hR]
  have HNO : Hid (¬ cmdFine x → R = ⟨#[]⟩) := Lib.hid fun h => by rw [← hR]; exact cmdText_no h
  have HYES : Hid (cmdFine x → R = joined (wsTo x 2 ++ x.picks.map pickT) sp) := Lib.hid fun h => by rw [← hR]; exact cmdText_yes h
  clear hR
  obtain ⟨W, hW⟩ : ∃ W, cmdWord x.kind = W := ⟨_, rfl⟩
  obtain ⟨C, hCC⟩ : ∃ C, cmdCount x.kind = C := ⟨_, rfl⟩
  obtain ⟨P, hP⟩ : ∃ P, cmdPicks x.kind = P := ⟨_, rfl⟩
  rw [hCC] at hC
  have HW := Lib.hid hW; have HC := Lib.hid hCC; have HPP := Lib.hid hP; clear hW hCC hP
  go_enter Tryd.func7, Tryd.ntmps7
  go_wp2_with fail
  refine (cmdForm_calls _ _).mono ?_
  rintro e w1 ⟨rfl, hb1⟩
  rw [HW.out, HC.out, HPP.out]
  obtain ⟨C1, D1⟩ := bcell hb1
  have z1 : w.heap.size < w1.heap.size := by have := hb1.size; (try simp at this); omega
  go_wp2
  go_loopg [6, 26] 3 (fun kq v6 v26 w' => ∃ (i : Nat) (B : Option Addr) (d : Nat) (bs : List Nat) (zs : List ByteArray), v26 = .int .i64 i ∧ i + kq = 3 ∧ i ≤ 2 ∧ v6 = .slice B zs.length d ∧ Hid (zs.length ≤ i + 1) ∧ Hid (zs = wsTo x i) ∧ Hid (Rp.str.Own 9 w' bs (.slice B zs.length d) zs) ∧ Hid (Fresh w bs) ∧ Hid (∀ b ∈ bs, b ≠ w.heap.size ∧ b ≠ w1.heap.size + 1) ∧ Hid ((1 ≤ i → C < 1 → x.a = 0) ∧ (2 ≤ i → C < 2 → x.b = 0)) ∧ Below w.heap.size w w' ∧ w'.cell? ⟨w.heap.size, 3, none⟩ = some (.slice A0 x.picks.length c0) ∧ w'.cell? ⟨w1.heap.size + 1, 0, none⟩ = some (.int .i64 x.a) ∧ w'.cell? ⟨w1.heap.size + 1, 1, none⟩ = some (.int .i64 x.b))
  case atStart => exact ⟨0, _, 1, [w1.heap.size], [W], rfl, by omega, by omega, rfl, Lib.hid (by simp), Lib.hid (by unfold wsTo; simp [HW.out]), Lib.hid ((own_lit1 (d := Rp.str) (x := W) (u := .string W) rfl (blk_alloc _ _) ⟨rfl, rfl⟩).below bel), Lib.hid ⟨by simp, fun b hm => by simp at hm; omega⟩, Lib.hid (fun b hm => by simp at hm; omega), Lib.hid ⟨fun h => absurd h (by omega), fun h => absurd h (by omega)⟩, bel, by go_simp, by go_simp, by go_simp⟩
  case round =>
    obtain ⟨i, B, d, bs, zs, rfl, hi, hi2, rfl, HL, HZ, HO, HF, HNE, HZZ, hb, q0, k0, k1⟩ := hrel
    obtain ⟨gk, rfl⟩ : ∃ m, gk = m + 1 := ⟨gk - 1, by omega⟩
    have z0 : w.heap.size < wr.heap.size := World.block_lt_of_cell? wr _ q0
    have z2 : w1.heap.size + 1 < wr.heap.size := World.block_lt_of_cell? wr _ k0
    obtain rfl | rfl | rfl : i = 0 ∨ i = 1 ∨ i = 2 := by omega
    · obtain rfl | rfl | rfl : C = 0 ∨ C = 1 ∨ C = 2 := by omega
      · by_cases hz : x.a = 0
        · have hd : (x.a != 0) = false := by simp [hz]
          have HZ0 := Lib.hid hz; clear hz
          go_wp2
          go_roundg gk
          case measure => omega
          case rel => exact ⟨1, B, d, bs, zs, by go_num, by omega, by omega, rfl, Lib.hid (by have := HL.out; omega), Lib.hid (by rw [HZ.out]; exact (wsTo_out (by rw [HC.out]; decide)).symm), HO, HF, HNE, Lib.hid ⟨fun _ _ => HZ0.out, fun h => absurd h (by decide)⟩, bel, q0, k0, k1⟩
        · have hd : (x.a != 0) = true := by simp [hz]
          have HN : Hid (¬ cmdFine x) := Lib.hid fun h => hz (h.1 (by rw [HC.out]; decide))
          clear hz
          go_wp2
          go_ret
          rw [HNO.out HN.out]
          exact ⟨rfl, bel⟩
      · obtain ⟨T, hT⟩ : ∃ T, numText x.a = T := ⟨_, rfl⟩
        have HT := Lib.hid hT; clear hT
        go_wp2_with fail
        refine (impl_NumText_calls _ _).mono ?_
        rintro e w2 ⟨rfl, hb2⟩
        rw [HT.out]
        have hk : Below wr.heap.size wr w2 := hb2
        have f0 := keepc hk q0; have f1 := keepc hk k0; have f2 := keepc hk k1
        clear q0 k0 k1
        have z3 : w.heap.size < w2.heap.size := World.block_lt_of_cell? w2 _ f0
        have z4 : w1.heap.size + 1 < w2.heap.size := World.block_lt_of_cell? w2 _ f1
        go_wp2_with (at_builtin; refine Paus.out ?_)
        refine ⟨wl_app_one Rp.str _ rfl _ _ 47 rfl 9 16 _ rfl rfl rfl (by decide) (by decide) rfl (xs := zs) (bs := bs) (HO.out.below bel) (by_ := []) (by simpa using HF.out.1) rfl (y := T) (cs := [.string T]) ⟨rfl, rfl⟩ (cells_cons (by go_simp) cells_nil) (by have := HL.out; omega) ?_⟩
        intro B2 d2 w3 bs2 hres
        have hb3 := hres.below (w0 := w) HF.out.2 bel
        have hf3 := hres.fresh (w0 := w) HF.out (fun b hb => by cases hb) (by have := hb2.size; have := hb.size; simp; omega)
        have hne3 : ∀ b ∈ bs2, b ≠ w.heap.size ∧ b ≠ w1.heap.size + 1 := fun b hm => by
          rcases hres.sub b hm with h | h | h
          · exact HNE.out b h
          · cases h
          · have : w2.heap.size ≤ b := by simp at h; omega
            omega
        have m0 := hres.chg.cell (fun h => (HNE.out _ h).1 rfl) (show World.cell? _ ⟨w.heap.size, 3, none⟩ = some (.slice A0 x.picks.length c0) by go_simp)
        have m1 := hres.chg.cell (fun h => (HNE.out _ h).2 rfl) (show World.cell? _ ⟨w1.heap.size + 1, 0, none⟩ = some (.int .i64 x.a) by go_simp)
        have m2 := hres.chg.cell (fun h => (HNE.out _ h).2 rfl) (show World.cell? _ ⟨w1.heap.size + 1, 1, none⟩ = some (.int .i64 x.b) by go_simp)
        have HO2 := Lib.hid hres.own; have HF2 := Lib.hid hf3; have HNE2 := Lib.hid hne3; clear hres hf3 hne3
        go_wp2
        go_roundg gk
        case measure => omega
        case rel => exact ⟨1, B2, d2, bs2, zs ++ [T], by go_num, by omega, by omega, by simp, Lib.hid (by have := HL.out; simp; omega), Lib.hid (by rw [HZ.out, ← HT.out]; exact (wsTo_in (i := 0) (by rw [HC.out]; decide) rfl).symm), Lib.hid (by rw [List.length_append]; exact HO2.out), HF2, HNE2, Lib.hid ⟨fun _ h => absurd h (by decide), fun h h2 => absurd h (by decide)⟩, hb3, m0, m1, m2⟩
      · obtain ⟨T, hT⟩ : ∃ T, numText x.a = T := ⟨_, rfl⟩
        have HT := Lib.hid hT; clear hT
        go_wp2_with fail
        refine (impl_NumText_calls _ _).mono ?_
        rintro e w2 ⟨rfl, hb2⟩
        rw [HT.out]
        have hk : Below wr.heap.size wr w2 := hb2
        have f0 := keepc hk q0; have f1 := keepc hk k0; have f2 := keepc hk k1
        clear q0 k0 k1
        have z3 : w.heap.size < w2.heap.size := World.block_lt_of_cell? w2 _ f0
        have z4 : w1.heap.size + 1 < w2.heap.size := World.block_lt_of_cell? w2 _ f1
        go_wp2_with (at_builtin; refine Paus.out ?_)
        refine ⟨wl_app_one Rp.str _ rfl _ _ 47 rfl 9 16 _ rfl rfl rfl (by decide) (by decide) rfl (xs := zs) (bs := bs) (HO.out.below bel) (by_ := []) (by simpa using HF.out.1) rfl (y := T) (cs := [.string T]) ⟨rfl, rfl⟩ (cells_cons (by go_simp) cells_nil) (by have := HL.out; omega) ?_⟩
        intro B2 d2 w3 bs2 hres
        have hb3 := hres.below (w0 := w) HF.out.2 bel
        have hf3 := hres.fresh (w0 := w) HF.out (fun b hb => by cases hb) (by have := hb2.size; have := hb.size; simp; omega)
        have hne3 : ∀ b ∈ bs2, b ≠ w.heap.size ∧ b ≠ w1.heap.size + 1 := fun b hm => by
          rcases hres.sub b hm with h | h | h
          · exact HNE.out b h
          · cases h
          · have : w2.heap.size ≤ b := by simp at h; omega
            omega
        have m0 := hres.chg.cell (fun h => (HNE.out _ h).1 rfl) (show World.cell? _ ⟨w.heap.size, 3, none⟩ = some (.slice A0 x.picks.length c0) by go_simp)
        have m1 := hres.chg.cell (fun h => (HNE.out _ h).2 rfl) (show World.cell? _ ⟨w1.heap.size + 1, 0, none⟩ = some (.int .i64 x.a) by go_simp)
        have m2 := hres.chg.cell (fun h => (HNE.out _ h).2 rfl) (show World.cell? _ ⟨w1.heap.size + 1, 1, none⟩ = some (.int .i64 x.b) by go_simp)
        have HO2 := Lib.hid hres.own; have HF2 := Lib.hid hf3; have HNE2 := Lib.hid hne3; clear hres hf3 hne3
        go_wp2
        go_roundg gk
        case measure => omega
        case rel => exact ⟨1, B2, d2, bs2, zs ++ [T], by go_num, by omega, by omega, by simp, Lib.hid (by have := HL.out; simp; omega), Lib.hid (by rw [HZ.out, ← HT.out]; exact (wsTo_in (i := 0) (by rw [HC.out]; decide) rfl).symm), Lib.hid (by rw [List.length_append]; exact HO2.out), HF2, HNE2, Lib.hid ⟨fun _ h => absurd h (by decide), fun h h2 => absurd h (by decide)⟩, hb3, m0, m1, m2⟩
    · obtain rfl | rfl | rfl : C = 0 ∨ C = 1 ∨ C = 2 := by omega
      · by_cases hz : x.b = 0
        · have hd : (x.b != 0) = false := by simp [hz]
          have HZ0 := Lib.hid hz; clear hz
          go_wp2
          go_roundg gk
          case measure => omega
          case rel => exact ⟨2, B, d, bs, zs, by go_num, by omega, by omega, rfl, Lib.hid (by have := HL.out; omega), Lib.hid (by rw [HZ.out]; exact (wsTo_out (by rw [HC.out]; decide)).symm), HO, HF, HNE, Lib.hid ⟨fun _ h => HZZ.out.1 (by decide) h, fun _ _ => HZ0.out⟩, bel, q0, k0, k1⟩
        · have hd : (x.b != 0) = true := by simp [hz]
          have HN : Hid (¬ cmdFine x) := Lib.hid fun h => hz (h.2.1 (by rw [HC.out]; decide))
          clear hz
          go_wp2
          go_ret
          rw [HNO.out HN.out]
          exact ⟨rfl, bel⟩
      · by_cases hz : x.b = 0
        · have hd : (x.b != 0) = false := by simp [hz]
          have HZ0 := Lib.hid hz; clear hz
          go_wp2
          go_roundg gk
          case measure => omega
          case rel => exact ⟨2, B, d, bs, zs, by go_num, by omega, by omega, rfl, Lib.hid (by have := HL.out; omega), Lib.hid (by rw [HZ.out]; exact (wsTo_out (by rw [HC.out]; decide)).symm), HO, HF, HNE, Lib.hid ⟨fun _ h => HZZ.out.1 (by decide) h, fun _ _ => HZ0.out⟩, bel, q0, k0, k1⟩
        · have hd : (x.b != 0) = true := by simp [hz]
          have HN : Hid (¬ cmdFine x) := Lib.hid fun h => hz (h.2.1 (by rw [HC.out]; decide))
          clear hz
          go_wp2
          go_ret
          rw [HNO.out HN.out]
          exact ⟨rfl, bel⟩
      · obtain ⟨T, hT⟩ : ∃ T, numText x.b = T := ⟨_, rfl⟩
        have HT := Lib.hid hT; clear hT
        go_wp2_with fail
        refine (impl_NumText_calls _ _).mono ?_
        rintro e w2 ⟨rfl, hb2⟩
        rw [HT.out]
        have hk : Below wr.heap.size wr w2 := hb2
        have f0 := keepc hk q0; have f1 := keepc hk k0; have f2 := keepc hk k1
        clear q0 k0 k1
        have z3 : w.heap.size < w2.heap.size := World.block_lt_of_cell? w2 _ f0
        have z4 : w1.heap.size + 1 < w2.heap.size := World.block_lt_of_cell? w2 _ f1
        go_wp2_with (at_builtin; refine Paus.out ?_)
        refine ⟨wl_app_one Rp.str _ rfl _ _ 47 rfl 9 16 _ rfl rfl rfl (by decide) (by decide) rfl (xs := zs) (bs := bs) (HO.out.below bel) (by_ := []) (by simpa using HF.out.1) rfl (y := T) (cs := [.string T]) ⟨rfl, rfl⟩ (cells_cons (by go_simp) cells_nil) (by have := HL.out; omega) ?_⟩
        intro B2 d2 w3 bs2 hres
        have hb3 := hres.below (w0 := w) HF.out.2 bel
        have hf3 := hres.fresh (w0 := w) HF.out (fun b hb => by cases hb) (by have := hb2.size; have := hb.size; simp; omega)
        have hne3 : ∀ b ∈ bs2, b ≠ w.heap.size ∧ b ≠ w1.heap.size + 1 := fun b hm => by
          rcases hres.sub b hm with h | h | h
          · exact HNE.out b h
          · cases h
          · have : w2.heap.size ≤ b := by simp at h; omega
            omega
        have m0 := hres.chg.cell (fun h => (HNE.out _ h).1 rfl) (show World.cell? _ ⟨w.heap.size, 3, none⟩ = some (.slice A0 x.picks.length c0) by go_simp)
        have m1 := hres.chg.cell (fun h => (HNE.out _ h).2 rfl) (show World.cell? _ ⟨w1.heap.size + 1, 0, none⟩ = some (.int .i64 x.a) by go_simp)
        have m2 := hres.chg.cell (fun h => (HNE.out _ h).2 rfl) (show World.cell? _ ⟨w1.heap.size + 1, 1, none⟩ = some (.int .i64 x.b) by go_simp)
        have HO2 := Lib.hid hres.own; have HF2 := Lib.hid hf3; have HNE2 := Lib.hid hne3; clear hres hf3 hne3
        go_wp2
        go_roundg gk
        case measure => omega
        case rel => exact ⟨2, B2, d2, bs2, zs ++ [T], by go_num, by omega, by omega, by simp, Lib.hid (by have := HL.out; simp; omega), Lib.hid (by rw [HZ.out, ← HT.out]; exact (wsTo_in (i := 1) (by rw [HC.out]; decide) rfl).symm), Lib.hid (by rw [List.length_append]; exact HO2.out), HF2, HNE2, Lib.hid ⟨fun _ h => absurd h (by decide), fun h h2 => absurd h2 (by decide)⟩, hb3, m0, m1, m2⟩
    · have HZR := Lib.hid (And.intro (HZZ.out.1 (by decide)) (HZZ.out.2 (by decide)))
      have hlz : zs.length ≤ 3 := HL.out
      clear HNE HZZ HL k0 k1
      by_cases hfin : P = false ∧ x.picks ≠ []
      · obtain ⟨rfl, hp⟩ := hfin
        have HN : Hid (¬ cmdFine x) := Lib.hid fun h => hp (h.2.2 HPP.out)
        have hpos : 0 < x.picks.length := List.length_pos_iff.2 hp
        have hd : decide (0 < x.picks.length) = true := decide_eq_true hpos
        clear hp hpos
        go_wp2
        go_ret
        rw [HNO.out HN.out]
        exact ⟨rfl, bel⟩
      · have hY : cmdFine x := by
          refine ⟨fun h => HZR.out.1 (by rw [← HC.out]; exact h), fun h => HZR.out.2 (by rw [← HC.out]; exact h), fun h => ?_⟩
          rw [HPP.out] at h
          by_cases h2 : x.picks = []
          · exact h2
          · exact absurd ⟨h, h2⟩ hfin
        have HY := Lib.hid (HYES.out hY)
        have hpp : P = true ∨ (P = false ∧ x.picks.length = 0) := by
          cases P with
          | true => exact .inl rfl
          | false => exact .inr ⟨rfl, by by_cases h2 : x.picks = []; rw [h2]; rfl; exact absurd ⟨rfl, h2⟩ hfin⟩
        clear hfin hY HNO HYES HPP
        rcases hpp with rfl | ⟨rfl, hp0⟩
        · go_wp2
          go_loopg [6, 53] (x.picks.length + 1) (fun kq v6 v53 w' => ∃ (j : Nat) (B : Option Addr) (d : Nat) (bs : List Nat) (ys : List ByteArray), v53 = .int .i64 j ∧ j + kq = x.picks.length + 1 ∧ j ≤ x.picks.length ∧ v6 = .slice B ys.length d ∧ Hid (ys.length ≤ 3 + j) ∧ Hid (ys = wsTo x 2 ++ (x.picks.take j).map pickT) ∧ Hid (Rp.str.Own 9 w' bs (.slice B ys.length d) ys) ∧ Hid (Fresh w bs) ∧ Below w.heap.size w w')
          case atStart => exact ⟨0, B, d, bs, zs, rfl, by omega, by omega, rfl, Lib.hid (by omega), Lib.hid (by rw [HZ.out]; simp), HO, HF, bel⟩
          case round =>
            clear HO HF HZ hb q0 z0 z2 hlz
            obtain ⟨j, B, d, bs, ys, rfl, hj, hj2, rfl, HL, HZ, HO, HF, hb⟩ := hrel
            obtain ⟨gk, rfl⟩ : ∃ m, gk = m + 1 := ⟨gk - 1, by omega⟩
            by_cases hlt : j < x.picks.length
            · obtain ⟨b, o, rfl, g0, g1⟩ := kPick_at (R0.out.below hb) hlt
              have zb : b < wr.heap.size := World.block_lt_of_cell? wr _ g0
              obtain ⟨p, hp⟩ : ∃ p, x.picks[j] = p := ⟨_, rfl⟩
              rw [hp] at g0 g1
              have HPJ := Lib.hid hp; clear hp
              go_wp2_with fail
              refine settleR ?_; intro V hV
              have hbV : Below wr.heap.size wr V := by rw [hV]; exact bel
              have p0 : V.cell? ⟨wr.heap.size, 0, none⟩ = some (.int .i64 p.g) := by rw [hV]; go_simp
              have p1 : V.cell? ⟨wr.heap.size, 1, none⟩ = some (.int .i64 p.c) := by rw [hV]; go_simp
              clear hV
              have zV : wr.heap.size < V.heap.size := World.block_lt_of_cell? V _ p0
              go_region_held3 (fun w' => w'.cell? ⟨wr.heap.size, 0, none⟩ = some (.int .i64 p.g) ∧ w'.cell? ⟨wr.heap.size, 1, none⟩ = some (.int .i64 p.c)) (first | exact ⟨k50, k51⟩ | exact ⟨keepc bel p0, keepc bel p1⟩)
                (first
                  | (go_at_call 22; (with_reducible refine (impl_NumText_calls _ _).mono ?_); rintro e wN ⟨rfl, hbN⟩; obtain ⟨CN, DN⟩ := bcell hbN)
                  | (go_at_call 23; refine (joined_calls [numText p.g, numText p.c] _ 2 ⟨#[58]⟩ _ (row_of (own_lit2 (d := Rp.str) (e := 9) (x := numText p.g) (y := numText p.c) rfl (blk_alloc _ _) ⟨rfl, rfl⟩ ⟨rfl, rfl⟩)).2 (by simp) (by simp) (by intro y hy; simp at hy; rcases hy with rfl | rfl <;> exact numText_le _) (by decide)).mono ?_; rintro e wJ ⟨rfl, hbJ⟩; rw [show joined [numText p.g, numText p.c] ⟨#[58]⟩ = pickT p from rfl]; obtain ⟨CJ, DJ⟩ := bcell hbJ)
                  | (refine st_app_one Rp.str _ (by rfl) _ _ 47 (by rfl) 9 16 _ rfl rfl rfl (by decide) (by decide) (by rfl) (xs := ys) (bs := bs) (HO.out.below bel) (by_ := []) (by simpa using HF.out.1) (by rfl) (y := pickT p) (cs := [.string (pickT p)]) ⟨rfl, rfl⟩ (cells_cons (by go_simp) cells_nil) (by have := HL.out; omega) ?_; intro B2 d2 w5 bs2 hres; have k50 := hres.chg.cell (fun h => by have := HO.out.lt _ h; omega) (keepc bel p0); have k51 := hres.chg.cell (fun h => by have := HO.out.lt _ h; omega) (keepc bel p1); have hb5 := hres.below (w0 := w) HF.out.2 bel; have hf5 := hres.fresh (w0 := w) HF.out (fun b hb => by cases hb) (by have := (bel : Below w.heap.size w wJ).size; simp; omega); have HO2 := Lib.hid hres.own; have HF2 := Lib.hid hf5; clear hres hf5))
              all_goals (go_wp2; go_roundg gk; (case measure => omega); case rel => exact ⟨j + 1, B2, d2, bs2, ys ++ [pickT p], by go_num, by omega, by omega, by simp, Lib.hid (by have := HL.out; simp; omega), Lib.hid (by rw [HZ.out, List.take_succ_eq_append_getElem hlt, List.map_append, HPJ.out, List.append_assoc]; rfl), Lib.hid (by rw [List.length_append]; exact HO2.out), HF2, hb5⟩)
            · have hj' : j = x.picks.length := by omega
              have hys : ys = wsTo x 2 ++ x.picks.map pickT := by rw [HZ.out, hj', List.take_length]
              have hle : ∀ y ∈ ys, y.size ≤ 64 := by
                intro y hy
                rw [hys] at hy
                rcases List.mem_append.1 hy with h | h
                · exact wsTo_le y h
                · obtain ⟨p, _, rfl⟩ := List.mem_map.1 h
                  exact pickT_le p
              have HYS := Lib.hid hys; have HLE := Lib.hid hle; clear hys hle
              go_wp2_with fail
              refine (joined_calls ys B d ⟨#[32]⟩ _ ((row_of HO.out).2.below bel) (row_of HO.out).1 (by have := HL.out; omega) HLE.out (by decide)).mono ?_
              rintro e wJ ⟨rfl, hbJ⟩
              rw [show joined ys ⟨#[32]⟩ = R by rw [HY.out, HYS.out]; rfl]
              go_wp2
              go_ret
              exact ⟨rfl, bel⟩
        · have hd : decide (0 < x.picks.length) = false := by simp [hp0]
          clear hp0
          go_wp2
          go_loopg [6, 53] (x.picks.length + 1) (fun kq v6 v53 w' => ∃ (j : Nat) (B : Option Addr) (d : Nat) (bs : List Nat) (ys : List ByteArray), v53 = .int .i64 j ∧ j + kq = x.picks.length + 1 ∧ j ≤ x.picks.length ∧ v6 = .slice B ys.length d ∧ Hid (ys.length ≤ 3 + j) ∧ Hid (ys = wsTo x 2 ++ (x.picks.take j).map pickT) ∧ Hid (Rp.str.Own 9 w' bs (.slice B ys.length d) ys) ∧ Hid (Fresh w bs) ∧ Below w.heap.size w w')
          case atStart => exact ⟨0, B, d, bs, zs, rfl, by omega, by omega, rfl, Lib.hid (by omega), Lib.hid (by rw [HZ.out]; simp), HO, HF, bel⟩
          case round =>
            clear HO HF HZ hb q0 z0 z2 hlz
            obtain ⟨j, B, d, bs, ys, rfl, hj, hj2, rfl, HL, HZ, HO, HF, hb⟩ := hrel
            obtain ⟨gk, rfl⟩ : ∃ m, gk = m + 1 := ⟨gk - 1, by omega⟩
            by_cases hlt : j < x.picks.length
            · obtain ⟨b, o, rfl, g0, g1⟩ := kPick_at (R0.out.below hb) hlt
              have zb : b < wr.heap.size := World.block_lt_of_cell? wr _ g0
              obtain ⟨p, hp⟩ : ∃ p, x.picks[j] = p := ⟨_, rfl⟩
              rw [hp] at g0 g1
              have HPJ := Lib.hid hp; clear hp
              go_wp2_with fail
              refine settleR ?_; intro V hV
              have hbV : Below wr.heap.size wr V := by rw [hV]; exact bel
              have p0 : V.cell? ⟨wr.heap.size, 0, none⟩ = some (.int .i64 p.g) := by rw [hV]; go_simp
              have p1 : V.cell? ⟨wr.heap.size, 1, none⟩ = some (.int .i64 p.c) := by rw [hV]; go_simp
              clear hV
              have zV : wr.heap.size < V.heap.size := World.block_lt_of_cell? V _ p0
              go_region_held3 (fun w' => w'.cell? ⟨wr.heap.size, 0, none⟩ = some (.int .i64 p.g) ∧ w'.cell? ⟨wr.heap.size, 1, none⟩ = some (.int .i64 p.c)) (first | exact ⟨k50, k51⟩ | exact ⟨keepc bel p0, keepc bel p1⟩)
                (first
                  | (go_at_call 22; (with_reducible refine (impl_NumText_calls _ _).mono ?_); rintro e wN ⟨rfl, hbN⟩; obtain ⟨CN, DN⟩ := bcell hbN)
                  | (go_at_call 23; refine (joined_calls [numText p.g, numText p.c] _ 2 ⟨#[58]⟩ _ (row_of (own_lit2 (d := Rp.str) (e := 9) (x := numText p.g) (y := numText p.c) rfl (blk_alloc _ _) ⟨rfl, rfl⟩ ⟨rfl, rfl⟩)).2 (by simp) (by simp) (by intro y hy; simp at hy; rcases hy with rfl | rfl <;> exact numText_le _) (by decide)).mono ?_; rintro e wJ ⟨rfl, hbJ⟩; rw [show joined [numText p.g, numText p.c] ⟨#[58]⟩ = pickT p from rfl]; obtain ⟨CJ, DJ⟩ := bcell hbJ)
                  | (refine st_app_one Rp.str _ (by rfl) _ _ 47 (by rfl) 9 16 _ rfl rfl rfl (by decide) (by decide) (by rfl) (xs := ys) (bs := bs) (HO.out.below bel) (by_ := []) (by simpa using HF.out.1) (by rfl) (y := pickT p) (cs := [.string (pickT p)]) ⟨rfl, rfl⟩ (cells_cons (by go_simp) cells_nil) (by have := HL.out; omega) ?_; intro B2 d2 w5 bs2 hres; have k50 := hres.chg.cell (fun h => by have := HO.out.lt _ h; omega) (keepc bel p0); have k51 := hres.chg.cell (fun h => by have := HO.out.lt _ h; omega) (keepc bel p1); have hb5 := hres.below (w0 := w) HF.out.2 bel; have hf5 := hres.fresh (w0 := w) HF.out (fun b hb => by cases hb) (by have := (bel : Below w.heap.size w wJ).size; simp; omega); have HO2 := Lib.hid hres.own; have HF2 := Lib.hid hf5; clear hres hf5))
              all_goals (go_wp2; go_roundg gk; (case measure => omega); case rel => exact ⟨j + 1, B2, d2, bs2, ys ++ [pickT p], by go_num, by omega, by omega, by simp, Lib.hid (by have := HL.out; simp; omega), Lib.hid (by rw [HZ.out, List.take_succ_eq_append_getElem hlt, List.map_append, HPJ.out, List.append_assoc]; rfl), Lib.hid (by rw [List.length_append]; exact HO2.out), HF2, hb5⟩)
            · have hj' : j = x.picks.length := by omega
              have hys : ys = wsTo x 2 ++ x.picks.map pickT := by rw [HZ.out, hj', List.take_length]
              have hle : ∀ y ∈ ys, y.size ≤ 64 := by
                intro y hy
                rw [hys] at hy
                rcases List.mem_append.1 hy with h | h
                · exact wsTo_le y h
                · obtain ⟨p, _, rfl⟩ := List.mem_map.1 h
                  exact pickT_le p
              have HYS := Lib.hid hys; have HLE := Lib.hid hle; clear hys hle
              go_wp2_with fail
              refine (joined_calls ys B d ⟨#[32]⟩ _ ((row_of HO.out).2.below bel) (row_of HO.out).1 (by have := HL.out; omega) HLE.out (by decide)).mono ?_
              rintro e wJ ⟨rfl, hbJ⟩
              rw [show joined ys ⟨#[32]⟩ = R by rw [HY.out, HYS.out]; rfl]
              go_wp2
              go_ret
              exact ⟨rfl, bel⟩
end Go.Proofs.YtcidbencoebfaaaDoor.Wd


/- The reference's CmdText. Conditions: the command is of at most 1048576 values. -/
import Derived.Test.YtcidbencoebfaaaDoorCmdI
import Derived.Deep.CutRange
namespace Go.Proofs.YtcidbencoebfaaaDoor.Wd
open Go.RowKit
set_option linter.unusedVariables false
set_option linter.unusedSimpArgs false
set_option maxHeartbeats 4000000
set_option maxRecDepth 100000
theorem cmdText_word0 {x : MCmd} (h : cmdWord x.kind = ⟨#[]⟩) : cmdText x = ⟨#[]⟩ := by
  by_cases hf : cmdFine x
  · rw [cmdText_yes hf]
    unfold joined
    rw [if_neg]
    intro h2
    have := h2 (cmdWord x.kind) (by unfold wsTo; simp)
    rw [h] at this
    exact absurd this (by decide)
  · exact cmdText_no hf
theorem cmdWord_out {k : Int} (h : ¬ (1 ≤ k ∧ k ≤ 8)) : cmdWord k = ⟨#[]⟩ := by
  unfold cmdWord
  rw [if_neg (by omega), if_neg (by omega), if_neg (by omega), if_neg (by omega), if_neg (by omega), if_neg (by omega), if_neg (by omega), if_neg (by omega)]
theorem cmdWord_in {m : Nat} (h : m < 8) : 0 < (cmdWord (m + 1)).size := by
  have : ∀ k : Fin 8, 0 < (cmdWord (k.val + 1)).size := by decide
  exact this ⟨m, h⟩
theorem joined_no {xs : List ByteArray} {sep y : ByteArray} (h : y ∈ xs) (h0 : y = ⟨#[]⟩) : joined xs sep = ⟨#[]⟩ := by
  unfold joined
  rw [if_neg]
  intro h2
  have := h2 y h
  rw [h0] at this
  exact absurd this (by decide)
theorem joined_yes {xs : List ByteArray} {sep : ByteArray} (h : ∀ y ∈ xs, 0 < y.size) : joined xs sep = joinB xs sep := by unfold joined; rw [if_pos h]
theorem numText_pos {n : Int} (h : 0 ≤ n ∧ n ≤ 4294967295) : 0 < (numText n).size := by
  rcases Nat.eq_zero_or_pos (numText n).size with h0 | h0
  · exact absurd h ((numText_empty n).1 (size_zero h0))
  · exact h0
theorem numText_none {n : Int} (h : ¬ (0 ≤ n ∧ n ≤ 4294967295)) : numText n = ⟨#[]⟩ := (numText_empty n).2 h
theorem pickT_yes {p : MPick} (h1 : 0 ≤ p.g ∧ p.g ≤ 4294967295) (h2 : 0 ≤ p.c ∧ p.c ≤ 4294967295) : pickT p = numText p.g ++ colon ++ numText p.c := by
  unfold pickT
  rw [joined_yes (by intro y hy; simp at hy; rcases hy with rfl | rfl; exact numText_pos h1; exact numText_pos h2)]
  exact (joinB_snoc (xs := [numText p.g]) (by simp) _ _).trans (by rw [joinB_one])
theorem pickT_pos {p : MPick} (h1 : 0 ≤ p.g ∧ p.g ≤ 4294967295) (h2 : 0 ≤ p.c ∧ p.c ≤ 4294967295) : 0 < (pickT p).size := by
  rw [pickT_yes h1 h2, ByteArray.size_append, ByteArray.size_append]
  have := numText_pos h1
  omega
theorem pickT_no1 {p : MPick} (h : ¬ (0 ≤ p.g ∧ p.g ≤ 4294967295)) : pickT p = ⟨#[]⟩ := joined_no (y := numText p.g) (by simp) (numText_none h)
theorem pickT_no2 {p : MPick} (h : ¬ (0 ≤ p.c ∧ p.c ≤ 4294967295)) : pickT p = ⟨#[]⟩ := joined_no (y := numText p.c) (by simp) (numText_none h)
theorem wsTo_mem {x : MCmd} {i : Nat} {n : Int} (hi : i < cmdCount x.kind) (hn : (nums x)[i]? = some n) (h2 : i < 2) : numText n ∈ wsTo x 2 := by
  unfold wsTo
  refine List.mem_cons_of_mem _ (List.mem_map.2 ⟨n, ?_, rfl⟩)
  rw [List.mem_iff_getElem?]
  exact ⟨i, by rw [List.getElem?_take_of_lt (by omega)]; exact hn⟩
theorem wsTo_end {x : MCmd} {i : Nat} (h : i = cmdCount x.kind) : wsTo x i = wsTo x 2 := by
  have := cmdCount_le x.kind
  subst h
  unfold wsTo
  rw [Nat.min_self, Nat.min_eq_right this]
theorem hasPicks_calls (k : Int) (w : World) :
    Calls Tryd.prog 27 #[.int .i64 k] w fun e w' => e = .returned (.bool (cmdPicks k)) ∧ Below w.heap.size w w' := by
  go_enter Tryd.func27, Tryd.ntmps27
  go_wp2
  all_goals (go_ret; refine ⟨?_, bel⟩; simp_all [cmdPicks]; try (rw [Bool.eq_iff_iff]; simp_all))
theorem l27Words_calls (w : World) :
    Calls Tryd.prog 26 #[] w fun e w' => ∃ g, e = .returned (.slice (some ⟨g, 0, none⟩) 8 8) ∧ (∀ m : Nat, m < 8 → w'.cell? ⟨g, m, none⟩ = some (.string (cmdWord (m + 1)))) ∧ w.heap.size ≤ g ∧ Below w.heap.size w w' := by
  go_enter Tryd.func26, Tryd.ntmps26
  go_wp2
  go_ret
  refine ⟨_, rfl, fun m hm => ?_, Nat.le_refl _, bel⟩
  have h8 : m = 0 ∨ m = 1 ∨ m = 2 ∨ m = 3 ∨ m = 4 ∨ m = 5 ∨ m = 6 ∨ m = 7 := by omega
  rcases h8 with rfl | rfl | rfl | rfl | rfl | rfl | rfl | rfl <;> simp [cmdWord]
theorem l27Nums_calls (x : MCmd) (cs : List Value) (w : World) (hx : kCmd.K w x cs) :
    Calls Tryd.prog 30 #[.agg cs.toArray] w fun e w' => Copied Rp.int 3 ((nums x).take (cmdCount x.kind)) w e w' := by
  obtain ⟨A0, c0, rfl, l0, r0⟩ := kCmd_K hx
  clear hx r0
  obtain ⟨k, a, b, ps⟩ := x
  simp only at *
  by_cases h2 : k = 2
  · subst h2
    go_enter Tryd.func30, Tryd.ntmps30
    go_wp2
    go_ret
    exact ⟨_, _, _, rfl, own_lit1 (d := Rp.int) rfl (blk_alloc' (by simp)) ⟨rfl, rfl⟩, ⟨by simp, fun b hm => by simp at hm; omega⟩, bel⟩
  · by_cases h4 : k = 4
    · subst h4
      go_enter Tryd.func30, Tryd.ntmps30
      go_wp2
      go_ret
      exact ⟨_, _, _, rfl, own_lit1 (d := Rp.int) rfl (blk_alloc' (by simp)) ⟨rfl, rfl⟩, ⟨by simp, fun b hm => by simp at hm; omega⟩, bel⟩
    · by_cases h5 : k = 5
      · subst h5
        go_enter Tryd.func30, Tryd.ntmps30
        go_wp2
        go_ret
        exact ⟨_, _, _, rfl, own_lit2 (d := Rp.int) rfl (blk_alloc' (by simp)) ⟨rfl, rfl⟩ ⟨rfl, rfl⟩, ⟨by simp, fun b hm => by simp at hm; omega⟩, bel⟩
      · have hc : cmdCount k = 0 := by unfold cmdCount; rw [if_neg h2, if_neg h4, if_neg h5]
        rw [hc]
        have e2 : (k == 2) = false := by simpa using h2
        have e4 : (k == 4) = false := by simpa using h4
        have e5 : (k == 5) = false := by simpa using h5
        clear hc h2 h4 h5
        go_enter Tryd.func30, Tryd.ntmps30
        go_wp2
        go_ret
        exact copied_nil _ bel
theorem spec_CmdText_calls (x : MCmd) (cs : List Value) (w : World) (hx : kCmd.K w x cs) (hc : cntCmd x ≤ 1048576) :
    Calls Tryd.prog 31 #[.agg cs.toArray] w fun e w' => e = .returned (.string (cmdText x)) ∧ Below w.heap.size w w' := by
  obtain ⟨A0, c0, rfl, l0, r0⟩ := kCmd_K hx
  clear hx
  unfold cntCmd at hc
  have R0 := Lib.hid r0; clear r0
  have hC := cmdCount_le x.kind
  obtain ⟨R, hR⟩ : ∃ R, cmdText x = R := ⟨_, rfl⟩
  rw [hR]
  have HNO : Hid (¬ cmdFine x → R = ⟨#[]⟩) := Lib.hid fun h => by rw [← hR]; exact cmdText_no h
  have HYES : Hid (cmdFine x → R = joined (wsTo x 2 ++ x.picks.map pickT) sp) := Lib.hid fun h => by rw [← hR]; exact cmdText_yes h
  by_cases hk : 1 ≤ x.kind ∧ x.kind ≤ 8
  rotate_left
  · have HR : Hid (R = ⟨#[]⟩) := Lib.hid (by rw [← hR]; exact cmdText_word0 (cmdWord_out hk))
    clear hR hC
    by_cases h1 : x.kind < 1
    · have hd : decide (x.kind < 1) = true := decide_eq_true h1
      clear hk h1
      go_enter Tryd.func31, Tryd.ntmps31
      go_wp2
      go_ret
      rw [HR.out]
      exact ⟨rfl, bel⟩
    · have hd : decide (x.kind < 1) = false := decide_eq_false h1
      have hd2 : decide (8 < x.kind) = true := decide_eq_true (by omega)
      clear hk h1
      go_enter Tryd.func31, Tryd.ntmps31
      go_wp2
      go_ret
      rw [HR.out]
      exact ⟨rfl, bel⟩
  clear hR
  obtain ⟨C, hCC⟩ : ∃ C, cmdCount x.kind = C := ⟨_, rfl⟩
  rw [hCC] at hC
  have HC := Lib.hid hCC; clear hCC
  obtain ⟨m, hkm⟩ : ∃ m : Nat, x.kind = m + 1 := ⟨(x.kind - 1).toNat, by omega⟩
  have hm8 : m < 8 := by omega
  have hd1 : decide (((m : Int) + 1) < 1) = false := decide_eq_false (by omega)
  have hd2 : decide (8 < ((m : Int) + 1)) = false := decide_eq_false (by omega)
  have HK : Hid (x.kind = m + 1) := Lib.hid hkm
  rw [hkm]
  clear hk hkm
  cases hP : cmdPicks ((m : Int) + 1) with
  | true =>
    have HPP : Hid (cmdPicks x.kind = true) := Lib.hid (by rw [HK.out]; exact hP)
    have HP := Lib.hid hP; clear hP
    go_enter Tryd.func31, Tryd.ntmps31
    go_wp2_with fail
    refine (hasPicks_calls _ _).mono ?_
    rintro e w0 ⟨rfl, hb0⟩
    rw [HP.out]
    have z0 : w.heap.size < w0.heap.size := by have := hb0.size; (try simp at this); omega
    obtain ⟨C0, D0⟩ := bcell hb0
    go_wp2_with fail
    rw [← HK.out]
    refine (l27Nums_calls x [_, _, _, _] _ (kCmd_mk _ _ l0 (R0.out.below bel))).mono ?_
    rintro e w1 ⟨B, d, bs, rfl, ho, hf, hb1⟩
    have HL := Lib.hid (row_of ho).2; clear ho hf
    obtain ⟨L, hL⟩ : ∃ L, (nums x).take (cmdCount x.kind) = L := ⟨_, rfl⟩
    rw [hL] at HL ⊢
    rw [HK.out]
    have HLL := Lib.hid hL
    have hbw : Below w.heap.size w w1 := bel
    have q0 : w1.cell? ⟨w.heap.size, 0, none⟩ = some (.int .i64 (m + 1)) := keepc hb1 (by go_simp)
    have q1 : w1.cell? ⟨w.heap.size, 1, none⟩ = some (.int .i64 x.a) := keepc hb1 (by go_simp; try rw [HK.out])
    have q2 : w1.cell? ⟨w.heap.size, 2, none⟩ = some (.int .i64 x.b) := keepc hb1 (by go_simp; try rw [HK.out])
    have q3 : w1.cell? ⟨w.heap.size, 3, none⟩ = some (.slice A0 x.picks.length c0) := keepc hb1 (by go_simp; try rw [HK.out])
    have z1 : w.heap.size < w1.heap.size := World.block_lt_of_cell? w1 _ q0
    have hlen : L.length = C := by rw [← hL, List.length_take, HC.out]; show min C 2 = C; omega
    clear hL
    obtain rfl | rfl | rfl : C = 0 ∨ C = 1 ∨ C = 2 := by omega
    · rw [hlen]
      by_cases hz : x.a = 0
      rotate_left
      · have hd : (x.a != 0) = true := by simpa using hz
        have HN : Hid (¬ cmdFine x) := Lib.hid fun h => hz (h.1 (by rw [HC.out]; decide))
        clear hz
        go_wp2
        go_ret
        rw [HNO.out HN.out]
        exact ⟨rfl, bel⟩
      have hda : (x.a != 0) = false := by simp [hz]
      have HZa := Lib.hid hz; clear hz
      by_cases hz : x.b = 0
      rotate_left
      · have hd : (x.b != 0) = true := by simpa using hz
        have HN : Hid (¬ cmdFine x) := Lib.hid fun h => hz (h.2.1 (by rw [HC.out]; decide))
        clear hz
        go_wp2
        go_ret
        rw [HNO.out HN.out]
        exact ⟨rfl, bel⟩
      have hdb : (x.b != 0) = false := by simp [hz]
      have HZb := Lib.hid hz; clear hz
      have HY : Hid (cmdFine x) := Lib.hid ⟨fun _ => HZa.out, fun _ => HZb.out, fun h => by rw [HPP.out] at h; cases h⟩
      have HR := Lib.hid (HYES.out HY.out); clear HY HNO
      go_wp2_with fail
      refine settleR ?_; intro V hV
      have hbV : Below w1.heap.size w1 V := by rw [hV]; exact bel
      clear hV
      have p0 := keepc hbV q0; have p3 := keepc hbV q3
      clear q0 q1 q2 q3
      have hwr : IntKind.i64.wrap ((m : Int) + 1 - 1) = (m : Int) := by rw [wrap_in _ (by omega) (by omega)]; omega
      have hi0 : (0 : Int) ≤ (m : Int) := by omega
      have hi1 : (m : Int) < 8 := by omega
      have hwr2 : IntKind.i64.wrap (m : Int) = (m : Int) := wrap_in _ (by omega) (by omega)
      go_cut [4] from 49 to 54 (fun v4 wx => v4 = .string (cmdWord ((m : Int) + 1)) ∧ Below V.heap.size V wx)
      case first =>
        go_region_with
          (first | (go_at_call 26; (with_reducible refine (l27Words_calls _).mono ?_); rintro e w2 ⟨g, rfl, hg, hgs, hb2⟩; have hgm := hg m hm8; have k0 : w2.cell? ⟨w.heap.size, 0, none⟩ = _ := keepc bel p0; clear hg))
        all_goals (go_wp2_with fail; go_meet; case rel => exact ⟨rfl, bel⟩)
      obtain ⟨rfl, hb2⟩ := hcut
      obtain ⟨w2, rfl⟩ : ∃ wq : World, wq = wc := ⟨_, rfl⟩
      have k3 : w2.cell? ⟨w.heap.size, 3, none⟩ = _ := keepc hb2 p3
      have H2 : Hid (0 < (cmdWord x.kind).size) := Lib.hid (by rw [HK.out]; exact cmdWord_in hm8)
      have HL2 := Lib.hid (HL.out.below (bel : Below w1.heap.size w1 w2))
      obtain ⟨S0, hS0⟩ : ∃ S0, cmdWord ((m : Int) + 1) = S0 := ⟨_, rfl⟩
      rw [hS0]
      have HS0 := Lib.hid hS0; clear hS0
      go_wp2
      have zw2 : w.heap.size < w2.heap.size := World.block_lt_of_cell? w2 _ k3
      go_loopg [4, 57] (0 + 1) (fun kq v4 v57 w' => ∃ (i : Nat) (s : ByteArray), v57 = .int .i64 i ∧ v4 = .string s ∧ i + kq = 0 + 1 ∧ i ≤ 0 ∧ Hid (s = joinB (wsTo x i) sp ∧ ∀ y ∈ wsTo x i, 0 < y.size) ∧ Below w2.heap.size w2 w')
      case atStart => exact ⟨0, S0, rfl, rfl, by omega, by omega, Lib.hid (by unfold wsTo; rw [Nat.zero_min, List.take_zero]; simp only [List.map_nil]; rw [joinB_one, HK.out, HS0.out]; exact ⟨rfl, by intro y hy; simp at hy; subst hy; rw [← HS0.out, ← HK.out]; exact H2.out⟩), bel⟩
      case round =>
        obtain ⟨i, s, rfl, rfl, hi, hi2, HP1, hb⟩ := hrel
        obtain ⟨gk, rfl⟩ : ∃ m, gk = m + 1 := ⟨gk - 1, by omega⟩
        by_cases hlt : i < 0
        · exact absurd hlt (by omega)
        · have hi' : i = 0 := by omega
          have HW2 : Hid (s = joinB (wsTo x 2) sp ∧ ∀ y ∈ wsTo x 2, 0 < y.size) := Lib.hid (by rw [← wsTo_end (i := i) (by rw [HC.out]; exact hi')]; exact HP1.out)
          have hk3 : wr.cell? ⟨w.heap.size, 3, none⟩ = some (.slice A0 x.picks.length c0) := keepc hb k3
          have hbw2 : Below w.heap.size w w2 := bel
          have hbwr : Below w.heap.size w wr := bvia hb hbw2
          clear HP1 hlt hi hi2
          subst hi'
          have zwr : w.heap.size < wr.heap.size := World.block_lt_of_cell? wr _ hk3
          go_wp2
          go_loopg [4, 73] (x.picks.length + 1) (fun kq v4 v73 w' => ∃ (j : Nat) (s : ByteArray), v73 = .int .i64 j ∧ v4 = .string s ∧ j + kq = x.picks.length + 1 ∧ j ≤ x.picks.length ∧ Hid (s = joinB (wsTo x 2 ++ (x.picks.take j).map pickT) sp ∧ ∀ y ∈ wsTo x 2 ++ (x.picks.take j).map pickT, 0 < y.size) ∧ Below w.heap.size w w')
          case atStart => exact ⟨0, s, rfl, rfl, by omega, by omega, Lib.hid (by simpa using HW2.out), hbwr⟩
          case round =>
            clear HW2 hb hk3 hbwr zwr
            obtain ⟨j, s, rfl, rfl, hj, hj2, HP1, hb⟩ := hrel
            obtain ⟨gk, rfl⟩ : ∃ m, gk = m + 1 := ⟨gk - 1, by omega⟩
            by_cases hlt : j < x.picks.length
            · obtain ⟨b, o, rfl, g0, g1⟩ := kPick_at (R0.out.below hb) hlt
              have zb : b < wr.heap.size := World.block_lt_of_cell? wr _ g0
              obtain ⟨p, hp⟩ : ∃ p, x.picks[j] = p := ⟨_, rfl⟩
              rw [hp] at g0 g1
              have HMEM : Hid (pickT p ∈ wsTo x 2 ++ x.picks.map pickT) := Lib.hid (List.mem_append_right _ (List.mem_map.2 ⟨p, by rw [← hp]; exact List.getElem_mem hlt, rfl⟩))
              have HPJ := Lib.hid hp; clear hp
              by_cases h1 : 0 ≤ p.g ∧ p.g ≤ 4294967295
              · have hd1 : decide (0 ≤ p.g ∧ p.g ≤ 4294967295) = true := decide_eq_true h1
                by_cases h2 : 0 ≤ p.c ∧ p.c ≤ 4294967295
                · have hd2 : decide (0 ≤ p.c ∧ p.c ≤ 4294967295) = true := decide_eq_true h2
                  have HPT := Lib.hid (pickT_yes h1 h2); have HPS := Lib.hid (pickT_pos h1 h2)
                  clear h1 h2
                  obtain ⟨T, hT⟩ : ∃ T, numText p.g = T := ⟨_, rfl⟩
                  obtain ⟨U, hU⟩ : ∃ U, numText p.c = U := ⟨_, rfl⟩
                  have hTs : T.size ≤ 10 := by rw [← hT]; exact numText_size _
                  have hUs : U.size ≤ 10 := by rw [← hU]; exact numText_size _
                  have hss : s.size ≤ 65 * (3 + 1048576) := by
                    rw [HP1.out.1]
                    refine Nat.le_trans (joinB_size (m := 64) (fun y hy => ?_) (by decide)) ?_
                    · rcases List.mem_append.1 hy with h | h
                      · exact wsTo_le y h
                      · obtain ⟨q, _, rfl⟩ := List.mem_map.1 h
                        exact pickT_le q
                    · have h1 : (wsTo x 2).length ≤ 3 := by unfold wsTo; simp [nums]; omega
                      have h2 : ((x.picks.take j).map pickT).length ≤ x.picks.length := by simp; omega
                      rw [List.length_append]
                      exact Nat.mul_le_mul_left _ (by omega)
                  have hg1 : ¬ (9223372036854775807 < s.size + 1) := by omega
                  have hg2 : ¬ (9223372036854775807 ≤ s.size) := by omega
                  have hg3 : ¬ (9223372036854775807 < s.size + 1 + T.size) := by omega
                  have hg4 : ¬ (9223372036854775807 < s.size + 1 + T.size + 1) := by omega
                  have hg5 : ¬ (9223372036854775807 ≤ s.size + 1 + T.size) := by omega
                  have hg6 : ¬ (9223372036854775807 < s.size + 1 + T.size + 1 + U.size) := by omega
                  have HT := Lib.hid hT; have HU := Lib.hid hU; clear hT hU hTs hUs hss
                  go_wp2_with fail
                  refine (l01Num_calls _ _).mono ?_
                  rintro e w3 ⟨rfl, hb3⟩
                  rw [hd1]
                  obtain ⟨C3, D3⟩ := bcell hb3
                  have z3 : wr.heap.size < w3.heap.size := by have := hb3.size; (try simp at this); omega
                  go_wp2_with fail
                  refine (l01Num_calls _ _).mono ?_
                  rintro e w4 ⟨rfl, hb4⟩
                  rw [hd2]
                  have p0 : w4.cell? ⟨wr.heap.size, 0, none⟩ = some (.int .i64 p.g) := keepc hb4 (by go_simp)
                  have p1 : w4.cell? ⟨wr.heap.size, 1, none⟩ = some (.int .i64 p.c) := keepc hb4 (by go_simp)
                  have z4 : wr.heap.size < w4.heap.size := World.block_lt_of_cell? w4 _ p0
                  go_wp2_with fail
                  go_region_held3 (fun w' => w'.cell? ⟨wr.heap.size, 0, none⟩ = some (.int .i64 p.g) ∧ w'.cell? ⟨wr.heap.size, 1, none⟩ = some (.int .i64 p.c)) (exact ⟨keepc bel p0, keepc bel p1⟩)
                    (first
                      | (go_at_call 46; (with_reducible refine (spec_NumText_calls p.g _).mono ?_); rintro e wN ⟨rfl, hbN⟩; rw [HT.out])
                      | (go_at_call 46; (with_reducible refine (spec_NumText_calls p.c _).mono ?_); rintro e wM ⟨rfl, hbM⟩; rw [HU.out]))
                  all_goals (go_wp2; go_roundg gk; (case measure => omega); case rel => exact ⟨j + 1, s ++ sp ++ T ++ colon ++ U, by go_num, rfl, by omega, by omega, Lib.hid (by
                    rw [List.take_succ_eq_append_getElem hlt, List.map_append, HPJ.out, ← List.append_assoc]
                    refine ⟨?_, fun y hy => ?_⟩
                    · rw [show [p].map pickT = [pickT p] from rfl, joinB_snoc (by unfold wsTo; simp), ← HP1.out.1, HPT.out, HT.out, HU.out]
                      simp only [ByteArray.append_assoc]
                    · rcases List.mem_append.1 hy with h | h
                      · exact HP1.out.2 y h
                      · simp at h; subst h; exact HPS.out), bel⟩)
                · have hd2 : decide (0 ≤ p.c ∧ p.c ≤ 4294967295) = false := decide_eq_false h2
                  have HRE : Hid (R = ⟨#[]⟩) := Lib.hid (by rw [HR.out]; exact joined_no HMEM.out (pickT_no2 h2))
                  clear h1 h2
                  go_wp2_with fail
                  refine (l01Num_calls _ _).mono ?_
                  rintro e w3 ⟨rfl, hb3⟩
                  rw [hd1]
                  obtain ⟨C3, D3⟩ := bcell hb3
                  have z3 : wr.heap.size < w3.heap.size := by have := hb3.size; (try simp at this); omega
                  go_wp2_with fail
                  refine (l01Num_calls _ _).mono ?_
                  rintro e w4 ⟨rfl, hb4⟩
                  rw [hd2]
                  go_wp2
                  go_ret
                  rw [HRE.out]
                  exact ⟨rfl, bel⟩
              · have hd1 : decide (0 ≤ p.g ∧ p.g ≤ 4294967295) = false := decide_eq_false h1
                have HRE : Hid (R = ⟨#[]⟩) := Lib.hid (by rw [HR.out]; exact joined_no HMEM.out (pickT_no1 h1))
                clear h1
                go_wp2_with fail
                refine (l01Num_calls _ _).mono ?_
                rintro e w3 ⟨rfl, hb3⟩
                rw [hd1]
                go_wp2
                go_ret
                rw [HRE.out]
                exact ⟨rfl, bel⟩
            · have hj' : j = x.picks.length := by omega
              have HE : Hid (R = s) := Lib.hid (by
                have h := HP1.out
                rw [hj', List.take_length] at h
                rw [HR.out, joined_yes h.2, h.1])
              clear HP1 hj'
              go_wp2
              go_ret
              rw [HE.out]
              exact ⟨rfl, bel⟩
    · rw [hlen]
      by_cases hz : x.b = 0
      rotate_left
      · have hd : (x.b != 0) = true := by simpa using hz
        have HN : Hid (¬ cmdFine x) := Lib.hid fun h => hz (h.2.1 (by rw [HC.out]; decide))
        clear hz
        go_wp2
        go_ret
        rw [HNO.out HN.out]
        exact ⟨rfl, bel⟩
      have hdb : (x.b != 0) = false := by simp [hz]
      have HZb := Lib.hid hz; clear hz
      have HY : Hid (cmdFine x) := Lib.hid ⟨fun h => by rw [HC.out] at h; omega, fun _ => HZb.out, fun h => by rw [HPP.out] at h; cases h⟩
      have HR := Lib.hid (HYES.out HY.out); clear HY HNO
      go_wp2_with fail
      refine settleR ?_; intro V hV
      have hbV : Below w1.heap.size w1 V := by rw [hV]; exact bel
      clear hV
      have p0 := keepc hbV q0; have p3 := keepc hbV q3
      clear q0 q1 q2 q3
      have hwr : IntKind.i64.wrap ((m : Int) + 1 - 1) = (m : Int) := by rw [wrap_in _ (by omega) (by omega)]; omega
      have hi0 : (0 : Int) ≤ (m : Int) := by omega
      have hi1 : (m : Int) < 8 := by omega
      have hwr2 : IntKind.i64.wrap (m : Int) = (m : Int) := wrap_in _ (by omega) (by omega)
      go_cut [4] from 49 to 54 (fun v4 wx => v4 = .string (cmdWord ((m : Int) + 1)) ∧ Below V.heap.size V wx)
      case first =>
        go_region_with
          (first | (go_at_call 26; (with_reducible refine (l27Words_calls _).mono ?_); rintro e w2 ⟨g, rfl, hg, hgs, hb2⟩; have hgm := hg m hm8; have k0 : w2.cell? ⟨w.heap.size, 0, none⟩ = _ := keepc bel p0; clear hg))
        all_goals (go_wp2_with fail; go_meet; case rel => exact ⟨rfl, bel⟩)
      obtain ⟨rfl, hb2⟩ := hcut
      obtain ⟨w2, rfl⟩ : ∃ wq : World, wq = wc := ⟨_, rfl⟩
      have k3 : w2.cell? ⟨w.heap.size, 3, none⟩ = _ := keepc hb2 p3
      have H2 : Hid (0 < (cmdWord x.kind).size) := Lib.hid (by rw [HK.out]; exact cmdWord_in hm8)
      have HL2 := Lib.hid (HL.out.below (bel : Below w1.heap.size w1 w2))
      obtain ⟨S0, hS0⟩ : ∃ S0, cmdWord ((m : Int) + 1) = S0 := ⟨_, rfl⟩
      rw [hS0]
      have HS0 := Lib.hid hS0; clear hS0
      go_wp2
      have zw2 : w.heap.size < w2.heap.size := World.block_lt_of_cell? w2 _ k3
      go_loopg [4, 57] (1 + 1) (fun kq v4 v57 w' => ∃ (i : Nat) (s : ByteArray), v57 = .int .i64 i ∧ v4 = .string s ∧ i + kq = 1 + 1 ∧ i ≤ 1 ∧ Hid (s = joinB (wsTo x i) sp ∧ ∀ y ∈ wsTo x i, 0 < y.size) ∧ Below w2.heap.size w2 w')
      case atStart => exact ⟨0, S0, rfl, rfl, by omega, by omega, Lib.hid (by unfold wsTo; rw [Nat.zero_min, List.take_zero]; simp only [List.map_nil]; rw [joinB_one, HK.out, HS0.out]; exact ⟨rfl, by intro y hy; simp at hy; subst hy; rw [← HS0.out, ← HK.out]; exact H2.out⟩), bel⟩
      case round =>
        obtain ⟨i, s, rfl, rfl, hi, hi2, HP1, hb⟩ := hrel
        obtain ⟨gk, rfl⟩ : ∃ m, gk = m + 1 := ⟨gk - 1, by omega⟩
        by_cases hlt : i < 1
        · obtain ⟨b, o, rfl, g0⟩ := int_at (HL2.out.below hb) (i := i) (by omega)
          obtain ⟨n, hn⟩ : ∃ n, L[i]'(by omega) = n := ⟨_, rfl⟩
          rw [hn] at g0
          have hnn : (nums x)[i]? = some n := by
            have h1 : L[i]? = some n := by rw [List.getElem?_eq_getElem (by omega), hn]
            rw [← HLL.out, List.getElem?_take_of_lt (by rw [HC.out]; omega)] at h1
            exact h1
          have HN := Lib.hid hnn; clear hnn hn
          by_cases hnum : 0 ≤ n ∧ n ≤ 4294967295
          · have hd : decide (0 ≤ n ∧ n ≤ 4294967295) = true := decide_eq_true hnum
            have HNUM := Lib.hid hnum; clear hnum
            obtain ⟨T, hT⟩ : ∃ T, numText n = T := ⟨_, rfl⟩
            have hTs : T.size ≤ 10 := by rw [← hT]; exact numText_size n
            have hss : s.size ≤ 65 * 3 := by
              rw [HP1.out.1]
              refine Nat.le_trans (joinB_size (m := 64) (fun y hy => wsTo_le y hy) (by decide)) ?_
              have : (wsTo x i).length ≤ 3 := by unfold wsTo; simp [nums]; omega
              omega
            have hg1 : ¬ (9223372036854775807 < s.size + 1) := by omega
            have hg2 : ¬ (9223372036854775807 ≤ s.size) := by omega
            have hg3 : ¬ (9223372036854775807 < s.size + 1 + T.size) := by omega
            have HT := Lib.hid hT; clear hT hTs hss
            go_wp2_with fail
            refine (l01Num_calls _ _).mono ?_
            rintro e w3 ⟨rfl, hb3⟩
            rw [hd]
            go_wp2_with fail
            refine (spec_NumText_calls _ _).mono ?_
            rintro e w4 ⟨rfl, hb4⟩
            rw [HT.out]
            go_wp2
            go_roundg gk
            case measure => omega
            case rel =>
              refine ⟨i + 1, s ++ sp ++ T, by go_num, rfl, by omega, by omega, Lib.hid ?_, bel⟩
              rw [wsTo_in (by rw [HC.out]; omega) HN.out, HT.out]
              refine ⟨by rw [HP1.out.1]; exact (joinB_snoc (by unfold wsTo; simp) _ _).symm, fun y hy => ?_⟩
              rcases List.mem_append.1 hy with h | h
              · exact HP1.out.2 y h
              · simp at h; subst h; rw [← HT.out]; exact numText_pos HNUM.out
          · have hd : decide (0 ≤ n ∧ n ≤ 4294967295) = false := decide_eq_false hnum
            have HRE : Hid (R = ⟨#[]⟩) := Lib.hid (by rw [HR.out]; exact joined_no (y := numText n) (List.mem_append_left _ (wsTo_mem (by rw [HC.out]; omega) HN.out (by omega))) (numText_none hnum))
            clear hnum
            go_wp2_with fail
            refine (l01Num_calls _ _).mono ?_
            rintro e w3 ⟨rfl, hb3⟩
            rw [hd]
            go_wp2
            go_ret
            rw [HRE.out]
            exact ⟨rfl, bel⟩
        · have hi' : i = 1 := by omega
          have HW2 : Hid (s = joinB (wsTo x 2) sp ∧ ∀ y ∈ wsTo x 2, 0 < y.size) := Lib.hid (by rw [← wsTo_end (i := i) (by rw [HC.out]; exact hi')]; exact HP1.out)
          have hk3 : wr.cell? ⟨w.heap.size, 3, none⟩ = some (.slice A0 x.picks.length c0) := keepc hb k3
          have hbw2 : Below w.heap.size w w2 := bel
          have hbwr : Below w.heap.size w wr := bvia hb hbw2
          clear HP1 hlt hi hi2
          subst hi'
          have zwr : w.heap.size < wr.heap.size := World.block_lt_of_cell? wr _ hk3
          go_wp2
          go_loopg [4, 73] (x.picks.length + 1) (fun kq v4 v73 w' => ∃ (j : Nat) (s : ByteArray), v73 = .int .i64 j ∧ v4 = .string s ∧ j + kq = x.picks.length + 1 ∧ j ≤ x.picks.length ∧ Hid (s = joinB (wsTo x 2 ++ (x.picks.take j).map pickT) sp ∧ ∀ y ∈ wsTo x 2 ++ (x.picks.take j).map pickT, 0 < y.size) ∧ Below w.heap.size w w')
          case atStart => exact ⟨0, s, rfl, rfl, by omega, by omega, Lib.hid (by simpa using HW2.out), hbwr⟩
          case round =>
            clear HW2 hb hk3 hbwr zwr
            obtain ⟨j, s, rfl, rfl, hj, hj2, HP1, hb⟩ := hrel
            obtain ⟨gk, rfl⟩ : ∃ m, gk = m + 1 := ⟨gk - 1, by omega⟩
            by_cases hlt : j < x.picks.length
            · obtain ⟨b, o, rfl, g0, g1⟩ := kPick_at (R0.out.below hb) hlt
              have zb : b < wr.heap.size := World.block_lt_of_cell? wr _ g0
              obtain ⟨p, hp⟩ : ∃ p, x.picks[j] = p := ⟨_, rfl⟩
              rw [hp] at g0 g1
              have HMEM : Hid (pickT p ∈ wsTo x 2 ++ x.picks.map pickT) := Lib.hid (List.mem_append_right _ (List.mem_map.2 ⟨p, by rw [← hp]; exact List.getElem_mem hlt, rfl⟩))
              have HPJ := Lib.hid hp; clear hp
              by_cases h1 : 0 ≤ p.g ∧ p.g ≤ 4294967295
              · have hd1 : decide (0 ≤ p.g ∧ p.g ≤ 4294967295) = true := decide_eq_true h1
                by_cases h2 : 0 ≤ p.c ∧ p.c ≤ 4294967295
                · have hd2 : decide (0 ≤ p.c ∧ p.c ≤ 4294967295) = true := decide_eq_true h2
                  have HPT := Lib.hid (pickT_yes h1 h2); have HPS := Lib.hid (pickT_pos h1 h2)
                  clear h1 h2
                  obtain ⟨T, hT⟩ : ∃ T, numText p.g = T := ⟨_, rfl⟩
                  obtain ⟨U, hU⟩ : ∃ U, numText p.c = U := ⟨_, rfl⟩
                  have hTs : T.size ≤ 10 := by rw [← hT]; exact numText_size _
                  have hUs : U.size ≤ 10 := by rw [← hU]; exact numText_size _
                  have hss : s.size ≤ 65 * (3 + 1048576) := by
                    rw [HP1.out.1]
                    refine Nat.le_trans (joinB_size (m := 64) (fun y hy => ?_) (by decide)) ?_
                    · rcases List.mem_append.1 hy with h | h
                      · exact wsTo_le y h
                      · obtain ⟨q, _, rfl⟩ := List.mem_map.1 h
                        exact pickT_le q
                    · have h1 : (wsTo x 2).length ≤ 3 := by unfold wsTo; simp [nums]; omega
                      have h2 : ((x.picks.take j).map pickT).length ≤ x.picks.length := by simp; omega
                      rw [List.length_append]
                      exact Nat.mul_le_mul_left _ (by omega)
                  have hg1 : ¬ (9223372036854775807 < s.size + 1) := by omega
                  have hg2 : ¬ (9223372036854775807 ≤ s.size) := by omega
                  have hg3 : ¬ (9223372036854775807 < s.size + 1 + T.size) := by omega
                  have hg4 : ¬ (9223372036854775807 < s.size + 1 + T.size + 1) := by omega
                  have hg5 : ¬ (9223372036854775807 ≤ s.size + 1 + T.size) := by omega
                  have hg6 : ¬ (9223372036854775807 < s.size + 1 + T.size + 1 + U.size) := by omega
                  have HT := Lib.hid hT; have HU := Lib.hid hU; clear hT hU hTs hUs hss
                  go_wp2_with fail
                  refine (l01Num_calls _ _).mono ?_
                  rintro e w3 ⟨rfl, hb3⟩
                  rw [hd1]
                  obtain ⟨C3, D3⟩ := bcell hb3
                  have z3 : wr.heap.size < w3.heap.size := by have := hb3.size; (try simp at this); omega
                  go_wp2_with fail
                  refine (l01Num_calls _ _).mono ?_
                  rintro e w4 ⟨rfl, hb4⟩
                  rw [hd2]
                  have p0 : w4.cell? ⟨wr.heap.size, 0, none⟩ = some (.int .i64 p.g) := keepc hb4 (by go_simp)
                  have p1 : w4.cell? ⟨wr.heap.size, 1, none⟩ = some (.int .i64 p.c) := keepc hb4 (by go_simp)
                  have z4 : wr.heap.size < w4.heap.size := World.block_lt_of_cell? w4 _ p0
                  go_wp2_with fail
                  go_region_held3 (fun w' => w'.cell? ⟨wr.heap.size, 0, none⟩ = some (.int .i64 p.g) ∧ w'.cell? ⟨wr.heap.size, 1, none⟩ = some (.int .i64 p.c)) (exact ⟨keepc bel p0, keepc bel p1⟩)
                    (first
                      | (go_at_call 46; (with_reducible refine (spec_NumText_calls p.g _).mono ?_); rintro e wN ⟨rfl, hbN⟩; rw [HT.out])
                      | (go_at_call 46; (with_reducible refine (spec_NumText_calls p.c _).mono ?_); rintro e wM ⟨rfl, hbM⟩; rw [HU.out]))
                  all_goals (go_wp2; go_roundg gk; (case measure => omega); case rel => exact ⟨j + 1, s ++ sp ++ T ++ colon ++ U, by go_num, rfl, by omega, by omega, Lib.hid (by
                    rw [List.take_succ_eq_append_getElem hlt, List.map_append, HPJ.out, ← List.append_assoc]
                    refine ⟨?_, fun y hy => ?_⟩
                    · rw [show [p].map pickT = [pickT p] from rfl, joinB_snoc (by unfold wsTo; simp), ← HP1.out.1, HPT.out, HT.out, HU.out]
                      simp only [ByteArray.append_assoc]
                    · rcases List.mem_append.1 hy with h | h
                      · exact HP1.out.2 y h
                      · simp at h; subst h; exact HPS.out), bel⟩)
                · have hd2 : decide (0 ≤ p.c ∧ p.c ≤ 4294967295) = false := decide_eq_false h2
                  have HRE : Hid (R = ⟨#[]⟩) := Lib.hid (by rw [HR.out]; exact joined_no HMEM.out (pickT_no2 h2))
                  clear h1 h2
                  go_wp2_with fail
                  refine (l01Num_calls _ _).mono ?_
                  rintro e w3 ⟨rfl, hb3⟩
                  rw [hd1]
                  obtain ⟨C3, D3⟩ := bcell hb3
                  have z3 : wr.heap.size < w3.heap.size := by have := hb3.size; (try simp at this); omega
                  go_wp2_with fail
                  refine (l01Num_calls _ _).mono ?_
                  rintro e w4 ⟨rfl, hb4⟩
                  rw [hd2]
                  go_wp2
                  go_ret
                  rw [HRE.out]
                  exact ⟨rfl, bel⟩
              · have hd1 : decide (0 ≤ p.g ∧ p.g ≤ 4294967295) = false := decide_eq_false h1
                have HRE : Hid (R = ⟨#[]⟩) := Lib.hid (by rw [HR.out]; exact joined_no HMEM.out (pickT_no1 h1))
                clear h1
                go_wp2_with fail
                refine (l01Num_calls _ _).mono ?_
                rintro e w3 ⟨rfl, hb3⟩
                rw [hd1]
                go_wp2
                go_ret
                rw [HRE.out]
                exact ⟨rfl, bel⟩
            · have hj' : j = x.picks.length := by omega
              have HE : Hid (R = s) := Lib.hid (by
                have h := HP1.out
                rw [hj', List.take_length] at h
                rw [HR.out, joined_yes h.2, h.1])
              clear HP1 hj'
              go_wp2
              go_ret
              rw [HE.out]
              exact ⟨rfl, bel⟩
    · rw [hlen]
      have HY : Hid (cmdFine x) := Lib.hid ⟨fun h => by rw [HC.out] at h; omega, fun h => by rw [HC.out] at h; omega, fun h => by rw [HPP.out] at h; cases h⟩
      have HR := Lib.hid (HYES.out HY.out); clear HY HNO
      go_wp2_with fail
      refine settleR ?_; intro V hV
      have hbV : Below w1.heap.size w1 V := by rw [hV]; exact bel
      clear hV
      have p0 := keepc hbV q0; have p3 := keepc hbV q3
      clear q0 q1 q2 q3
      have hwr : IntKind.i64.wrap ((m : Int) + 1 - 1) = (m : Int) := by rw [wrap_in _ (by omega) (by omega)]; omega
      have hi0 : (0 : Int) ≤ (m : Int) := by omega
      have hi1 : (m : Int) < 8 := by omega
      have hwr2 : IntKind.i64.wrap (m : Int) = (m : Int) := wrap_in _ (by omega) (by omega)
      go_cut [4] from 49 to 54 (fun v4 wx => v4 = .string (cmdWord ((m : Int) + 1)) ∧ Below V.heap.size V wx)
      case first =>
        go_region_with
          (first | (go_at_call 26; (with_reducible refine (l27Words_calls _).mono ?_); rintro e w2 ⟨g, rfl, hg, hgs, hb2⟩; have hgm := hg m hm8; have k0 : w2.cell? ⟨w.heap.size, 0, none⟩ = _ := keepc bel p0; clear hg))
        all_goals (go_wp2_with fail; go_meet; case rel => exact ⟨rfl, bel⟩)
      obtain ⟨rfl, hb2⟩ := hcut
      obtain ⟨w2, rfl⟩ : ∃ wq : World, wq = wc := ⟨_, rfl⟩
      have k3 : w2.cell? ⟨w.heap.size, 3, none⟩ = _ := keepc hb2 p3
      have H2 : Hid (0 < (cmdWord x.kind).size) := Lib.hid (by rw [HK.out]; exact cmdWord_in hm8)
      have HL2 := Lib.hid (HL.out.below (bel : Below w1.heap.size w1 w2))
      obtain ⟨S0, hS0⟩ : ∃ S0, cmdWord ((m : Int) + 1) = S0 := ⟨_, rfl⟩
      rw [hS0]
      have HS0 := Lib.hid hS0; clear hS0
      go_wp2
      have zw2 : w.heap.size < w2.heap.size := World.block_lt_of_cell? w2 _ k3
      go_loopg [4, 57] (2 + 1) (fun kq v4 v57 w' => ∃ (i : Nat) (s : ByteArray), v57 = .int .i64 i ∧ v4 = .string s ∧ i + kq = 2 + 1 ∧ i ≤ 2 ∧ Hid (s = joinB (wsTo x i) sp ∧ ∀ y ∈ wsTo x i, 0 < y.size) ∧ Below w2.heap.size w2 w')
      case atStart => exact ⟨0, S0, rfl, rfl, by omega, by omega, Lib.hid (by unfold wsTo; rw [Nat.zero_min, List.take_zero]; simp only [List.map_nil]; rw [joinB_one, HK.out, HS0.out]; exact ⟨rfl, by intro y hy; simp at hy; subst hy; rw [← HS0.out, ← HK.out]; exact H2.out⟩), bel⟩
      case round =>
        obtain ⟨i, s, rfl, rfl, hi, hi2, HP1, hb⟩ := hrel
        obtain ⟨gk, rfl⟩ : ∃ m, gk = m + 1 := ⟨gk - 1, by omega⟩
        by_cases hlt : i < 2
        · obtain ⟨b, o, rfl, g0⟩ := int_at (HL2.out.below hb) (i := i) (by omega)
          obtain ⟨n, hn⟩ : ∃ n, L[i]'(by omega) = n := ⟨_, rfl⟩
          rw [hn] at g0
          have hnn : (nums x)[i]? = some n := by
            have h1 : L[i]? = some n := by rw [List.getElem?_eq_getElem (by omega), hn]
            rw [← HLL.out, List.getElem?_take_of_lt (by rw [HC.out]; omega)] at h1
            exact h1
          have HN := Lib.hid hnn; clear hnn hn
          by_cases hnum : 0 ≤ n ∧ n ≤ 4294967295
          · have hd : decide (0 ≤ n ∧ n ≤ 4294967295) = true := decide_eq_true hnum
            have HNUM := Lib.hid hnum; clear hnum
            obtain ⟨T, hT⟩ : ∃ T, numText n = T := ⟨_, rfl⟩
            have hTs : T.size ≤ 10 := by rw [← hT]; exact numText_size n
            have hss : s.size ≤ 65 * 3 := by
              rw [HP1.out.1]
              refine Nat.le_trans (joinB_size (m := 64) (fun y hy => wsTo_le y hy) (by decide)) ?_
              have : (wsTo x i).length ≤ 3 := by unfold wsTo; simp [nums]; omega
              omega
            have hg1 : ¬ (9223372036854775807 < s.size + 1) := by omega
            have hg2 : ¬ (9223372036854775807 ≤ s.size) := by omega
            have hg3 : ¬ (9223372036854775807 < s.size + 1 + T.size) := by omega
            have HT := Lib.hid hT; clear hT hTs hss
            go_wp2_with fail
            refine (l01Num_calls _ _).mono ?_
            rintro e w3 ⟨rfl, hb3⟩
            rw [hd]
            go_wp2_with fail
            refine (spec_NumText_calls _ _).mono ?_
            rintro e w4 ⟨rfl, hb4⟩
            rw [HT.out]
            go_wp2
            go_roundg gk
            case measure => omega
            case rel =>
              refine ⟨i + 1, s ++ sp ++ T, by go_num, rfl, by omega, by omega, Lib.hid ?_, bel⟩
              rw [wsTo_in (by rw [HC.out]; omega) HN.out, HT.out]
              refine ⟨by rw [HP1.out.1]; exact (joinB_snoc (by unfold wsTo; simp) _ _).symm, fun y hy => ?_⟩
              rcases List.mem_append.1 hy with h | h
              · exact HP1.out.2 y h
              · simp at h; subst h; rw [← HT.out]; exact numText_pos HNUM.out
          · have hd : decide (0 ≤ n ∧ n ≤ 4294967295) = false := decide_eq_false hnum
            have HRE : Hid (R = ⟨#[]⟩) := Lib.hid (by rw [HR.out]; exact joined_no (y := numText n) (List.mem_append_left _ (wsTo_mem (by rw [HC.out]; omega) HN.out (by omega))) (numText_none hnum))
            clear hnum
            go_wp2_with fail
            refine (l01Num_calls _ _).mono ?_
            rintro e w3 ⟨rfl, hb3⟩
            rw [hd]
            go_wp2
            go_ret
            rw [HRE.out]
            exact ⟨rfl, bel⟩
        · have hi' : i = 2 := by omega
          have HW2 : Hid (s = joinB (wsTo x 2) sp ∧ ∀ y ∈ wsTo x 2, 0 < y.size) := Lib.hid (by rw [← wsTo_end (i := i) (by rw [HC.out]; exact hi')]; exact HP1.out)
          have hk3 : wr.cell? ⟨w.heap.size, 3, none⟩ = some (.slice A0 x.picks.length c0) := keepc hb k3
          have hbw2 : Below w.heap.size w w2 := bel
          have hbwr : Below w.heap.size w wr := bvia hb hbw2
          clear HP1 hlt hi hi2
          subst hi'
          have zwr : w.heap.size < wr.heap.size := World.block_lt_of_cell? wr _ hk3
          go_wp2
          go_loopg [4, 73] (x.picks.length + 1) (fun kq v4 v73 w' => ∃ (j : Nat) (s : ByteArray), v73 = .int .i64 j ∧ v4 = .string s ∧ j + kq = x.picks.length + 1 ∧ j ≤ x.picks.length ∧ Hid (s = joinB (wsTo x 2 ++ (x.picks.take j).map pickT) sp ∧ ∀ y ∈ wsTo x 2 ++ (x.picks.take j).map pickT, 0 < y.size) ∧ Below w.heap.size w w')
          case atStart => exact ⟨0, s, rfl, rfl, by omega, by omega, Lib.hid (by simpa using HW2.out), hbwr⟩
          case round =>
            clear HW2 hb hk3 hbwr zwr
            obtain ⟨j, s, rfl, rfl, hj, hj2, HP1, hb⟩ := hrel
            obtain ⟨gk, rfl⟩ : ∃ m, gk = m + 1 := ⟨gk - 1, by omega⟩
            by_cases hlt : j < x.picks.length
            · obtain ⟨b, o, rfl, g0, g1⟩ := kPick_at (R0.out.below hb) hlt
              have zb : b < wr.heap.size := World.block_lt_of_cell? wr _ g0
              obtain ⟨p, hp⟩ : ∃ p, x.picks[j] = p := ⟨_, rfl⟩
              rw [hp] at g0 g1
              have HMEM : Hid (pickT p ∈ wsTo x 2 ++ x.picks.map pickT) := Lib.hid (List.mem_append_right _ (List.mem_map.2 ⟨p, by rw [← hp]; exact List.getElem_mem hlt, rfl⟩))
              have HPJ := Lib.hid hp; clear hp
              by_cases h1 : 0 ≤ p.g ∧ p.g ≤ 4294967295
              · have hd1 : decide (0 ≤ p.g ∧ p.g ≤ 4294967295) = true := decide_eq_true h1
                by_cases h2 : 0 ≤ p.c ∧ p.c ≤ 4294967295
                · have hd2 : decide (0 ≤ p.c ∧ p.c ≤ 4294967295) = true := decide_eq_true h2
                  have HPT := Lib.hid (pickT_yes h1 h2); have HPS := Lib.hid (pickT_pos h1 h2)
                  clear h1 h2
                  obtain ⟨T, hT⟩ : ∃ T, numText p.g = T := ⟨_, rfl⟩
                  obtain ⟨U, hU⟩ : ∃ U, numText p.c = U := ⟨_, rfl⟩
                  have hTs : T.size ≤ 10 := by rw [← hT]; exact numText_size _
                  have hUs : U.size ≤ 10 := by rw [← hU]; exact numText_size _
                  have hss : s.size ≤ 65 * (3 + 1048576) := by
                    rw [HP1.out.1]
                    refine Nat.le_trans (joinB_size (m := 64) (fun y hy => ?_) (by decide)) ?_
                    · rcases List.mem_append.1 hy with h | h
                      · exact wsTo_le y h
                      · obtain ⟨q, _, rfl⟩ := List.mem_map.1 h
                        exact pickT_le q
                    · have h1 : (wsTo x 2).length ≤ 3 := by unfold wsTo; simp [nums]; omega
                      have h2 : ((x.picks.take j).map pickT).length ≤ x.picks.length := by simp; omega
                      rw [List.length_append]
                      exact Nat.mul_le_mul_left _ (by omega)
                  have hg1 : ¬ (9223372036854775807 < s.size + 1) := by omega
                  have hg2 : ¬ (9223372036854775807 ≤ s.size) := by omega
                  have hg3 : ¬ (9223372036854775807 < s.size + 1 + T.size) := by omega
                  have hg4 : ¬ (9223372036854775807 < s.size + 1 + T.size + 1) := by omega
                  have hg5 : ¬ (9223372036854775807 ≤ s.size + 1 + T.size) := by omega
                  have hg6 : ¬ (9223372036854775807 < s.size + 1 + T.size + 1 + U.size) := by omega
                  have HT := Lib.hid hT; have HU := Lib.hid hU; clear hT hU hTs hUs hss
                  go_wp2_with fail
                  refine (l01Num_calls _ _).mono ?_
                  rintro e w3 ⟨rfl, hb3⟩
                  rw [hd1]
                  obtain ⟨C3, D3⟩ := bcell hb3
                  have z3 : wr.heap.size < w3.heap.size := by have := hb3.size; (try simp at this); omega
                  go_wp2_with fail
                  refine (l01Num_calls _ _).mono ?_
                  rintro e w4 ⟨rfl, hb4⟩
                  rw [hd2]
                  have p0 : w4.cell? ⟨wr.heap.size, 0, none⟩ = some (.int .i64 p.g) := keepc hb4 (by go_simp)
                  have p1 : w4.cell? ⟨wr.heap.size, 1, none⟩ = some (.int .i64 p.c) := keepc hb4 (by go_simp)
                  have z4 : wr.heap.size < w4.heap.size := World.block_lt_of_cell? w4 _ p0
                  go_wp2_with fail
                  go_region_held3 (fun w' => w'.cell? ⟨wr.heap.size, 0, none⟩ = some (.int .i64 p.g) ∧ w'.cell? ⟨wr.heap.size, 1, none⟩ = some (.int .i64 p.c)) (exact ⟨keepc bel p0, keepc bel p1⟩)
                    (first
                      | (go_at_call 46; (with_reducible refine (spec_NumText_calls p.g _).mono ?_); rintro e wN ⟨rfl, hbN⟩; rw [HT.out])
                      | (go_at_call 46; (with_reducible refine (spec_NumText_calls p.c _).mono ?_); rintro e wM ⟨rfl, hbM⟩; rw [HU.out]))
                  all_goals (go_wp2; go_roundg gk; (case measure => omega); case rel => exact ⟨j + 1, s ++ sp ++ T ++ colon ++ U, by go_num, rfl, by omega, by omega, Lib.hid (by
                    rw [List.take_succ_eq_append_getElem hlt, List.map_append, HPJ.out, ← List.append_assoc]
                    refine ⟨?_, fun y hy => ?_⟩
                    · rw [show [p].map pickT = [pickT p] from rfl, joinB_snoc (by unfold wsTo; simp), ← HP1.out.1, HPT.out, HT.out, HU.out]
                      simp only [ByteArray.append_assoc]
                    · rcases List.mem_append.1 hy with h | h
                      · exact HP1.out.2 y h
                      · simp at h; subst h; exact HPS.out), bel⟩)
                · have hd2 : decide (0 ≤ p.c ∧ p.c ≤ 4294967295) = false := decide_eq_false h2
                  have HRE : Hid (R = ⟨#[]⟩) := Lib.hid (by rw [HR.out]; exact joined_no HMEM.out (pickT_no2 h2))
                  clear h1 h2
                  go_wp2_with fail
                  refine (l01Num_calls _ _).mono ?_
                  rintro e w3 ⟨rfl, hb3⟩
                  rw [hd1]
                  obtain ⟨C3, D3⟩ := bcell hb3
                  have z3 : wr.heap.size < w3.heap.size := by have := hb3.size; (try simp at this); omega
                  go_wp2_with fail
                  refine (l01Num_calls _ _).mono ?_
                  rintro e w4 ⟨rfl, hb4⟩
                  rw [hd2]
                  go_wp2
                  go_ret
                  rw [HRE.out]
                  exact ⟨rfl, bel⟩
              · have hd1 : decide (0 ≤ p.g ∧ p.g ≤ 4294967295) = false := decide_eq_false h1
                have HRE : Hid (R = ⟨#[]⟩) := Lib.hid (by rw [HR.out]; exact joined_no HMEM.out (pickT_no1 h1))
                clear h1
                go_wp2_with fail
                refine (l01Num_calls _ _).mono ?_
                rintro e w3 ⟨rfl, hb3⟩
                rw [hd1]
                go_wp2
                go_ret
                rw [HRE.out]
                exact ⟨rfl, bel⟩
            · have hj' : j = x.picks.length := by omega
              have HE : Hid (R = s) := Lib.hid (by
                have h := HP1.out
                rw [hj', List.take_length] at h
                rw [HR.out, joined_yes h.2, h.1])
              clear HP1 hj'
              go_wp2
              go_ret
              rw [HE.out]
              exact ⟨rfl, bel⟩
  | false =>
    have HPP : Hid (cmdPicks x.kind = false) := Lib.hid (by rw [HK.out]; exact hP)
    have HP := Lib.hid hP; clear hP
    by_cases hp : x.picks = []
    · have hp0 : x.picks.length = 0 := by rw [hp]; rfl
      have hd3 : decide (0 < x.picks.length) = false := by simp [hp0]
      have HP0 := Lib.hid hp; clear hp hp0
      go_enter Tryd.func31, Tryd.ntmps31
      go_wp2_with fail
      refine (hasPicks_calls _ _).mono ?_
      rintro e w0 ⟨rfl, hb0⟩
      rw [HP.out]
      have z0 : w.heap.size < w0.heap.size := by have := hb0.size; (try simp at this); omega
      obtain ⟨C0, D0⟩ := bcell hb0
      go_wp2_with fail
      rw [← HK.out]
      refine (l27Nums_calls x [_, _, _, _] _ (kCmd_mk _ _ l0 (R0.out.below bel))).mono ?_
      rintro e w1 ⟨B, d, bs, rfl, ho, hf, hb1⟩
      have HL := Lib.hid (row_of ho).2; clear ho hf
      obtain ⟨L, hL⟩ : ∃ L, (nums x).take (cmdCount x.kind) = L := ⟨_, rfl⟩
      rw [hL] at HL ⊢
      rw [HK.out]
      have HLL := Lib.hid hL
      have hbw : Below w.heap.size w w1 := bel
      have q0 : w1.cell? ⟨w.heap.size, 0, none⟩ = some (.int .i64 (m + 1)) := keepc hb1 (by go_simp)
      have q1 : w1.cell? ⟨w.heap.size, 1, none⟩ = some (.int .i64 x.a) := keepc hb1 (by go_simp; try rw [HK.out])
      have q2 : w1.cell? ⟨w.heap.size, 2, none⟩ = some (.int .i64 x.b) := keepc hb1 (by go_simp; try rw [HK.out])
      have q3 : w1.cell? ⟨w.heap.size, 3, none⟩ = some (.slice A0 x.picks.length c0) := keepc hb1 (by go_simp; try rw [HK.out])
      have z1 : w.heap.size < w1.heap.size := World.block_lt_of_cell? w1 _ q0
      have hlen : L.length = C := by rw [← hL, List.length_take, HC.out]; show min C 2 = C; omega
      clear hL
      obtain rfl | rfl | rfl : C = 0 ∨ C = 1 ∨ C = 2 := by omega
      · rw [hlen]
        by_cases hz : x.a = 0
        rotate_left
        · have hd : (x.a != 0) = true := by simpa using hz
          have HN : Hid (¬ cmdFine x) := Lib.hid fun h => hz (h.1 (by rw [HC.out]; decide))
          clear hz
          go_wp2
          go_ret
          rw [HNO.out HN.out]
          exact ⟨rfl, bel⟩
        have hda : (x.a != 0) = false := by simp [hz]
        have HZa := Lib.hid hz; clear hz
        by_cases hz : x.b = 0
        rotate_left
        · have hd : (x.b != 0) = true := by simpa using hz
          have HN : Hid (¬ cmdFine x) := Lib.hid fun h => hz (h.2.1 (by rw [HC.out]; decide))
          clear hz
          go_wp2
          go_ret
          rw [HNO.out HN.out]
          exact ⟨rfl, bel⟩
        have hdb : (x.b != 0) = false := by simp [hz]
        have HZb := Lib.hid hz; clear hz
        have HY : Hid (cmdFine x) := Lib.hid ⟨fun _ => HZa.out, fun _ => HZb.out, fun h => HP0.out⟩
        have HR := Lib.hid (HYES.out HY.out); clear HY HNO
        go_wp2_with fail
        refine settleR ?_; intro V hV
        have hbV : Below w1.heap.size w1 V := by rw [hV]; exact bel
        clear hV
        have p0 := keepc hbV q0; have p3 := keepc hbV q3
        clear q0 q1 q2 q3
        have hwr : IntKind.i64.wrap ((m : Int) + 1 - 1) = (m : Int) := by rw [wrap_in _ (by omega) (by omega)]; omega
        have hi0 : (0 : Int) ≤ (m : Int) := by omega
        have hi1 : (m : Int) < 8 := by omega
        have hwr2 : IntKind.i64.wrap (m : Int) = (m : Int) := wrap_in _ (by omega) (by omega)
        go_cut [4] from 49 to 54 (fun v4 wx => v4 = .string (cmdWord ((m : Int) + 1)) ∧ Below V.heap.size V wx)
        case first =>
          go_region_with
            (first | (go_at_call 26; (with_reducible refine (l27Words_calls _).mono ?_); rintro e w2 ⟨g, rfl, hg, hgs, hb2⟩; have hgm := hg m hm8; have k0 : w2.cell? ⟨w.heap.size, 0, none⟩ = _ := keepc bel p0; clear hg))
          all_goals (go_wp2_with fail; go_meet; case rel => exact ⟨rfl, bel⟩)
        obtain ⟨rfl, hb2⟩ := hcut
        obtain ⟨w2, rfl⟩ : ∃ wq : World, wq = wc := ⟨_, rfl⟩
        have k3 : w2.cell? ⟨w.heap.size, 3, none⟩ = _ := keepc hb2 p3
        have H2 : Hid (0 < (cmdWord x.kind).size) := Lib.hid (by rw [HK.out]; exact cmdWord_in hm8)
        have HL2 := Lib.hid (HL.out.below (bel : Below w1.heap.size w1 w2))
        obtain ⟨S0, hS0⟩ : ∃ S0, cmdWord ((m : Int) + 1) = S0 := ⟨_, rfl⟩
        rw [hS0]
        have HS0 := Lib.hid hS0; clear hS0
        go_wp2
        have zw2 : w.heap.size < w2.heap.size := World.block_lt_of_cell? w2 _ k3
        go_loopg [4, 57] (0 + 1) (fun kq v4 v57 w' => ∃ (i : Nat) (s : ByteArray), v57 = .int .i64 i ∧ v4 = .string s ∧ i + kq = 0 + 1 ∧ i ≤ 0 ∧ Hid (s = joinB (wsTo x i) sp ∧ ∀ y ∈ wsTo x i, 0 < y.size) ∧ Below w2.heap.size w2 w')
        case atStart => exact ⟨0, S0, rfl, rfl, by omega, by omega, Lib.hid (by unfold wsTo; rw [Nat.zero_min, List.take_zero]; simp only [List.map_nil]; rw [joinB_one, HK.out, HS0.out]; exact ⟨rfl, by intro y hy; simp at hy; subst hy; rw [← HS0.out, ← HK.out]; exact H2.out⟩), bel⟩
        case round =>
          obtain ⟨i, s, rfl, rfl, hi, hi2, HP1, hb⟩ := hrel
          obtain ⟨gk, rfl⟩ : ∃ m, gk = m + 1 := ⟨gk - 1, by omega⟩
          by_cases hlt : i < 0
          · exact absurd hlt (by omega)
          · have hi' : i = 0 := by omega
            have HW2 : Hid (s = joinB (wsTo x 2) sp ∧ ∀ y ∈ wsTo x 2, 0 < y.size) := Lib.hid (by rw [← wsTo_end (i := i) (by rw [HC.out]; exact hi')]; exact HP1.out)
            have hk3 : wr.cell? ⟨w.heap.size, 3, none⟩ = some (.slice A0 x.picks.length c0) := keepc hb k3
            have hbw2 : Below w.heap.size w w2 := bel
            have hbwr : Below w.heap.size w wr := bvia hb hbw2
            clear HP1 hlt hi hi2
            subst hi'
            have zwr : w.heap.size < wr.heap.size := World.block_lt_of_cell? wr _ hk3
            go_wp2
            go_loopg [4, 73] (x.picks.length + 1) (fun kq v4 v73 w' => ∃ (j : Nat) (s : ByteArray), v73 = .int .i64 j ∧ v4 = .string s ∧ j + kq = x.picks.length + 1 ∧ j ≤ x.picks.length ∧ Hid (s = joinB (wsTo x 2 ++ (x.picks.take j).map pickT) sp ∧ ∀ y ∈ wsTo x 2 ++ (x.picks.take j).map pickT, 0 < y.size) ∧ Below w.heap.size w w')
            case atStart => exact ⟨0, s, rfl, rfl, by omega, by omega, Lib.hid (by simpa using HW2.out), hbwr⟩
            case round =>
              clear HW2 hb hk3 hbwr zwr
              obtain ⟨j, s, rfl, rfl, hj, hj2, HP1, hb⟩ := hrel
              obtain ⟨gk, rfl⟩ : ∃ m, gk = m + 1 := ⟨gk - 1, by omega⟩
              by_cases hlt : j < x.picks.length
              · obtain ⟨b, o, rfl, g0, g1⟩ := kPick_at (R0.out.below hb) hlt
                have zb : b < wr.heap.size := World.block_lt_of_cell? wr _ g0
                obtain ⟨p, hp⟩ : ∃ p, x.picks[j] = p := ⟨_, rfl⟩
                rw [hp] at g0 g1
                have HMEM : Hid (pickT p ∈ wsTo x 2 ++ x.picks.map pickT) := Lib.hid (List.mem_append_right _ (List.mem_map.2 ⟨p, by rw [← hp]; exact List.getElem_mem hlt, rfl⟩))
                have HPJ := Lib.hid hp; clear hp
                by_cases h1 : 0 ≤ p.g ∧ p.g ≤ 4294967295
                · have hd1 : decide (0 ≤ p.g ∧ p.g ≤ 4294967295) = true := decide_eq_true h1
                  by_cases h2 : 0 ≤ p.c ∧ p.c ≤ 4294967295
                  · have hd2 : decide (0 ≤ p.c ∧ p.c ≤ 4294967295) = true := decide_eq_true h2
                    have HPT := Lib.hid (pickT_yes h1 h2); have HPS := Lib.hid (pickT_pos h1 h2)
                    clear h1 h2
                    obtain ⟨T, hT⟩ : ∃ T, numText p.g = T := ⟨_, rfl⟩
                    obtain ⟨U, hU⟩ : ∃ U, numText p.c = U := ⟨_, rfl⟩
                    have hTs : T.size ≤ 10 := by rw [← hT]; exact numText_size _
                    have hUs : U.size ≤ 10 := by rw [← hU]; exact numText_size _
                    have hss : s.size ≤ 65 * (3 + 1048576) := by
                      rw [HP1.out.1]
                      refine Nat.le_trans (joinB_size (m := 64) (fun y hy => ?_) (by decide)) ?_
                      · rcases List.mem_append.1 hy with h | h
                        · exact wsTo_le y h
                        · obtain ⟨q, _, rfl⟩ := List.mem_map.1 h
                          exact pickT_le q
                      · have h1 : (wsTo x 2).length ≤ 3 := by unfold wsTo; simp [nums]; omega
                        have h2 : ((x.picks.take j).map pickT).length ≤ x.picks.length := by simp; omega
                        rw [List.length_append]
                        exact Nat.mul_le_mul_left _ (by omega)
                    have hg1 : ¬ (9223372036854775807 < s.size + 1) := by omega
                    have hg2 : ¬ (9223372036854775807 ≤ s.size) := by omega
                    have hg3 : ¬ (9223372036854775807 < s.size + 1 + T.size) := by omega
                    have hg4 : ¬ (9223372036854775807 < s.size + 1 + T.size + 1) := by omega
                    have hg5 : ¬ (9223372036854775807 ≤ s.size + 1 + T.size) := by omega
                    have hg6 : ¬ (9223372036854775807 < s.size + 1 + T.size + 1 + U.size) := by omega
                    have HT := Lib.hid hT; have HU := Lib.hid hU; clear hT hU hTs hUs hss
                    go_wp2_with fail
                    refine (l01Num_calls _ _).mono ?_
                    rintro e w3 ⟨rfl, hb3⟩
                    rw [hd1]
                    obtain ⟨C3, D3⟩ := bcell hb3
                    have z3 : wr.heap.size < w3.heap.size := by have := hb3.size; (try simp at this); omega
                    go_wp2_with fail
                    refine (l01Num_calls _ _).mono ?_
                    rintro e w4 ⟨rfl, hb4⟩
                    rw [hd2]
                    have p0 : w4.cell? ⟨wr.heap.size, 0, none⟩ = some (.int .i64 p.g) := keepc hb4 (by go_simp)
                    have p1 : w4.cell? ⟨wr.heap.size, 1, none⟩ = some (.int .i64 p.c) := keepc hb4 (by go_simp)
                    have z4 : wr.heap.size < w4.heap.size := World.block_lt_of_cell? w4 _ p0
                    go_wp2_with fail
                    go_region_held3 (fun w' => w'.cell? ⟨wr.heap.size, 0, none⟩ = some (.int .i64 p.g) ∧ w'.cell? ⟨wr.heap.size, 1, none⟩ = some (.int .i64 p.c)) (exact ⟨keepc bel p0, keepc bel p1⟩)
                      (first
                        | (go_at_call 46; (with_reducible refine (spec_NumText_calls p.g _).mono ?_); rintro e wN ⟨rfl, hbN⟩; rw [HT.out])
                        | (go_at_call 46; (with_reducible refine (spec_NumText_calls p.c _).mono ?_); rintro e wM ⟨rfl, hbM⟩; rw [HU.out]))
                    all_goals (go_wp2; go_roundg gk; (case measure => omega); case rel => exact ⟨j + 1, s ++ sp ++ T ++ colon ++ U, by go_num, rfl, by omega, by omega, Lib.hid (by
                      rw [List.take_succ_eq_append_getElem hlt, List.map_append, HPJ.out, ← List.append_assoc]
                      refine ⟨?_, fun y hy => ?_⟩
                      · rw [show [p].map pickT = [pickT p] from rfl, joinB_snoc (by unfold wsTo; simp), ← HP1.out.1, HPT.out, HT.out, HU.out]
                        simp only [ByteArray.append_assoc]
                      · rcases List.mem_append.1 hy with h | h
                        · exact HP1.out.2 y h
                        · simp at h; subst h; exact HPS.out), bel⟩)
                  · have hd2 : decide (0 ≤ p.c ∧ p.c ≤ 4294967295) = false := decide_eq_false h2
                    have HRE : Hid (R = ⟨#[]⟩) := Lib.hid (by rw [HR.out]; exact joined_no HMEM.out (pickT_no2 h2))
                    clear h1 h2
                    go_wp2_with fail
                    refine (l01Num_calls _ _).mono ?_
                    rintro e w3 ⟨rfl, hb3⟩
                    rw [hd1]
                    obtain ⟨C3, D3⟩ := bcell hb3
                    have z3 : wr.heap.size < w3.heap.size := by have := hb3.size; (try simp at this); omega
                    go_wp2_with fail
                    refine (l01Num_calls _ _).mono ?_
                    rintro e w4 ⟨rfl, hb4⟩
                    rw [hd2]
                    go_wp2
                    go_ret
                    rw [HRE.out]
                    exact ⟨rfl, bel⟩
                · have hd1 : decide (0 ≤ p.g ∧ p.g ≤ 4294967295) = false := decide_eq_false h1
                  have HRE : Hid (R = ⟨#[]⟩) := Lib.hid (by rw [HR.out]; exact joined_no HMEM.out (pickT_no1 h1))
                  clear h1
                  go_wp2_with fail
                  refine (l01Num_calls _ _).mono ?_
                  rintro e w3 ⟨rfl, hb3⟩
                  rw [hd1]
                  go_wp2
                  go_ret
                  rw [HRE.out]
                  exact ⟨rfl, bel⟩
              · have hj' : j = x.picks.length := by omega
                have HE : Hid (R = s) := Lib.hid (by
                  have h := HP1.out
                  rw [hj', List.take_length] at h
                  rw [HR.out, joined_yes h.2, h.1])
                clear HP1 hj'
                go_wp2
                go_ret
                rw [HE.out]
                exact ⟨rfl, bel⟩
      · rw [hlen]
        by_cases hz : x.b = 0
        rotate_left
        · have hd : (x.b != 0) = true := by simpa using hz
          have HN : Hid (¬ cmdFine x) := Lib.hid fun h => hz (h.2.1 (by rw [HC.out]; decide))
          clear hz
          go_wp2
          go_ret
          rw [HNO.out HN.out]
          exact ⟨rfl, bel⟩
        have hdb : (x.b != 0) = false := by simp [hz]
        have HZb := Lib.hid hz; clear hz
        have HY : Hid (cmdFine x) := Lib.hid ⟨fun h => by rw [HC.out] at h; omega, fun _ => HZb.out, fun h => HP0.out⟩
        have HR := Lib.hid (HYES.out HY.out); clear HY HNO
        go_wp2_with fail
        refine settleR ?_; intro V hV
        have hbV : Below w1.heap.size w1 V := by rw [hV]; exact bel
        clear hV
        have p0 := keepc hbV q0; have p3 := keepc hbV q3
        clear q0 q1 q2 q3
        have hwr : IntKind.i64.wrap ((m : Int) + 1 - 1) = (m : Int) := by rw [wrap_in _ (by omega) (by omega)]; omega
        have hi0 : (0 : Int) ≤ (m : Int) := by omega
        have hi1 : (m : Int) < 8 := by omega
        have hwr2 : IntKind.i64.wrap (m : Int) = (m : Int) := wrap_in _ (by omega) (by omega)
        go_cut [4] from 49 to 54 (fun v4 wx => v4 = .string (cmdWord ((m : Int) + 1)) ∧ Below V.heap.size V wx)
        case first =>
          go_region_with
            (first | (go_at_call 26; (with_reducible refine (l27Words_calls _).mono ?_); rintro e w2 ⟨g, rfl, hg, hgs, hb2⟩; have hgm := hg m hm8; have k0 : w2.cell? ⟨w.heap.size, 0, none⟩ = _ := keepc bel p0; clear hg))
          all_goals (go_wp2_with fail; go_meet; case rel => exact ⟨rfl, bel⟩)
        obtain ⟨rfl, hb2⟩ := hcut
        obtain ⟨w2, rfl⟩ : ∃ wq : World, wq = wc := ⟨_, rfl⟩
        have k3 : w2.cell? ⟨w.heap.size, 3, none⟩ = _ := keepc hb2 p3
        have H2 : Hid (0 < (cmdWord x.kind).size) := Lib.hid (by rw [HK.out]; exact cmdWord_in hm8)
        have HL2 := Lib.hid (HL.out.below (bel : Below w1.heap.size w1 w2))
        obtain ⟨S0, hS0⟩ : ∃ S0, cmdWord ((m : Int) + 1) = S0 := ⟨_, rfl⟩
        rw [hS0]
        have HS0 := Lib.hid hS0; clear hS0
        go_wp2
        have zw2 : w.heap.size < w2.heap.size := World.block_lt_of_cell? w2 _ k3
        go_loopg [4, 57] (1 + 1) (fun kq v4 v57 w' => ∃ (i : Nat) (s : ByteArray), v57 = .int .i64 i ∧ v4 = .string s ∧ i + kq = 1 + 1 ∧ i ≤ 1 ∧ Hid (s = joinB (wsTo x i) sp ∧ ∀ y ∈ wsTo x i, 0 < y.size) ∧ Below w2.heap.size w2 w')
        case atStart => exact ⟨0, S0, rfl, rfl, by omega, by omega, Lib.hid (by unfold wsTo; rw [Nat.zero_min, List.take_zero]; simp only [List.map_nil]; rw [joinB_one, HK.out, HS0.out]; exact ⟨rfl, by intro y hy; simp at hy; subst hy; rw [← HS0.out, ← HK.out]; exact H2.out⟩), bel⟩
        case round =>
          obtain ⟨i, s, rfl, rfl, hi, hi2, HP1, hb⟩ := hrel
          obtain ⟨gk, rfl⟩ : ∃ m, gk = m + 1 := ⟨gk - 1, by omega⟩
          by_cases hlt : i < 1
          · obtain ⟨b, o, rfl, g0⟩ := int_at (HL2.out.below hb) (i := i) (by omega)
            obtain ⟨n, hn⟩ : ∃ n, L[i]'(by omega) = n := ⟨_, rfl⟩
            rw [hn] at g0
            have hnn : (nums x)[i]? = some n := by
              have h1 : L[i]? = some n := by rw [List.getElem?_eq_getElem (by omega), hn]
              rw [← HLL.out, List.getElem?_take_of_lt (by rw [HC.out]; omega)] at h1
              exact h1
            have HN := Lib.hid hnn; clear hnn hn
            by_cases hnum : 0 ≤ n ∧ n ≤ 4294967295
            · have hd : decide (0 ≤ n ∧ n ≤ 4294967295) = true := decide_eq_true hnum
              have HNUM := Lib.hid hnum; clear hnum
              obtain ⟨T, hT⟩ : ∃ T, numText n = T := ⟨_, rfl⟩
              have hTs : T.size ≤ 10 := by rw [← hT]; exact numText_size n
              have hss : s.size ≤ 65 * 3 := by
                rw [HP1.out.1]
                refine Nat.le_trans (joinB_size (m := 64) (fun y hy => wsTo_le y hy) (by decide)) ?_
                have : (wsTo x i).length ≤ 3 := by unfold wsTo; simp [nums]; omega
                omega
              have hg1 : ¬ (9223372036854775807 < s.size + 1) := by omega
              have hg2 : ¬ (9223372036854775807 ≤ s.size) := by omega
              have hg3 : ¬ (9223372036854775807 < s.size + 1 + T.size) := by omega
              have HT := Lib.hid hT; clear hT hTs hss
              go_wp2_with fail
              refine (l01Num_calls _ _).mono ?_
              rintro e w3 ⟨rfl, hb3⟩
              rw [hd]
              go_wp2_with fail
              refine (spec_NumText_calls _ _).mono ?_
              rintro e w4 ⟨rfl, hb4⟩
              rw [HT.out]
              go_wp2
              go_roundg gk
              case measure => omega
              case rel =>
                refine ⟨i + 1, s ++ sp ++ T, by go_num, rfl, by omega, by omega, Lib.hid ?_, bel⟩
                rw [wsTo_in (by rw [HC.out]; omega) HN.out, HT.out]
                refine ⟨by rw [HP1.out.1]; exact (joinB_snoc (by unfold wsTo; simp) _ _).symm, fun y hy => ?_⟩
                rcases List.mem_append.1 hy with h | h
                · exact HP1.out.2 y h
                · simp at h; subst h; rw [← HT.out]; exact numText_pos HNUM.out
            · have hd : decide (0 ≤ n ∧ n ≤ 4294967295) = false := decide_eq_false hnum
              have HRE : Hid (R = ⟨#[]⟩) := Lib.hid (by rw [HR.out]; exact joined_no (y := numText n) (List.mem_append_left _ (wsTo_mem (by rw [HC.out]; omega) HN.out (by omega))) (numText_none hnum))
              clear hnum
              go_wp2_with fail
              refine (l01Num_calls _ _).mono ?_
              rintro e w3 ⟨rfl, hb3⟩
              rw [hd]
              go_wp2
              go_ret
              rw [HRE.out]
              exact ⟨rfl, bel⟩
          · have hi' : i = 1 := by omega
            have HW2 : Hid (s = joinB (wsTo x 2) sp ∧ ∀ y ∈ wsTo x 2, 0 < y.size) := Lib.hid (by rw [← wsTo_end (i := i) (by rw [HC.out]; exact hi')]; exact HP1.out)
            have hk3 : wr.cell? ⟨w.heap.size, 3, none⟩ = some (.slice A0 x.picks.length c0) := keepc hb k3
            have hbw2 : Below w.heap.size w w2 := bel
            have hbwr : Below w.heap.size w wr := bvia hb hbw2
            clear HP1 hlt hi hi2
            subst hi'
            have zwr : w.heap.size < wr.heap.size := World.block_lt_of_cell? wr _ hk3
            go_wp2
            go_loopg [4, 73] (x.picks.length + 1) (fun kq v4 v73 w' => ∃ (j : Nat) (s : ByteArray), v73 = .int .i64 j ∧ v4 = .string s ∧ j + kq = x.picks.length + 1 ∧ j ≤ x.picks.length ∧ Hid (s = joinB (wsTo x 2 ++ (x.picks.take j).map pickT) sp ∧ ∀ y ∈ wsTo x 2 ++ (x.picks.take j).map pickT, 0 < y.size) ∧ Below w.heap.size w w')
            case atStart => exact ⟨0, s, rfl, rfl, by omega, by omega, Lib.hid (by simpa using HW2.out), hbwr⟩
            case round =>
              clear HW2 hb hk3 hbwr zwr
              obtain ⟨j, s, rfl, rfl, hj, hj2, HP1, hb⟩ := hrel
              obtain ⟨gk, rfl⟩ : ∃ m, gk = m + 1 := ⟨gk - 1, by omega⟩
              by_cases hlt : j < x.picks.length
              · obtain ⟨b, o, rfl, g0, g1⟩ := kPick_at (R0.out.below hb) hlt
                have zb : b < wr.heap.size := World.block_lt_of_cell? wr _ g0
                obtain ⟨p, hp⟩ : ∃ p, x.picks[j] = p := ⟨_, rfl⟩
                rw [hp] at g0 g1
                have HMEM : Hid (pickT p ∈ wsTo x 2 ++ x.picks.map pickT) := Lib.hid (List.mem_append_right _ (List.mem_map.2 ⟨p, by rw [← hp]; exact List.getElem_mem hlt, rfl⟩))
                have HPJ := Lib.hid hp; clear hp
                by_cases h1 : 0 ≤ p.g ∧ p.g ≤ 4294967295
                · have hd1 : decide (0 ≤ p.g ∧ p.g ≤ 4294967295) = true := decide_eq_true h1
                  by_cases h2 : 0 ≤ p.c ∧ p.c ≤ 4294967295
                  · have hd2 : decide (0 ≤ p.c ∧ p.c ≤ 4294967295) = true := decide_eq_true h2
                    have HPT := Lib.hid (pickT_yes h1 h2); have HPS := Lib.hid (pickT_pos h1 h2)
                    clear h1 h2
                    obtain ⟨T, hT⟩ : ∃ T, numText p.g = T := ⟨_, rfl⟩
                    obtain ⟨U, hU⟩ : ∃ U, numText p.c = U := ⟨_, rfl⟩
                    have hTs : T.size ≤ 10 := by rw [← hT]; exact numText_size _
                    have hUs : U.size ≤ 10 := by rw [← hU]; exact numText_size _
                    have hss : s.size ≤ 65 * (3 + 1048576) := by
                      rw [HP1.out.1]
                      refine Nat.le_trans (joinB_size (m := 64) (fun y hy => ?_) (by decide)) ?_
                      · rcases List.mem_append.1 hy with h | h
                        · exact wsTo_le y h
                        · obtain ⟨q, _, rfl⟩ := List.mem_map.1 h
                          exact pickT_le q
                      · have h1 : (wsTo x 2).length ≤ 3 := by unfold wsTo; simp [nums]; omega
                        have h2 : ((x.picks.take j).map pickT).length ≤ x.picks.length := by simp; omega
                        rw [List.length_append]
                        exact Nat.mul_le_mul_left _ (by omega)
                    have hg1 : ¬ (9223372036854775807 < s.size + 1) := by omega
                    have hg2 : ¬ (9223372036854775807 ≤ s.size) := by omega
                    have hg3 : ¬ (9223372036854775807 < s.size + 1 + T.size) := by omega
                    have hg4 : ¬ (9223372036854775807 < s.size + 1 + T.size + 1) := by omega
                    have hg5 : ¬ (9223372036854775807 ≤ s.size + 1 + T.size) := by omega
                    have hg6 : ¬ (9223372036854775807 < s.size + 1 + T.size + 1 + U.size) := by omega
                    have HT := Lib.hid hT; have HU := Lib.hid hU; clear hT hU hTs hUs hss
                    go_wp2_with fail
                    refine (l01Num_calls _ _).mono ?_
                    rintro e w3 ⟨rfl, hb3⟩
                    rw [hd1]
                    obtain ⟨C3, D3⟩ := bcell hb3
                    have z3 : wr.heap.size < w3.heap.size := by have := hb3.size; (try simp at this); omega
                    go_wp2_with fail
                    refine (l01Num_calls _ _).mono ?_
                    rintro e w4 ⟨rfl, hb4⟩
                    rw [hd2]
                    have p0 : w4.cell? ⟨wr.heap.size, 0, none⟩ = some (.int .i64 p.g) := keepc hb4 (by go_simp)
                    have p1 : w4.cell? ⟨wr.heap.size, 1, none⟩ = some (.int .i64 p.c) := keepc hb4 (by go_simp)
                    have z4 : wr.heap.size < w4.heap.size := World.block_lt_of_cell? w4 _ p0
                    go_wp2_with fail
                    go_region_held3 (fun w' => w'.cell? ⟨wr.heap.size, 0, none⟩ = some (.int .i64 p.g) ∧ w'.cell? ⟨wr.heap.size, 1, none⟩ = some (.int .i64 p.c)) (exact ⟨keepc bel p0, keepc bel p1⟩)
                      (first
                        | (go_at_call 46; (with_reducible refine (spec_NumText_calls p.g _).mono ?_); rintro e wN ⟨rfl, hbN⟩; rw [HT.out])
                        | (go_at_call 46; (with_reducible refine (spec_NumText_calls p.c _).mono ?_); rintro e wM ⟨rfl, hbM⟩; rw [HU.out]))
                    all_goals (go_wp2; go_roundg gk; (case measure => omega); case rel => exact ⟨j + 1, s ++ sp ++ T ++ colon ++ U, by go_num, rfl, by omega, by omega, Lib.hid (by
                      rw [List.take_succ_eq_append_getElem hlt, List.map_append, HPJ.out, ← List.append_assoc]
                      refine ⟨?_, fun y hy => ?_⟩
                      · rw [show [p].map pickT = [pickT p] from rfl, joinB_snoc (by unfold wsTo; simp), ← HP1.out.1, HPT.out, HT.out, HU.out]
                        simp only [ByteArray.append_assoc]
                      · rcases List.mem_append.1 hy with h | h
                        · exact HP1.out.2 y h
                        · simp at h; subst h; exact HPS.out), bel⟩)
                  · have hd2 : decide (0 ≤ p.c ∧ p.c ≤ 4294967295) = false := decide_eq_false h2
                    have HRE : Hid (R = ⟨#[]⟩) := Lib.hid (by rw [HR.out]; exact joined_no HMEM.out (pickT_no2 h2))
                    clear h1 h2
                    go_wp2_with fail
                    refine (l01Num_calls _ _).mono ?_
                    rintro e w3 ⟨rfl, hb3⟩
                    rw [hd1]
                    obtain ⟨C3, D3⟩ := bcell hb3
                    have z3 : wr.heap.size < w3.heap.size := by have := hb3.size; (try simp at this); omega
                    go_wp2_with fail
                    refine (l01Num_calls _ _).mono ?_
                    rintro e w4 ⟨rfl, hb4⟩
                    rw [hd2]
                    go_wp2
                    go_ret
                    rw [HRE.out]
                    exact ⟨rfl, bel⟩
                · have hd1 : decide (0 ≤ p.g ∧ p.g ≤ 4294967295) = false := decide_eq_false h1
                  have HRE : Hid (R = ⟨#[]⟩) := Lib.hid (by rw [HR.out]; exact joined_no HMEM.out (pickT_no1 h1))
                  clear h1
                  go_wp2_with fail
                  refine (l01Num_calls _ _).mono ?_
                  rintro e w3 ⟨rfl, hb3⟩
                  rw [hd1]
                  go_wp2
                  go_ret
                  rw [HRE.out]
                  exact ⟨rfl, bel⟩
              · have hj' : j = x.picks.length := by omega
                have HE : Hid (R = s) := Lib.hid (by
                  have h := HP1.out
                  rw [hj', List.take_length] at h
                  rw [HR.out, joined_yes h.2, h.1])
                clear HP1 hj'
                go_wp2
                go_ret
                rw [HE.out]
                exact ⟨rfl, bel⟩
      · rw [hlen]
        have HY : Hid (cmdFine x) := Lib.hid ⟨fun h => by rw [HC.out] at h; omega, fun h => by rw [HC.out] at h; omega, fun h => HP0.out⟩
        have HR := Lib.hid (HYES.out HY.out); clear HY HNO
        go_wp2_with fail
        refine settleR ?_; intro V hV
        have hbV : Below w1.heap.size w1 V := by rw [hV]; exact bel
        clear hV
        have p0 := keepc hbV q0; have p3 := keepc hbV q3
        clear q0 q1 q2 q3
        have hwr : IntKind.i64.wrap ((m : Int) + 1 - 1) = (m : Int) := by rw [wrap_in _ (by omega) (by omega)]; omega
        have hi0 : (0 : Int) ≤ (m : Int) := by omega
        have hi1 : (m : Int) < 8 := by omega
        have hwr2 : IntKind.i64.wrap (m : Int) = (m : Int) := wrap_in _ (by omega) (by omega)
        go_cut [4] from 49 to 54 (fun v4 wx => v4 = .string (cmdWord ((m : Int) + 1)) ∧ Below V.heap.size V wx)
        case first =>
          go_region_with
            (first | (go_at_call 26; (with_reducible refine (l27Words_calls _).mono ?_); rintro e w2 ⟨g, rfl, hg, hgs, hb2⟩; have hgm := hg m hm8; have k0 : w2.cell? ⟨w.heap.size, 0, none⟩ = _ := keepc bel p0; clear hg))
          all_goals (go_wp2_with fail; go_meet; case rel => exact ⟨rfl, bel⟩)
        obtain ⟨rfl, hb2⟩ := hcut
        obtain ⟨w2, rfl⟩ : ∃ wq : World, wq = wc := ⟨_, rfl⟩
        have k3 : w2.cell? ⟨w.heap.size, 3, none⟩ = _ := keepc hb2 p3
        have H2 : Hid (0 < (cmdWord x.kind).size) := Lib.hid (by rw [HK.out]; exact cmdWord_in hm8)
        have HL2 := Lib.hid (HL.out.below (bel : Below w1.heap.size w1 w2))
        obtain ⟨S0, hS0⟩ : ∃ S0, cmdWord ((m : Int) + 1) = S0 := ⟨_, rfl⟩
        rw [hS0]
        have HS0 := Lib.hid hS0; clear hS0
        go_wp2
        have zw2 : w.heap.size < w2.heap.size := World.block_lt_of_cell? w2 _ k3
        go_loopg [4, 57] (2 + 1) (fun kq v4 v57 w' => ∃ (i : Nat) (s : ByteArray), v57 = .int .i64 i ∧ v4 = .string s ∧ i + kq = 2 + 1 ∧ i ≤ 2 ∧ Hid (s = joinB (wsTo x i) sp ∧ ∀ y ∈ wsTo x i, 0 < y.size) ∧ Below w2.heap.size w2 w')
        case atStart => exact ⟨0, S0, rfl, rfl, by omega, by omega, Lib.hid (by unfold wsTo; rw [Nat.zero_min, List.take_zero]; simp only [List.map_nil]; rw [joinB_one, HK.out, HS0.out]; exact ⟨rfl, by intro y hy; simp at hy; subst hy; rw [← HS0.out, ← HK.out]; exact H2.out⟩), bel⟩
        case round =>
          obtain ⟨i, s, rfl, rfl, hi, hi2, HP1, hb⟩ := hrel
          obtain ⟨gk, rfl⟩ : ∃ m, gk = m + 1 := ⟨gk - 1, by omega⟩
          by_cases hlt : i < 2
          · obtain ⟨b, o, rfl, g0⟩ := int_at (HL2.out.below hb) (i := i) (by omega)
            obtain ⟨n, hn⟩ : ∃ n, L[i]'(by omega) = n := ⟨_, rfl⟩
            rw [hn] at g0
            have hnn : (nums x)[i]? = some n := by
              have h1 : L[i]? = some n := by rw [List.getElem?_eq_getElem (by omega), hn]
              rw [← HLL.out, List.getElem?_take_of_lt (by rw [HC.out]; omega)] at h1
              exact h1
            have HN := Lib.hid hnn; clear hnn hn
            by_cases hnum : 0 ≤ n ∧ n ≤ 4294967295
            · have hd : decide (0 ≤ n ∧ n ≤ 4294967295) = true := decide_eq_true hnum
              have HNUM := Lib.hid hnum; clear hnum
              obtain ⟨T, hT⟩ : ∃ T, numText n = T := ⟨_, rfl⟩
              have hTs : T.size ≤ 10 := by rw [← hT]; exact numText_size n
              have hss : s.size ≤ 65 * 3 := by
                rw [HP1.out.1]
                refine Nat.le_trans (joinB_size (m := 64) (fun y hy => wsTo_le y hy) (by decide)) ?_
                have : (wsTo x i).length ≤ 3 := by unfold wsTo; simp [nums]; omega
                omega
              have hg1 : ¬ (9223372036854775807 < s.size + 1) := by omega
              have hg2 : ¬ (9223372036854775807 ≤ s.size) := by omega
              have hg3 : ¬ (9223372036854775807 < s.size + 1 + T.size) := by omega
              have HT := Lib.hid hT; clear hT hTs hss
              go_wp2_with fail
              refine (l01Num_calls _ _).mono ?_
              rintro e w3 ⟨rfl, hb3⟩
              rw [hd]
              go_wp2_with fail
              refine (spec_NumText_calls _ _).mono ?_
              rintro e w4 ⟨rfl, hb4⟩
              rw [HT.out]
              go_wp2
              go_roundg gk
              case measure => omega
              case rel =>
                refine ⟨i + 1, s ++ sp ++ T, by go_num, rfl, by omega, by omega, Lib.hid ?_, bel⟩
                rw [wsTo_in (by rw [HC.out]; omega) HN.out, HT.out]
                refine ⟨by rw [HP1.out.1]; exact (joinB_snoc (by unfold wsTo; simp) _ _).symm, fun y hy => ?_⟩
                rcases List.mem_append.1 hy with h | h
                · exact HP1.out.2 y h
                · simp at h; subst h; rw [← HT.out]; exact numText_pos HNUM.out
            · have hd : decide (0 ≤ n ∧ n ≤ 4294967295) = false := decide_eq_false hnum
              have HRE : Hid (R = ⟨#[]⟩) := Lib.hid (by rw [HR.out]; exact joined_no (y := numText n) (List.mem_append_left _ (wsTo_mem (by rw [HC.out]; omega) HN.out (by omega))) (numText_none hnum))
              clear hnum
              go_wp2_with fail
              refine (l01Num_calls _ _).mono ?_
              rintro e w3 ⟨rfl, hb3⟩
              rw [hd]
              go_wp2
              go_ret
              rw [HRE.out]
              exact ⟨rfl, bel⟩
          · have hi' : i = 2 := by omega
            have HW2 : Hid (s = joinB (wsTo x 2) sp ∧ ∀ y ∈ wsTo x 2, 0 < y.size) := Lib.hid (by rw [← wsTo_end (i := i) (by rw [HC.out]; exact hi')]; exact HP1.out)
            have hk3 : wr.cell? ⟨w.heap.size, 3, none⟩ = some (.slice A0 x.picks.length c0) := keepc hb k3
            have hbw2 : Below w.heap.size w w2 := bel
            have hbwr : Below w.heap.size w wr := bvia hb hbw2
            clear HP1 hlt hi hi2
            subst hi'
            have zwr : w.heap.size < wr.heap.size := World.block_lt_of_cell? wr _ hk3
            go_wp2
            go_loopg [4, 73] (x.picks.length + 1) (fun kq v4 v73 w' => ∃ (j : Nat) (s : ByteArray), v73 = .int .i64 j ∧ v4 = .string s ∧ j + kq = x.picks.length + 1 ∧ j ≤ x.picks.length ∧ Hid (s = joinB (wsTo x 2 ++ (x.picks.take j).map pickT) sp ∧ ∀ y ∈ wsTo x 2 ++ (x.picks.take j).map pickT, 0 < y.size) ∧ Below w.heap.size w w')
            case atStart => exact ⟨0, s, rfl, rfl, by omega, by omega, Lib.hid (by simpa using HW2.out), hbwr⟩
            case round =>
              clear HW2 hb hk3 hbwr zwr
              obtain ⟨j, s, rfl, rfl, hj, hj2, HP1, hb⟩ := hrel
              obtain ⟨gk, rfl⟩ : ∃ m, gk = m + 1 := ⟨gk - 1, by omega⟩
              by_cases hlt : j < x.picks.length
              · obtain ⟨b, o, rfl, g0, g1⟩ := kPick_at (R0.out.below hb) hlt
                have zb : b < wr.heap.size := World.block_lt_of_cell? wr _ g0
                obtain ⟨p, hp⟩ : ∃ p, x.picks[j] = p := ⟨_, rfl⟩
                rw [hp] at g0 g1
                have HMEM : Hid (pickT p ∈ wsTo x 2 ++ x.picks.map pickT) := Lib.hid (List.mem_append_right _ (List.mem_map.2 ⟨p, by rw [← hp]; exact List.getElem_mem hlt, rfl⟩))
                have HPJ := Lib.hid hp; clear hp
                by_cases h1 : 0 ≤ p.g ∧ p.g ≤ 4294967295
                · have hd1 : decide (0 ≤ p.g ∧ p.g ≤ 4294967295) = true := decide_eq_true h1
                  by_cases h2 : 0 ≤ p.c ∧ p.c ≤ 4294967295
                  · have hd2 : decide (0 ≤ p.c ∧ p.c ≤ 4294967295) = true := decide_eq_true h2
                    have HPT := Lib.hid (pickT_yes h1 h2); have HPS := Lib.hid (pickT_pos h1 h2)
                    clear h1 h2
                    obtain ⟨T, hT⟩ : ∃ T, numText p.g = T := ⟨_, rfl⟩
                    obtain ⟨U, hU⟩ : ∃ U, numText p.c = U := ⟨_, rfl⟩
                    have hTs : T.size ≤ 10 := by rw [← hT]; exact numText_size _
                    have hUs : U.size ≤ 10 := by rw [← hU]; exact numText_size _
                    have hss : s.size ≤ 65 * (3 + 1048576) := by
                      rw [HP1.out.1]
                      refine Nat.le_trans (joinB_size (m := 64) (fun y hy => ?_) (by decide)) ?_
                      · rcases List.mem_append.1 hy with h | h
                        · exact wsTo_le y h
                        · obtain ⟨q, _, rfl⟩ := List.mem_map.1 h
                          exact pickT_le q
                      · have h1 : (wsTo x 2).length ≤ 3 := by unfold wsTo; simp [nums]; omega
                        have h2 : ((x.picks.take j).map pickT).length ≤ x.picks.length := by simp; omega
                        rw [List.length_append]
                        exact Nat.mul_le_mul_left _ (by omega)
                    have hg1 : ¬ (9223372036854775807 < s.size + 1) := by omega
                    have hg2 : ¬ (9223372036854775807 ≤ s.size) := by omega
                    have hg3 : ¬ (9223372036854775807 < s.size + 1 + T.size) := by omega
                    have hg4 : ¬ (9223372036854775807 < s.size + 1 + T.size + 1) := by omega
                    have hg5 : ¬ (9223372036854775807 ≤ s.size + 1 + T.size) := by omega
                    have hg6 : ¬ (9223372036854775807 < s.size + 1 + T.size + 1 + U.size) := by omega
                    have HT := Lib.hid hT; have HU := Lib.hid hU; clear hT hU hTs hUs hss
                    go_wp2_with fail
                    refine (l01Num_calls _ _).mono ?_
                    rintro e w3 ⟨rfl, hb3⟩
                    rw [hd1]
                    obtain ⟨C3, D3⟩ := bcell hb3
                    have z3 : wr.heap.size < w3.heap.size := by have := hb3.size; (try simp at this); omega
                    go_wp2_with fail
                    refine (l01Num_calls _ _).mono ?_
                    rintro e w4 ⟨rfl, hb4⟩
                    rw [hd2]
                    have p0 : w4.cell? ⟨wr.heap.size, 0, none⟩ = some (.int .i64 p.g) := keepc hb4 (by go_simp)
                    have p1 : w4.cell? ⟨wr.heap.size, 1, none⟩ = some (.int .i64 p.c) := keepc hb4 (by go_simp)
                    have z4 : wr.heap.size < w4.heap.size := World.block_lt_of_cell? w4 _ p0
                    go_wp2_with fail
                    go_region_held3 (fun w' => w'.cell? ⟨wr.heap.size, 0, none⟩ = some (.int .i64 p.g) ∧ w'.cell? ⟨wr.heap.size, 1, none⟩ = some (.int .i64 p.c)) (exact ⟨keepc bel p0, keepc bel p1⟩)
                      (first
                        | (go_at_call 46; (with_reducible refine (spec_NumText_calls p.g _).mono ?_); rintro e wN ⟨rfl, hbN⟩; rw [HT.out])
                        | (go_at_call 46; (with_reducible refine (spec_NumText_calls p.c _).mono ?_); rintro e wM ⟨rfl, hbM⟩; rw [HU.out]))
                    all_goals (go_wp2; go_roundg gk; (case measure => omega); case rel => exact ⟨j + 1, s ++ sp ++ T ++ colon ++ U, by go_num, rfl, by omega, by omega, Lib.hid (by
                      rw [List.take_succ_eq_append_getElem hlt, List.map_append, HPJ.out, ← List.append_assoc]
                      refine ⟨?_, fun y hy => ?_⟩
                      · rw [show [p].map pickT = [pickT p] from rfl, joinB_snoc (by unfold wsTo; simp), ← HP1.out.1, HPT.out, HT.out, HU.out]
                        simp only [ByteArray.append_assoc]
                      · rcases List.mem_append.1 hy with h | h
                        · exact HP1.out.2 y h
                        · simp at h; subst h; exact HPS.out), bel⟩)
                  · have hd2 : decide (0 ≤ p.c ∧ p.c ≤ 4294967295) = false := decide_eq_false h2
                    have HRE : Hid (R = ⟨#[]⟩) := Lib.hid (by rw [HR.out]; exact joined_no HMEM.out (pickT_no2 h2))
                    clear h1 h2
                    go_wp2_with fail
                    refine (l01Num_calls _ _).mono ?_
                    rintro e w3 ⟨rfl, hb3⟩
                    rw [hd1]
                    obtain ⟨C3, D3⟩ := bcell hb3
                    have z3 : wr.heap.size < w3.heap.size := by have := hb3.size; (try simp at this); omega
                    go_wp2_with fail
                    refine (l01Num_calls _ _).mono ?_
                    rintro e w4 ⟨rfl, hb4⟩
                    rw [hd2]
                    go_wp2
                    go_ret
                    rw [HRE.out]
                    exact ⟨rfl, bel⟩
                · have hd1 : decide (0 ≤ p.g ∧ p.g ≤ 4294967295) = false := decide_eq_false h1
                  have HRE : Hid (R = ⟨#[]⟩) := Lib.hid (by rw [HR.out]; exact joined_no HMEM.out (pickT_no1 h1))
                  clear h1
                  go_wp2_with fail
                  refine (l01Num_calls _ _).mono ?_
                  rintro e w3 ⟨rfl, hb3⟩
                  rw [hd1]
                  go_wp2
                  go_ret
                  rw [HRE.out]
                  exact ⟨rfl, bel⟩
              · have hj' : j = x.picks.length := by omega
                have HE : Hid (R = s) := Lib.hid (by
                  have h := HP1.out
                  rw [hj', List.take_length] at h
                  rw [HR.out, joined_yes h.2, h.1])
                clear HP1 hj'
                go_wp2
                go_ret
                rw [HE.out]
                exact ⟨rfl, bel⟩
    · have hpos : 0 < x.picks.length := List.length_pos_iff.2 hp
      have hd3 : decide (0 < x.picks.length) = true := decide_eq_true hpos
      have HN : Hid (¬ cmdFine x) := Lib.hid fun h => hp (h.2.2 HPP.out)
      clear hp hpos
      go_enter Tryd.func31, Tryd.ntmps31
      go_wp2_with fail
      refine (hasPicks_calls _ _).mono ?_
      rintro e w0 ⟨rfl, hb0⟩
      rw [HP.out]
      have z0 : w.heap.size < w0.heap.size := by have := hb0.size; (try simp at this); omega
      obtain ⟨C0, D0⟩ := bcell hb0
      go_wp2
      go_ret
      rw [HNO.out HN.out]
      exact ⟨rfl, bel⟩
end Go.Proofs.YtcidbencoebfaaaDoor.Wd


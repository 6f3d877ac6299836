/- The reference's ItemText. Conditions: none. -/
import Derived.Test.YtplkfpjcfalifaaDoorItemP
import Derived.Test.YtplkfpjcfalifaaDoorItemC
import Derived.Deep.CutRange
import Derived.Lib.SmallJoins
namespace Go.Proofs.YtplkfpjcfalifaaDoor.Wd
open Go.RowKit
set_option linter.unusedVariables false
set_option linter.unusedSimpArgs false
set_option maxHeartbeats 4000000
set_option maxRecDepth 100000
theorem l05Num_calls (n : Int) (w : World) : Calls Tryd.prog 20 #[.int .i64 n, .bool true, .string ⟨#[101, 108, 115, 101]⟩] w fun e w' => e = .returned (.tuple #[.string (valT n), .bool (decide (n = -1 ∨ 0 ≤ n ∧ n ≤ 4294967295))]) ∧ Below w.heap.size w w' := by
  unfold valT
  by_cases h : n = -1
  · subst h
    go_enter Tryd.func20, Tryd.ntmps20
    go_wp2
    go_ret2
    exact ⟨rfl, bel⟩
  · have e : (n == -1) = false := by simpa using h
    rw [if_neg h, show decide (n = -1 ∨ 0 ≤ n ∧ n ≤ 4294967295) = decide (0 ≤ n ∧ n ≤ 4294967295) by simp [h]]
    obtain ⟨T, hT⟩ : ∃ T, numText n = T := ⟨_, rfl⟩
    obtain ⟨D, hD⟩ : ∃ D, decide (0 ≤ n ∧ n ≤ 4294967295) = D := ⟨_, rfl⟩
    rw [hT, hD]
    have HT := Lib.hid hT; have HD := Lib.hid hD; clear hT hD h
    go_enter Tryd.func20, Tryd.ntmps20
    go_wp2_with fail
    refine (spec_NumText_calls _ _).mono ?_
    rintro e w1 ⟨rfl, hb1⟩
    rw [HT.out]
    go_wp2_with fail
    refine (l01Num_calls _ _).mono ?_
    rintro e w2 ⟨rfl, hb2⟩
    rw [HD.out]
    go_wp2
    go_ret2
    exact ⟨rfl, bel⟩
theorem joined_no {xs : List ByteArray} {sep y : ByteArray} (h : y ∈ xs) (h0 : y = ⟨#[]⟩) : joined xs sep = ⟨#[]⟩ := by
  unfold joined
  rw [if_neg]
  intro h2
  have := h2 y h
  rw [h0] at this
  exact absurd this (by decide)
theorem joined_yes {xs : List ByteArray} {sep : ByteArray} (h : ∀ y ∈ xs, 0 < y.size) : joined xs sep = joinB xs sep := by unfold joined; rw [if_pos h]
theorem numText_pos {n : Int} (h : 0 ≤ n ∧ n ≤ 4294967295) : 0 < (numText n).size := by
  rcases Nat.eq_zero_or_pos (numText n).size with h0 | h0
  · exact absurd h ((numText_empty n).1 (size_zero h0))
  · exact h0
theorem numText_none {n : Int} (h : ¬ (0 ≤ n ∧ n ≤ 4294967295)) : numText n = ⟨#[]⟩ := (numText_empty n).2 h
theorem valT_pos {n : Int} (h : n = -1 ∨ 0 ≤ n ∧ n ≤ 4294967295) : 0 < (valT n).size := by
  unfold valT
  split
  · decide
  · rename_i h1; exact numText_pos (h.resolve_left h1)
theorem spec_ItemText_calls (i : MItem) (cs : List Value) (w : World) (hx : kItem.K w i cs) :
    Calls Tryd.prog 14 #[.agg cs.toArray] w fun e w' => e = .returned (.string (itemText i)) ∧ Below w.heap.size w w' := by
  obtain rfl := kItem_K hx
  clear hx
  obtain ⟨R, hR⟩ : ∃ R, itemText i = R := ⟨_, rfl⟩
  rw [hR]
  cases hok : itemOk i with
  | false =>
    have HR : Hid (R = ⟨#[]⟩) := Lib.hid (by rw [← hR]; exact itemText_no hok)
    clear hR
    go_enter Tryd.func14, Tryd.ntmps14
    go_wp2_with fail
    refine (spec_ItemOk_calls i [_, _, _, _] _ (kItem_mk _ _)).mono ?_
    rintro e w1 ⟨rfl, hb1⟩
    rw [hok]
    go_wp2
    go_ret
    rw [HR.out]
    exact ⟨rfl, bel⟩
  | true =>
    have HR0 : Hid (R = joined (itemWords i.kind.toNat i.obj i.val i.ok) sp) := Lib.hid (by rw [← hR]; exact itemText_yes hok)
    clear hR
    obtain ⟨ki, ob, v, b⟩ := i
    have hd := of_decide_eq_true hok
    simp only at hd HR0
    have HD := Lib.hid hd
    have hk : ki = 1 ∨ ki = 2 ∨ ki = 3 ∨ ki = 4 ∨ ki = 5 ∨ ki = 6 ∨ ki = 7 ∨ ki = 8 ∨ ki = 9 ∨ ki = 10 := by omega
    clear hd
    rcases hk with rfl | rfl | rfl | rfl | rfl | rfl | rfl | rfl | rfl | rfl
    · have HR : Hid (R = joined (itemWords 1 ob v b) sp) := HR0; clear HR0
      by_cases ho : 0 ≤ ob ∧ ob ≤ 4294967295
      rotate_left
      · have hdo : decide (0 ≤ ob ∧ ob ≤ 4294967295) = false := decide_eq_false ho
        have HO := Lib.hid (numText_none ho); clear ho HD
        go_enter Tryd.func14, Tryd.ntmps14
        go_wp2_with fail
        refine (spec_ItemOk_calls ⟨1, ob, v, b⟩ [_, _, _, _] _ (kItem_mk _ _)).mono ?_
        rintro e w1 ⟨rfl, hb1⟩
        rw [hok]
        have q0 : w1.cell? ⟨w.heap.size, 0, none⟩ = some (.int .i64 1) := keepc hb1 (by go_simp)
        have q1 : w1.cell? ⟨w.heap.size, 1, none⟩ = some (.int .i64 ob) := keepc hb1 (by go_simp)
        have q2 : w1.cell? ⟨w.heap.size, 2, none⟩ = some (.int .i64 v) := keepc hb1 (by go_simp)
        have q3 : w1.cell? ⟨w.heap.size, 3, none⟩ = some (.bool b) := keepc hb1 (by go_simp)
        have z1 : w.heap.size < w1.heap.size := World.block_lt_of_cell? w1 _ q0
        go_wp2_with fail
        refine (l01Num_calls _ _).mono ?_
        rintro e w2 ⟨rfl, hbw2⟩
        rw [hdo]
        have r0 := keepc hbw2 q0
        have r1 := keepc hbw2 q1
        have r2 := keepc hbw2 q2
        have r3 := keepc hbw2 q3
        clear q0 q1 q2 q3
        have zw2 : w.heap.size < w2.heap.size := World.block_lt_of_cell? _ _ r0
        go_wp2
        go_ret
        rw [HR.out, joined_no (y := numText ob) (by simp [itemWords]) HO.out]
        exact ⟨rfl, bel⟩
      have hdo : decide (0 ≤ ob ∧ ob ≤ 4294967295) = true := decide_eq_true ho
      have HON := Lib.hid ho; clear ho
      have hv : v ≠ -1 := by have := HD.out; omega
      have hdv : (v != -1) = true := by simpa using hv
      have hn : 0 ≤ v ∧ v ≤ 4294967295 := by have := HD.out; omega
      have hdn : decide (0 ≤ v ∧ v ≤ 4294967295) = true := decide_eq_true hn
      have HVN := Lib.hid hn; clear hn HD hv
      go_enter Tryd.func14, Tryd.ntmps14
      go_wp2_with fail
      refine (spec_ItemOk_calls ⟨1, ob, v, b⟩ [_, _, _, _] _ (kItem_mk _ _)).mono ?_
      rintro e w1 ⟨rfl, hb1⟩
      rw [hok]
      have q0 : w1.cell? ⟨w.heap.size, 0, none⟩ = some (.int .i64 1) := keepc hb1 (by go_simp)
      have q1 : w1.cell? ⟨w.heap.size, 1, none⟩ = some (.int .i64 ob) := keepc hb1 (by go_simp)
      have q2 : w1.cell? ⟨w.heap.size, 2, none⟩ = some (.int .i64 v) := keepc hb1 (by go_simp)
      have q3 : w1.cell? ⟨w.heap.size, 3, none⟩ = some (.bool b) := keepc hb1 (by go_simp)
      have z1 : w.heap.size < w1.heap.size := World.block_lt_of_cell? w1 _ q0
      go_wp2_with fail
      refine (l01Num_calls _ _).mono ?_
      rintro e w2 ⟨rfl, hbw2⟩
      rw [hdo]
      have r0 := keepc hbw2 q0
      have r1 := keepc hbw2 q1
      have r2 := keepc hbw2 q2
      have r3 := keepc hbw2 q3
      clear q0 q1 q2 q3
      have zw2 : w.heap.size < w2.heap.size := World.block_lt_of_cell? _ _ r0
      go_wp2_with fail
      refine (l01Num_calls _ _).mono ?_
      rintro e w3 ⟨rfl, hbw3⟩
      rw [hdn]
      have s0 := keepc hbw3 r0
      have s1 := keepc hbw3 r1
      have s2 := keepc hbw3 r2
      have s3 := keepc hbw3 r3
      clear r0 r1 r2 r3
      have zw3 : w.heap.size < w3.heap.size := World.block_lt_of_cell? _ _ s0
      obtain ⟨T, hT⟩ : ∃ T, numText ob = T := ⟨_, rfl⟩
      have hTs : T.size ≤ 10 := by rw [← hT]; exact numText_size _
      obtain ⟨U, hU⟩ : ∃ U, valT v = U := ⟨_, rfl⟩
      have hUs : U.size ≤ 10 := by rw [← hU]; unfold valT; split; decide; exact numText_size _
      have hs0 : ¬ (9223372036854775807 < 4 + 1 + T.size) := by omega
      have hs1 : ¬ (9223372036854775807 < 5 + T.size) := by omega
      have hs2 : ¬ (9223372036854775807 < 4 + 1 + T.size + 1) := by omega
      have hs3 : ¬ (9223372036854775807 ≤ 4 + 1 + T.size) := by omega
      have hs4 : ¬ (9223372036854775807 < 4 + 1 + T.size + 1 + U.size) := by omega
      have hs5 : ¬ (9223372036854775807 < 5 + T.size + 1) := by omega
      have hs6 : ¬ (9223372036854775807 ≤ 5 + T.size) := by omega
      have hs7 : ¬ (9223372036854775807 < 5 + T.size + 1 + U.size) := by omega
      have HT := Lib.hid hT; clear hT hTs
      have HU := Lib.hid hU; clear hU hUs
      go_wp2_with fail
      refine (spec_NumText_calls _ _).mono ?_
      rintro e wa ⟨rfl, hba⟩
      rw [HT.out]
      have a0 : wa.cell? ⟨w.heap.size, 0, none⟩ = _ := keepc (bel : Below w3.heap.size w3 wa) s0
      have a1 : wa.cell? ⟨w.heap.size, 1, none⟩ = _ := keepc (bel : Below w3.heap.size w3 wa) s1
      have a2 : wa.cell? ⟨w.heap.size, 2, none⟩ = _ := keepc (bel : Below w3.heap.size w3 wa) s2
      have a3 : wa.cell? ⟨w.heap.size, 3, none⟩ = _ := keepc (bel : Below w3.heap.size w3 wa) s3
      clear s0 s1 s2 s3
      have za : w.heap.size < wa.heap.size := World.block_lt_of_cell? _ _ a0
      go_wp2_with fail
      refine (l05Num_calls _ _).mono ?_
      rintro e wb ⟨rfl, hbb⟩
      rw [HU.out]
      have b0 : wb.cell? ⟨w.heap.size, 0, none⟩ = _ := keepc (bel : Below wa.heap.size wa wb) a0
      have b1 : wb.cell? ⟨w.heap.size, 1, none⟩ = _ := keepc (bel : Below wa.heap.size wa wb) a1
      have b2 : wb.cell? ⟨w.heap.size, 2, none⟩ = _ := keepc (bel : Below wa.heap.size wa wb) a2
      have b3 : wb.cell? ⟨w.heap.size, 3, none⟩ = _ := keepc (bel : Below wa.heap.size wa wb) a3
      clear a0 a1 a2 a3
      have zb : w.heap.size < wb.heap.size := World.block_lt_of_cell? _ _ b0
      have HE : Hid (R = itemWord 1 ++ sp ++ T ++ sp ++ U) := Lib.hid (by
        rw [HR.out, show itemWords 1 ob v b = [itemWord 1, numText ob, valT v] by simp [itemWords], joined_yes]
        · rw [show [itemWord 1, numText ob, valT v] = [itemWord 1, numText ob] ++ [valT v] from rfl, joinB_snoc (by simp), show [itemWord 1, numText ob] = [itemWord 1] ++ [numText ob] from rfl, joinB_snoc (by simp), joinB_one, HT.out, HU.out]
        · intro y hy
          simp only [List.mem_cons, List.not_mem_nil, or_false] at hy
          rcases hy with rfl | rfl | rfl
          · decide
          · exact numText_pos HON.out
          · exact valT_pos (.inr HVN.out))
      go_wp2
      go_ret
      rw [HE.out]
      refine ⟨?_, bel⟩
      first | rfl | (simp only [ByteArray.append_assoc]; rfl)
    · have HR : Hid (R = joined (itemWords 2 ob v b) sp) := HR0; clear HR0
      by_cases ho : 0 ≤ ob ∧ ob ≤ 4294967295
      rotate_left
      · have hdo : decide (0 ≤ ob ∧ ob ≤ 4294967295) = false := decide_eq_false ho
        have HO := Lib.hid (numText_none ho); clear ho HD
        go_enter Tryd.func14, Tryd.ntmps14
        go_wp2_with fail
        refine (spec_ItemOk_calls ⟨2, ob, v, b⟩ [_, _, _, _] _ (kItem_mk _ _)).mono ?_
        rintro e w1 ⟨rfl, hb1⟩
        rw [hok]
        have q0 : w1.cell? ⟨w.heap.size, 0, none⟩ = some (.int .i64 2) := keepc hb1 (by go_simp)
        have q1 : w1.cell? ⟨w.heap.size, 1, none⟩ = some (.int .i64 ob) := keepc hb1 (by go_simp)
        have q2 : w1.cell? ⟨w.heap.size, 2, none⟩ = some (.int .i64 v) := keepc hb1 (by go_simp)
        have q3 : w1.cell? ⟨w.heap.size, 3, none⟩ = some (.bool b) := keepc hb1 (by go_simp)
        have z1 : w.heap.size < w1.heap.size := World.block_lt_of_cell? w1 _ q0
        go_wp2_with fail
        refine (l01Num_calls _ _).mono ?_
        rintro e w2 ⟨rfl, hbw2⟩
        rw [hdo]
        have r0 := keepc hbw2 q0
        have r1 := keepc hbw2 q1
        have r2 := keepc hbw2 q2
        have r3 := keepc hbw2 q3
        clear q0 q1 q2 q3
        have zw2 : w.heap.size < w2.heap.size := World.block_lt_of_cell? _ _ r0
        go_wp2
        go_ret
        rw [HR.out, joined_no (y := numText ob) (by simp [itemWords]) HO.out]
        exact ⟨rfl, bel⟩
      have hdo : decide (0 ≤ ob ∧ ob ≤ 4294967295) = true := decide_eq_true ho
      have HON := Lib.hid ho; clear ho
      have hv : v ≠ -1 := by have := HD.out; omega
      have hdv : (v != -1) = true := by simpa using hv
      have hn : 0 ≤ v ∧ v ≤ 4294967295 := by have := HD.out; omega
      have hdn : decide (0 ≤ v ∧ v ≤ 4294967295) = true := decide_eq_true hn
      have HVN := Lib.hid hn; clear hn HD hv
      go_enter Tryd.func14, Tryd.ntmps14
      go_wp2_with fail
      refine (spec_ItemOk_calls ⟨2, ob, v, b⟩ [_, _, _, _] _ (kItem_mk _ _)).mono ?_
      rintro e w1 ⟨rfl, hb1⟩
      rw [hok]
      have q0 : w1.cell? ⟨w.heap.size, 0, none⟩ = some (.int .i64 2) := keepc hb1 (by go_simp)
      have q1 : w1.cell? ⟨w.heap.size, 1, none⟩ = some (.int .i64 ob) := keepc hb1 (by go_simp)
      have q2 : w1.cell? ⟨w.heap.size, 2, none⟩ = some (.int .i64 v) := keepc hb1 (by go_simp)
      have q3 : w1.cell? ⟨w.heap.size, 3, none⟩ = some (.bool b) := keepc hb1 (by go_simp)
      have z1 : w.heap.size < w1.heap.size := World.block_lt_of_cell? w1 _ q0
      go_wp2_with fail
      refine (l01Num_calls _ _).mono ?_
      rintro e w2 ⟨rfl, hbw2⟩
      rw [hdo]
      have r0 := keepc hbw2 q0
      have r1 := keepc hbw2 q1
      have r2 := keepc hbw2 q2
      have r3 := keepc hbw2 q3
      clear q0 q1 q2 q3
      have zw2 : w.heap.size < w2.heap.size := World.block_lt_of_cell? _ _ r0
      go_wp2_with fail
      refine (l01Num_calls _ _).mono ?_
      rintro e w3 ⟨rfl, hbw3⟩
      rw [hdn]
      have s0 := keepc hbw3 r0
      have s1 := keepc hbw3 r1
      have s2 := keepc hbw3 r2
      have s3 := keepc hbw3 r3
      clear r0 r1 r2 r3
      have zw3 : w.heap.size < w3.heap.size := World.block_lt_of_cell? _ _ s0
      cases b with
      | false =>
        obtain ⟨T, hT⟩ : ∃ T, numText ob = T := ⟨_, rfl⟩
        have hTs : T.size ≤ 10 := by rw [← hT]; exact numText_size _
        obtain ⟨U, hU⟩ : ∃ U, valT v = U := ⟨_, rfl⟩
        have hUs : U.size ≤ 10 := by rw [← hU]; unfold valT; split; decide; exact numText_size _
        have hs0 : ¬ (9223372036854775807 < 3 + 1 + T.size) := by omega
        have hs1 : ¬ (9223372036854775807 < 4 + T.size) := by omega
        have hs2 : ¬ (9223372036854775807 < 3 + 1 + T.size + 1) := by omega
        have hs3 : ¬ (9223372036854775807 ≤ 3 + 1 + T.size) := by omega
        have hs4 : ¬ (9223372036854775807 < 3 + 1 + T.size + 1 + U.size) := by omega
        have hs5 : ¬ (9223372036854775807 < 4 + T.size + 1) := by omega
        have hs6 : ¬ (9223372036854775807 ≤ 4 + T.size) := by omega
        have hs7 : ¬ (9223372036854775807 < 4 + T.size + 1 + U.size) := by omega
        have hs8 : ¬ (9223372036854775807 < 3 + 1 + T.size + 1 + U.size + 5) := by omega
        have hs9 : ¬ (9223372036854775807 < 4 + T.size + 1 + U.size + 5) := by omega
        have HT := Lib.hid hT; clear hT hTs
        have HU := Lib.hid hU; clear hU hUs
        go_wp2_with fail
        refine (spec_NumText_calls _ _).mono ?_
        rintro e wa ⟨rfl, hba⟩
        rw [HT.out]
        have a0 : wa.cell? ⟨w.heap.size, 0, none⟩ = _ := keepc (bel : Below w3.heap.size w3 wa) s0
        have a1 : wa.cell? ⟨w.heap.size, 1, none⟩ = _ := keepc (bel : Below w3.heap.size w3 wa) s1
        have a2 : wa.cell? ⟨w.heap.size, 2, none⟩ = _ := keepc (bel : Below w3.heap.size w3 wa) s2
        have a3 : wa.cell? ⟨w.heap.size, 3, none⟩ = _ := keepc (bel : Below w3.heap.size w3 wa) s3
        clear s0 s1 s2 s3
        have za : w.heap.size < wa.heap.size := World.block_lt_of_cell? _ _ a0
        go_wp2_with fail
        refine (l05Num_calls _ _).mono ?_
        rintro e wb ⟨rfl, hbb⟩
        rw [HU.out]
        have b0 : wb.cell? ⟨w.heap.size, 0, none⟩ = _ := keepc (bel : Below wa.heap.size wa wb) a0
        have b1 : wb.cell? ⟨w.heap.size, 1, none⟩ = _ := keepc (bel : Below wa.heap.size wa wb) a1
        have b2 : wb.cell? ⟨w.heap.size, 2, none⟩ = _ := keepc (bel : Below wa.heap.size wa wb) a2
        have b3 : wb.cell? ⟨w.heap.size, 3, none⟩ = _ := keepc (bel : Below wa.heap.size wa wb) a3
        clear a0 a1 a2 a3
        have zb : w.heap.size < wb.heap.size := World.block_lt_of_cell? _ _ b0
        have HE : Hid (R = itemWord 2 ++ sp ++ T ++ sp ++ U ++ sp ++ zeroW) := Lib.hid (by
          rw [HR.out, show itemWords 2 ob v false = [itemWord 2, numText ob, valT v, zeroW] by simp [itemWords], joined_yes]
          · rw [show [itemWord 2, numText ob, valT v, zeroW] = [itemWord 2, numText ob, valT v] ++ [zeroW] from rfl, joinB_snoc (by simp), show [itemWord 2, numText ob, valT v] = [itemWord 2, numText ob] ++ [valT v] from rfl, joinB_snoc (by simp), show [itemWord 2, numText ob] = [itemWord 2] ++ [numText ob] from rfl, joinB_snoc (by simp), joinB_one, HT.out, HU.out]
          · intro y hy
            simp only [List.mem_cons, List.not_mem_nil, or_false] at hy
            rcases hy with rfl | rfl | rfl | rfl
            · decide
            · exact numText_pos HON.out
            · exact valT_pos (.inr HVN.out)
            · decide)
        go_wp2
        go_ret
        rw [HE.out]
        refine ⟨?_, bel⟩
        first | rfl | (simp only [ByteArray.append_assoc]; rfl)
      | true =>
        obtain ⟨T, hT⟩ : ∃ T, numText ob = T := ⟨_, rfl⟩
        have hTs : T.size ≤ 10 := by rw [← hT]; exact numText_size _
        obtain ⟨U, hU⟩ : ∃ U, valT v = U := ⟨_, rfl⟩
        have hUs : U.size ≤ 10 := by rw [← hU]; unfold valT; split; decide; exact numText_size _
        have hs0 : ¬ (9223372036854775807 < 3 + 1 + T.size) := by omega
        have hs1 : ¬ (9223372036854775807 < 4 + T.size) := by omega
        have hs2 : ¬ (9223372036854775807 < 3 + 1 + T.size + 1) := by omega
        have hs3 : ¬ (9223372036854775807 ≤ 3 + 1 + T.size) := by omega
        have hs4 : ¬ (9223372036854775807 < 3 + 1 + T.size + 1 + U.size) := by omega
        have hs5 : ¬ (9223372036854775807 < 4 + T.size + 1) := by omega
        have hs6 : ¬ (9223372036854775807 ≤ 4 + T.size) := by omega
        have hs7 : ¬ (9223372036854775807 < 4 + T.size + 1 + U.size) := by omega
        have HT := Lib.hid hT; clear hT hTs
        have HU := Lib.hid hU; clear hU hUs
        go_wp2_with fail
        refine (spec_NumText_calls _ _).mono ?_
        rintro e wa ⟨rfl, hba⟩
        rw [HT.out]
        have a0 : wa.cell? ⟨w.heap.size, 0, none⟩ = _ := keepc (bel : Below w3.heap.size w3 wa) s0
        have a1 : wa.cell? ⟨w.heap.size, 1, none⟩ = _ := keepc (bel : Below w3.heap.size w3 wa) s1
        have a2 : wa.cell? ⟨w.heap.size, 2, none⟩ = _ := keepc (bel : Below w3.heap.size w3 wa) s2
        have a3 : wa.cell? ⟨w.heap.size, 3, none⟩ = _ := keepc (bel : Below w3.heap.size w3 wa) s3
        clear s0 s1 s2 s3
        have za : w.heap.size < wa.heap.size := World.block_lt_of_cell? _ _ a0
        go_wp2_with fail
        refine (l05Num_calls _ _).mono ?_
        rintro e wb ⟨rfl, hbb⟩
        rw [HU.out]
        have b0 : wb.cell? ⟨w.heap.size, 0, none⟩ = _ := keepc (bel : Below wa.heap.size wa wb) a0
        have b1 : wb.cell? ⟨w.heap.size, 1, none⟩ = _ := keepc (bel : Below wa.heap.size wa wb) a1
        have b2 : wb.cell? ⟨w.heap.size, 2, none⟩ = _ := keepc (bel : Below wa.heap.size wa wb) a2
        have b3 : wb.cell? ⟨w.heap.size, 3, none⟩ = _ := keepc (bel : Below wa.heap.size wa wb) a3
        clear a0 a1 a2 a3
        have zb : w.heap.size < wb.heap.size := World.block_lt_of_cell? _ _ b0
        have HE : Hid (R = itemWord 2 ++ sp ++ T ++ sp ++ U) := Lib.hid (by
          rw [HR.out, show itemWords 2 ob v true = [itemWord 2, numText ob, valT v] by simp [itemWords], joined_yes]
          · rw [show [itemWord 2, numText ob, valT v] = [itemWord 2, numText ob] ++ [valT v] from rfl, joinB_snoc (by simp), show [itemWord 2, numText ob] = [itemWord 2] ++ [numText ob] from rfl, joinB_snoc (by simp), joinB_one, HT.out, HU.out]
          · intro y hy
            simp only [List.mem_cons, List.not_mem_nil, or_false] at hy
            rcases hy with rfl | rfl | rfl
            · decide
            · exact numText_pos HON.out
            · exact valT_pos (.inr HVN.out))
        go_wp2
        go_ret
        rw [HE.out]
        refine ⟨?_, bel⟩
        first | rfl | (simp only [ByteArray.append_assoc]; rfl)
    · have HR : Hid (R = joined (itemWords 3 ob v b) sp) := HR0; clear HR0
      by_cases ho : 0 ≤ ob ∧ ob ≤ 4294967295
      rotate_left
      · have hdo : decide (0 ≤ ob ∧ ob ≤ 4294967295) = false := decide_eq_false ho
        have HO := Lib.hid (numText_none ho); clear ho HD
        go_enter Tryd.func14, Tryd.ntmps14
        go_wp2_with fail
        refine (spec_ItemOk_calls ⟨3, ob, v, b⟩ [_, _, _, _] _ (kItem_mk _ _)).mono ?_
        rintro e w1 ⟨rfl, hb1⟩
        rw [hok]
        have q0 : w1.cell? ⟨w.heap.size, 0, none⟩ = some (.int .i64 3) := keepc hb1 (by go_simp)
        have q1 : w1.cell? ⟨w.heap.size, 1, none⟩ = some (.int .i64 ob) := keepc hb1 (by go_simp)
        have q2 : w1.cell? ⟨w.heap.size, 2, none⟩ = some (.int .i64 v) := keepc hb1 (by go_simp)
        have q3 : w1.cell? ⟨w.heap.size, 3, none⟩ = some (.bool b) := keepc hb1 (by go_simp)
        have z1 : w.heap.size < w1.heap.size := World.block_lt_of_cell? w1 _ q0
        go_wp2_with fail
        refine (l01Num_calls _ _).mono ?_
        rintro e w2 ⟨rfl, hbw2⟩
        rw [hdo]
        have r0 := keepc hbw2 q0
        have r1 := keepc hbw2 q1
        have r2 := keepc hbw2 q2
        have r3 := keepc hbw2 q3
        clear q0 q1 q2 q3
        have zw2 : w.heap.size < w2.heap.size := World.block_lt_of_cell? _ _ r0
        go_wp2
        go_ret
        rw [HR.out, joined_no (y := numText ob) (by simp [itemWords]) HO.out]
        exact ⟨rfl, bel⟩
      have hdo : decide (0 ≤ ob ∧ ob ≤ 4294967295) = true := decide_eq_true ho
      have HON := Lib.hid ho; clear ho
      have hv : v ≠ -1 := by have := HD.out; omega
      have hdv : (v != -1) = true := by simpa using hv
      have hn : 0 ≤ v ∧ v ≤ 4294967295 := by have := HD.out; omega
      have hdn : decide (0 ≤ v ∧ v ≤ 4294967295) = true := decide_eq_true hn
      have HVN := Lib.hid hn; clear hn HD hv
      go_enter Tryd.func14, Tryd.ntmps14
      go_wp2_with fail
      refine (spec_ItemOk_calls ⟨3, ob, v, b⟩ [_, _, _, _] _ (kItem_mk _ _)).mono ?_
      rintro e w1 ⟨rfl, hb1⟩
      rw [hok]
      have q0 : w1.cell? ⟨w.heap.size, 0, none⟩ = some (.int .i64 3) := keepc hb1 (by go_simp)
      have q1 : w1.cell? ⟨w.heap.size, 1, none⟩ = some (.int .i64 ob) := keepc hb1 (by go_simp)
      have q2 : w1.cell? ⟨w.heap.size, 2, none⟩ = some (.int .i64 v) := keepc hb1 (by go_simp)
      have q3 : w1.cell? ⟨w.heap.size, 3, none⟩ = some (.bool b) := keepc hb1 (by go_simp)
      have z1 : w.heap.size < w1.heap.size := World.block_lt_of_cell? w1 _ q0
      go_wp2_with fail
      refine (l01Num_calls _ _).mono ?_
      rintro e w2 ⟨rfl, hbw2⟩
      rw [hdo]
      have r0 := keepc hbw2 q0
      have r1 := keepc hbw2 q1
      have r2 := keepc hbw2 q2
      have r3 := keepc hbw2 q3
      clear q0 q1 q2 q3
      have zw2 : w.heap.size < w2.heap.size := World.block_lt_of_cell? _ _ r0
      go_wp2_with fail
      refine (l01Num_calls _ _).mono ?_
      rintro e w3 ⟨rfl, hbw3⟩
      rw [hdn]
      have s0 := keepc hbw3 r0
      have s1 := keepc hbw3 r1
      have s2 := keepc hbw3 r2
      have s3 := keepc hbw3 r3
      clear r0 r1 r2 r3
      have zw3 : w.heap.size < w3.heap.size := World.block_lt_of_cell? _ _ s0
      obtain ⟨T, hT⟩ : ∃ T, numText ob = T := ⟨_, rfl⟩
      have hTs : T.size ≤ 10 := by rw [← hT]; exact numText_size _
      have hs0 : ¬ (9223372036854775807 < 6 + 1 + T.size) := by omega
      have hs1 : ¬ (9223372036854775807 < 7 + T.size) := by omega
      have HT := Lib.hid hT; clear hT hTs
      go_wp2_with fail
      refine (spec_NumText_calls _ _).mono ?_
      rintro e wa ⟨rfl, hba⟩
      rw [HT.out]
      have a0 : wa.cell? ⟨w.heap.size, 0, none⟩ = _ := keepc (bel : Below w3.heap.size w3 wa) s0
      have a1 : wa.cell? ⟨w.heap.size, 1, none⟩ = _ := keepc (bel : Below w3.heap.size w3 wa) s1
      have a2 : wa.cell? ⟨w.heap.size, 2, none⟩ = _ := keepc (bel : Below w3.heap.size w3 wa) s2
      have a3 : wa.cell? ⟨w.heap.size, 3, none⟩ = _ := keepc (bel : Below w3.heap.size w3 wa) s3
      clear s0 s1 s2 s3
      have za : w.heap.size < wa.heap.size := World.block_lt_of_cell? _ _ a0
      have HE : Hid (R = itemWord 3 ++ sp ++ T) := Lib.hid (by
        rw [HR.out, show itemWords 3 ob v b = [itemWord 3, numText ob] by simp [itemWords], joined_yes]
        · rw [show [itemWord 3, numText ob] = [itemWord 3] ++ [numText ob] from rfl, joinB_snoc (by simp), joinB_one, HT.out]
        · intro y hy
          simp only [List.mem_cons, List.not_mem_nil, or_false] at hy
          rcases hy with rfl | rfl
          · decide
          · exact numText_pos HON.out)
      go_wp2
      go_ret
      rw [HE.out]
      refine ⟨?_, bel⟩
      first | rfl | (simp only [ByteArray.append_assoc]; rfl)
    · have HR : Hid (R = joined (itemWords 4 ob v b) sp) := HR0; clear HR0
      by_cases ho : 0 ≤ ob ∧ ob ≤ 4294967295
      rotate_left
      · have hdo : decide (0 ≤ ob ∧ ob ≤ 4294967295) = false := decide_eq_false ho
        have HO := Lib.hid (numText_none ho); clear ho HD
        go_enter Tryd.func14, Tryd.ntmps14
        go_wp2_with fail
        refine (spec_ItemOk_calls ⟨4, ob, v, b⟩ [_, _, _, _] _ (kItem_mk _ _)).mono ?_
        rintro e w1 ⟨rfl, hb1⟩
        rw [hok]
        have q0 : w1.cell? ⟨w.heap.size, 0, none⟩ = some (.int .i64 4) := keepc hb1 (by go_simp)
        have q1 : w1.cell? ⟨w.heap.size, 1, none⟩ = some (.int .i64 ob) := keepc hb1 (by go_simp)
        have q2 : w1.cell? ⟨w.heap.size, 2, none⟩ = some (.int .i64 v) := keepc hb1 (by go_simp)
        have q3 : w1.cell? ⟨w.heap.size, 3, none⟩ = some (.bool b) := keepc hb1 (by go_simp)
        have z1 : w.heap.size < w1.heap.size := World.block_lt_of_cell? w1 _ q0
        go_wp2_with fail
        refine (l01Num_calls _ _).mono ?_
        rintro e w2 ⟨rfl, hbw2⟩
        rw [hdo]
        have r0 := keepc hbw2 q0
        have r1 := keepc hbw2 q1
        have r2 := keepc hbw2 q2
        have r3 := keepc hbw2 q3
        clear q0 q1 q2 q3
        have zw2 : w.heap.size < w2.heap.size := World.block_lt_of_cell? _ _ r0
        go_wp2
        go_ret
        rw [HR.out, joined_no (y := numText ob) (by simp [itemWords]) HO.out]
        exact ⟨rfl, bel⟩
      have hdo : decide (0 ≤ ob ∧ ob ≤ 4294967295) = true := decide_eq_true ho
      have HON := Lib.hid ho; clear ho
      by_cases hv : v = -1
      · subst hv
        clear HD
        go_enter Tryd.func14, Tryd.ntmps14
        go_wp2_with fail
        refine (spec_ItemOk_calls ⟨4, ob, (-1), b⟩ [_, _, _, _] _ (kItem_mk _ _)).mono ?_
        rintro e w1 ⟨rfl, hb1⟩
        rw [hok]
        have q0 : w1.cell? ⟨w.heap.size, 0, none⟩ = some (.int .i64 4) := keepc hb1 (by go_simp)
        have q1 : w1.cell? ⟨w.heap.size, 1, none⟩ = some (.int .i64 ob) := keepc hb1 (by go_simp)
        have q2 : w1.cell? ⟨w.heap.size, 2, none⟩ = some (.int .i64 (-1)) := keepc hb1 (by go_simp)
        have q3 : w1.cell? ⟨w.heap.size, 3, none⟩ = some (.bool b) := keepc hb1 (by go_simp)
        have z1 : w.heap.size < w1.heap.size := World.block_lt_of_cell? w1 _ q0
        go_wp2_with fail
        refine (l01Num_calls _ _).mono ?_
        rintro e w2 ⟨rfl, hbw2⟩
        rw [hdo]
        have r0 := keepc hbw2 q0
        have r1 := keepc hbw2 q1
        have r2 := keepc hbw2 q2
        have r3 := keepc hbw2 q3
        clear q0 q1 q2 q3
        have zw2 : w.heap.size < w2.heap.size := World.block_lt_of_cell? _ _ r0
        obtain ⟨T, hT⟩ : ∃ T, numText ob = T := ⟨_, rfl⟩
        have hTs : T.size ≤ 10 := by rw [← hT]; exact numText_size _
        obtain ⟨U, hU⟩ : ∃ U, valT (-1) = U := ⟨_, rfl⟩
        have hUs : U.size ≤ 10 := by rw [← hU]; decide
        have hs0 : ¬ (9223372036854775807 < 6 + 1 + T.size) := by omega
        have hs1 : ¬ (9223372036854775807 < 7 + T.size) := by omega
        have hs2 : ¬ (9223372036854775807 < 6 + 1 + T.size + 1) := by omega
        have hs3 : ¬ (9223372036854775807 ≤ 6 + 1 + T.size) := by omega
        have hs4 : ¬ (9223372036854775807 < 6 + 1 + T.size + 1 + U.size) := by omega
        have hs5 : ¬ (9223372036854775807 < 7 + T.size + 1) := by omega
        have hs6 : ¬ (9223372036854775807 ≤ 7 + T.size) := by omega
        have hs7 : ¬ (9223372036854775807 < 7 + T.size + 1 + U.size) := by omega
        have HT := Lib.hid hT; clear hT hTs
        have HU := Lib.hid hU; clear hU hUs
        go_wp2_with fail
        refine (spec_NumText_calls _ _).mono ?_
        rintro e wa ⟨rfl, hba⟩
        rw [HT.out]
        have a0 : wa.cell? ⟨w.heap.size, 0, none⟩ = _ := keepc (bel : Below w2.heap.size w2 wa) r0
        have a1 : wa.cell? ⟨w.heap.size, 1, none⟩ = _ := keepc (bel : Below w2.heap.size w2 wa) r1
        have a2 : wa.cell? ⟨w.heap.size, 2, none⟩ = _ := keepc (bel : Below w2.heap.size w2 wa) r2
        have a3 : wa.cell? ⟨w.heap.size, 3, none⟩ = _ := keepc (bel : Below w2.heap.size w2 wa) r3
        clear r0 r1 r2 r3
        have za : w.heap.size < wa.heap.size := World.block_lt_of_cell? _ _ a0
        go_wp2_with fail
        refine (l05Num_calls _ _).mono ?_
        rintro e wb ⟨rfl, hbb⟩
        rw [HU.out]
        have b0 : wb.cell? ⟨w.heap.size, 0, none⟩ = _ := keepc (bel : Below wa.heap.size wa wb) a0
        have b1 : wb.cell? ⟨w.heap.size, 1, none⟩ = _ := keepc (bel : Below wa.heap.size wa wb) a1
        have b2 : wb.cell? ⟨w.heap.size, 2, none⟩ = _ := keepc (bel : Below wa.heap.size wa wb) a2
        have b3 : wb.cell? ⟨w.heap.size, 3, none⟩ = _ := keepc (bel : Below wa.heap.size wa wb) a3
        clear a0 a1 a2 a3
        have zb : w.heap.size < wb.heap.size := World.block_lt_of_cell? _ _ b0
        have HE : Hid (R = itemWord 4 ++ sp ++ T ++ sp ++ U) := Lib.hid (by
          rw [HR.out, show itemWords 4 ob (-1) b = [itemWord 4, numText ob, valT (-1)] by simp [itemWords], joined_yes]
          · rw [show [itemWord 4, numText ob, valT (-1)] = [itemWord 4, numText ob] ++ [valT (-1)] from rfl, joinB_snoc (by simp), show [itemWord 4, numText ob] = [itemWord 4] ++ [numText ob] from rfl, joinB_snoc (by simp), joinB_one, HT.out, HU.out]
          · intro y hy
            simp only [List.mem_cons, List.not_mem_nil, or_false] at hy
            rcases hy with rfl | rfl | rfl
            · decide
            · exact numText_pos HON.out
            · exact valT_pos (.inl rfl))
        go_wp2
        go_ret
        rw [HE.out]
        refine ⟨?_, bel⟩
        first | rfl | (simp only [ByteArray.append_assoc]; rfl)
      have hdv : (v != -1) = true := by simpa using hv
      by_cases hn : 0 ≤ v ∧ v ≤ 4294967295
      rotate_left
      · have hdn : decide (0 ≤ v ∧ v ≤ 4294967295) = false := decide_eq_false hn
        have HV : Hid (valT v = ⟨#[]⟩) := Lib.hid (by unfold valT; rw [if_neg hv]; exact numText_none hn); clear hn HD hv
        go_enter Tryd.func14, Tryd.ntmps14
        go_wp2_with fail
        refine (spec_ItemOk_calls ⟨4, ob, v, b⟩ [_, _, _, _] _ (kItem_mk _ _)).mono ?_
        rintro e w1 ⟨rfl, hb1⟩
        rw [hok]
        have q0 : w1.cell? ⟨w.heap.size, 0, none⟩ = some (.int .i64 4) := keepc hb1 (by go_simp)
        have q1 : w1.cell? ⟨w.heap.size, 1, none⟩ = some (.int .i64 ob) := keepc hb1 (by go_simp)
        have q2 : w1.cell? ⟨w.heap.size, 2, none⟩ = some (.int .i64 v) := keepc hb1 (by go_simp)
        have q3 : w1.cell? ⟨w.heap.size, 3, none⟩ = some (.bool b) := keepc hb1 (by go_simp)
        have z1 : w.heap.size < w1.heap.size := World.block_lt_of_cell? w1 _ q0
        go_wp2_with fail
        refine (l01Num_calls _ _).mono ?_
        rintro e w2 ⟨rfl, hbw2⟩
        rw [hdo]
        have r0 := keepc hbw2 q0
        have r1 := keepc hbw2 q1
        have r2 := keepc hbw2 q2
        have r3 := keepc hbw2 q3
        clear q0 q1 q2 q3
        have zw2 : w.heap.size < w2.heap.size := World.block_lt_of_cell? _ _ r0
        go_wp2_with fail
        refine (l01Num_calls _ _).mono ?_
        rintro e w3 ⟨rfl, hbw3⟩
        rw [hdn]
        have s0 := keepc hbw3 r0
        have s1 := keepc hbw3 r1
        have s2 := keepc hbw3 r2
        have s3 := keepc hbw3 r3
        clear r0 r1 r2 r3
        have zw3 : w.heap.size < w3.heap.size := World.block_lt_of_cell? _ _ s0
        go_wp2
        go_ret
        rw [HR.out, joined_no (y := valT v) (by simp [itemWords]) HV.out]
        exact ⟨rfl, bel⟩
      have hdn : decide (0 ≤ v ∧ v ≤ 4294967295) = true := decide_eq_true hn
      have HVN := Lib.hid hn; clear hn HD hv
      go_enter Tryd.func14, Tryd.ntmps14
      go_wp2_with fail
      refine (spec_ItemOk_calls ⟨4, ob, v, b⟩ [_, _, _, _] _ (kItem_mk _ _)).mono ?_
      rintro e w1 ⟨rfl, hb1⟩
      rw [hok]
      have q0 : w1.cell? ⟨w.heap.size, 0, none⟩ = some (.int .i64 4) := keepc hb1 (by go_simp)
      have q1 : w1.cell? ⟨w.heap.size, 1, none⟩ = some (.int .i64 ob) := keepc hb1 (by go_simp)
      have q2 : w1.cell? ⟨w.heap.size, 2, none⟩ = some (.int .i64 v) := keepc hb1 (by go_simp)
      have q3 : w1.cell? ⟨w.heap.size, 3, none⟩ = some (.bool b) := keepc hb1 (by go_simp)
      have z1 : w.heap.size < w1.heap.size := World.block_lt_of_cell? w1 _ q0
      go_wp2_with fail
      refine (l01Num_calls _ _).mono ?_
      rintro e w2 ⟨rfl, hbw2⟩
      rw [hdo]
      have r0 := keepc hbw2 q0
      have r1 := keepc hbw2 q1
      have r2 := keepc hbw2 q2
      have r3 := keepc hbw2 q3
      clear q0 q1 q2 q3
      have zw2 : w.heap.size < w2.heap.size := World.block_lt_of_cell? _ _ r0
      go_wp2_with fail
      refine (l01Num_calls _ _).mono ?_
      rintro e w3 ⟨rfl, hbw3⟩
      rw [hdn]
      have s0 := keepc hbw3 r0
      have s1 := keepc hbw3 r1
      have s2 := keepc hbw3 r2
      have s3 := keepc hbw3 r3
      clear r0 r1 r2 r3
      have zw3 : w.heap.size < w3.heap.size := World.block_lt_of_cell? _ _ s0
      obtain ⟨T, hT⟩ : ∃ T, numText ob = T := ⟨_, rfl⟩
      have hTs : T.size ≤ 10 := by rw [← hT]; exact numText_size _
      obtain ⟨U, hU⟩ : ∃ U, valT v = U := ⟨_, rfl⟩
      have hUs : U.size ≤ 10 := by rw [← hU]; unfold valT; split; decide; exact numText_size _
      have hs0 : ¬ (9223372036854775807 < 6 + 1 + T.size) := by omega
      have hs1 : ¬ (9223372036854775807 < 7 + T.size) := by omega
      have hs2 : ¬ (9223372036854775807 < 6 + 1 + T.size + 1) := by omega
      have hs3 : ¬ (9223372036854775807 ≤ 6 + 1 + T.size) := by omega
      have hs4 : ¬ (9223372036854775807 < 6 + 1 + T.size + 1 + U.size) := by omega
      have hs5 : ¬ (9223372036854775807 < 7 + T.size + 1) := by omega
      have hs6 : ¬ (9223372036854775807 ≤ 7 + T.size) := by omega
      have hs7 : ¬ (9223372036854775807 < 7 + T.size + 1 + U.size) := by omega
      have HT := Lib.hid hT; clear hT hTs
      have HU := Lib.hid hU; clear hU hUs
      go_wp2_with fail
      refine (spec_NumText_calls _ _).mono ?_
      rintro e wa ⟨rfl, hba⟩
      rw [HT.out]
      have a0 : wa.cell? ⟨w.heap.size, 0, none⟩ = _ := keepc (bel : Below w3.heap.size w3 wa) s0
      have a1 : wa.cell? ⟨w.heap.size, 1, none⟩ = _ := keepc (bel : Below w3.heap.size w3 wa) s1
      have a2 : wa.cell? ⟨w.heap.size, 2, none⟩ = _ := keepc (bel : Below w3.heap.size w3 wa) s2
      have a3 : wa.cell? ⟨w.heap.size, 3, none⟩ = _ := keepc (bel : Below w3.heap.size w3 wa) s3
      clear s0 s1 s2 s3
      have za : w.heap.size < wa.heap.size := World.block_lt_of_cell? _ _ a0
      go_wp2_with fail
      refine (l05Num_calls _ _).mono ?_
      rintro e wb ⟨rfl, hbb⟩
      rw [HU.out]
      have b0 : wb.cell? ⟨w.heap.size, 0, none⟩ = _ := keepc (bel : Below wa.heap.size wa wb) a0
      have b1 : wb.cell? ⟨w.heap.size, 1, none⟩ = _ := keepc (bel : Below wa.heap.size wa wb) a1
      have b2 : wb.cell? ⟨w.heap.size, 2, none⟩ = _ := keepc (bel : Below wa.heap.size wa wb) a2
      have b3 : wb.cell? ⟨w.heap.size, 3, none⟩ = _ := keepc (bel : Below wa.heap.size wa wb) a3
      clear a0 a1 a2 a3
      have zb : w.heap.size < wb.heap.size := World.block_lt_of_cell? _ _ b0
      have HE : Hid (R = itemWord 4 ++ sp ++ T ++ sp ++ U) := Lib.hid (by
        rw [HR.out, show itemWords 4 ob v b = [itemWord 4, numText ob, valT v] by simp [itemWords], joined_yes]
        · rw [show [itemWord 4, numText ob, valT v] = [itemWord 4, numText ob] ++ [valT v] from rfl, joinB_snoc (by simp), show [itemWord 4, numText ob] = [itemWord 4] ++ [numText ob] from rfl, joinB_snoc (by simp), joinB_one, HT.out, HU.out]
        · intro y hy
          simp only [List.mem_cons, List.not_mem_nil, or_false] at hy
          rcases hy with rfl | rfl | rfl
          · decide
          · exact numText_pos HON.out
          · exact valT_pos (.inr HVN.out))
      go_wp2
      go_ret
      rw [HE.out]
      refine ⟨?_, bel⟩
      first | rfl | (simp only [ByteArray.append_assoc]; rfl)
    · have HR : Hid (R = joined (itemWords 5 ob v b) sp) := HR0; clear HR0
      by_cases ho : 0 ≤ ob ∧ ob ≤ 4294967295
      rotate_left
      · have hdo : decide (0 ≤ ob ∧ ob ≤ 4294967295) = false := decide_eq_false ho
        have HO := Lib.hid (numText_none ho); clear ho HD
        go_enter Tryd.func14, Tryd.ntmps14
        go_wp2_with fail
        refine (spec_ItemOk_calls ⟨5, ob, v, b⟩ [_, _, _, _] _ (kItem_mk _ _)).mono ?_
        rintro e w1 ⟨rfl, hb1⟩
        rw [hok]
        have q0 : w1.cell? ⟨w.heap.size, 0, none⟩ = some (.int .i64 5) := keepc hb1 (by go_simp)
        have q1 : w1.cell? ⟨w.heap.size, 1, none⟩ = some (.int .i64 ob) := keepc hb1 (by go_simp)
        have q2 : w1.cell? ⟨w.heap.size, 2, none⟩ = some (.int .i64 v) := keepc hb1 (by go_simp)
        have q3 : w1.cell? ⟨w.heap.size, 3, none⟩ = some (.bool b) := keepc hb1 (by go_simp)
        have z1 : w.heap.size < w1.heap.size := World.block_lt_of_cell? w1 _ q0
        go_wp2_with fail
        refine (l01Num_calls _ _).mono ?_
        rintro e w2 ⟨rfl, hbw2⟩
        rw [hdo]
        have r0 := keepc hbw2 q0
        have r1 := keepc hbw2 q1
        have r2 := keepc hbw2 q2
        have r3 := keepc hbw2 q3
        clear q0 q1 q2 q3
        have zw2 : w.heap.size < w2.heap.size := World.block_lt_of_cell? _ _ r0
        go_wp2
        go_ret
        rw [HR.out, joined_no (y := numText ob) (by simp [itemWords]) HO.out]
        exact ⟨rfl, bel⟩
      have hdo : decide (0 ≤ ob ∧ ob ≤ 4294967295) = true := decide_eq_true ho
      have HON := Lib.hid ho; clear ho
      have hv : v ≠ -1 := by have := HD.out; omega
      have hdv : (v != -1) = true := by simpa using hv
      have hn : 0 ≤ v ∧ v ≤ 4294967295 := by have := HD.out; omega
      have hdn : decide (0 ≤ v ∧ v ≤ 4294967295) = true := decide_eq_true hn
      have HVN := Lib.hid hn; clear hn HD hv
      go_enter Tryd.func14, Tryd.ntmps14
      go_wp2_with fail
      refine (spec_ItemOk_calls ⟨5, ob, v, b⟩ [_, _, _, _] _ (kItem_mk _ _)).mono ?_
      rintro e w1 ⟨rfl, hb1⟩
      rw [hok]
      have q0 : w1.cell? ⟨w.heap.size, 0, none⟩ = some (.int .i64 5) := keepc hb1 (by go_simp)
      have q1 : w1.cell? ⟨w.heap.size, 1, none⟩ = some (.int .i64 ob) := keepc hb1 (by go_simp)
      have q2 : w1.cell? ⟨w.heap.size, 2, none⟩ = some (.int .i64 v) := keepc hb1 (by go_simp)
      have q3 : w1.cell? ⟨w.heap.size, 3, none⟩ = some (.bool b) := keepc hb1 (by go_simp)
      have z1 : w.heap.size < w1.heap.size := World.block_lt_of_cell? w1 _ q0
      go_wp2_with fail
      refine (l01Num_calls _ _).mono ?_
      rintro e w2 ⟨rfl, hbw2⟩
      rw [hdo]
      have r0 := keepc hbw2 q0
      have r1 := keepc hbw2 q1
      have r2 := keepc hbw2 q2
      have r3 := keepc hbw2 q3
      clear q0 q1 q2 q3
      have zw2 : w.heap.size < w2.heap.size := World.block_lt_of_cell? _ _ r0
      go_wp2_with fail
      refine (l01Num_calls _ _).mono ?_
      rintro e w3 ⟨rfl, hbw3⟩
      rw [hdn]
      have s0 := keepc hbw3 r0
      have s1 := keepc hbw3 r1
      have s2 := keepc hbw3 r2
      have s3 := keepc hbw3 r3
      clear r0 r1 r2 r3
      have zw3 : w.heap.size < w3.heap.size := World.block_lt_of_cell? _ _ s0
      obtain ⟨T, hT⟩ : ∃ T, numText ob = T := ⟨_, rfl⟩
      have hTs : T.size ≤ 10 := by rw [← hT]; exact numText_size _
      have hs0 : ¬ (9223372036854775807 < 6 + 1 + T.size) := by omega
      have hs1 : ¬ (9223372036854775807 < 7 + T.size) := by omega
      have HT := Lib.hid hT; clear hT hTs
      go_wp2_with fail
      refine (spec_NumText_calls _ _).mono ?_
      rintro e wa ⟨rfl, hba⟩
      rw [HT.out]
      have a0 : wa.cell? ⟨w.heap.size, 0, none⟩ = _ := keepc (bel : Below w3.heap.size w3 wa) s0
      have a1 : wa.cell? ⟨w.heap.size, 1, none⟩ = _ := keepc (bel : Below w3.heap.size w3 wa) s1
      have a2 : wa.cell? ⟨w.heap.size, 2, none⟩ = _ := keepc (bel : Below w3.heap.size w3 wa) s2
      have a3 : wa.cell? ⟨w.heap.size, 3, none⟩ = _ := keepc (bel : Below w3.heap.size w3 wa) s3
      clear s0 s1 s2 s3
      have za : w.heap.size < wa.heap.size := World.block_lt_of_cell? _ _ a0
      have HE : Hid (R = itemWord 5 ++ sp ++ T) := Lib.hid (by
        rw [HR.out, show itemWords 5 ob v b = [itemWord 5, numText ob] by simp [itemWords], joined_yes]
        · rw [show [itemWord 5, numText ob] = [itemWord 5] ++ [numText ob] from rfl, joinB_snoc (by simp), joinB_one, HT.out]
        · intro y hy
          simp only [List.mem_cons, List.not_mem_nil, or_false] at hy
          rcases hy with rfl | rfl
          · decide
          · exact numText_pos HON.out)
      go_wp2
      go_ret
      rw [HE.out]
      refine ⟨?_, bel⟩
      first | rfl | (simp only [ByteArray.append_assoc]; rfl)
    · have HR : Hid (R = joined (itemWords 6 ob v b) sp) := HR0; clear HR0
      by_cases ho : 0 ≤ ob ∧ ob ≤ 4294967295
      rotate_left
      · have hdo : decide (0 ≤ ob ∧ ob ≤ 4294967295) = false := decide_eq_false ho
        have HO := Lib.hid (numText_none ho); clear ho HD
        go_enter Tryd.func14, Tryd.ntmps14
        go_wp2_with fail
        refine (spec_ItemOk_calls ⟨6, ob, v, b⟩ [_, _, _, _] _ (kItem_mk _ _)).mono ?_
        rintro e w1 ⟨rfl, hb1⟩
        rw [hok]
        have q0 : w1.cell? ⟨w.heap.size, 0, none⟩ = some (.int .i64 6) := keepc hb1 (by go_simp)
        have q1 : w1.cell? ⟨w.heap.size, 1, none⟩ = some (.int .i64 ob) := keepc hb1 (by go_simp)
        have q2 : w1.cell? ⟨w.heap.size, 2, none⟩ = some (.int .i64 v) := keepc hb1 (by go_simp)
        have q3 : w1.cell? ⟨w.heap.size, 3, none⟩ = some (.bool b) := keepc hb1 (by go_simp)
        have z1 : w.heap.size < w1.heap.size := World.block_lt_of_cell? w1 _ q0
        go_wp2_with fail
        refine (l01Num_calls _ _).mono ?_
        rintro e w2 ⟨rfl, hbw2⟩
        rw [hdo]
        have r0 := keepc hbw2 q0
        have r1 := keepc hbw2 q1
        have r2 := keepc hbw2 q2
        have r3 := keepc hbw2 q3
        clear q0 q1 q2 q3
        have zw2 : w.heap.size < w2.heap.size := World.block_lt_of_cell? _ _ r0
        go_wp2
        go_ret
        rw [HR.out, joined_no (y := numText ob) (by simp [itemWords]) HO.out]
        exact ⟨rfl, bel⟩
      have hdo : decide (0 ≤ ob ∧ ob ≤ 4294967295) = true := decide_eq_true ho
      have HON := Lib.hid ho; clear ho
      have hv : v ≠ -1 := by have := HD.out; omega
      have hdv : (v != -1) = true := by simpa using hv
      have hn : 0 ≤ v ∧ v ≤ 4294967295 := by have := HD.out; omega
      have hdn : decide (0 ≤ v ∧ v ≤ 4294967295) = true := decide_eq_true hn
      have HVN := Lib.hid hn; clear hn HD hv
      go_enter Tryd.func14, Tryd.ntmps14
      go_wp2_with fail
      refine (spec_ItemOk_calls ⟨6, ob, v, b⟩ [_, _, _, _] _ (kItem_mk _ _)).mono ?_
      rintro e w1 ⟨rfl, hb1⟩
      rw [hok]
      have q0 : w1.cell? ⟨w.heap.size, 0, none⟩ = some (.int .i64 6) := keepc hb1 (by go_simp)
      have q1 : w1.cell? ⟨w.heap.size, 1, none⟩ = some (.int .i64 ob) := keepc hb1 (by go_simp)
      have q2 : w1.cell? ⟨w.heap.size, 2, none⟩ = some (.int .i64 v) := keepc hb1 (by go_simp)
      have q3 : w1.cell? ⟨w.heap.size, 3, none⟩ = some (.bool b) := keepc hb1 (by go_simp)
      have z1 : w.heap.size < w1.heap.size := World.block_lt_of_cell? w1 _ q0
      go_wp2_with fail
      refine (l01Num_calls _ _).mono ?_
      rintro e w2 ⟨rfl, hbw2⟩
      rw [hdo]
      have r0 := keepc hbw2 q0
      have r1 := keepc hbw2 q1
      have r2 := keepc hbw2 q2
      have r3 := keepc hbw2 q3
      clear q0 q1 q2 q3
      have zw2 : w.heap.size < w2.heap.size := World.block_lt_of_cell? _ _ r0
      go_wp2_with fail
      refine (l01Num_calls _ _).mono ?_
      rintro e w3 ⟨rfl, hbw3⟩
      rw [hdn]
      have s0 := keepc hbw3 r0
      have s1 := keepc hbw3 r1
      have s2 := keepc hbw3 r2
      have s3 := keepc hbw3 r3
      clear r0 r1 r2 r3
      have zw3 : w.heap.size < w3.heap.size := World.block_lt_of_cell? _ _ s0
      obtain ⟨T, hT⟩ : ∃ T, numText ob = T := ⟨_, rfl⟩
      have hTs : T.size ≤ 10 := by rw [← hT]; exact numText_size _
      have hs0 : ¬ (9223372036854775807 < 8 + 1 + T.size) := by omega
      have hs1 : ¬ (9223372036854775807 < 9 + T.size) := by omega
      have HT := Lib.hid hT; clear hT hTs
      go_wp2_with fail
      refine (spec_NumText_calls _ _).mono ?_
      rintro e wa ⟨rfl, hba⟩
      rw [HT.out]
      have a0 : wa.cell? ⟨w.heap.size, 0, none⟩ = _ := keepc (bel : Below w3.heap.size w3 wa) s0
      have a1 : wa.cell? ⟨w.heap.size, 1, none⟩ = _ := keepc (bel : Below w3.heap.size w3 wa) s1
      have a2 : wa.cell? ⟨w.heap.size, 2, none⟩ = _ := keepc (bel : Below w3.heap.size w3 wa) s2
      have a3 : wa.cell? ⟨w.heap.size, 3, none⟩ = _ := keepc (bel : Below w3.heap.size w3 wa) s3
      clear s0 s1 s2 s3
      have za : w.heap.size < wa.heap.size := World.block_lt_of_cell? _ _ a0
      have HE : Hid (R = itemWord 6 ++ sp ++ T) := Lib.hid (by
        rw [HR.out, show itemWords 6 ob v b = [itemWord 6, numText ob] by simp [itemWords], joined_yes]
        · rw [show [itemWord 6, numText ob] = [itemWord 6] ++ [numText ob] from rfl, joinB_snoc (by simp), joinB_one, HT.out]
        · intro y hy
          simp only [List.mem_cons, List.not_mem_nil, or_false] at hy
          rcases hy with rfl | rfl
          · decide
          · exact numText_pos HON.out)
      go_wp2
      go_ret
      rw [HE.out]
      refine ⟨?_, bel⟩
      first | rfl | (simp only [ByteArray.append_assoc]; rfl)
    · have HR : Hid (R = joined (itemWords 7 ob v b) sp) := HR0; clear HR0
      by_cases ho : 0 ≤ ob ∧ ob ≤ 4294967295
      rotate_left
      · have hdo : decide (0 ≤ ob ∧ ob ≤ 4294967295) = false := decide_eq_false ho
        have HO := Lib.hid (numText_none ho); clear ho HD
        go_enter Tryd.func14, Tryd.ntmps14
        go_wp2_with fail
        refine (spec_ItemOk_calls ⟨7, ob, v, b⟩ [_, _, _, _] _ (kItem_mk _ _)).mono ?_
        rintro e w1 ⟨rfl, hb1⟩
        rw [hok]
        have q0 : w1.cell? ⟨w.heap.size, 0, none⟩ = some (.int .i64 7) := keepc hb1 (by go_simp)
        have q1 : w1.cell? ⟨w.heap.size, 1, none⟩ = some (.int .i64 ob) := keepc hb1 (by go_simp)
        have q2 : w1.cell? ⟨w.heap.size, 2, none⟩ = some (.int .i64 v) := keepc hb1 (by go_simp)
        have q3 : w1.cell? ⟨w.heap.size, 3, none⟩ = some (.bool b) := keepc hb1 (by go_simp)
        have z1 : w.heap.size < w1.heap.size := World.block_lt_of_cell? w1 _ q0
        go_wp2_with fail
        refine (l01Num_calls _ _).mono ?_
        rintro e w2 ⟨rfl, hbw2⟩
        rw [hdo]
        have r0 := keepc hbw2 q0
        have r1 := keepc hbw2 q1
        have r2 := keepc hbw2 q2
        have r3 := keepc hbw2 q3
        clear q0 q1 q2 q3
        have zw2 : w.heap.size < w2.heap.size := World.block_lt_of_cell? _ _ r0
        go_wp2
        go_ret
        rw [HR.out, joined_no (y := numText ob) (by simp [itemWords]) HO.out]
        exact ⟨rfl, bel⟩
      have hdo : decide (0 ≤ ob ∧ ob ≤ 4294967295) = true := decide_eq_true ho
      have HON := Lib.hid ho; clear ho
      have hv : v ≠ -1 := by have := HD.out; omega
      have hdv : (v != -1) = true := by simpa using hv
      by_cases hn : 0 ≤ v ∧ v ≤ 4294967295
      rotate_left
      · have hdn : decide (0 ≤ v ∧ v ≤ 4294967295) = false := decide_eq_false hn
        have HV : Hid (valT v = ⟨#[]⟩) := Lib.hid (by unfold valT; rw [if_neg hv]; exact numText_none hn); clear hn HD hv
        go_enter Tryd.func14, Tryd.ntmps14
        go_wp2_with fail
        refine (spec_ItemOk_calls ⟨7, ob, v, b⟩ [_, _, _, _] _ (kItem_mk _ _)).mono ?_
        rintro e w1 ⟨rfl, hb1⟩
        rw [hok]
        have q0 : w1.cell? ⟨w.heap.size, 0, none⟩ = some (.int .i64 7) := keepc hb1 (by go_simp)
        have q1 : w1.cell? ⟨w.heap.size, 1, none⟩ = some (.int .i64 ob) := keepc hb1 (by go_simp)
        have q2 : w1.cell? ⟨w.heap.size, 2, none⟩ = some (.int .i64 v) := keepc hb1 (by go_simp)
        have q3 : w1.cell? ⟨w.heap.size, 3, none⟩ = some (.bool b) := keepc hb1 (by go_simp)
        have z1 : w.heap.size < w1.heap.size := World.block_lt_of_cell? w1 _ q0
        go_wp2_with fail
        refine (l01Num_calls _ _).mono ?_
        rintro e w2 ⟨rfl, hbw2⟩
        rw [hdo]
        have r0 := keepc hbw2 q0
        have r1 := keepc hbw2 q1
        have r2 := keepc hbw2 q2
        have r3 := keepc hbw2 q3
        clear q0 q1 q2 q3
        have zw2 : w.heap.size < w2.heap.size := World.block_lt_of_cell? _ _ r0
        go_wp2_with fail
        refine (l01Num_calls _ _).mono ?_
        rintro e w3 ⟨rfl, hbw3⟩
        rw [hdn]
        have s0 := keepc hbw3 r0
        have s1 := keepc hbw3 r1
        have s2 := keepc hbw3 r2
        have s3 := keepc hbw3 r3
        clear r0 r1 r2 r3
        have zw3 : w.heap.size < w3.heap.size := World.block_lt_of_cell? _ _ s0
        go_wp2
        go_ret
        rw [HR.out, joined_no (y := valT v) (by simp [itemWords]) HV.out]
        exact ⟨rfl, bel⟩
      have hdn : decide (0 ≤ v ∧ v ≤ 4294967295) = true := decide_eq_true hn
      have HVN := Lib.hid hn; clear hn HD hv
      go_enter Tryd.func14, Tryd.ntmps14
      go_wp2_with fail
      refine (spec_ItemOk_calls ⟨7, ob, v, b⟩ [_, _, _, _] _ (kItem_mk _ _)).mono ?_
      rintro e w1 ⟨rfl, hb1⟩
      rw [hok]
      have q0 : w1.cell? ⟨w.heap.size, 0, none⟩ = some (.int .i64 7) := keepc hb1 (by go_simp)
      have q1 : w1.cell? ⟨w.heap.size, 1, none⟩ = some (.int .i64 ob) := keepc hb1 (by go_simp)
      have q2 : w1.cell? ⟨w.heap.size, 2, none⟩ = some (.int .i64 v) := keepc hb1 (by go_simp)
      have q3 : w1.cell? ⟨w.heap.size, 3, none⟩ = some (.bool b) := keepc hb1 (by go_simp)
      have z1 : w.heap.size < w1.heap.size := World.block_lt_of_cell? w1 _ q0
      go_wp2_with fail
      refine (l01Num_calls _ _).mono ?_
      rintro e w2 ⟨rfl, hbw2⟩
      rw [hdo]
      have r0 := keepc hbw2 q0
      have r1 := keepc hbw2 q1
      have r2 := keepc hbw2 q2
      have r3 := keepc hbw2 q3
      clear q0 q1 q2 q3
      have zw2 : w.heap.size < w2.heap.size := World.block_lt_of_cell? _ _ r0
      go_wp2_with fail
      refine (l01Num_calls _ _).mono ?_
      rintro e w3 ⟨rfl, hbw3⟩
      rw [hdn]
      have s0 := keepc hbw3 r0
      have s1 := keepc hbw3 r1
      have s2 := keepc hbw3 r2
      have s3 := keepc hbw3 r3
      clear r0 r1 r2 r3
      have zw3 : w.heap.size < w3.heap.size := World.block_lt_of_cell? _ _ s0
      obtain ⟨T, hT⟩ : ∃ T, numText ob = T := ⟨_, rfl⟩
      have hTs : T.size ≤ 10 := by rw [← hT]; exact numText_size _
      obtain ⟨U, hU⟩ : ∃ U, valT v = U := ⟨_, rfl⟩
      have hUs : U.size ≤ 10 := by rw [← hU]; unfold valT; split; decide; exact numText_size _
      have hs0 : ¬ (9223372036854775807 < 7 + 1 + T.size) := by omega
      have hs1 : ¬ (9223372036854775807 < 8 + T.size) := by omega
      have hs2 : ¬ (9223372036854775807 < 7 + 1 + T.size + 1) := by omega
      have hs3 : ¬ (9223372036854775807 ≤ 7 + 1 + T.size) := by omega
      have hs4 : ¬ (9223372036854775807 < 7 + 1 + T.size + 1 + U.size) := by omega
      have hs5 : ¬ (9223372036854775807 < 8 + T.size + 1) := by omega
      have hs6 : ¬ (9223372036854775807 ≤ 8 + T.size) := by omega
      have hs7 : ¬ (9223372036854775807 < 8 + T.size + 1 + U.size) := by omega
      have HT := Lib.hid hT; clear hT hTs
      have HU := Lib.hid hU; clear hU hUs
      go_wp2_with fail
      refine (spec_NumText_calls _ _).mono ?_
      rintro e wa ⟨rfl, hba⟩
      rw [HT.out]
      have a0 : wa.cell? ⟨w.heap.size, 0, none⟩ = _ := keepc (bel : Below w3.heap.size w3 wa) s0
      have a1 : wa.cell? ⟨w.heap.size, 1, none⟩ = _ := keepc (bel : Below w3.heap.size w3 wa) s1
      have a2 : wa.cell? ⟨w.heap.size, 2, none⟩ = _ := keepc (bel : Below w3.heap.size w3 wa) s2
      have a3 : wa.cell? ⟨w.heap.size, 3, none⟩ = _ := keepc (bel : Below w3.heap.size w3 wa) s3
      clear s0 s1 s2 s3
      have za : w.heap.size < wa.heap.size := World.block_lt_of_cell? _ _ a0
      go_wp2_with fail
      refine (l05Num_calls _ _).mono ?_
      rintro e wb ⟨rfl, hbb⟩
      rw [HU.out]
      have b0 : wb.cell? ⟨w.heap.size, 0, none⟩ = _ := keepc (bel : Below wa.heap.size wa wb) a0
      have b1 : wb.cell? ⟨w.heap.size, 1, none⟩ = _ := keepc (bel : Below wa.heap.size wa wb) a1
      have b2 : wb.cell? ⟨w.heap.size, 2, none⟩ = _ := keepc (bel : Below wa.heap.size wa wb) a2
      have b3 : wb.cell? ⟨w.heap.size, 3, none⟩ = _ := keepc (bel : Below wa.heap.size wa wb) a3
      clear a0 a1 a2 a3
      have zb : w.heap.size < wb.heap.size := World.block_lt_of_cell? _ _ b0
      have HE : Hid (R = itemWord 7 ++ sp ++ T ++ sp ++ U) := Lib.hid (by
        rw [HR.out, show itemWords 7 ob v b = [itemWord 7, numText ob, valT v] by simp [itemWords], joined_yes]
        · rw [show [itemWord 7, numText ob, valT v] = [itemWord 7, numText ob] ++ [valT v] from rfl, joinB_snoc (by simp), show [itemWord 7, numText ob] = [itemWord 7] ++ [numText ob] from rfl, joinB_snoc (by simp), joinB_one, HT.out, HU.out]
        · intro y hy
          simp only [List.mem_cons, List.not_mem_nil, or_false] at hy
          rcases hy with rfl | rfl | rfl
          · decide
          · exact numText_pos HON.out
          · exact valT_pos (.inr HVN.out))
      go_wp2
      go_ret
      rw [HE.out]
      refine ⟨?_, bel⟩
      first | rfl | (simp only [ByteArray.append_assoc]; rfl)
    · have HR : Hid (R = joined (itemWords 8 ob v b) sp) := HR0; clear HR0
      have ho : 0 ≤ ob ∧ ob ≤ 4294967295 := by have := HD.out; omega
      have hdo : decide (0 ≤ ob ∧ ob ≤ 4294967295) = true := decide_eq_true ho
      have HON := Lib.hid ho; clear ho
      have hv : v ≠ -1 := by have := HD.out; omega
      have hdv : (v != -1) = true := by simpa using hv
      have hn : 0 ≤ v ∧ v ≤ 4294967295 := by have := HD.out; omega
      have hdn : decide (0 ≤ v ∧ v ≤ 4294967295) = true := decide_eq_true hn
      have HVN := Lib.hid hn; clear hn HD hv
      go_enter Tryd.func14, Tryd.ntmps14
      go_wp2_with fail
      refine (spec_ItemOk_calls ⟨8, ob, v, b⟩ [_, _, _, _] _ (kItem_mk _ _)).mono ?_
      rintro e w1 ⟨rfl, hb1⟩
      rw [hok]
      have q0 : w1.cell? ⟨w.heap.size, 0, none⟩ = some (.int .i64 8) := keepc hb1 (by go_simp)
      have q1 : w1.cell? ⟨w.heap.size, 1, none⟩ = some (.int .i64 ob) := keepc hb1 (by go_simp)
      have q2 : w1.cell? ⟨w.heap.size, 2, none⟩ = some (.int .i64 v) := keepc hb1 (by go_simp)
      have q3 : w1.cell? ⟨w.heap.size, 3, none⟩ = some (.bool b) := keepc hb1 (by go_simp)
      have z1 : w.heap.size < w1.heap.size := World.block_lt_of_cell? w1 _ q0
      go_wp2_with fail
      refine (l01Num_calls _ _).mono ?_
      rintro e w2 ⟨rfl, hbw2⟩
      rw [hdo]
      have r0 := keepc hbw2 q0
      have r1 := keepc hbw2 q1
      have r2 := keepc hbw2 q2
      have r3 := keepc hbw2 q3
      clear q0 q1 q2 q3
      have zw2 : w.heap.size < w2.heap.size := World.block_lt_of_cell? _ _ r0
      go_wp2_with fail
      refine (l01Num_calls _ _).mono ?_
      rintro e w3 ⟨rfl, hbw3⟩
      rw [hdn]
      have s0 := keepc hbw3 r0
      have s1 := keepc hbw3 r1
      have s2 := keepc hbw3 r2
      have s3 := keepc hbw3 r3
      clear r0 r1 r2 r3
      have zw3 : w.heap.size < w3.heap.size := World.block_lt_of_cell? _ _ s0
      obtain ⟨U, hU⟩ : ∃ U, valT v = U := ⟨_, rfl⟩
      have hUs : U.size ≤ 10 := by rw [← hU]; unfold valT; split; decide; exact numText_size _
      have hs0 : ¬ (9223372036854775807 < 7 + 1 + U.size) := by omega
      have hs1 : ¬ (9223372036854775807 < 8 + U.size) := by omega
      have HU := Lib.hid hU; clear hU hUs
      go_wp2_with fail
      refine (l05Num_calls _ _).mono ?_
      rintro e wb ⟨rfl, hbb⟩
      rw [HU.out]
      have b0 : wb.cell? ⟨w.heap.size, 0, none⟩ = _ := keepc (bel : Below w3.heap.size w3 wb) s0
      have b1 : wb.cell? ⟨w.heap.size, 1, none⟩ = _ := keepc (bel : Below w3.heap.size w3 wb) s1
      have b2 : wb.cell? ⟨w.heap.size, 2, none⟩ = _ := keepc (bel : Below w3.heap.size w3 wb) s2
      have b3 : wb.cell? ⟨w.heap.size, 3, none⟩ = _ := keepc (bel : Below w3.heap.size w3 wb) s3
      clear s0 s1 s2 s3
      have zb : w.heap.size < wb.heap.size := World.block_lt_of_cell? _ _ b0
      have HE : Hid (R = itemWord 8 ++ sp ++ U) := Lib.hid (by
        rw [HR.out, show itemWords 8 ob v b = [itemWord 8, valT v] by simp [itemWords], joined_yes]
        · rw [show [itemWord 8, valT v] = [itemWord 8] ++ [valT v] from rfl, joinB_snoc (by simp), joinB_one, HU.out]
        · intro y hy
          simp only [List.mem_cons, List.not_mem_nil, or_false] at hy
          rcases hy with rfl | rfl
          · decide
          · exact valT_pos (.inr HVN.out))
      go_wp2
      go_ret
      rw [HE.out]
      refine ⟨?_, bel⟩
      first | rfl | (simp only [ByteArray.append_assoc]; rfl)
    · have HR : Hid (R = joined (itemWords 9 ob v b) sp) := HR0; clear HR0
      have ho : 0 ≤ ob ∧ ob ≤ 4294967295 := by have := HD.out; omega
      have hdo : decide (0 ≤ ob ∧ ob ≤ 4294967295) = true := decide_eq_true ho
      have HON := Lib.hid ho; clear ho
      have hv : v ≠ -1 := by have := HD.out; omega
      have hdv : (v != -1) = true := by simpa using hv
      have hn : 0 ≤ v ∧ v ≤ 4294967295 := by have := HD.out; omega
      have hdn : decide (0 ≤ v ∧ v ≤ 4294967295) = true := decide_eq_true hn
      have HVN := Lib.hid hn; clear hn HD hv
      go_enter Tryd.func14, Tryd.ntmps14
      go_wp2_with fail
      refine (spec_ItemOk_calls ⟨9, ob, v, b⟩ [_, _, _, _] _ (kItem_mk _ _)).mono ?_
      rintro e w1 ⟨rfl, hb1⟩
      rw [hok]
      have q0 : w1.cell? ⟨w.heap.size, 0, none⟩ = some (.int .i64 9) := keepc hb1 (by go_simp)
      have q1 : w1.cell? ⟨w.heap.size, 1, none⟩ = some (.int .i64 ob) := keepc hb1 (by go_simp)
      have q2 : w1.cell? ⟨w.heap.size, 2, none⟩ = some (.int .i64 v) := keepc hb1 (by go_simp)
      have q3 : w1.cell? ⟨w.heap.size, 3, none⟩ = some (.bool b) := keepc hb1 (by go_simp)
      have z1 : w.heap.size < w1.heap.size := World.block_lt_of_cell? w1 _ q0
      go_wp2_with fail
      refine (l01Num_calls _ _).mono ?_
      rintro e w2 ⟨rfl, hbw2⟩
      rw [hdo]
      have r0 := keepc hbw2 q0
      have r1 := keepc hbw2 q1
      have r2 := keepc hbw2 q2
      have r3 := keepc hbw2 q3
      clear q0 q1 q2 q3
      have zw2 : w.heap.size < w2.heap.size := World.block_lt_of_cell? _ _ r0
      go_wp2_with fail
      refine (l01Num_calls _ _).mono ?_
      rintro e w3 ⟨rfl, hbw3⟩
      rw [hdn]
      have s0 := keepc hbw3 r0
      have s1 := keepc hbw3 r1
      have s2 := keepc hbw3 r2
      have s3 := keepc hbw3 r3
      clear r0 r1 r2 r3
      have zw3 : w.heap.size < w3.heap.size := World.block_lt_of_cell? _ _ s0
      have HE : Hid (R = itemWord 9) := Lib.hid (by
        rw [HR.out, show itemWords 9 ob v b = [itemWord 9] by simp [itemWords], joined_yes]
        · rw [joinB_one]
        · intro y hy
          simp only [List.mem_cons, List.not_mem_nil, or_false] at hy
          rcases hy with rfl
          · decide)
      go_wp2
      go_ret
      rw [HE.out]
      refine ⟨?_, bel⟩
      first | rfl | (simp only [ByteArray.append_assoc]; rfl)
    · have HR : Hid (R = joined (itemWords 10 ob v b) sp) := HR0; clear HR0
      have ho : 0 ≤ ob ∧ ob ≤ 4294967295 := by have := HD.out; omega
      have hdo : decide (0 ≤ ob ∧ ob ≤ 4294967295) = true := decide_eq_true ho
      have HON := Lib.hid ho; clear ho
      have hv : v ≠ -1 := by have := HD.out; omega
      have hdv : (v != -1) = true := by simpa using hv
      have hn : 0 ≤ v ∧ v ≤ 4294967295 := by have := HD.out; omega
      have hdn : decide (0 ≤ v ∧ v ≤ 4294967295) = true := decide_eq_true hn
      have HVN := Lib.hid hn; clear hn HD hv
      go_enter Tryd.func14, Tryd.ntmps14
      go_wp2_with fail
      refine (spec_ItemOk_calls ⟨10, ob, v, b⟩ [_, _, _, _] _ (kItem_mk _ _)).mono ?_
      rintro e w1 ⟨rfl, hb1⟩
      rw [hok]
      have q0 : w1.cell? ⟨w.heap.size, 0, none⟩ = some (.int .i64 10) := keepc hb1 (by go_simp)
      have q1 : w1.cell? ⟨w.heap.size, 1, none⟩ = some (.int .i64 ob) := keepc hb1 (by go_simp)
      have q2 : w1.cell? ⟨w.heap.size, 2, none⟩ = some (.int .i64 v) := keepc hb1 (by go_simp)
      have q3 : w1.cell? ⟨w.heap.size, 3, none⟩ = some (.bool b) := keepc hb1 (by go_simp)
      have z1 : w.heap.size < w1.heap.size := World.block_lt_of_cell? w1 _ q0
      go_wp2_with fail
      refine (l01Num_calls _ _).mono ?_
      rintro e w2 ⟨rfl, hbw2⟩
      rw [hdo]
      have r0 := keepc hbw2 q0
      have r1 := keepc hbw2 q1
      have r2 := keepc hbw2 q2
      have r3 := keepc hbw2 q3
      clear q0 q1 q2 q3
      have zw2 : w.heap.size < w2.heap.size := World.block_lt_of_cell? _ _ r0
      go_wp2_with fail
      refine (l01Num_calls _ _).mono ?_
      rintro e w3 ⟨rfl, hbw3⟩
      rw [hdn]
      have s0 := keepc hbw3 r0
      have s1 := keepc hbw3 r1
      have s2 := keepc hbw3 r2
      have s3 := keepc hbw3 r3
      clear r0 r1 r2 r3
      have zw3 : w.heap.size < w3.heap.size := World.block_lt_of_cell? _ _ s0
      obtain ⟨U, hU⟩ : ∃ U, valT v = U := ⟨_, rfl⟩
      have hUs : U.size ≤ 10 := by rw [← hU]; unfold valT; split; decide; exact numText_size _
      have hs0 : ¬ (9223372036854775807 < 4 + 1 + U.size) := by omega
      have hs1 : ¬ (9223372036854775807 < 5 + U.size) := by omega
      have HU := Lib.hid hU; clear hU hUs
      go_wp2_with fail
      refine (l05Num_calls _ _).mono ?_
      rintro e wb ⟨rfl, hbb⟩
      rw [HU.out]
      have b0 : wb.cell? ⟨w.heap.size, 0, none⟩ = _ := keepc (bel : Below w3.heap.size w3 wb) s0
      have b1 : wb.cell? ⟨w.heap.size, 1, none⟩ = _ := keepc (bel : Below w3.heap.size w3 wb) s1
      have b2 : wb.cell? ⟨w.heap.size, 2, none⟩ = _ := keepc (bel : Below w3.heap.size w3 wb) s2
      have b3 : wb.cell? ⟨w.heap.size, 3, none⟩ = _ := keepc (bel : Below w3.heap.size w3 wb) s3
      clear s0 s1 s2 s3
      have zb : w.heap.size < wb.heap.size := World.block_lt_of_cell? _ _ b0
      have HE : Hid (R = itemWord 10 ++ sp ++ U) := Lib.hid (by
        rw [HR.out, show itemWords 10 ob v b = [itemWord 10, valT v] by simp [itemWords], joined_yes]
        · rw [show [itemWord 10, valT v] = [itemWord 10] ++ [valT v] from rfl, joinB_snoc (by simp), joinB_one, HU.out]
        · intro y hy
          simp only [List.mem_cons, List.not_mem_nil, or_false] at hy
          rcases hy with rfl | rfl
          · decide
          · exact valT_pos (.inr HVN.out))
      go_wp2
      go_ret
      rw [HE.out]
      refine ⟨?_, bel⟩
      first | rfl | (simp only [ByteArray.append_assoc]; rfl)
end Go.Proofs.YtplkfpjcfalifaaDoor.Wd

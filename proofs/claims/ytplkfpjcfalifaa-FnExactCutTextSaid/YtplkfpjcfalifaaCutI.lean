/- The program's CutText. Conditions: the text is of at most 1048576 bytes. -/
import Derived.Test.YtplkfpjcfalifaaCutP
import Derived.Test.YtplkfpjcfalifaaWd
import Derived.Test.YtplkfpjcfalifaaShelf
namespace Go.Proofs.Ytplkfpjcfalifaa.Wd
open Go.RowKit
set_option linter.unusedVariables false
set_option linter.unusedSimpArgs false
set_option maxHeartbeats 2000000
set_option maxRecDepth 100000
/-- strings.Cut at a line's end. -/
theorem lite_cut_calls (x : ByteArray) (w : World) (hs : x.size ≤ 1048576) :
    Calls Try.prog 66 #[.string x, .string ⟨#[10]⟩] w fun e w' => e = .returned (if Lib.indexByte x.data.toList 10 < 0 then .tuple #[.string x, .string ⟨#[]⟩, .bool false] else .tuple #[.string (x.extract 0 (Lib.indexByte x.data.toList 10).toNat), .string (x.extract ((Lib.indexByte x.data.toList 10).toNat + 1) x.size), .bool true]) ∧ Below w.heap.size w w' := by
  have hge := Lib.indexByte_ge x.data.toList 10
  by_cases hm : Lib.indexByte x.data.toList 10 = -1
  · rw [hm, if_pos (by decide)]
    have HM := Lib.hid hm; clear hm hge
    go_enter Try.func66, Try.ntmps66
    go_wp2_with fail
    refine (stringslite_Index_one x 10 _).mono ?_
    rintro e w' ⟨rfl, rfl⟩
    rw [HM.out]
    go_wp2
    go_ret3
    exact ⟨rfl, bel⟩
  · obtain ⟨o, ho⟩ := Int.eq_ofNat_of_zero_le (show 0 ≤ Lib.indexByte x.data.toList 10 by omega)
    have hl : o < x.size := by
      have := (List.getElem?_eq_some_iff.1 (Lib.indexByte_some ho).1).1
      simpa using this
    rw [ho, if_neg (by omega)]
    have HO := Lib.hid ho; clear ho hm hge
    go_enter Try.func66, Try.ntmps66
    go_wp2_with fail
    refine (stringslite_Index_one x 10 _).mono ?_
    rintro e w' ⟨rfl, rfl⟩
    rw [HO.out]
    go_wp2_with fail
    go_quiet (fail)
    go_wp2
    go_ret3
    exact ⟨rfl, bel⟩
theorem cut_calls (x : ByteArray) (w : World) (hs : x.size ≤ 1048576) :
    Calls Try.prog 33 #[.string x, .string ⟨#[10]⟩] w fun e w' => e = .returned (if Lib.indexByte x.data.toList 10 < 0 then .tuple #[.string x, .string ⟨#[]⟩, .bool false] else .tuple #[.string (x.extract 0 (Lib.indexByte x.data.toList 10).toNat), .string (x.extract ((Lib.indexByte x.data.toList 10).toNat + 1) x.size), .bool true]) ∧ Below w.heap.size w w' := by
  by_cases hm : Lib.indexByte x.data.toList 10 < 0
  · rw [if_pos hm]
    have HM := Lib.hid hm; clear hm
    go_enter Try.func33, Try.ntmps33
    go_wp2_with fail
    refine (lite_cut_calls x _ hs).mono ?_
    rintro e w1 ⟨rfl, hb1⟩
    rw [if_pos HM.out]
    go_wp2
    go_ret3
    exact ⟨rfl, bel⟩
  · rw [if_neg hm]
    have HM : Hid (¬ Lib.indexByte x.data.toList 10 < 0) := Lib.hid hm; clear hm
    go_enter Try.func33, Try.ntmps33
    go_wp2_with fail
    refine (lite_cut_calls x _ hs).mono ?_
    rintro e w1 ⟨rfl, hb1⟩
    rw [if_neg (by have := HM.out; omega)]
    go_wp2
    go_ret3
    exact ⟨rfl, bel⟩
theorem impl_CutText_calls (s : ByteArray) (w : World) (hs : s.size ≤ 1048576) :
    Calls Try.prog 14 #[.string s] w fun e w' => e = .returned (.tuple #[.string (cutA s), .string (cutB s), .bool (cutC s)]) ∧ Below w.heap.size w w' := by
  go_enter Try.func14, Try.ntmps14
  go_wp2
  go_loopg [5] (s.size + 1) (fun kq v5 w' => ∃ a : Nat, v5 = .int .i64 a ∧ a + kq = s.size + 1 ∧ 1 ≤ kq ∧ a ≤ s.size ∧ Hid (cutAt s 0 = cutAt s a) ∧ Below w.heap.size w w')
  case atStart => exact ⟨0, rfl, by omega, by omega, by omega, Lib.hid rfl, bel⟩
  case round =>
    obtain ⟨a, rfl, hi, hi1, hi2, HP, hb⟩ := hrel
    by_cases hlt : a < s.size
    · have hge := Lib.indexByte_ge (s.extract a s.size).data.toList 10
      by_cases hm : nxt s a < 0
      · have hcut : cutAt s 0 = none := by rw [HP.out, cutAt_none hm]
        have HC := Lib.hid hcut; have HM : Hid (Lib.indexByte (s.extract a s.size).data.toList 10 < 0) := Lib.hid hm; clear hcut hm hge
        go_wp2_with fail
        refine (cut_calls (s.extract a s.size) _ (by rw [ByteArray.size_extract]; omega)).mono ?_
        rintro e w1 ⟨rfl, hb1⟩
        rw [if_pos HM.out]
        go_wp2
        go_ret3
        refine ⟨?_, bel⟩
        unfold cutA cutB cutC
        rw [HC.out]
        rfl
      · obtain ⟨i, hi0⟩ := Int.eq_ofNat_of_zero_le (show 0 ≤ nxt s a by omega)
        have hl := nxt_lt hi0
        have hx1 : (s.extract a s.size).extract 0 i = s.extract a (a + i) := by rw [ByteArray.extract_extract]; congr 1; omega
        have hx2 : (s.extract a s.size).extract (i + 1) (s.extract a s.size).size = s.extract (a + i + 1) s.size := by rw [ByteArray.extract_extract, ByteArray.size_extract]; congr 1; omega
        by_cases hd : s.extract a (a + i) = dashes
        · have e2 : ((s.extract a (a + i)).toList == [45, 45]) = true := by rw [hd, Lib.toList_data]; rfl
          have hi3 : i = 2 := dash_len hl hd
          have hcut : cutAt s 0 = some a := by rw [HP.out]; exact cutAt_hit hi0 hd
          have HC := Lib.hid hcut; have HI := Lib.hid hi3; have HM : Hid (¬ Lib.indexByte (s.extract a s.size).data.toList 10 < 0) := Lib.hid hm; have H0 := Lib.hid hi0; have HX1 := Lib.hid hx1; have HX2 := Lib.hid hx2
          clear hcut hi3 hm hi0 hge hx1 hx2 hd
          go_wp2_with fail
          refine (cut_calls (s.extract a s.size) _ (by rw [ByteArray.size_extract]; omega)).mono ?_
          rintro e w1 ⟨rfl, hb1⟩
          rw [if_neg (by have := HM.out; omega), show Lib.indexByte (s.extract a s.size).data.toList 10 = i from H0.out]
          rw [show ((i : Int)).toNat = i from rfl, HX1.out, HX2.out]
          go_wp2
          go_ret3
          refine ⟨?_, bel⟩
          unfold cutA cutB cutC
          rw [HC.out]
          simp only []
          rw [show a + 3 = a + i + 1 by have := HI.out; omega]
          rfl
        · have e2 : ((s.extract a (a + i)).toList == [45, 45]) = false := by
            rw [Bool.eq_false_iff]; intro h
            exact hd (dash_list (by simpa using h))
          have hcut : cutAt s 0 = cutAt s (a + i + 1) := by rw [HP.out, cutAt_next hi0 hd]
          have hsz : (s.extract a (a + i)).size = i := by rw [ByteArray.size_extract]; omega
          have HC := Lib.hid hcut; have HM : Hid (¬ Lib.indexByte (s.extract a s.size).data.toList 10 < 0) := Lib.hid hm; have H0 := Lib.hid hi0; have HX1 := Lib.hid hx1; have HX2 := Lib.hid hx2
          clear hcut hm hi0 hge hx1 hx2 hd
          obtain ⟨gk, rfl⟩ : ∃ m, gk = m + 1 := ⟨gk - 1, by omega⟩
          go_wp2_with fail
          refine (cut_calls (s.extract a s.size) _ (by rw [ByteArray.size_extract]; omega)).mono ?_
          rintro e w1 ⟨rfl, hb1⟩
          rw [if_neg (by have := HM.out; omega), show Lib.indexByte (s.extract a s.size).data.toList 10 = i from H0.out]
          rw [show ((i : Int)).toNat = i from rfl, HX1.out, HX2.out]
          go_wp2
          go_roundg (gk - i)
          case measure => omega
          case rel => exact ⟨a + i + 1, by go_num, by omega, by omega, by omega, HC, bel⟩
    · have hi' : a = s.size := by omega
      have hcut : cutAt s 0 = none := by
        rw [HP.out]; exact cutAt_none (by rw [nxt_none (fun j h1 h2 => absurd h2 (by omega))]; decide)
      have HC := Lib.hid hcut; clear hcut
      go_wp2
      go_ret3
      refine ⟨?_, bel⟩
      unfold cutA cutB cutC
      rw [HC.out]
      rfl
end Go.Proofs.Ytplkfpjcfalifaa.Wd

/- The reference's CutText. Conditions: the text is of at most 1048576 bytes. -/
import Derived.Test.YtplkfpjcfalifaaCutP
import Derived.Test.YtplkfpjcfalifaaWd
namespace Go.Proofs.Ytplkfpjcfalifaa.Wd
open Go.RowKit
set_option linter.unusedVariables false
set_option linter.unusedSimpArgs false
set_option maxHeartbeats 2000000
set_option maxRecDepth 100000
theorem spec_CutText_calls (s : ByteArray) (w : World) (hs : s.size ≤ 1048576) :
    Calls Try.prog 13 #[.string s] w fun e w' => e = .returned (.tuple #[.string (cutA s), .string (cutB s), .bool (cutC s)]) ∧ Below w.heap.size w w' := by
  go_enter Try.func13, Try.ntmps13
  go_wp2
  go_loopg [5, 6] (s.size + 1) (fun kq v5 v6 w' => ∃ f i : Nat, v5 = .int .i64 f ∧ v6 = .int .i64 i ∧ i + kq = s.size + 1 ∧ i ≤ s.size ∧ f ≤ i ∧ Hid (cutAt s 0 = cutAt s f ∧ ∀ j, f ≤ j → j < i → s.data.toList[j]? ≠ some 10) ∧ Below w.heap.size w w')
  case atStart => exact ⟨0, 0, rfl, rfl, by omega, by omega, by omega, Lib.hid ⟨rfl, fun j _ hj => absurd hj (by omega)⟩, bel⟩
  case round =>
    obtain ⟨f, i, rfl, rfl, hi, hi2, hf, HP, hb⟩ := hrel
    obtain ⟨gk, rfl⟩ : ∃ m, gk = m + 1 := ⟨gk - 1, by omega⟩
    by_cases hlt : i < s.size
    · by_cases hc : s[i] = 10
      · have e1 : ((s[i].toNat : Int) != 10) = false := by rw [hc]; rfl
        have hat : s.data.toList[i]? = some 10 := by rw [data_at hlt, hc]
        have hnx : nxt s f = ((i - f : Nat) : Int) := nxt_eq hf HP.out.2 hat
        by_cases hd : s.extract f i = dashes
        · have e2 : ((s.extract f i).toList == [45, 45]) = true := by rw [hd, Lib.toList_data]; rfl
          have hi3 : i = f + 2 := by
            have := dash_len (s := s) (a := f) (i := i - f) (by omega) (by rw [show f + (i - f) = i by omega]; exact hd)
            omega
          have hcut : cutAt s 0 = some f := by rw [HP.out.1]; exact cutAt_hit hnx (by rw [show f + (i - f) = i by omega]; exact hd)
          have HC := Lib.hid hcut; have HI := Lib.hid hi3; clear hcut hnx hat hc hd hi3
          go_wp2_with fail
          go_quiet (fail)
          go_wp2
          go_ret3
          refine ⟨?_, bdrewN hb _⟩
          unfold cutA cutB cutC
          rw [HC.out]
          simp only []
          rw [show f + 3 = i + 1 by have := HI.out; omega]
          rfl
        · have e2 : ((s.extract f i).toList == [45, 45]) = false := by
            rw [Bool.eq_false_iff]; intro h
            exact hd (dash_list (by simpa using h))
          have hcut : cutAt s 0 = cutAt s (i + 1) := by
            rw [HP.out.1, cutAt_next hnx (by rw [show f + (i - f) = i by omega]; exact hd), show f + (i - f) + 1 = i + 1 by omega]
          have HC := Lib.hid hcut; clear hcut hnx hat hc hd
          go_wp2
          go_roundg gk
          case measure => omega
          case rel => exact ⟨i + 1, i + 1, by go_num, by go_num, by omega, by omega, by omega, Lib.hid ⟨HC.out, fun j h1 h2 => absurd h2 (by omega)⟩, bel⟩
      · have e1 : ((s[i].toNat : Int) != 10) = true := by
          rw [bne_iff_ne]; intro h
          exact hc (UInt8.toNat_inj.1 (by have h2 : s[i].toNat = 10 := by omega
                                          rw [h2]; rfl))
        have hne : s.data.toList[i]? ≠ some 10 := by rw [data_at hlt]; simpa using hc
        have HN := Lib.hid hne; clear hne hc
        go_wp2
        go_roundg gk
        case measure => omega
        case rel => exact ⟨f, i + 1, rfl, by go_num, by omega, by omega, by omega, Lib.hid ⟨HP.out.1, fun j h1 h2 => by
          rcases Nat.lt_succ_iff_lt_or_eq.1 h2 with h | rfl
          · exact HP.out.2 j h1 h
          · exact HN.out⟩, bel⟩
    · have hi' : i = s.size := by omega
      have hcut : cutAt s 0 = none := by
        rw [HP.out.1]; exact cutAt_none (by rw [nxt_none (fun j h1 h2 => HP.out.2 j h1 (by omega))]; decide)
      have HC := Lib.hid hcut; clear hcut
      go_wp2
      go_ret3
      refine ⟨?_, bel⟩
      unfold cutA cutB cutC
      rw [HC.out]
      rfl
end Go.Proofs.Ytplkfpjcfalifaa.Wd

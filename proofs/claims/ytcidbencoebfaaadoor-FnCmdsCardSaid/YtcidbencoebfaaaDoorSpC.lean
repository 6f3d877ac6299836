/- Library functions on texts that are cut at one byte. Conditions: bounds on the sizes. -/
import Derived.Test.YtcidbencoebfaaaDoorTxV
import Derived.Test.YtcidbencoebfaaaDoorShelf
import Derived.Test.YtcidbencoebfaaaDoorBr
namespace Go.Proofs.YtcidbencoebfaaaDoor.Wd
open Go.RowKit Go.Proofs.YtcidbencoebfaaaDoorW.PrintWords
set_option linter.unusedVariables false
set_option linter.unusedSimpArgs false
set_option maxHeartbeats 4000000
set_option maxRecDepth 1000000
def sepOf (a : ByteArray) : UInt8 := a.data.toList.headD 0
theorem sep_one {a : ByteArray} (h : a.size = 1) : a = ⟨#[sepOf a]⟩ := by
  obtain ⟨⟨l⟩⟩ := a
  match l, h with
  | [b], _ => rfl
theorem genSplit1 (s : ByteArray) (c : UInt8) (w : World) (hs : s.size ≤ 1048576) :
    Calls Tryd.prog 52 #[.string s, .string ⟨#[c]⟩, .int .i64 0, .int .i64 (-1)] w fun e w' =>
      e = .returned (.slice (some ⟨w.heap.size, 0, none⟩) (parts c s).length (parts c s).length) ∧ w' = w.alloc (.cells ((parts c s).map Value.string).toArray 9) := by
  have hle := Lib.countB_le ⟨#[c]⟩ (Nat.le_refl 1) s.size s (Nat.le_refl _)
  have hlen := Lib.splitB_all ⟨#[c]⟩ (Nat.le_refl 1) 0 _ s rfl
  have h := Any.strings_genSplit_core (L := { lays146 with }) (by kernel_rfl) s ⟨#[c]⟩ 0 (-1) (Lib.countB s ⟨#[c]⟩ + 1) w (by omega) (Nat.le_refl 1) (Nat.zero_le _)
    (fun x cc hx => (strings_Index_one x c _).mono fun e w' hh => ⟨by rw [hh.1, indexB_one], hh.2⟩)
    ((strings_Count_one s c w).mono fun e w' hh => ⟨by rw [hh.1]; show _ = Ending.returned (Value.int .i64 ((Lib.count s.data.toList [c] : Nat) : Int)); rw [Lib.count_one]; rfl, hh.2⟩) (by decide) (by decide) (by rw [if_pos (by decide)]; omega)
  rw [Nat.add_sub_cancel, hlen] at h
  have e2 : Lib.cellsOf (Lib.splitB ⟨#[c]⟩ 0 (Lib.countB s ⟨#[c]⟩) s) (Lib.countB s ⟨#[c]⟩ + 1) = ((Lib.splitB ⟨#[c]⟩ 0 (Lib.countB s ⟨#[c]⟩) s).map Value.string).toArray := by rw [← hlen]; exact Lib.cellsOf_full _
  rw [e2, split_count, splitB_parts c _ s rfl] at h
  exact h
theorem split1_calls (s : ByteArray) (c : UInt8) (w : World) (hs : s.size ≤ 1048576) :
    Calls Tryd.prog 43 #[.string s, .string ⟨#[c]⟩] w fun e w' =>
      e = .returned (.slice (some ⟨w.heap.size, 0, none⟩) (parts c s).length (parts c s).length) ∧ w' = w.alloc (.cells ((parts c s).map Value.string).toArray 9) := by
  obtain ⟨P, hP⟩ : ∃ P, parts c s = P := ⟨_, rfl⟩
  have h := genSplit1 s c w hs
  rw [hP] at h ⊢
  have H := Lib.hid h; clear h hP
  go_enter Tryd.func43, Tryd.ntmps43
  go_wp2_with fail
  refine H.out.mono ?_
  rintro e w' ⟨rfl, hw⟩
  rw [hw]
  go_wp2
  go_ret
  exact ⟨rfl, rfl⟩
theorem lite_cut1 (s : ByteArray) (c : UInt8) (w : World) (hs : s.size ≤ 1048576) :
    Calls Tryd.prog 47 #[.string s, .string ⟨#[c]⟩] w fun e w' => e = .returned (.tuple #[.string ⟨(Lib.cut s.data.toList [c]).1.toArray⟩, .string ⟨(Lib.cut s.data.toList [c]).2.1.toArray⟩, .bool (Lib.cut s.data.toList [c]).2.2]) ∧ ∃ n, w' = w.drewN n := by
  rcases Lib.indexB_cases s ⟨#[c]⟩ with hix | ⟨i, hix, hroom⟩
  · obtain ⟨e1, e2, e3⟩ := Lib.cutB_miss s ⟨#[c]⟩ hix
    have e1 : (⟨(Lib.cut s.data.toList [c]).1.toArray⟩ : ByteArray) = _ := e1
    have e2 : (⟨(Lib.cut s.data.toList [c]).2.1.toArray⟩ : ByteArray) = _ := e2
    have e3 : (Lib.cut s.data.toList [c]).2.2 = _ := e3
    rw [e1, e2, e3]
    clear e1 e2 e3
    rw [indexB_one] at hix
    have HI := Lib.hid hix; clear hix
    go_enter Tryd.func47, Tryd.ntmps47
    go_wp2_with fail
    refine (stringslite_Index_one s c _).mono ?_
    rintro e w' ⟨rfl, rfl⟩
    rw [HI.out]
    go_wp2
    go_ret3
    exact ⟨rfl, 0, rfl⟩
  · obtain ⟨e1, e2, e3⟩ := Lib.cutB_hit s ⟨#[c]⟩ i hix
    have e1 : (⟨(Lib.cut s.data.toList [c]).1.toArray⟩ : ByteArray) = _ := e1
    have e2 : (⟨(Lib.cut s.data.toList [c]).2.1.toArray⟩ : ByteArray) = _ := e2
    have e3 : (Lib.cut s.data.toList [c]).2.2 = _ := e3
    rw [e1, e2, e3]
    clear e1 e2 e3
    rw [indexB_one] at hix
    have HI := Lib.hid hix; clear hix
    have hroom : i + 1 ≤ s.size := hroom
    rw [show (⟨#[c]⟩ : ByteArray).size = 1 from rfl]
    have c1 : (0 : Int) ≤ ↑i := by omega
    have c2 : (↑i : Int) ≤ ↑s.size := by omega
    have c3 : (0 : Int) ≤ ↑i + 1 := by omega
    have c4 : (↑i + 1 : Int) ≤ ↑s.size := by omega
    have c5 : IntKind.i64.wrap ((i : Int) + 1) = (i : Int) + 1 := wrap_in _ (by omega) (by omega)
    have mixed := lays138.mixed
    go_enter Tryd.func47, Tryd.ntmps47
    go_wp2_with fail
    refine (stringslite_Index_one s c _).mono ?_
    rintro e w' ⟨rfl, rfl⟩
    rw [HI.out]
    go_wp2
    go_region_o
    go_wp2
    go_ret3
    exact ⟨rfl, 1, rfl⟩
theorem cut1_calls (s : ByteArray) (c : UInt8) (w : World) (hs : s.size ≤ 1048576) :
    Calls Tryd.prog 33 #[.string s, .string ⟨#[c]⟩] w fun e w' => e = .returned (.tuple #[.string (cut1 c s), .string (cut2 c s), .bool (cutF c s)]) ∧ Below w.heap.size w w' := by
  have h := lite_cut1 s c w hs
  rw [cut_one] at h
  have H := Lib.hid h; clear h
  go_enter Tryd.func33, Tryd.ntmps33
  go_wp2_with fail
  refine H.out.mono ?_
  rintro e w' ⟨rfl, n, rfl⟩
  go_wp2
  go_ret3
  exact ⟨rfl, bdrewN (Below.refl _ _) _⟩
end Go.Proofs.YtcidbencoebfaaaDoor.Wd


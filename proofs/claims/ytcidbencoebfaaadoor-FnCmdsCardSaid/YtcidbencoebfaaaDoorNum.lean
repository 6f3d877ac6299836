/- Both NumText functions write a number's digits; empty where it is none. Conditions: none. -/
import Derived.Test.YtcidbencoebfaaaDoorWd
import Derived.Test.YtcidbencoebfaaaDoorProg
import Derived.Deep.RegionHeld3
import Derived.Laws.BytesArg
namespace Go.Proofs.YtcidbencoebfaaaDoor.Wd
open Go.RowKit
set_option linter.unusedVariables false
set_option linter.unusedSimpArgs false
set_option maxHeartbeats 2000000
set_option maxRecDepth 100000
def numL (n : Nat) : List UInt8 := if h : n < 10 then [(48 + n).toUInt8] else numL (n / 10) ++ [(48 + n % 10).toUInt8]
termination_by n
decreasing_by omega
def numText (n : Int) : ByteArray := if 0 ≤ n ∧ n ≤ 4294967295 then ⟨(numL n.toNat).toArray⟩ else ⟨#[]⟩
theorem isNum_calls (n : Int) (w : World) : Calls Tryd.prog 41 #[.int .i64 n] w fun e w' => e = .returned (.bool (decide (0 ≤ n ∧ n ≤ 4294967295))) ∧ Below w.heap.size w w' := by
  by_cases h1 : 0 ≤ n
  · by_cases h2 : n ≤ 4294967295
    · have hf : decide (0 ≤ n ∧ n ≤ 4294967295) = true := decide_eq_true ⟨h1, h2⟩
      go_enter Tryd.func41, Tryd.ntmps41
      go_wp2
      go_ret
      exact ⟨by rw [hf]; rfl, bel⟩
    · have hf : decide (0 ≤ n ∧ n ≤ 4294967295) = false := decide_eq_false (fun h => h2 h.2)
      have hg : decide (n ≤ 4294967295) = false := decide_eq_false h2
      clear h2
      go_enter Tryd.func41, Tryd.ntmps41
      go_wp2
      go_ret
      exact ⟨by rw [hf]; rfl, bel⟩
  · have hf : decide (0 ≤ n ∧ n ≤ 4294967295) = false := decide_eq_false (fun h => h1 h.1)
    have hg : decide (0 ≤ n) = false := decide_eq_false h1
    clear h1
    go_enter Tryd.func41, Tryd.ntmps41
    go_wp2
    go_ret
    exact ⟨by rw [hf]; rfl, bel⟩
theorem enc_digit (n : Nat) (h : n < 10) : Utf8.encode (48 + (n : Int)) = ⟨#[(48 + n).toUInt8]⟩ := by
  have : ∀ k : Fin 10, Utf8.encode (48 + (k.val : Int)) = ⟨#[(48 + k.val).toUInt8]⟩ := by decide
  exact this ⟨n, h⟩
theorem numL_len : ∀ (k n : Nat), n < 10 ^ (k + 1) → (numL n).length ≤ k + 1
  | 0, n, h => by rw [numL, dif_pos (by simpa using h)]; simp
  | k + 1, n, h => by
    rw [numL]
    by_cases h2 : n < 10
    · rw [dif_pos h2]; simp
    · rw [dif_neg h2]
      have := numL_len k (n / 10) (by rw [Nat.pow_succ] at h; omega)
      simp; omega
theorem num_one (n : Nat) (h : n < 10) : (⟨(numL n).toArray⟩ : ByteArray) = Utf8.encode (48 + (n : Int)) := by
  rw [enc_digit n h, numL, dif_pos h]
theorem num_more (n : Nat) (h : ¬ n < 10) : (⟨(numL n).toArray⟩ : ByteArray) = ⟨(numL (n / 10)).toArray⟩ ++ Utf8.encode (48 + (n : Int) % 10) := by
  have hmd : ((n : Int) % 10) = ((n % 10 : Nat) : Int) := by omega
  rw [hmd, enc_digit _ (by omega), numL, dif_neg h]
  apply ByteArray.ext
  rw [ByteArray.data_append]
  simp
theorem impl_num_calls : ∀ (m : Nat) (n : Nat) (hn : n < m) (hb : n ≤ 4294967295) (w : World),
    Calls Tryd.prog 22 #[.int .i64 n] w fun e w' => e = .returned (.string ⟨(numL n).toArray⟩) ∧ Below w.heap.size w w'
  | 0, n, hn, _, _ => absurd hn (by omega)
  | m + 1, n, hn, hb, w => by
    have IH := Lib.hid (impl_num_calls m)
    have hf : decide (0 ≤ (n : Int) ∧ (n : Int) ≤ 4294967295) = true := decide_eq_true ⟨by omega, by omega⟩
    by_cases h : n < 10
    · have HL := Lib.hid h
      go_enter Tryd.func22, Tryd.ntmps22
      go_wp2_with fail
      refine (isNum_calls _ _).mono ?_
      rintro e w1 ⟨rfl, hb1⟩
      rw [hf]
      go_wp2
      go_ret
      rw [num_one n h]
      exact ⟨rfl, bel⟩
    · have hdv : ((n : Int) / 10) = ((n / 10 : Nat) : Int) := by omega
      have HDV := Lib.hid hdv; clear hdv
      have HN := Lib.hid h
      go_enter Tryd.func22, Tryd.ntmps22
      go_wp2_with fail
      refine (isNum_calls _ _).mono ?_
      rintro e w1 ⟨rfl, hb1⟩
      rw [hf]
      go_wp2_with fail
      rw [HDV.out]
      refine (IH.out (n / 10) (by omega) (by omega) _).mono ?_
      rintro e w2 ⟨rfl, hb2⟩
      clear IH HDV
      have hnm := num_more n h
      obtain ⟨Y, hY⟩ : ∃ Y, Utf8.encode (48 + (n : Int) % 10) = Y := ⟨_, rfl⟩
      obtain ⟨X, hX⟩ : ∃ X : ByteArray, (⟨(numL (n / 10)).toArray⟩ : ByteArray) = X := ⟨_, rfl⟩
      obtain ⟨Z, hZ⟩ : ∃ Z : ByteArray, (⟨(numL n).toArray⟩ : ByteArray) = Z := ⟨_, rfl⟩
      have hxl := numL_len 9 (n / 10) (by omega)
      have hys : (Utf8.encode (48 + (n : Int) % 10)).size = 1 := by
        rw [show ((n : Int) % 10) = ((n % 10 : Nat) : Int) by omega, enc_digit _ (by omega)]; rfl
      have hxs : X.size ≤ 10 := by rw [← hX]; simpa [ByteArray.size] using hxl
      rw [hY] at hys
      have hg : ¬ (9223372036854775807 < X.size + Y.size) := by omega
      clear hxl hys hxs
      rw [hY, hX, hZ] at hnm
      rw [hX]
      have HY := Lib.hid hY; have HM := Lib.hid hnm; have HZ := Lib.hid hZ; clear hY hX hZ hnm
      go_wp2_with (rw [HY.out])
      go_ret
      rw [HZ.out, HM.out]
      exact ⟨rfl, bel⟩
theorem numText_size (n : Int) : (numText n).size ≤ 10 := by
  unfold numText
  split
  · rename_i h
    have := numL_len 9 n.toNat (by omega)
    simpa [ByteArray.size] using this
  · decide
theorem impl_NumText_calls (n : Int) (w : World) : Calls Tryd.prog 22 #[.int .i64 n] w fun e w' => e = .returned (.string (numText n)) ∧ Below w.heap.size w w' := by
  by_cases h : 0 ≤ n ∧ n ≤ 4294967295
  · obtain ⟨m, rfl⟩ := Int.eq_ofNat_of_zero_le h.1
    unfold numText
    rw [if_pos h]
    exact impl_num_calls (m + 1) m (by omega) (by omega) w
  · have hf : decide (0 ≤ n ∧ n ≤ 4294967295) = false := decide_eq_false h
    unfold numText
    rw [if_neg h]
    have HH := Lib.hid h; clear h
    go_enter Tryd.func22, Tryd.ntmps22
    go_wp2_with fail
    refine (isNum_calls _ _).mono ?_
    rintro e w1 ⟨rfl, hb1⟩
    rw [hf]
    go_wp2
    go_ret
    exact ⟨rfl, bel⟩
theorem l01Num_calls (n : Int) (w : World) : Calls Tryd.prog 45 #[.int .i64 n] w fun e w' => e = .returned (.bool (decide (0 ≤ n ∧ n ≤ 4294967295))) ∧ Below w.heap.size w w' := by
  by_cases h1 : 0 ≤ n
  · by_cases h2 : n ≤ 4294967295
    · have hf : decide (0 ≤ n ∧ n ≤ 4294967295) = true := decide_eq_true ⟨h1, h2⟩
      go_enter Tryd.func45, Tryd.ntmps45
      go_wp2
      go_ret
      exact ⟨by rw [hf]; rfl, bel⟩
    · have hf : decide (0 ≤ n ∧ n ≤ 4294967295) = false := decide_eq_false (fun h => h2 h.2)
      have hg : decide (n ≤ 4294967295) = false := decide_eq_false h2
      clear h2
      go_enter Tryd.func45, Tryd.ntmps45
      go_wp2
      go_ret
      exact ⟨by rw [hf]; rfl, bel⟩
  · have hf : decide (0 ≤ n ∧ n ≤ 4294967295) = false := decide_eq_false (fun h => h1 h.1)
    have hg : decide (0 ≤ n) = false := decide_eq_false h1
    clear h1
    go_enter Tryd.func45, Tryd.ntmps45
    go_wp2
    go_ret
    exact ⟨by rw [hf]; rfl, bel⟩
theorem conv_one (w : World) (g : Nat) (n : Int) (hc : w.cell? ⟨g, 0, none⟩ = some (.int .u8 n)) : (convert 22 9 (.slice (some ⟨g, 0, none⟩) 1 1)).run Tryd.prog w = .ok (.string ⟨#[UInt8.ofNat n.toNat]⟩) w :=
  run_convert_bytes_arg w 22 5 rfl rfl g 0 1 1 [n] rfl (fun i hi => by
    have h0 : i = 0 := by omega
    subst h0; exact hc) 9 rfl
@[go_sem high] theorem conv_new (w : World) (n : Int) : (convert 22 9 (.slice (some ⟨w.heap.size, 0, none⟩) 1 1)).run Tryd.prog (w.alloc (.cells #[.int .u8 n] 5)) = .ok (.string ⟨#[UInt8.ofNat n.toNat]⟩) (w.alloc (.cells #[.int .u8 n] 5)) :=
  conv_one _ _ _ (by go_simp)
theorem wrap_in (x : Int) (h0 : -9223372036854775808 ≤ x) (h1 : x ≤ 9223372036854775807) : IntKind.i64.wrap x = x := by
  simp only [IntKind.wrap_i64]; omega
theorem wrap8_in (x : Int) (h0 : 0 ≤ x) (h1 : x ≤ 255) : IntKind.u8.wrap x = x := by
  simp only [IntKind.wrap_u8]; omega
theorem dig_one (n : Nat) (h : n < 10) : (⟨#[UInt8.ofNat (48 + (n : Int)).toNat]⟩ : ByteArray) = Utf8.encode (48 + (n : Int)) := by
  rw [enc_digit n h]; congr 2
theorem spec_num_calls : ∀ (m : Nat) (n : Nat) (hn : n < m) (hb : n ≤ 4294967295) (w : World),
    Calls Tryd.prog 46 #[.int .i64 n] w fun e w' => e = .returned (.string ⟨(numL n).toArray⟩) ∧ Below w.heap.size w w'
  | 0, n, hn, _, _ => absurd hn (by omega)
  | m + 1, n, hn, hb, w => by
    have IH := Lib.hid (spec_num_calls m)
    have hf : decide (0 ≤ (n : Int) ∧ (n : Int) ≤ 4294967295) = true := decide_eq_true ⟨by omega, by omega⟩
    by_cases h : n < 10
    · have HL := Lib.hid h
      go_enter Tryd.func46, Tryd.ntmps46
      go_wp2_with fail
      refine (l01Num_calls _ _).mono ?_
      rintro e w1 ⟨rfl, hb1⟩
      rw [hf]
      go_wp2
      go_ret
      rw [num_one n h, ← dig_one n h]
      exact ⟨rfl, bel⟩
    · have hdv : IntKind.i64.wrap ((n : Int) / 10) = ((n / 10 : Nat) : Int) := by rw [wrap_in _ (by omega) (by omega)]; omega
      have hw8 : IntKind.u8.wrap (IntKind.i64.wrap (48 + (n : Int).tmod 10)) = 48 + (n : Int) % 10 := by
        rw [Int.tmod_eq_emod_of_nonneg (by omega), wrap_in _ (by omega) (by omega), wrap8_in _ (by omega) (by omega)]
      have HDV := Lib.hid hdv; clear hdv
      have HN := Lib.hid h
      have hnm := num_more n h
      obtain ⟨Y, hY⟩ : ∃ Y : ByteArray, (⟨#[UInt8.ofNat (48 + (n : Int) % 10).toNat]⟩ : ByteArray) = Y := ⟨_, rfl⟩
      rw [show Utf8.encode (48 + (n : Int) % 10) = ⟨#[UInt8.ofNat (48 + (n : Int) % 10).toNat]⟩ by
        rw [show ((n : Int) % 10) = ((n % 10 : Nat) : Int) by omega]; exact (dig_one _ (by omega)).symm] at hnm
      have hys : Y.size = 1 := by rw [← hY]; rfl
      obtain ⟨X, hX⟩ : ∃ X : ByteArray, (⟨(numL (n / 10)).toArray⟩ : ByteArray) = X := ⟨_, rfl⟩
      obtain ⟨Z, hZ⟩ : ∃ Z : ByteArray, (⟨(numL n).toArray⟩ : ByteArray) = Z := ⟨_, rfl⟩
      have hxl := numL_len 9 (n / 10) (by omega)
      have hxs : X.size ≤ 10 := by rw [← hX]; simpa [ByteArray.size] using hxl
      have hg1 : ¬ (9223372036854775807 < X.size + 1) := by omega
      have hg2 : ¬ (9223372036854775807 ≤ X.size) := by omega
      rw [hY, hX, hZ] at hnm
      have HX := Lib.hid hX; have HY := Lib.hid hY; have HM := Lib.hid hnm; have HZ := Lib.hid hZ; have HW8 := Lib.hid hw8; clear hX hY hZ hnm hxl hys hxs hw8
      go_enter Tryd.func46, Tryd.ntmps46
      go_wp2_with fail
      refine (l01Num_calls _ _).mono ?_
      rintro e w1 ⟨rfl, hb1⟩
      rw [hf]
      go_wp2_with fail
      go_region_with
        (first
          | (go_at_call 46; rw [HDV.out]; (with_reducible refine (IH.out (n / 10) (by omega) (by omega) _).mono ?_); rintro e w2 ⟨rfl, hb2⟩; obtain ⟨C2, D2⟩ := bcell hb2; rw [HX.out])
          | (rw [conv_one _ _ (IntKind.u8.wrap (IntKind.i64.wrap (48 + (n : Int).tmod 10))) (by go_simp)]))
      all_goals (go_wp2; go_ret; refine ⟨?_, bel⟩; rw [HZ.out, HM.out, ← HY.out, ← HW8.out]; rfl)
theorem spec_NumText_calls (n : Int) (w : World) : Calls Tryd.prog 46 #[.int .i64 n] w fun e w' => e = .returned (.string (numText n)) ∧ Below w.heap.size w w' := by
  by_cases h : 0 ≤ n ∧ n ≤ 4294967295
  · obtain ⟨m, rfl⟩ := Int.eq_ofNat_of_zero_le h.1
    unfold numText
    rw [if_pos h]
    exact spec_num_calls (m + 1) m (by omega) (by omega) w
  · have hf : decide (0 ≤ n ∧ n ≤ 4294967295) = false := decide_eq_false h
    unfold numText
    rw [if_neg h]
    have HH := Lib.hid h; clear h
    go_enter Tryd.func46, Tryd.ntmps46
    go_wp2_with fail
    refine (l01Num_calls _ _).mono ?_
    rintro e w1 ⟨rfl, hb1⟩
    rw [hf]
    go_wp2
    go_ret
    exact ⟨rfl, bel⟩
theorem numText_empty (n : Int) : numText n = ⟨#[]⟩ ↔ ¬ (0 ≤ n ∧ n ≤ 4294967295) := by
  unfold numText
  constructor
  · intro h
    split at h
    · rename_i hc
      have h2 := congrArg (fun b : ByteArray => b.data.toList) h
      simp only at h2
      rw [numL] at h2
      split at h2 <;> simp at h2
    · rename_i hc; exact hc
  · intro h; rw [if_neg h]
end Go.Proofs.YtcidbencoebfaaaDoor.Wd


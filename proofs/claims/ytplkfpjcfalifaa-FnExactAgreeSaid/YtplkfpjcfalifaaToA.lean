/- Contracts of the laws' helpers over programs and logs. Conditions: none. -/
import Derived.Test.YtplkfpjcfalifaaTyA
namespace Go.Proofs.Ytplkfpjcfalifaa.Wd
open Go.RowKit
set_option linter.unusedVariables false
set_option linter.unusedSimpArgs false
set_option maxHeartbeats 2000000
set_option maxRecDepth 100000
theorem toCase_calls (x : MCase) (cs : List Value) (w : World) (hx : kCase.K w x cs) :
    Calls Try.prog 110 #[.agg cs.toArray] w fun e w' => ∃ cs' bs, e = .returned (.agg cs'.toArray) ∧ kCase.O w' bs x cs' ∧ Fresh w bs ∧ Below w.heap.size w w' := by
  obtain rfl := kCase_K hx
  clear hx
  obtain ⟨x0, x1, x2, x3, x4⟩ := x
  go_enter Try.func110, Try.ntmps110
  go_wp2
  refine bodyPost_ret (v := .agg #[.bool x0, .int .i64 x1, .int .i64 x2, .int .i64 x3, .int .i64 x4]) ?_ ?_ ?_
  · simp only [results, Try.results110]
    go_simp
  · rfl
  · exact ⟨_, _, rfl, kCase_mkO _ ⟨x0, x1, x2, x3, x4⟩, fresh_nil _, bel⟩

theorem toInstr_calls (x : MInstr) (cs : List Value) (w : World) (hx : kInstr.K w x cs) :
    Calls Try.prog 111 #[.agg cs.toArray] w fun e w' => ∃ cs' bs, e = .returned (.agg cs'.toArray) ∧ kInstr.O w' bs x cs' ∧ Fresh w bs ∧ Below w.heap.size w w' := by
  obtain rfl := kInstr_K hx
  clear hx
  obtain ⟨x0, x1, x2, x3⟩ := x
  go_enter Try.func111, Try.ntmps111
  go_wp2
  refine bodyPost_ret (v := .agg #[.int .i64 x0, .int .i64 x1, .int .i64 x2, .int .i64 x3]) ?_ ?_ ?_
  · simp only [results, Try.results111]
    go_simp
  · rfl
  · exact ⟨_, _, rfl, kInstr_mkO _ ⟨x0, x1, x2, x3⟩, fresh_nil _, bel⟩

theorem toDeed_calls (x : MDeed) (cs : List Value) (w : World) (hx : kDeed.K w x cs) :
    Calls Try.prog 75 #[.agg cs.toArray] w fun e w' => ∃ cs' bs, e = .returned (.agg cs'.toArray) ∧ kDeed.O w' bs x cs' ∧ Fresh w bs ∧ Below w.heap.size w w' := by
  obtain rfl := kDeed_K hx
  clear hx
  obtain ⟨x0, x1, x2, x3⟩ := x
  go_enter Try.func75, Try.ntmps75
  go_wp2
  refine bodyPost_ret (v := .agg #[.int .i64 x0, .int .i64 x1, .int .i64 x2, .int .i64 x3]) ?_ ?_ ?_
  · simp only [results, Try.results75]
    go_simp
  · rfl
  · exact ⟨_, _, rfl, kDeed_mkO _ ⟨x0, x1, x2, x3⟩, fresh_nil _, bel⟩

theorem toIntS_calls (xs : List Int) (A : Option Addr) (c : Nat) (w : World) (hr : Rp.int.Row w A xs) (hm : xs.length ≤ 1048576) :
    Calls Try.prog 49 #[.slice A xs.length c] w fun e w' => ∃ B d bs, e = .returned (.slice B xs.length d) ∧ Rp.int.Own 3 w' bs (.slice B xs.length d) xs ∧ Fresh w bs ∧ Below w.heap.size w w' := by
  have HR := Lib.hid hr; clear hr
  have hmk := mkrow (P := Try.prog) 38 3 1 8 _ Try.underlying38 info_int xs.length (by omega) (by omega)
  go_enter Try.func49, Try.ntmps49
  go_wp2
  clear hmk
  have F0 := Fill.init Rp.int 3 w xs xs.length (madeCells #[.int .i64 0] xs.length) (by rw [size_madeCells]; exact (Nat.mul_one _).symm)
  have hb0 : Below w.heap.size w (w.alloc (.cells (madeCells #[.int .i64 0] xs.length) 3)) := bel
  generalize hg : w.heap.size = g at F0 ⊢
  replace hg : w.heap.size ≤ g := Nat.le_of_eq hg
  go_loopg [4] (xs.length + 1) (fun kq v4 w' => ∃ i : Nat, v4 = .int .i64 i ∧ i + kq = xs.length + 1 ∧ i ≤ xs.length ∧ (∃ cur bss, Hid (Fill Rp.int 3 w w' g xs.length (xs.take i) cur bss)) ∧ Below w.heap.size w w')
  case atStart => exact ⟨0, rfl, by omega, by omega, F0, hb0⟩
  case round =>
    clear F0 hb0
    obtain ⟨i, rfl, hi, hi2, ⟨cur, bss, HF⟩, hb⟩ := hrel
    obtain ⟨gk, rfl⟩ : ∃ m, gk = m + 1 := ⟨gk - 1, by omega⟩
    by_cases hlt : i < xs.length
    · obtain ⟨b, o, rfl, g0⟩ := int_at (HR.out.below hb) hlt
      obtain ⟨u0, q0, f0⟩ := Fill.cell HF (Below.refl _ _) hlt 0 (at_ := i) (by decide) (Nat.mul_one i)
      go_wp2
      go_roundg gk
      case measure => omega
      case rel => exact ⟨i + 1, by go_num, by omega, by omega, Fill.next HF hlt hlt (Below.refl _ _) ⟨rfl, rfl⟩ (fresh_nil _) (Nat.mul_one i), hb.setCell hg _⟩
    · go_wp2
      go_ret
      obtain ⟨bs, h1, h2⟩ := Fill.fin HF (by omega) rfl (by omega)
      exact ⟨_, _, bs, rfl, h1, h2, bel⟩

theorem toCaseS_calls (xs : List MCase) (A : Option Addr) (c : Nat) (w : World) (hr : kCase.Row w A xs) (hm : xs.length ≤ 1048576) :
    Calls Try.prog 94 #[.slice A xs.length c] w fun e w' => ∃ B d bs, e = .returned (.slice B xs.length d) ∧ kCase.Own 189 w' bs (.slice B xs.length d) xs ∧ Fresh w bs ∧ Below w.heap.size w w' := by
  have HR := Lib.hid hr; clear hr
  have hmk := mkrow (P := Try.prog) 128 189 5 40 _ Try.underlying128 info_Case xs.length (by omega) (by omega)
  go_enter Try.func94, Try.ntmps94
  go_wp2
  clear hmk
  have F0 := Fill.init kCase 189 w xs xs.length (madeCells #[.bool false, .int .i64 0, .int .i64 0, .int .i64 0, .int .i64 0] (xs.length * 5)) (by rw [size_madeCells]; rfl)
  have hb0 : Below w.heap.size w (w.alloc (.cells (madeCells #[.bool false, .int .i64 0, .int .i64 0, .int .i64 0, .int .i64 0] (xs.length * 5)) 189)) := bel
  generalize hg : w.heap.size = g at F0 ⊢
  replace hg : w.heap.size ≤ g := Nat.le_of_eq hg
  go_loopg [4] (xs.length + 1) (fun kq v4 w' => ∃ i : Nat, v4 = .int .i64 i ∧ i + kq = xs.length + 1 ∧ i ≤ xs.length ∧ (∃ cur bss, Hid (Fill kCase 189 w w' g xs.length (xs.take i) cur bss)) ∧ Below w.heap.size w w')
  case atStart => exact ⟨0, rfl, by omega, by omega, F0, hb0⟩
  case round =>
    clear F0 hb0
    obtain ⟨i, rfl, hi, hi2, ⟨cur, bss, HF⟩, hb⟩ := hrel
    obtain ⟨gk, rfl⟩ : ∃ m, gk = m + 1 := ⟨gk - 1, by omega⟩
    by_cases hlt : i < xs.length
    · obtain ⟨b, o, rfl, g0, g1, g2, g3, g4⟩ := kCase_at (HR.out.below hb) hlt
      go_wp2_with fail
      refine (toCase_calls xs[i] [_, _, _, _, _] _ (kCase_mk _ _)).mono ?_
      rintro e w1 ⟨cs', bs, rfl, ho, hfr, hb1⟩
      have HO := Lib.hid ho
      obtain ⟨rfl, rfl⟩ := kCase_O ho
      obtain ⟨u0, q0, f0⟩ := Fill.cell HF hb1 hlt 0 (at_ := i * 5) (by decide) rfl
      obtain ⟨u1, q1, f1⟩ := Fill.cell HF hb1 hlt 1 (at_ := i * 5 + 1) (by decide) rfl
      obtain ⟨u2, q2, f2⟩ := Fill.cell HF hb1 hlt 2 (at_ := i * 5 + 2) (by decide) rfl
      obtain ⟨u3, q3, f3⟩ := Fill.cell HF hb1 hlt 3 (at_ := i * 5 + 3) (by decide) rfl
      obtain ⟨u4, q4, f4⟩ := Fill.cell HF hb1 hlt 4 (at_ := i * 5 + 4) (by decide) rfl
      have HFR := Lib.hid hfr; clear hfr
      clear ho
      go_wp2
      go_roundg gk
      case measure => omega
      case rel => exact ⟨i + 1, by go_num, by omega, by omega, Fill.next HF hlt hlt hb1 HO.out HFR.out rfl, (((((bvia hb1 hb).setCell hg _).setCell hg _).setCell hg _).setCell hg _).setCell hg _⟩
    · go_wp2
      go_ret
      obtain ⟨bs, h1, h2⟩ := Fill.fin HF (by omega) rfl (by omega)
      exact ⟨_, _, bs, rfl, h1, h2, bel⟩

theorem toInstrS_calls (xs : List MInstr) (A : Option Addr) (c : Nat) (w : World) (hr : kInstr.Row w A xs) (hm : xs.length ≤ 1048576) :
    Calls Try.prog 95 #[.slice A xs.length c] w fun e w' => ∃ B d bs, e = .returned (.slice B xs.length d) ∧ kInstr.Own 193 w' bs (.slice B xs.length d) xs ∧ Fresh w bs ∧ Below w.heap.size w w' := by
  have HR := Lib.hid hr; clear hr
  have hmk := mkrow (P := Try.prog) 132 193 4 32 _ Try.underlying132 info_Instr xs.length (by omega) (by omega)
  go_enter Try.func95, Try.ntmps95
  go_wp2
  clear hmk
  have F0 := Fill.init kInstr 193 w xs xs.length (madeCells #[.int .i64 0, .int .i64 0, .int .i64 0, .int .i64 0] (xs.length * 4)) (by rw [size_madeCells]; rfl)
  have hb0 : Below w.heap.size w (w.alloc (.cells (madeCells #[.int .i64 0, .int .i64 0, .int .i64 0, .int .i64 0] (xs.length * 4)) 193)) := bel
  generalize hg : w.heap.size = g at F0 ⊢
  replace hg : w.heap.size ≤ g := Nat.le_of_eq hg
  go_loopg [4] (xs.length + 1) (fun kq v4 w' => ∃ i : Nat, v4 = .int .i64 i ∧ i + kq = xs.length + 1 ∧ i ≤ xs.length ∧ (∃ cur bss, Hid (Fill kInstr 193 w w' g xs.length (xs.take i) cur bss)) ∧ Below w.heap.size w w')
  case atStart => exact ⟨0, rfl, by omega, by omega, F0, hb0⟩
  case round =>
    clear F0 hb0
    obtain ⟨i, rfl, hi, hi2, ⟨cur, bss, HF⟩, hb⟩ := hrel
    obtain ⟨gk, rfl⟩ : ∃ m, gk = m + 1 := ⟨gk - 1, by omega⟩
    by_cases hlt : i < xs.length
    · obtain ⟨b, o, rfl, g0, g1, g2, g3⟩ := kInstr_at (HR.out.below hb) hlt
      go_wp2_with fail
      refine (toInstr_calls xs[i] [_, _, _, _] _ (kInstr_mk _ _)).mono ?_
      rintro e w1 ⟨cs', bs, rfl, ho, hfr, hb1⟩
      have HO := Lib.hid ho
      obtain ⟨rfl, rfl⟩ := kInstr_O ho
      obtain ⟨u0, q0, f0⟩ := Fill.cell HF hb1 hlt 0 (at_ := i * 4) (by decide) rfl
      obtain ⟨u1, q1, f1⟩ := Fill.cell HF hb1 hlt 1 (at_ := i * 4 + 1) (by decide) rfl
      obtain ⟨u2, q2, f2⟩ := Fill.cell HF hb1 hlt 2 (at_ := i * 4 + 2) (by decide) rfl
      obtain ⟨u3, q3, f3⟩ := Fill.cell HF hb1 hlt 3 (at_ := i * 4 + 3) (by decide) rfl
      have HFR := Lib.hid hfr; clear hfr
      clear ho
      go_wp2
      go_roundg gk
      case measure => omega
      case rel => exact ⟨i + 1, by go_num, by omega, by omega, Fill.next HF hlt hlt hb1 HO.out HFR.out rfl, ((((bvia hb1 hb).setCell hg _).setCell hg _).setCell hg _).setCell hg _⟩
    · go_wp2
      go_ret
      obtain ⟨bs, h1, h2⟩ := Fill.fin HF (by omega) rfl (by omega)
      exact ⟨_, _, bs, rfl, h1, h2, bel⟩

theorem toDeedS_calls (xs : List MDeed) (A : Option Addr) (c : Nat) (w : World) (hr : kDeed.Row w A xs) (hm : xs.length ≤ 1048576) :
    Calls Try.prog 52 #[.slice A xs.length c] w fun e w' => ∃ B d bs, e = .returned (.slice B xs.length d) ∧ kDeed.Own 93 w' bs (.slice B xs.length d) xs ∧ Fresh w bs ∧ Below w.heap.size w w' := by
  have HR := Lib.hid hr; clear hr
  have hmk := mkrow (P := Try.prog) 54 93 4 32 _ Try.underlying54 info_Deed xs.length (by omega) (by omega)
  go_enter Try.func52, Try.ntmps52
  go_wp2
  clear hmk
  have F0 := Fill.init kDeed 93 w xs xs.length (madeCells #[.int .i64 0, .int .i64 0, .int .i64 0, .int .i64 0] (xs.length * 4)) (by rw [size_madeCells]; rfl)
  have hb0 : Below w.heap.size w (w.alloc (.cells (madeCells #[.int .i64 0, .int .i64 0, .int .i64 0, .int .i64 0] (xs.length * 4)) 93)) := bel
  generalize hg : w.heap.size = g at F0 ⊢
  replace hg : w.heap.size ≤ g := Nat.le_of_eq hg
  go_loopg [4] (xs.length + 1) (fun kq v4 w' => ∃ i : Nat, v4 = .int .i64 i ∧ i + kq = xs.length + 1 ∧ i ≤ xs.length ∧ (∃ cur bss, Hid (Fill kDeed 93 w w' g xs.length (xs.take i) cur bss)) ∧ Below w.heap.size w w')
  case atStart => exact ⟨0, rfl, by omega, by omega, F0, hb0⟩
  case round =>
    clear F0 hb0
    obtain ⟨i, rfl, hi, hi2, ⟨cur, bss, HF⟩, hb⟩ := hrel
    obtain ⟨gk, rfl⟩ : ∃ m, gk = m + 1 := ⟨gk - 1, by omega⟩
    by_cases hlt : i < xs.length
    · obtain ⟨b, o, rfl, g0, g1, g2, g3⟩ := kDeed_at (HR.out.below hb) hlt
      go_wp2_with fail
      refine (toDeed_calls xs[i] [_, _, _, _] _ (kDeed_mk _ _)).mono ?_
      rintro e w1 ⟨cs', bs, rfl, ho, hfr, hb1⟩
      have HO := Lib.hid ho
      obtain ⟨rfl, rfl⟩ := kDeed_O ho
      obtain ⟨u0, q0, f0⟩ := Fill.cell HF hb1 hlt 0 (at_ := i * 4) (by decide) rfl
      obtain ⟨u1, q1, f1⟩ := Fill.cell HF hb1 hlt 1 (at_ := i * 4 + 1) (by decide) rfl
      obtain ⟨u2, q2, f2⟩ := Fill.cell HF hb1 hlt 2 (at_ := i * 4 + 2) (by decide) rfl
      obtain ⟨u3, q3, f3⟩ := Fill.cell HF hb1 hlt 3 (at_ := i * 4 + 3) (by decide) rfl
      have HFR := Lib.hid hfr; clear hfr
      clear ho
      go_wp2
      go_roundg gk
      case measure => omega
      case rel => exact ⟨i + 1, by go_num, by omega, by omega, Fill.next HF hlt hlt hb1 HO.out HFR.out rfl, ((((bvia hb1 hb).setCell hg _).setCell hg _).setCell hg _).setCell hg _⟩
    · go_wp2
      go_ret
      obtain ⟨bs, h1, h2⟩ := Fill.fin HF (by omega) rfl (by omega)
      exact ⟨_, _, bs, rfl, h1, h2, bel⟩

theorem toSelect_calls (x : MSelect) (cs : List Value) (w : World) (hx : kSelect.K w x cs) (hc : cntSelect x ≤ 1048576) :
    Calls Try.prog 73 #[.agg cs.toArray] w fun e w' => ∃ cs' bs, e = .returned (.agg cs'.toArray) ∧ kSelect.O w' bs x cs' ∧ Fresh w bs ∧ Below w.heap.size w w' := by
  obtain ⟨A0, c0, rfl, l0, r0⟩ := kSelect_K hx
  clear hx
  unfold cntSelect at hc
  obtain ⟨x0, x1⟩ := x
  simp only at *
  have R0 := Lib.hid r0; clear r0
  go_enter Try.func73, Try.ntmps73
  go_wp2_with (first
    | (go_at_call 94; (with_reducible refine (toCaseS_calls x0 _ _ _ (R0.out.below bel) (by omega)).mono ?_); rintro e w0 ⟨E0, e0, b0, rfl, o0, f0, hb0⟩; obtain ⟨C0, D0⟩ := bcell hb0; obtain ⟨za0, zb0, zc0⟩ : w.heap.size < w0.heap.size ∧ w.heap.size + 1 < w0.heap.size ∧ w.heap.size + 1 + 1 < w0.heap.size := (by have := hb0.size; (try simp at this); omega); have Ho0 := Lib.hid o0; clear o0; have Hf0 := Lib.hid f0; clear f0))
  refine bodyPost_ret (v := .agg #[.slice E0 x0.length e0, .int .i64 x1]) ?_ ?_ ?_
  · simp only [results, Try.results73]
    go_simp
  · rfl
  · exact ⟨_, _, rfl, kSelect_mkO _ ⟨x0, x1⟩ (Hf0.out.own Ho0.out), Hf0.out.sub, bel⟩

theorem toSelectS_calls (xs : List MSelect) (A : Option Addr) (c : Nat) (w : World) (hr : kSelect.Row w A xs) (hm : xs.length + cntSelectS xs ≤ 1048576) :
    Calls Try.prog 50 #[.slice A xs.length c] w fun e w' => ∃ B d bs, e = .returned (.slice B xs.length d) ∧ kSelect.Own 130 w' bs (.slice B xs.length d) xs ∧ Fresh w bs ∧ Below w.heap.size w w' := by
  have HR := Lib.hid hr; clear hr
  have hmk := mkrow (P := Try.prog) 49 130 2 32 _ Try.underlying49 info_Select xs.length (by omega) (by omega)
  go_enter Try.func50, Try.ntmps50
  go_wp2
  clear hmk
  have F0 := Fill.init kSelect 130 w xs xs.length (madeCells #[.slice none 0 0, .int .i64 0] (xs.length * 2)) (by rw [size_madeCells]; rfl)
  have hb0 : Below w.heap.size w (w.alloc (.cells (madeCells #[.slice none 0 0, .int .i64 0] (xs.length * 2)) 130)) := bel
  generalize hg : w.heap.size = g at F0 ⊢
  replace hg : w.heap.size ≤ g := Nat.le_of_eq hg
  go_loopg [4] (xs.length + 1) (fun kq v4 w' => ∃ i : Nat, v4 = .int .i64 i ∧ i + kq = xs.length + 1 ∧ i ≤ xs.length ∧ (∃ cur bss, Hid (Fill kSelect 130 w w' g xs.length (xs.take i) cur bss)) ∧ Below w.heap.size w w')
  case atStart => exact ⟨0, rfl, by omega, by omega, F0, hb0⟩
  case round =>
    clear F0 hb0
    obtain ⟨i, rfl, hi, hi2, ⟨cur, bss, HF⟩, hb⟩ := hrel
    obtain ⟨gk, rfl⟩ : ∃ m, gk = m + 1 := ⟨gk - 1, by omega⟩
    by_cases hlt : i < xs.length
    · obtain ⟨b, o, A0, c0, rfl, g0, g1, l0, r0⟩ := kSelect_at (HR.out.below hb) hlt
      have R0 := Lib.hid r0; clear r0
      go_wp2_with fail
      refine (toSelect_calls xs[i] [_, _] _ (kSelect_mk _ _ l0 (R0.out.below bel)) (by have := cntSelectS_at hlt; omega)).mono ?_
      rintro e w1 ⟨cs', bs, rfl, ho, hfr, hb1⟩
      have HO := Lib.hid ho
      obtain ⟨E0, e0, b0, rfl, rfl, o0⟩ := kSelect_O ho
      obtain ⟨u0, q0, f0⟩ := Fill.cell HF hb1 hlt 0 (at_ := i * 2) (by decide) rfl
      obtain ⟨u1, q1, f1⟩ := Fill.cell HF hb1 hlt 1 (at_ := i * 2 + 1) (by decide) rfl
      have HFR := Lib.hid hfr; clear hfr
      clear ho o0
      go_wp2
      go_roundg gk
      case measure => omega
      case rel => exact ⟨i + 1, by go_num, by omega, by omega, Fill.next HF hlt hlt hb1 HO.out HFR.out rfl, ((bvia hb1 hb).setCell hg _).setCell hg _⟩
    · go_wp2
      go_ret
      obtain ⟨bs, h1, h2⟩ := Fill.fin HF (by omega) rfl (by omega)
      exact ⟨_, _, bs, rfl, h1, h2, bel⟩

theorem toProc_calls (x : MProc) (cs : List Value) (w : World) (hx : kProc.K w x cs) (hc : cntProc x ≤ 1048576) :
    Calls Try.prog 74 #[.agg cs.toArray] w fun e w' => ∃ cs' bs, e = .returned (.agg cs'.toArray) ∧ kProc.O w' bs x cs' ∧ Fresh w bs ∧ Below w.heap.size w w' := by
  obtain ⟨A0, c0, rfl, l0, r0⟩ := kProc_K hx
  clear hx
  unfold cntProc at hc
  obtain ⟨x0⟩ := x
  simp only at *
  have R0 := Lib.hid r0; clear r0
  go_enter Try.func74, Try.ntmps74
  go_wp2_with (first
    | (go_at_call 95; (with_reducible refine (toInstrS_calls x0 _ _ _ (R0.out.below bel) (by omega)).mono ?_); rintro e w0 ⟨E0, e0, b0, rfl, o0, f0, hb0⟩; obtain ⟨C0, D0⟩ := bcell hb0; obtain ⟨za0, zb0, zc0⟩ : w.heap.size < w0.heap.size ∧ w.heap.size + 1 < w0.heap.size ∧ w.heap.size + 1 + 1 < w0.heap.size := (by have := hb0.size; (try simp at this); omega); have Ho0 := Lib.hid o0; clear o0; have Hf0 := Lib.hid f0; clear f0))
  refine bodyPost_ret (v := .agg #[.slice E0 x0.length e0]) ?_ ?_ ?_
  · simp only [results, Try.results74]
    go_simp
  · rfl
  · exact ⟨_, _, rfl, kProc_mkO _ ⟨x0⟩ (Hf0.out.own Ho0.out), Hf0.out.sub, bel⟩

theorem toProcS_calls (xs : List MProc) (A : Option Addr) (c : Nat) (w : World) (hr : kProc.Row w A xs) (hm : xs.length + cntProcS xs ≤ 1048576) :
    Calls Try.prog 51 #[.slice A xs.length c] w fun e w' => ∃ B d bs, e = .returned (.slice B xs.length d) ∧ kProc.Own 134 w' bs (.slice B xs.length d) xs ∧ Fresh w bs ∧ Below w.heap.size w w' := by
  have HR := Lib.hid hr; clear hr
  have hmk := mkrow (P := Try.prog) 50 134 1 24 _ Try.underlying50 info_Proc xs.length (by omega) (by omega)
  go_enter Try.func51, Try.ntmps51
  go_wp2
  clear hmk
  have F0 := Fill.init kProc 134 w xs xs.length (madeCells #[.slice none 0 0] xs.length) (by rw [size_madeCells]; exact (Nat.mul_one _).symm)
  have hb0 : Below w.heap.size w (w.alloc (.cells (madeCells #[.slice none 0 0] xs.length) 134)) := bel
  generalize hg : w.heap.size = g at F0 ⊢
  replace hg : w.heap.size ≤ g := Nat.le_of_eq hg
  go_loopg [4] (xs.length + 1) (fun kq v4 w' => ∃ i : Nat, v4 = .int .i64 i ∧ i + kq = xs.length + 1 ∧ i ≤ xs.length ∧ (∃ cur bss, Hid (Fill kProc 134 w w' g xs.length (xs.take i) cur bss)) ∧ Below w.heap.size w w')
  case atStart => exact ⟨0, rfl, by omega, by omega, F0, hb0⟩
  case round =>
    clear F0 hb0
    obtain ⟨i, rfl, hi, hi2, ⟨cur, bss, HF⟩, hb⟩ := hrel
    obtain ⟨gk, rfl⟩ : ∃ m, gk = m + 1 := ⟨gk - 1, by omega⟩
    by_cases hlt : i < xs.length
    · obtain ⟨b, o, A0, c0, rfl, g0, l0, r0⟩ := kProc_at (HR.out.below hb) hlt
      have R0 := Lib.hid r0; clear r0
      go_wp2_with fail
      refine (toProc_calls xs[i] [_] _ (kProc_mk _ _ l0 (R0.out.below bel)) (by have := cntProcS_at hlt; omega)).mono ?_
      rintro e w1 ⟨cs', bs, rfl, ho, hfr, hb1⟩
      have HO := Lib.hid ho
      obtain ⟨E0, e0, b0, rfl, rfl, o0⟩ := kProc_O ho
      obtain ⟨u0, q0, f0⟩ := Fill.cell HF hb1 hlt 0 (at_ := i) (by decide) (Nat.mul_one i)
      have HFR := Lib.hid hfr; clear hfr
      clear ho o0
      go_wp2
      go_roundg gk
      case measure => omega
      case rel => exact ⟨i + 1, by go_num, by omega, by omega, Fill.next HF hlt hlt hb1 HO.out HFR.out (Nat.mul_one i), (bvia hb1 hb).setCell hg _⟩
    · go_wp2
      go_ret
      obtain ⟨bs, h1, h2⟩ := Fill.fin HF (by omega) rfl (by omega)
      exact ⟨_, _, bs, rfl, h1, h2, bel⟩

theorem toProg_calls (x : MProg) (cs : List Value) (w : World) (hx : kProg.K w x cs) (hc : cntProg x ≤ 1048576) :
    Calls Try.prog 23 #[.agg cs.toArray] w fun e w' => ∃ cs' bs, e = .returned (.agg cs'.toArray) ∧ kProg.O w' bs x cs' ∧ Fresh w bs ∧ Below w.heap.size w w' := by
  obtain ⟨A0, c0, A1, c1, A2, c2, rfl, l0, r0, l1, r1, l2, r2⟩ := kProg_K hx
  clear hx
  unfold cntProg at hc
  obtain ⟨x0, x1, x2, x3⟩ := x
  simp only at *
  have R0 := Lib.hid r0; clear r0
  have R1 := Lib.hid r1; clear r1
  have R2 := Lib.hid r2; clear r2
  go_enter Try.func23, Try.ntmps23
  go_wp2_with (first
    | (go_at_call 49; (with_reducible refine (toIntS_calls x0 _ _ _ (R0.out.below bel) (by omega)).mono ?_); rintro e w0 ⟨E0, e0, b0, rfl, o0, f0, hb0⟩; obtain ⟨C0, D0⟩ := bcell hb0; obtain ⟨za0, zb0, zc0⟩ : w.heap.size < w0.heap.size ∧ w.heap.size + 1 < w0.heap.size ∧ w.heap.size + 1 + 1 < w0.heap.size := (by have := hb0.size; (try simp at this); omega); have Ho0 := Lib.hid o0; clear o0; have Hf0 := Lib.hid f0; clear f0)
    | (go_at_call 50; (with_reducible refine (toSelectS_calls x2 _ _ _ (R1.out.below bel) (by omega)).mono ?_); rintro e w1 ⟨E1, e1, b1, rfl, o1, f1, hb1⟩; obtain ⟨C1, D1⟩ := bcell hb1; obtain ⟨za1, zb1, zc1⟩ : w.heap.size < w1.heap.size ∧ w.heap.size + 1 < w1.heap.size ∧ w.heap.size + 1 + 1 < w1.heap.size := (by have := hb1.size; (try simp at this); omega); have Ho1 := Lib.hid o1; clear o1; have Hf1 := Lib.hid f1; clear f1)
    | (go_at_call 51; (with_reducible refine (toProcS_calls x3 _ _ _ (R2.out.below bel) (by omega)).mono ?_); rintro e w2 ⟨E2, e2, b2, rfl, o2, f2, hb2⟩; obtain ⟨C2, D2⟩ := bcell hb2; obtain ⟨za2, zb2, zc2⟩ : w.heap.size < w2.heap.size ∧ w.heap.size + 1 < w2.heap.size ∧ w.heap.size + 1 + 1 < w2.heap.size := (by have := hb2.size; (try simp at this); omega); have Ho2 := Lib.hid o2; clear o2; have Hf2 := Lib.hid f2; clear f2))
  refine bodyPost_ret (v := .agg #[.slice E0 x0.length e0, .int .i64 x1, .slice E1 x2.length e1, .slice E2 x3.length e2]) ?_ ?_ ?_
  · simp only [results, Try.results23]
    go_simp
  · rfl
  · exact ⟨_, _, rfl, kProg_mkO _ ⟨x0, x1, x2, x3⟩ (Hf0.out.own Ho0.out) (Hf1.out.own Ho1.out) (Hf2.out.own Ho2.out), ((Hf0.out.sub).app ((Hf0.out.own Ho0.out).lt) Hf1.out).app (mem2 ((Hf0.out.own Ho0.out).lt) (Hf1.out.own Ho1.out).lt) Hf2.out, bel⟩

theorem toLog_calls (x : MLog) (cs : List Value) (w : World) (hx : kLog.K w x cs) (hc : cntLog x ≤ 1048576) :
    Calls Try.prog 24 #[.agg cs.toArray] w fun e w' => ∃ cs' bs, e = .returned (.agg cs'.toArray) ∧ kLog.O w' bs x cs' ∧ Fresh w bs ∧ Below w.heap.size w w' := by
  obtain ⟨A0, c0, rfl, l0, r0⟩ := kLog_K hx
  clear hx
  unfold cntLog at hc
  obtain ⟨x0, x1⟩ := x
  simp only at *
  have R0 := Lib.hid r0; clear r0
  go_enter Try.func24, Try.ntmps24
  go_wp2_with (first
    | (go_at_call 52; (with_reducible refine (toDeedS_calls x1 _ _ _ (R0.out.below bel) (by omega)).mono ?_); rintro e w0 ⟨E0, e0, b0, rfl, o0, f0, hb0⟩; obtain ⟨C0, D0⟩ := bcell hb0; obtain ⟨za0, zb0, zc0⟩ : w.heap.size < w0.heap.size ∧ w.heap.size + 1 < w0.heap.size ∧ w.heap.size + 1 + 1 < w0.heap.size := (by have := hb0.size; (try simp at this); omega); have Ho0 := Lib.hid o0; clear o0; have Hf0 := Lib.hid f0; clear f0))
  refine bodyPost_ret (v := .agg #[.int .i64 x0, .slice E0 x1.length e0]) ?_ ?_ ?_
  · simp only [results, Try.results24]
    go_simp
  · rfl
  · exact ⟨_, _, rfl, kLog_mkO _ ⟨x0, x1⟩ (Hf0.out.own Ho0.out), Hf0.out.sub, bel⟩
end Go.Proofs.Ytplkfpjcfalifaa.Wd

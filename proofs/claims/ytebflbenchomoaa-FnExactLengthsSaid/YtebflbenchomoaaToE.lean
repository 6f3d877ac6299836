/- Contracts of the laws' helpers. Conditions: none. -/
import Derived.Test.YtebflbenchomoaaTy
namespace Go.Proofs.Ytebflbenchomoaa.Wd
open Go.RowKit
set_option linter.unusedVariables false
set_option linter.unusedSimpArgs false
set_option maxHeartbeats 2000000
set_option maxRecDepth 100000
theorem toWaiter_calls (x : MWaiter) (cs : List Value) (w : World) (hx : kWaiter.K w x cs) :
    Calls Try.prog 98 #[.agg cs.toArray] w fun e w' => ∃ cs' bs, e = .returned (.agg cs'.toArray) ∧ kWaiter.O w' bs x cs' ∧ Fresh w bs ∧ Below w.heap.size w w' := by
  obtain rfl := kWaiter_K hx
  clear hx
  obtain ⟨x0, x1, x2⟩ := x
  go_enter Try.func98, Try.ntmps98
  go_wp2
  refine bodyPost_ret (v := .agg #[.int .i64 x0, .int .i64 x1, .int .i64 x2]) ?_ ?_ ?_
  · simp only [results, Try.results98]
    go_simp
  · rfl
  · exact ⟨_, _, rfl, kWaiter_mkO _ ⟨x0, x1, x2⟩, fresh_nil _, bel⟩

theorem toItem_calls (x : MItem) (cs : List Value) (w : World) (hx : kItem.K w x cs) :
    Calls Try.prog 97 #[.agg cs.toArray] w fun e w' => ∃ cs' bs, e = .returned (.agg cs'.toArray) ∧ kItem.O w' bs x cs' ∧ Fresh w bs ∧ Below w.heap.size w w' := by
  obtain rfl := kItem_K hx
  clear hx
  obtain ⟨x0, x1, x2, x3⟩ := x
  go_enter Try.func97, Try.ntmps97
  go_wp2
  refine bodyPost_ret (v := .agg #[.int .i64 x0, .int .i64 x1, .int .i64 x2, .bool x3]) ?_ ?_ ?_
  · simp only [results, Try.results97]
    go_simp
  · rfl
  · exact ⟨_, _, rfl, kItem_mkO _ ⟨x0, x1, x2, x3⟩, fresh_nil _, bel⟩

theorem toIntS_calls (xs : List Int) (A : Option Addr) (c : Nat) (w : World) (hr : Rp.int.Row w A xs) (hm : xs.length ≤ 1048576) :
    Calls Try.prog 92 #[.slice A xs.length c] w fun e w' => ∃ B d bs, e = .returned (.slice B xs.length d) ∧ Rp.int.Own 3 w' bs (.slice B xs.length d) xs ∧ Fresh w bs ∧ Below w.heap.size w w' := by
  have HR := Lib.hid hr; clear hr
  have hmk := mkrow (P := Try.prog) 36 3 1 8 _ Try.underlying36 info_int xs.length (by omega) (by omega)
  go_enter Try.func92, Try.ntmps92
  go_wp2
  clear hmk
  have F0 := Fill.init Rp.int 3 w xs xs.length (madeCells #[.int .i64 0] xs.length) (by rw [size_madeCells]; exact (Nat.mul_one _).symm)
  have hb0 : Below w.heap.size w (w.alloc (.cells (madeCells #[.int .i64 0] xs.length) 3)) := bel
  generalize hg : w.heap.size = g at F0 ⊢
  replace hg : w.heap.size ≤ g := Nat.le_of_eq hg
  go_loopg [4] (xs.length + 1) (fun kq v4 w' => ∃ i : Nat, v4 = .int .i64 i ∧ i + kq = xs.length + 1 ∧ i ≤ xs.length ∧ (∃ cur bss, Hid (Fill Rp.int 3 w w' g xs.length (xs.take i) cur bss)) ∧ Below w.heap.size w w')
  case atStart => exact ⟨0, rfl, by omega, by omega, F0, hb0⟩
  case round =>
    clear F0 hb0
    obtain ⟨i, rfl, hi, hi2, ⟨cur, bss, HF⟩, hb⟩ := hrel
    obtain ⟨gk, rfl⟩ : ∃ m, gk = m + 1 := ⟨gk - 1, by omega⟩
    by_cases hlt : i < xs.length
    · obtain ⟨b, o, rfl, g0⟩ := int_at (HR.out.below hb) hlt
      obtain ⟨u0, q0, f0⟩ := Fill.cell HF (Below.refl _ _) hlt 0 (at_ := i) (by decide) (Nat.mul_one i)
      go_wp2
      go_roundg gk
      case measure => omega
      case rel => exact ⟨i + 1, by go_num, by omega, by omega, Fill.next HF hlt hlt (Below.refl _ _) ⟨rfl, rfl⟩ (fresh_nil _) (Nat.mul_one i), hb.setCell hg _⟩
    · go_wp2
      go_ret
      obtain ⟨bs, h1, h2⟩ := Fill.fin HF (by omega) rfl (by omega)
      exact ⟨_, _, bs, rfl, h1, h2, bel⟩

theorem toWaiterS_calls (xs : List MWaiter) (A : Option Addr) (c : Nat) (w : World) (hr : kWaiter.Row w A xs) (hm : xs.length ≤ 1048576) :
    Calls Try.prog 94 #[.slice A xs.length c] w fun e w' => ∃ B d bs, e = .returned (.slice B xs.length d) ∧ kWaiter.Own 120 w' bs (.slice B xs.length d) xs ∧ Fresh w bs ∧ Below w.heap.size w w' := by
  have HR := Lib.hid hr; clear hr
  have hmk := mkrow (P := Try.prog) 83 120 3 24 _ Try.underlying83 info_Waiter xs.length (by omega) (by omega)
  go_enter Try.func94, Try.ntmps94
  go_wp2
  clear hmk
  have F0 := Fill.init kWaiter 120 w xs xs.length (madeCells #[.int .i64 0, .int .i64 0, .int .i64 0] (xs.length * 3)) (by rw [size_madeCells]; rfl)
  have hb0 : Below w.heap.size w (w.alloc (.cells (madeCells #[.int .i64 0, .int .i64 0, .int .i64 0] (xs.length * 3)) 120)) := bel
  generalize hg : w.heap.size = g at F0 ⊢
  replace hg : w.heap.size ≤ g := Nat.le_of_eq hg
  go_loopg [4] (xs.length + 1) (fun kq v4 w' => ∃ i : Nat, v4 = .int .i64 i ∧ i + kq = xs.length + 1 ∧ i ≤ xs.length ∧ (∃ cur bss, Hid (Fill kWaiter 120 w w' g xs.length (xs.take i) cur bss)) ∧ Below w.heap.size w w')
  case atStart => exact ⟨0, rfl, by omega, by omega, F0, hb0⟩
  case round =>
    clear F0 hb0
    obtain ⟨i, rfl, hi, hi2, ⟨cur, bss, HF⟩, hb⟩ := hrel
    obtain ⟨gk, rfl⟩ : ∃ m, gk = m + 1 := ⟨gk - 1, by omega⟩
    by_cases hlt : i < xs.length
    · obtain ⟨b, o, rfl, g0, g1, g2⟩ := kWaiter_at (HR.out.below hb) hlt
      go_wp2_with fail
      refine (toWaiter_calls xs[i] [_, _, _] _ (kWaiter_mk _ _)).mono ?_
      rintro e w1 ⟨cs', bs, rfl, ho, hfr, hb1⟩
      have HO := Lib.hid ho
      obtain ⟨rfl, rfl⟩ := kWaiter_O ho
      obtain ⟨u0, q0, f0⟩ := Fill.cell HF hb1 hlt 0 (at_ := i * 3) (by decide) rfl
      obtain ⟨u1, q1, f1⟩ := Fill.cell HF hb1 hlt 1 (at_ := i * 3 + 1) (by decide) rfl
      obtain ⟨u2, q2, f2⟩ := Fill.cell HF hb1 hlt 2 (at_ := i * 3 + 2) (by decide) rfl
      have HFR := Lib.hid hfr; clear hfr
      clear ho
      go_wp2
      go_roundg gk
      case measure => omega
      case rel => exact ⟨i + 1, by go_num, by omega, by omega, Fill.next HF hlt hlt hb1 HO.out HFR.out rfl, (((bvia hb1 hb).setCell hg _).setCell hg _).setCell hg _⟩
    · go_wp2
      go_ret
      obtain ⟨bs, h1, h2⟩ := Fill.fin HF (by omega) rfl (by omega)
      exact ⟨_, _, bs, rfl, h1, h2, bel⟩

theorem toItemS_calls (xs : List MItem) (A : Option Addr) (c : Nat) (w : World) (hr : kItem.Row w A xs) (hm : xs.length ≤ 1048576) :
    Calls Try.prog 93 #[.slice A xs.length c] w fun e w' => ∃ B d bs, e = .returned (.slice B xs.length d) ∧ kItem.Own 43 w' bs (.slice B xs.length d) xs ∧ Fresh w bs ∧ Below w.heap.size w w' := by
  have HR := Lib.hid hr; clear hr
  have hmk := mkrow (P := Try.prog) 66 43 4 32 _ Try.underlying66 info_Item xs.length (by omega) (by omega)
  go_enter Try.func93, Try.ntmps93
  go_wp2
  clear hmk
  have F0 := Fill.init kItem 43 w xs xs.length (madeCells #[.int .i64 0, .int .i64 0, .int .i64 0, .bool false] (xs.length * 4)) (by rw [size_madeCells]; rfl)
  have hb0 : Below w.heap.size w (w.alloc (.cells (madeCells #[.int .i64 0, .int .i64 0, .int .i64 0, .bool false] (xs.length * 4)) 43)) := bel
  generalize hg : w.heap.size = g at F0 ⊢
  replace hg : w.heap.size ≤ g := Nat.le_of_eq hg
  go_loopg [4] (xs.length + 1) (fun kq v4 w' => ∃ i : Nat, v4 = .int .i64 i ∧ i + kq = xs.length + 1 ∧ i ≤ xs.length ∧ (∃ cur bss, Hid (Fill kItem 43 w w' g xs.length (xs.take i) cur bss)) ∧ Below w.heap.size w w')
  case atStart => exact ⟨0, rfl, by omega, by omega, F0, hb0⟩
  case round =>
    clear F0 hb0
    obtain ⟨i, rfl, hi, hi2, ⟨cur, bss, HF⟩, hb⟩ := hrel
    obtain ⟨gk, rfl⟩ : ∃ m, gk = m + 1 := ⟨gk - 1, by omega⟩
    by_cases hlt : i < xs.length
    · obtain ⟨b, o, rfl, g0, g1, g2, g3⟩ := kItem_at (HR.out.below hb) hlt
      go_wp2_with fail
      refine (toItem_calls xs[i] [_, _, _, _] _ (kItem_mk _ _)).mono ?_
      rintro e w1 ⟨cs', bs, rfl, ho, hfr, hb1⟩
      have HO := Lib.hid ho
      obtain ⟨rfl, rfl⟩ := kItem_O ho
      obtain ⟨u0, q0, f0⟩ := Fill.cell HF hb1 hlt 0 (at_ := i * 4) (by decide) rfl
      obtain ⟨u1, q1, f1⟩ := Fill.cell HF hb1 hlt 1 (at_ := i * 4 + 1) (by decide) rfl
      obtain ⟨u2, q2, f2⟩ := Fill.cell HF hb1 hlt 2 (at_ := i * 4 + 2) (by decide) rfl
      obtain ⟨u3, q3, f3⟩ := Fill.cell HF hb1 hlt 3 (at_ := i * 4 + 3) (by decide) rfl
      have HFR := Lib.hid hfr; clear hfr
      clear ho
      go_wp2
      go_roundg gk
      case measure => omega
      case rel => exact ⟨i + 1, by go_num, by omega, by omega, Fill.next HF hlt hlt hb1 HO.out HFR.out rfl, ((((bvia hb1 hb).setCell hg _).setCell hg _).setCell hg _).setCell hg _⟩
    · go_wp2
      go_ret
      obtain ⟨bs, h1, h2⟩ := Fill.fin HF (by omega) rfl (by omega)
      exact ⟨_, _, bs, rfl, h1, h2, bel⟩

theorem toGor_calls (x : MGor) (cs : List Value) (w : World) (hx : kGor.K w x cs) (hc : cntGor x ≤ 1048576) :
    Calls Try.prog 74 #[.agg cs.toArray] w fun e w' => ∃ cs' bs, e = .returned (.agg cs'.toArray) ∧ kGor.O w' bs x cs' ∧ Fresh w bs ∧ Below w.heap.size w w' := by
  obtain ⟨A0, c0, A1, c1, rfl, l0, r0, l1, r1⟩ := kGor_K hx
  clear hx
  unfold cntGor at hc
  obtain ⟨x0, x1, x2, x3, x4⟩ := x
  simp only at *
  have R0 := Lib.hid r0; clear r0
  have R1 := Lib.hid r1; clear r1
  go_enter Try.func74, Try.ntmps74
  go_wp2_with (first
    | (go_at_call 92; (with_reducible refine (toIntS_calls x2 _ _ _ (R0.out.below bel) (by omega)).mono ?_); rintro e w0 ⟨E0, e0, b0, rfl, o0, f0, hb0⟩; obtain ⟨C0, D0⟩ := bcell hb0; obtain ⟨za0, zb0, zc0⟩ : w.heap.size < w0.heap.size ∧ w.heap.size + 1 < w0.heap.size ∧ w.heap.size + 1 + 1 < w0.heap.size := (by have := hb0.size; (try simp at this); omega); have Ho0 := Lib.hid o0; clear o0; have Hf0 := Lib.hid f0; clear f0)
    | (go_at_call 93; (with_reducible refine (toItemS_calls x4 _ _ _ (R1.out.below bel) (by omega)).mono ?_); rintro e w1 ⟨E1, e1, b1, rfl, o1, f1, hb1⟩; obtain ⟨C1, D1⟩ := bcell hb1; obtain ⟨za1, zb1, zc1⟩ : w.heap.size < w1.heap.size ∧ w.heap.size + 1 < w1.heap.size ∧ w.heap.size + 1 + 1 < w1.heap.size := (by have := hb1.size; (try simp at this); omega); have Ho1 := Lib.hid o1; clear o1; have Hf1 := Lib.hid f1; clear f1))
  refine bodyPost_ret (v := .agg #[.int .i64 x0, .int .i64 x1, .slice E0 x2.length e0, .int .i64 x3, .slice E1 x4.length e1]) ?_ ?_ ?_
  · simp only [results, Try.results74]
    go_simp
  · rfl
  · exact ⟨_, _, rfl, kGor_mkO _ ⟨x0, x1, x2, x3, x4⟩ (Hf0.out.own Ho0.out) (Hf1.out.own Ho1.out), (Hf0.out.sub).app ((Hf0.out.own Ho0.out).lt) Hf1.out, bel⟩

theorem toGorS_calls (xs : List MGor) (A : Option Addr) (c : Nat) (w : World) (hr : kGor.Row w A xs) (hm : xs.length + cntGorS xs ≤ 1048576) :
    Calls Try.prog 40 #[.slice A xs.length c] w fun e w' => ∃ B d bs, e = .returned (.slice B xs.length d) ∧ kGor.Own 82 w' bs (.slice B xs.length d) xs ∧ Fresh w bs ∧ Below w.heap.size w w' := by
  have HR := Lib.hid hr; clear hr
  have hmk := mkrow (P := Try.prog) 29 82 5 72 _ Try.underlying29 info_Gor xs.length (by omega) (by omega)
  go_enter Try.func40, Try.ntmps40
  go_wp2
  clear hmk
  have F0 := Fill.init kGor 82 w xs xs.length (madeCells #[.int .i64 0, .int .i64 0, .slice none 0 0, .int .i64 0, .slice none 0 0] (xs.length * 5)) (by rw [size_madeCells]; rfl)
  have hb0 : Below w.heap.size w (w.alloc (.cells (madeCells #[.int .i64 0, .int .i64 0, .slice none 0 0, .int .i64 0, .slice none 0 0] (xs.length * 5)) 82)) := bel
  generalize hg : w.heap.size = g at F0 ⊢
  replace hg : w.heap.size ≤ g := Nat.le_of_eq hg
  go_loopg [4] (xs.length + 1) (fun kq v4 w' => ∃ i : Nat, v4 = .int .i64 i ∧ i + kq = xs.length + 1 ∧ i ≤ xs.length ∧ (∃ cur bss, Hid (Fill kGor 82 w w' g xs.length (xs.take i) cur bss)) ∧ Below w.heap.size w w')
  case atStart => exact ⟨0, rfl, by omega, by omega, F0, hb0⟩
  case round =>
    clear F0 hb0
    obtain ⟨i, rfl, hi, hi2, ⟨cur, bss, HF⟩, hb⟩ := hrel
    obtain ⟨gk, rfl⟩ : ∃ m, gk = m + 1 := ⟨gk - 1, by omega⟩
    by_cases hlt : i < xs.length
    · obtain ⟨b, o, A0, c0, A1, c1, rfl, g0, g1, g2, g3, g4, l0, r0, l1, r1⟩ := kGor_at (HR.out.below hb) hlt
      have R0 := Lib.hid r0; clear r0
      have R1 := Lib.hid r1; clear r1
      go_wp2_with fail
      refine (toGor_calls xs[i] [_, _, _, _, _] _ (kGor_mk _ _ l0 (R0.out.below bel) l1 (R1.out.below bel)) (by have := cntGorS_at hlt; omega)).mono ?_
      rintro e w1 ⟨cs', bs, rfl, ho, hfr, hb1⟩
      have HO := Lib.hid ho
      obtain ⟨E0, e0, b0, E1, e1, b1, rfl, rfl, o0, o1⟩ := kGor_O ho
      obtain ⟨u0, q0, f0⟩ := Fill.cell HF hb1 hlt 0 (at_ := i * 5) (by decide) rfl
      obtain ⟨u1, q1, f1⟩ := Fill.cell HF hb1 hlt 1 (at_ := i * 5 + 1) (by decide) rfl
      obtain ⟨u2, q2, f2⟩ := Fill.cell HF hb1 hlt 2 (at_ := i * 5 + 2) (by decide) rfl
      obtain ⟨u3, q3, f3⟩ := Fill.cell HF hb1 hlt 3 (at_ := i * 5 + 3) (by decide) rfl
      obtain ⟨u4, q4, f4⟩ := Fill.cell HF hb1 hlt 4 (at_ := i * 5 + 4) (by decide) rfl
      have HFR := Lib.hid hfr; clear hfr
      clear ho o0 o1
      go_wp2
      go_roundg gk
      case measure => omega
      case rel => exact ⟨i + 1, by go_num, by omega, by omega, Fill.next HF hlt hlt hb1 HO.out HFR.out rfl, (((((bvia hb1 hb).setCell hg _).setCell hg _).setCell hg _).setCell hg _).setCell hg _⟩
    · go_wp2
      go_ret
      obtain ⟨bs, h1, h2⟩ := Fill.fin HF (by omega) rfl (by omega)
      exact ⟨_, _, bs, rfl, h1, h2, bel⟩

theorem toChan_calls (x : MChan) (cs : List Value) (w : World) (hx : kChan.K w x cs) (hc : cntChan x ≤ 1048576) :
    Calls Try.prog 75 #[.agg cs.toArray] w fun e w' => ∃ cs' bs, e = .returned (.agg cs'.toArray) ∧ kChan.O w' bs x cs' ∧ Fresh w bs ∧ Below w.heap.size w w' := by
  obtain ⟨A0, c0, A1, c1, A2, c2, rfl, l0, r0, l1, r1, l2, r2⟩ := kChan_K hx
  clear hx
  unfold cntChan at hc
  obtain ⟨x0, x1, x2, x3, x4⟩ := x
  simp only at *
  have R0 := Lib.hid r0; clear r0
  have R1 := Lib.hid r1; clear r1
  have R2 := Lib.hid r2; clear r2
  go_enter Try.func75, Try.ntmps75
  go_wp2_with (first
    | (go_at_call 92; (with_reducible refine (toIntS_calls x1 _ _ _ (R0.out.below bel) (by omega)).mono ?_); rintro e w0 ⟨E0, e0, b0, rfl, o0, f0, hb0⟩; obtain ⟨C0, D0⟩ := bcell hb0; obtain ⟨za0, zb0, zc0⟩ : w.heap.size < w0.heap.size ∧ w.heap.size + 1 < w0.heap.size ∧ w.heap.size + 1 + 1 < w0.heap.size := (by have := hb0.size; (try simp at this); omega); have Ho0 := Lib.hid o0; clear o0; have Hf0 := Lib.hid f0; clear f0)
    | (go_at_call 94; (with_reducible refine (toWaiterS_calls x2 _ _ _ (R1.out.below bel) (by omega)).mono ?_); rintro e w1 ⟨E1, e1, b1, rfl, o1, f1, hb1⟩; obtain ⟨C1, D1⟩ := bcell hb1; obtain ⟨za1, zb1, zc1⟩ : w.heap.size < w1.heap.size ∧ w.heap.size + 1 < w1.heap.size ∧ w.heap.size + 1 + 1 < w1.heap.size := (by have := hb1.size; (try simp at this); omega); have Ho1 := Lib.hid o1; clear o1; have Hf1 := Lib.hid f1; clear f1)
    | (go_at_call 94; (with_reducible refine (toWaiterS_calls x3 _ _ _ (R2.out.below bel) (by omega)).mono ?_); rintro e w2 ⟨E2, e2, b2, rfl, o2, f2, hb2⟩; obtain ⟨C2, D2⟩ := bcell hb2; obtain ⟨za2, zb2, zc2⟩ : w.heap.size < w2.heap.size ∧ w.heap.size + 1 < w2.heap.size ∧ w.heap.size + 1 + 1 < w2.heap.size := (by have := hb2.size; (try simp at this); omega); have Ho2 := Lib.hid o2; clear o2; have Hf2 := Lib.hid f2; clear f2))
  refine bodyPost_ret (v := .agg #[.int .i64 x0, .slice E0 x1.length e0, .slice E1 x2.length e1, .slice E2 x3.length e2, .bool x4]) ?_ ?_ ?_
  · simp only [results, Try.results75]
    go_simp
  · rfl
  · exact ⟨_, _, rfl, kChan_mkO _ ⟨x0, x1, x2, x3, x4⟩ (Hf0.out.own Ho0.out) (Hf1.out.own Ho1.out) (Hf2.out.own Ho2.out), ((Hf0.out.sub).app ((Hf0.out.own Ho0.out).lt) Hf1.out).app (mem2 ((Hf0.out.own Ho0.out).lt) (Hf1.out.own Ho1.out).lt) Hf2.out, bel⟩

theorem toChanS_calls (xs : List MChan) (A : Option Addr) (c : Nat) (w : World) (hr : kChan.Row w A xs) (hm : xs.length + cntChanS xs ≤ 1048576) :
    Calls Try.prog 41 #[.slice A xs.length c] w fun e w' => ∃ B d bs, e = .returned (.slice B xs.length d) ∧ kChan.Own 85 w' bs (.slice B xs.length d) xs ∧ Fresh w bs ∧ Below w.heap.size w w' := by
  have HR := Lib.hid hr; clear hr
  have hmk := mkrow (P := Try.prog) 30 85 5 88 _ Try.underlying30 info_Chan xs.length (by omega) (by omega)
  go_enter Try.func41, Try.ntmps41
  go_wp2
  clear hmk
  have F0 := Fill.init kChan 85 w xs xs.length (madeCells #[.int .i64 0, .slice none 0 0, .slice none 0 0, .slice none 0 0, .bool false] (xs.length * 5)) (by rw [size_madeCells]; rfl)
  have hb0 : Below w.heap.size w (w.alloc (.cells (madeCells #[.int .i64 0, .slice none 0 0, .slice none 0 0, .slice none 0 0, .bool false] (xs.length * 5)) 85)) := bel
  generalize hg : w.heap.size = g at F0 ⊢
  replace hg : w.heap.size ≤ g := Nat.le_of_eq hg
  go_loopg [4] (xs.length + 1) (fun kq v4 w' => ∃ i : Nat, v4 = .int .i64 i ∧ i + kq = xs.length + 1 ∧ i ≤ xs.length ∧ (∃ cur bss, Hid (Fill kChan 85 w w' g xs.length (xs.take i) cur bss)) ∧ Below w.heap.size w w')
  case atStart => exact ⟨0, rfl, by omega, by omega, F0, hb0⟩
  case round =>
    clear F0 hb0
    obtain ⟨i, rfl, hi, hi2, ⟨cur, bss, HF⟩, hb⟩ := hrel
    obtain ⟨gk, rfl⟩ : ∃ m, gk = m + 1 := ⟨gk - 1, by omega⟩
    by_cases hlt : i < xs.length
    · obtain ⟨b, o, A0, c0, A1, c1, A2, c2, rfl, g0, g1, g2, g3, g4, l0, r0, l1, r1, l2, r2⟩ := kChan_at (HR.out.below hb) hlt
      have R0 := Lib.hid r0; clear r0
      have R1 := Lib.hid r1; clear r1
      have R2 := Lib.hid r2; clear r2
      go_wp2_with fail
      refine (toChan_calls xs[i] [_, _, _, _, _] _ (kChan_mk _ _ l0 (R0.out.below bel) l1 (R1.out.below bel) l2 (R2.out.below bel)) (by have := cntChanS_at hlt; omega)).mono ?_
      rintro e w1 ⟨cs', bs, rfl, ho, hfr, hb1⟩
      have HO := Lib.hid ho
      obtain ⟨E0, e0, b0, E1, e1, b1, E2, e2, b2, rfl, rfl, o0, o1, o2⟩ := kChan_O ho
      obtain ⟨u0, q0, f0⟩ := Fill.cell HF hb1 hlt 0 (at_ := i * 5) (by decide) rfl
      obtain ⟨u1, q1, f1⟩ := Fill.cell HF hb1 hlt 1 (at_ := i * 5 + 1) (by decide) rfl
      obtain ⟨u2, q2, f2⟩ := Fill.cell HF hb1 hlt 2 (at_ := i * 5 + 2) (by decide) rfl
      obtain ⟨u3, q3, f3⟩ := Fill.cell HF hb1 hlt 3 (at_ := i * 5 + 3) (by decide) rfl
      obtain ⟨u4, q4, f4⟩ := Fill.cell HF hb1 hlt 4 (at_ := i * 5 + 4) (by decide) rfl
      have HFR := Lib.hid hfr; clear hfr
      clear ho o0 o1 o2
      go_wp2
      go_roundg gk
      case measure => omega
      case rel => exact ⟨i + 1, by go_num, by omega, by omega, Fill.next HF hlt hlt hb1 HO.out HFR.out rfl, (((((bvia hb1 hb).setCell hg _).setCell hg _).setCell hg _).setCell hg _).setCell hg _⟩
    · go_wp2
      go_ret
      obtain ⟨bs, h1, h2⟩ := Fill.fin HF (by omega) rfl (by omega)
      exact ⟨_, _, bs, rfl, h1, h2, bel⟩

theorem toMutex_calls (x : MMutex) (cs : List Value) (w : World) (hx : kMutex.K w x cs) (hc : cntMutex x ≤ 1048576) :
    Calls Try.prog 76 #[.agg cs.toArray] w fun e w' => ∃ cs' bs, e = .returned (.agg cs'.toArray) ∧ kMutex.O w' bs x cs' ∧ Fresh w bs ∧ Below w.heap.size w w' := by
  obtain ⟨A0, c0, rfl, l0, r0⟩ := kMutex_K hx
  clear hx
  unfold cntMutex at hc
  obtain ⟨x0, x1⟩ := x
  simp only at *
  have R0 := Lib.hid r0; clear r0
  go_enter Try.func76, Try.ntmps76
  go_wp2_with (first
    | (go_at_call 92; (with_reducible refine (toIntS_calls x1 _ _ _ (R0.out.below bel) (by omega)).mono ?_); rintro e w0 ⟨E0, e0, b0, rfl, o0, f0, hb0⟩; obtain ⟨C0, D0⟩ := bcell hb0; obtain ⟨za0, zb0, zc0⟩ : w.heap.size < w0.heap.size ∧ w.heap.size + 1 < w0.heap.size ∧ w.heap.size + 1 + 1 < w0.heap.size := (by have := hb0.size; (try simp at this); omega); have Ho0 := Lib.hid o0; clear o0; have Hf0 := Lib.hid f0; clear f0))
  refine bodyPost_ret (v := .agg #[.int .i64 x0, .slice E0 x1.length e0]) ?_ ?_ ?_
  · simp only [results, Try.results76]
    go_simp
  · rfl
  · exact ⟨_, _, rfl, kMutex_mkO _ ⟨x0, x1⟩ (Hf0.out.own Ho0.out), Hf0.out.sub, bel⟩

theorem toMutexS_calls (xs : List MMutex) (A : Option Addr) (c : Nat) (w : World) (hr : kMutex.Row w A xs) (hm : xs.length + cntMutexS xs ≤ 1048576) :
    Calls Try.prog 42 #[.slice A xs.length c] w fun e w' => ∃ B d bs, e = .returned (.slice B xs.length d) ∧ kMutex.Own 76 w' bs (.slice B xs.length d) xs ∧ Fresh w bs ∧ Below w.heap.size w w' := by
  have HR := Lib.hid hr; clear hr
  have hmk := mkrow (P := Try.prog) 31 76 2 32 _ Try.underlying31 info_Mutex xs.length (by omega) (by omega)
  go_enter Try.func42, Try.ntmps42
  go_wp2
  clear hmk
  have F0 := Fill.init kMutex 76 w xs xs.length (madeCells #[.int .i64 0, .slice none 0 0] (xs.length * 2)) (by rw [size_madeCells]; rfl)
  have hb0 : Below w.heap.size w (w.alloc (.cells (madeCells #[.int .i64 0, .slice none 0 0] (xs.length * 2)) 76)) := bel
  generalize hg : w.heap.size = g at F0 ⊢
  replace hg : w.heap.size ≤ g := Nat.le_of_eq hg
  go_loopg [4] (xs.length + 1) (fun kq v4 w' => ∃ i : Nat, v4 = .int .i64 i ∧ i + kq = xs.length + 1 ∧ i ≤ xs.length ∧ (∃ cur bss, Hid (Fill kMutex 76 w w' g xs.length (xs.take i) cur bss)) ∧ Below w.heap.size w w')
  case atStart => exact ⟨0, rfl, by omega, by omega, F0, hb0⟩
  case round =>
    clear F0 hb0
    obtain ⟨i, rfl, hi, hi2, ⟨cur, bss, HF⟩, hb⟩ := hrel
    obtain ⟨gk, rfl⟩ : ∃ m, gk = m + 1 := ⟨gk - 1, by omega⟩
    by_cases hlt : i < xs.length
    · obtain ⟨b, o, A0, c0, rfl, g0, g1, l0, r0⟩ := kMutex_at (HR.out.below hb) hlt
      have R0 := Lib.hid r0; clear r0
      go_wp2_with fail
      refine (toMutex_calls xs[i] [_, _] _ (kMutex_mk _ _ l0 (R0.out.below bel)) (by have := cntMutexS_at hlt; omega)).mono ?_
      rintro e w1 ⟨cs', bs, rfl, ho, hfr, hb1⟩
      have HO := Lib.hid ho
      obtain ⟨E0, e0, b0, rfl, rfl, o0⟩ := kMutex_O ho
      obtain ⟨u0, q0, f0⟩ := Fill.cell HF hb1 hlt 0 (at_ := i * 2) (by decide) rfl
      obtain ⟨u1, q1, f1⟩ := Fill.cell HF hb1 hlt 1 (at_ := i * 2 + 1) (by decide) rfl
      have HFR := Lib.hid hfr; clear hfr
      clear ho o0
      go_wp2
      go_roundg gk
      case measure => omega
      case rel => exact ⟨i + 1, by go_num, by omega, by omega, Fill.next HF hlt hlt hb1 HO.out HFR.out rfl, ((bvia hb1 hb).setCell hg _).setCell hg _⟩
    · go_wp2
      go_ret
      obtain ⟨bs, h1, h2⟩ := Fill.fin HF (by omega) rfl (by omega)
      exact ⟨_, _, bs, rfl, h1, h2, bel⟩

theorem toEng_calls (x : MEng) (cs : List Value) (w : World) (hx : kEng.K w x cs) (hc : cntEng x ≤ 1048576) :
    Calls Try.prog 12 #[.agg cs.toArray] w fun e w' => ∃ cs' bs, e = .returned (.agg cs'.toArray) ∧ kEng.O w' bs x cs' ∧ Fresh w bs ∧ Below w.heap.size w w' := by
  obtain ⟨A0, c0, A1, c1, A2, c2, rfl, l0, r0, l1, r1, l2, r2⟩ := kEng_K hx
  clear hx
  unfold cntEng at hc
  obtain ⟨x0, x1, x2⟩ := x
  simp only at *
  have R0 := Lib.hid r0; clear r0
  have R1 := Lib.hid r1; clear r1
  have R2 := Lib.hid r2; clear r2
  go_enter Try.func12, Try.ntmps12
  go_wp2_with (first
    | (go_at_call 40; (with_reducible refine (toGorS_calls x0 _ _ _ (R0.out.below bel) (by omega)).mono ?_); rintro e w0 ⟨E0, e0, b0, rfl, o0, f0, hb0⟩; obtain ⟨C0, D0⟩ := bcell hb0; obtain ⟨za0, zb0, zc0⟩ : w.heap.size < w0.heap.size ∧ w.heap.size + 1 < w0.heap.size ∧ w.heap.size + 1 + 1 < w0.heap.size := (by have := hb0.size; (try simp at this); omega); have Ho0 := Lib.hid o0; clear o0; have Hf0 := Lib.hid f0; clear f0)
    | (go_at_call 41; (with_reducible refine (toChanS_calls x1 _ _ _ (R1.out.below bel) (by omega)).mono ?_); rintro e w1 ⟨E1, e1, b1, rfl, o1, f1, hb1⟩; obtain ⟨C1, D1⟩ := bcell hb1; obtain ⟨za1, zb1, zc1⟩ : w.heap.size < w1.heap.size ∧ w.heap.size + 1 < w1.heap.size ∧ w.heap.size + 1 + 1 < w1.heap.size := (by have := hb1.size; (try simp at this); omega); have Ho1 := Lib.hid o1; clear o1; have Hf1 := Lib.hid f1; clear f1)
    | (go_at_call 42; (with_reducible refine (toMutexS_calls x2 _ _ _ (R2.out.below bel) (by omega)).mono ?_); rintro e w2 ⟨E2, e2, b2, rfl, o2, f2, hb2⟩; obtain ⟨C2, D2⟩ := bcell hb2; obtain ⟨za2, zb2, zc2⟩ : w.heap.size < w2.heap.size ∧ w.heap.size + 1 < w2.heap.size ∧ w.heap.size + 1 + 1 < w2.heap.size := (by have := hb2.size; (try simp at this); omega); have Ho2 := Lib.hid o2; clear o2; have Hf2 := Lib.hid f2; clear f2))
  refine bodyPost_ret (v := .agg #[.slice E0 x0.length e0, .slice E1 x1.length e1, .slice E2 x2.length e2]) ?_ ?_ ?_
  · simp only [results, Try.results12]
    go_simp
  · rfl
  · exact ⟨_, _, rfl, kEng_mkO _ ⟨x0, x1, x2⟩ (Hf0.out.own Ho0.out) (Hf1.out.own Ho1.out) (Hf2.out.own Ho2.out), ((Hf0.out.sub).app ((Hf0.out.own Ho0.out).lt) Hf1.out).app (mem2 ((Hf0.out.own Ho0.out).lt) (Hf1.out.own Ho1.out).lt) Hf2.out, bel⟩
end Go.Proofs.Ytebflbenchomoaa.Wd

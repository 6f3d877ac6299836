/- Texts of one claim, joined: ToE, ToP, SzE, SzP, LawBranches. Conditions: as each says. -/
import Derived.Deep.RegionHeld3
import Derived.Deep.CutRange
import Derived.Test.YtjmefaihkblliaaGreatC02
import Derived.Test.YtjmefaihkblliaaGreatC06
/- Contracts of the laws' helpers. Conditions: none. -/
namespace Go.Proofs.YtjmefaihkblliaaGreat.Wd
open Go.RowKit
open Go.Proofs.YtjmefaihkblliaaGreat.Ab (MCase MSelect MInstr MProc MProg MWaiter MChan MMutex MItem MGor MEng MPick)
set_option linter.unusedVariables false
set_option linter.unusedSimpArgs false
set_option maxHeartbeats 4000000
set_option maxRecDepth 100000
theorem toWaiter_calls (x : MWaiter) (cs : List Value) (w : World) (hx : kWaiter.K w x cs) :
    Calls Tryz.prog 236 #[.agg cs.toArray] w fun e w' => ∃ cs' bs, e = .returned (.agg cs'.toArray) ∧ kWaiter.O w' bs x cs' ∧ Fresh w bs ∧ Below w.heap.size w w' := by
  obtain rfl := kWaiter_K hx
  clear hx
  obtain ⟨x0, x1, x2⟩ := x
  go_enter Tryz.func236, Tryz.ntmps236
  go_wp2
  refine bodyPost_ret (v := .agg #[.int .i64 x0, .int .i64 x1, .int .i64 x2]) ?_ ?_ ?_
  · simp only [results, Tryz.results236]
    go_simp
  · rfl
  · exact ⟨_, _, rfl, kWaiter_mkO _ ⟨x0, x1, x2⟩, fresh_nil _, bel⟩

theorem toItem_calls (x : MItem) (cs : List Value) (w : World) (hx : kItem.K w x cs) :
    Calls Tryz.prog 235 #[.agg cs.toArray] w fun e w' => ∃ cs' bs, e = .returned (.agg cs'.toArray) ∧ kItem.O w' bs x cs' ∧ Fresh w bs ∧ Below w.heap.size w w' := by
  obtain rfl := kItem_K hx
  clear hx
  obtain ⟨x0, x1, x2, x3⟩ := x
  go_enter Tryz.func235, Tryz.ntmps235
  go_wp2
  refine bodyPost_ret (v := .agg #[.int .i64 x0, .int .i64 x1, .int .i64 x2, .bool x3]) ?_ ?_ ?_
  · simp only [results, Tryz.results235]
    go_simp
  · rfl
  · exact ⟨_, _, rfl, kItem_mkO _ ⟨x0, x1, x2, x3⟩, fresh_nil _, bel⟩

theorem toIntS_calls (xs : List Int) (A : Option Addr) (c : Nat) (w : World) (hr : Rp.int.Row w A xs) (hm : xs.length ≤ 1048576) :
    Calls Tryz.prog 63 #[.slice A xs.length c] w fun e w' => ∃ B d bs, e = .returned (.slice B xs.length d) ∧ Rp.int.Own 3 w' bs (.slice B xs.length d) xs ∧ Fresh w bs ∧ Below w.heap.size w w' := by
  have HR := Lib.hid hr; clear hr
  have hmk := mkrow (P := Tryz.prog) 22 3 1 8 _ Tryz.underlying22 info_int xs.length (by omega) (by omega)
  go_enter Tryz.func63, Tryz.ntmps63
  go_wp2
  clear hmk
  have F0 := Fill.init Rp.int 3 w xs xs.length (madeCells #[.int .i64 0] xs.length) (by rw [size_madeCells]; exact (Nat.mul_one _).symm)
  have hb0 : Below w.heap.size w (w.alloc (.cells (madeCells #[.int .i64 0] xs.length) 3)) := bel
  generalize hg : w.heap.size = g at F0 ⊢
  replace hg : w.heap.size ≤ g := Nat.le_of_eq hg
  go_loopg [4] (xs.length + 1) (fun kq v4 w' => ∃ i : Nat, v4 = .int .i64 i ∧ i + kq = xs.length + 1 ∧ i ≤ xs.length ∧ (∃ cur bss, Hid (Fill Rp.int 3 w w' g xs.length (xs.take i) cur bss)) ∧ Below w.heap.size w w')
  case atStart => exact ⟨0, rfl, by omega, by omega, F0, hb0⟩
  case round =>
    clear F0 hb0
    obtain ⟨i, rfl, hi, hi2, ⟨cur, bss, HF⟩, hb⟩ := hrel
    obtain ⟨gk, rfl⟩ : ∃ m, gk = m + 1 := ⟨gk - 1, by omega⟩
    by_cases hlt : i < xs.length
    · obtain ⟨b, o, rfl, g0⟩ := int_at (HR.out.below hb) hlt
      obtain ⟨u0, q0, f0⟩ := Fill.cell HF (Below.refl _ _) hlt 0 (at_ := i) (by decide) (Nat.mul_one i)
      go_wp2
      go_roundg gk
      case measure => omega
      case rel => exact ⟨i + 1, by go_num, by omega, by omega, Fill.next HF hlt hlt (Below.refl _ _) ⟨rfl, rfl⟩ (fresh_nil _) (Nat.mul_one i), hb.setCell hg _⟩
    · go_wp2
      go_ret
      obtain ⟨bs, h1, h2⟩ := Fill.fin HF (by omega) rfl (by omega)
      exact ⟨_, _, bs, rfl, h1, h2, bel⟩

theorem toWaiterS_calls (xs : List MWaiter) (A : Option Addr) (c : Nat) (w : World) (hr : kWaiter.Row w A xs) (hm : xs.length ≤ 1048576) :
    Calls Tryz.prog 188 #[.slice A xs.length c] w fun e w' => ∃ B d bs, e = .returned (.slice B xs.length d) ∧ kWaiter.Own 197 w' bs (.slice B xs.length d) xs ∧ Fresh w bs ∧ Below w.heap.size w w' := by
  have HR := Lib.hid hr; clear hr
  have hmk := mkrow (P := Tryz.prog) 189 197 3 24 _ Tryz.underlying189 info_Waiter xs.length (by omega) (by omega)
  go_enter Tryz.func188, Tryz.ntmps188
  go_wp2
  clear hmk
  have F0 := Fill.init kWaiter 197 w xs xs.length (madeCells #[.int .i64 0, .int .i64 0, .int .i64 0] (xs.length * 3)) (by rw [size_madeCells]; rfl)
  have hb0 : Below w.heap.size w (w.alloc (.cells (madeCells #[.int .i64 0, .int .i64 0, .int .i64 0] (xs.length * 3)) 197)) := bel
  generalize hg : w.heap.size = g at F0 ⊢
  replace hg : w.heap.size ≤ g := Nat.le_of_eq hg
  go_loopg [4] (xs.length + 1) (fun kq v4 w' => ∃ i : Nat, v4 = .int .i64 i ∧ i + kq = xs.length + 1 ∧ i ≤ xs.length ∧ (∃ cur bss, Hid (Fill kWaiter 197 w w' g xs.length (xs.take i) cur bss)) ∧ Below w.heap.size w w')
  case atStart => exact ⟨0, rfl, by omega, by omega, F0, hb0⟩
  case round =>
    clear F0 hb0
    obtain ⟨i, rfl, hi, hi2, ⟨cur, bss, HF⟩, hb⟩ := hrel
    obtain ⟨gk, rfl⟩ : ∃ m, gk = m + 1 := ⟨gk - 1, by omega⟩
    by_cases hlt : i < xs.length
    · obtain ⟨b, o, rfl, g0, g1, g2⟩ := kWaiter_at (HR.out.below hb) hlt
      go_wp2_with fail
      refine (toWaiter_calls xs[i] [_, _, _] _ (kWaiter_mk _ _)).mono ?_
      rintro e w1 ⟨cs', bs, rfl, ho, hfr, hb1⟩
      have HO := Lib.hid ho
      obtain ⟨rfl, rfl⟩ := kWaiter_O ho
      obtain ⟨u0, q0, f0⟩ := Fill.cell HF hb1 hlt 0 (at_ := i * 3) (by decide) rfl
      obtain ⟨u1, q1, f1⟩ := Fill.cell HF hb1 hlt 1 (at_ := i * 3 + 1) (by decide) rfl
      obtain ⟨u2, q2, f2⟩ := Fill.cell HF hb1 hlt 2 (at_ := i * 3 + 2) (by decide) rfl
      have HFR := Lib.hid hfr; clear hfr
      clear ho
      go_wp2
      go_roundg gk
      case measure => omega
      case rel => exact ⟨i + 1, by go_num, by omega, by omega, Fill.next HF hlt hlt hb1 HO.out HFR.out rfl, (((bvia hb1 hb).setCell hg _).setCell hg _).setCell hg _⟩
    · go_wp2
      go_ret
      obtain ⟨bs, h1, h2⟩ := Fill.fin HF (by omega) rfl (by omega)
      exact ⟨_, _, bs, rfl, h1, h2, bel⟩

theorem toItemS_calls (xs : List MItem) (A : Option Addr) (c : Nat) (w : World) (hr : kItem.Row w A xs) (hm : xs.length ≤ 1048576) :
    Calls Tryz.prog 187 #[.slice A xs.length c] w fun e w' => ∃ B d bs, e = .returned (.slice B xs.length d) ∧ kItem.Own 128 w' bs (.slice B xs.length d) xs ∧ Fresh w bs ∧ Below w.heap.size w w' := by
  have HR := Lib.hid hr; clear hr
  have hmk := mkrow (P := Tryz.prog) 125 128 4 32 _ Tryz.underlying125 info_Item xs.length (by omega) (by omega)
  go_enter Tryz.func187, Tryz.ntmps187
  go_wp2
  clear hmk
  have F0 := Fill.init kItem 128 w xs xs.length (madeCells #[.int .i64 0, .int .i64 0, .int .i64 0, .bool false] (xs.length * 4)) (by rw [size_madeCells]; rfl)
  have hb0 : Below w.heap.size w (w.alloc (.cells (madeCells #[.int .i64 0, .int .i64 0, .int .i64 0, .bool false] (xs.length * 4)) 128)) := bel
  generalize hg : w.heap.size = g at F0 ⊢
  replace hg : w.heap.size ≤ g := Nat.le_of_eq hg
  go_loopg [4] (xs.length + 1) (fun kq v4 w' => ∃ i : Nat, v4 = .int .i64 i ∧ i + kq = xs.length + 1 ∧ i ≤ xs.length ∧ (∃ cur bss, Hid (Fill kItem 128 w w' g xs.length (xs.take i) cur bss)) ∧ Below w.heap.size w w')
  case atStart => exact ⟨0, rfl, by omega, by omega, F0, hb0⟩
  case round =>
    clear F0 hb0
    obtain ⟨i, rfl, hi, hi2, ⟨cur, bss, HF⟩, hb⟩ := hrel
    obtain ⟨gk, rfl⟩ : ∃ m, gk = m + 1 := ⟨gk - 1, by omega⟩
    by_cases hlt : i < xs.length
    · obtain ⟨b, o, rfl, g0, g1, g2, g3⟩ := kItem_at (HR.out.below hb) hlt
      go_wp2_with fail
      refine (toItem_calls xs[i] [_, _, _, _] _ (kItem_mk _ _)).mono ?_
      rintro e w1 ⟨cs', bs, rfl, ho, hfr, hb1⟩
      have HO := Lib.hid ho
      obtain ⟨rfl, rfl⟩ := kItem_O ho
      obtain ⟨u0, q0, f0⟩ := Fill.cell HF hb1 hlt 0 (at_ := i * 4) (by decide) rfl
      obtain ⟨u1, q1, f1⟩ := Fill.cell HF hb1 hlt 1 (at_ := i * 4 + 1) (by decide) rfl
      obtain ⟨u2, q2, f2⟩ := Fill.cell HF hb1 hlt 2 (at_ := i * 4 + 2) (by decide) rfl
      obtain ⟨u3, q3, f3⟩ := Fill.cell HF hb1 hlt 3 (at_ := i * 4 + 3) (by decide) rfl
      have HFR := Lib.hid hfr; clear hfr
      clear ho
      go_wp2
      go_roundg gk
      case measure => omega
      case rel => exact ⟨i + 1, by go_num, by omega, by omega, Fill.next HF hlt hlt hb1 HO.out HFR.out rfl, ((((bvia hb1 hb).setCell hg _).setCell hg _).setCell hg _).setCell hg _⟩
    · go_wp2
      go_ret
      obtain ⟨bs, h1, h2⟩ := Fill.fin HF (by omega) rfl (by omega)
      exact ⟨_, _, bs, rfl, h1, h2, bel⟩

theorem toGor_calls (x : MGor) (cs : List Value) (w : World) (hx : kGor.K w x cs) (hc : cntGor x ≤ 1048576) :
    Calls Tryz.prog 129 #[.agg cs.toArray] w fun e w' => ∃ cs' bs, e = .returned (.agg cs'.toArray) ∧ kGor.O w' bs x cs' ∧ Fresh w bs ∧ Below w.heap.size w w' := by
  obtain ⟨A0, c0, A1, c1, rfl, l0, r0, l1, r1⟩ := kGor_K hx
  clear hx
  unfold cntGor at hc
  obtain ⟨x0, x1, x2, x3, x4⟩ := x
  simp only at *
  have R0 := Lib.hid r0; clear r0
  have R1 := Lib.hid r1; clear r1
  go_enter Tryz.func129, Tryz.ntmps129
  go_wp2_with (first
    | (go_at_call 63; (with_reducible refine (toIntS_calls x2 _ _ _ (R0.out.below bel) (by omega)).mono ?_); rintro e w0 ⟨E0, e0, b0, rfl, o0, f0, hb0⟩; obtain ⟨C0, D0⟩ := bcell hb0; obtain ⟨za0, zb0, zc0⟩ : w.heap.size < w0.heap.size ∧ w.heap.size + 1 < w0.heap.size ∧ w.heap.size + 1 + 1 < w0.heap.size := (by have := hb0.size; (try simp at this); omega); have Ho0 := Lib.hid o0; clear o0; have Hf0 := Lib.hid f0; clear f0)
    | (go_at_call 187; (with_reducible refine (toItemS_calls x4 _ _ _ (R1.out.below bel) (by omega)).mono ?_); rintro e w1 ⟨E1, e1, b1, rfl, o1, f1, hb1⟩; obtain ⟨C1, D1⟩ := bcell hb1; obtain ⟨za1, zb1, zc1⟩ : w.heap.size < w1.heap.size ∧ w.heap.size + 1 < w1.heap.size ∧ w.heap.size + 1 + 1 < w1.heap.size := (by have := hb1.size; (try simp at this); omega); have Ho1 := Lib.hid o1; clear o1; have Hf1 := Lib.hid f1; clear f1))
  refine bodyPost_ret (v := .agg #[.int .i64 x0, .int .i64 x1, .slice E0 x2.length e0, .int .i64 x3, .slice E1 x4.length e1]) ?_ ?_ ?_
  · simp only [results, Tryz.results129]
    go_simp
  · rfl
  · exact ⟨_, _, rfl, kGor_mkO _ ⟨x0, x1, x2, x3, x4⟩ (Hf0.out.own Ho0.out) (Hf1.out.own Ho1.out), (Hf0.out.sub).app ((Hf0.out.own Ho0.out).lt) Hf1.out, bel⟩

theorem toGorS_calls (xs : List MGor) (A : Option Addr) (c : Nat) (w : World) (hr : kGor.Row w A xs) (hm : xs.length + cntGorS xs ≤ 1048576) :
    Calls Tryz.prog 66 #[.slice A xs.length c] w fun e w' => ∃ B d bs, e = .returned (.slice B xs.length d) ∧ kGor.Own 172 w' bs (.slice B xs.length d) xs ∧ Fresh w bs ∧ Below w.heap.size w w' := by
  have HR := Lib.hid hr; clear hr
  have hmk := mkrow (P := Tryz.prog) 41 172 5 72 _ Tryz.underlying41 info_Gor xs.length (by omega) (by omega)
  go_enter Tryz.func66, Tryz.ntmps66
  go_wp2
  clear hmk
  have F0 := Fill.init kGor 172 w xs xs.length (madeCells #[.int .i64 0, .int .i64 0, .slice none 0 0, .int .i64 0, .slice none 0 0] (xs.length * 5)) (by rw [size_madeCells]; rfl)
  have hb0 : Below w.heap.size w (w.alloc (.cells (madeCells #[.int .i64 0, .int .i64 0, .slice none 0 0, .int .i64 0, .slice none 0 0] (xs.length * 5)) 172)) := bel
  generalize hg : w.heap.size = g at F0 ⊢
  replace hg : w.heap.size ≤ g := Nat.le_of_eq hg
  go_loopg [4] (xs.length + 1) (fun kq v4 w' => ∃ i : Nat, v4 = .int .i64 i ∧ i + kq = xs.length + 1 ∧ i ≤ xs.length ∧ (∃ cur bss, Hid (Fill kGor 172 w w' g xs.length (xs.take i) cur bss)) ∧ Below w.heap.size w w')
  case atStart => exact ⟨0, rfl, by omega, by omega, F0, hb0⟩
  case round =>
    clear F0 hb0
    obtain ⟨i, rfl, hi, hi2, ⟨cur, bss, HF⟩, hb⟩ := hrel
    obtain ⟨gk, rfl⟩ : ∃ m, gk = m + 1 := ⟨gk - 1, by omega⟩
    by_cases hlt : i < xs.length
    · obtain ⟨b, o, A0, c0, A1, c1, rfl, g0, g1, g2, g3, g4, l0, r0, l1, r1⟩ := kGor_at (HR.out.below hb) hlt
      have R0 := Lib.hid r0; clear r0
      have R1 := Lib.hid r1; clear r1
      go_wp2_with fail
      refine (toGor_calls xs[i] [_, _, _, _, _] _ (kGor_mk _ _ l0 (R0.out.below bel) l1 (R1.out.below bel)) (by have := cntGorS_at hlt; omega)).mono ?_
      rintro e w1 ⟨cs', bs, rfl, ho, hfr, hb1⟩
      have HO := Lib.hid ho
      obtain ⟨E0, e0, b0, E1, e1, b1, rfl, rfl, o0, o1⟩ := kGor_O ho
      obtain ⟨u0, q0, f0⟩ := Fill.cell HF hb1 hlt 0 (at_ := i * 5) (by decide) rfl
      obtain ⟨u1, q1, f1⟩ := Fill.cell HF hb1 hlt 1 (at_ := i * 5 + 1) (by decide) rfl
      obtain ⟨u2, q2, f2⟩ := Fill.cell HF hb1 hlt 2 (at_ := i * 5 + 2) (by decide) rfl
      obtain ⟨u3, q3, f3⟩ := Fill.cell HF hb1 hlt 3 (at_ := i * 5 + 3) (by decide) rfl
      obtain ⟨u4, q4, f4⟩ := Fill.cell HF hb1 hlt 4 (at_ := i * 5 + 4) (by decide) rfl
      have HFR := Lib.hid hfr; clear hfr
      clear ho o0 o1
      go_wp2
      go_roundg gk
      case measure => omega
      case rel => exact ⟨i + 1, by go_num, by omega, by omega, Fill.next HF hlt hlt hb1 HO.out HFR.out rfl, (((((bvia hb1 hb).setCell hg _).setCell hg _).setCell hg _).setCell hg _).setCell hg _⟩
    · go_wp2
      go_ret
      obtain ⟨bs, h1, h2⟩ := Fill.fin HF (by omega) rfl (by omega)
      exact ⟨_, _, bs, rfl, h1, h2, bel⟩

theorem toChan_calls (x : MChan) (cs : List Value) (w : World) (hx : kChan.K w x cs) (hc : cntChan x ≤ 1048576) :
    Calls Tryz.prog 130 #[.agg cs.toArray] w fun e w' => ∃ cs' bs, e = .returned (.agg cs'.toArray) ∧ kChan.O w' bs x cs' ∧ Fresh w bs ∧ Below w.heap.size w w' := by
  obtain ⟨A0, c0, A1, c1, A2, c2, rfl, l0, r0, l1, r1, l2, r2⟩ := kChan_K hx
  clear hx
  unfold cntChan at hc
  obtain ⟨x0, x1, x2, x3, x4⟩ := x
  simp only at *
  have R0 := Lib.hid r0; clear r0
  have R1 := Lib.hid r1; clear r1
  have R2 := Lib.hid r2; clear r2
  go_enter Tryz.func130, Tryz.ntmps130
  go_wp2_with (first
    | (go_at_call 63; (with_reducible refine (toIntS_calls x1 _ _ _ (R0.out.below bel) (by omega)).mono ?_); rintro e w0 ⟨E0, e0, b0, rfl, o0, f0, hb0⟩; obtain ⟨C0, D0⟩ := bcell hb0; obtain ⟨za0, zb0, zc0⟩ : w.heap.size < w0.heap.size ∧ w.heap.size + 1 < w0.heap.size ∧ w.heap.size + 1 + 1 < w0.heap.size := (by have := hb0.size; (try simp at this); omega); have Ho0 := Lib.hid o0; clear o0; have Hf0 := Lib.hid f0; clear f0)
    | (go_at_call 188; (with_reducible refine (toWaiterS_calls x2 _ _ _ (R1.out.below bel) (by omega)).mono ?_); rintro e w1 ⟨E1, e1, b1, rfl, o1, f1, hb1⟩; obtain ⟨C1, D1⟩ := bcell hb1; obtain ⟨za1, zb1, zc1⟩ : w.heap.size < w1.heap.size ∧ w.heap.size + 1 < w1.heap.size ∧ w.heap.size + 1 + 1 < w1.heap.size := (by have := hb1.size; (try simp at this); omega); have Ho1 := Lib.hid o1; clear o1; have Hf1 := Lib.hid f1; clear f1)
    | (go_at_call 188; (with_reducible refine (toWaiterS_calls x3 _ _ _ (R2.out.below bel) (by omega)).mono ?_); rintro e w2 ⟨E2, e2, b2, rfl, o2, f2, hb2⟩; obtain ⟨C2, D2⟩ := bcell hb2; obtain ⟨za2, zb2, zc2⟩ : w.heap.size < w2.heap.size ∧ w.heap.size + 1 < w2.heap.size ∧ w.heap.size + 1 + 1 < w2.heap.size := (by have := hb2.size; (try simp at this); omega); have Ho2 := Lib.hid o2; clear o2; have Hf2 := Lib.hid f2; clear f2))
  refine bodyPost_ret (v := .agg #[.int .i64 x0, .slice E0 x1.length e0, .slice E1 x2.length e1, .slice E2 x3.length e2, .bool x4]) ?_ ?_ ?_
  · simp only [results, Tryz.results130]
    go_simp
  · rfl
  · exact ⟨_, _, rfl, kChan_mkO _ ⟨x0, x1, x2, x3, x4⟩ (Hf0.out.own Ho0.out) (Hf1.out.own Ho1.out) (Hf2.out.own Ho2.out), ((Hf0.out.sub).app ((Hf0.out.own Ho0.out).lt) Hf1.out).app (mem2 ((Hf0.out.own Ho0.out).lt) (Hf1.out.own Ho1.out).lt) Hf2.out, bel⟩

theorem toChanS_calls (xs : List MChan) (A : Option Addr) (c : Nat) (w : World) (hr : kChan.Row w A xs) (hm : xs.length + cntChanS xs ≤ 1048576) :
    Calls Tryz.prog 67 #[.slice A xs.length c] w fun e w' => ∃ B d bs, e = .returned (.slice B xs.length d) ∧ kChan.Own 191 w' bs (.slice B xs.length d) xs ∧ Fresh w bs ∧ Below w.heap.size w w' := by
  have HR := Lib.hid hr; clear hr
  have hmk := mkrow (P := Tryz.prog) 42 191 5 88 _ Tryz.underlying42 info_Chan xs.length (by omega) (by omega)
  go_enter Tryz.func67, Tryz.ntmps67
  go_wp2
  clear hmk
  have F0 := Fill.init kChan 191 w xs xs.length (madeCells #[.int .i64 0, .slice none 0 0, .slice none 0 0, .slice none 0 0, .bool false] (xs.length * 5)) (by rw [size_madeCells]; rfl)
  have hb0 : Below w.heap.size w (w.alloc (.cells (madeCells #[.int .i64 0, .slice none 0 0, .slice none 0 0, .slice none 0 0, .bool false] (xs.length * 5)) 191)) := bel
  generalize hg : w.heap.size = g at F0 ⊢
  replace hg : w.heap.size ≤ g := Nat.le_of_eq hg
  go_loopg [4] (xs.length + 1) (fun kq v4 w' => ∃ i : Nat, v4 = .int .i64 i ∧ i + kq = xs.length + 1 ∧ i ≤ xs.length ∧ (∃ cur bss, Hid (Fill kChan 191 w w' g xs.length (xs.take i) cur bss)) ∧ Below w.heap.size w w')
  case atStart => exact ⟨0, rfl, by omega, by omega, F0, hb0⟩
  case round =>
    clear F0 hb0
    obtain ⟨i, rfl, hi, hi2, ⟨cur, bss, HF⟩, hb⟩ := hrel
    obtain ⟨gk, rfl⟩ : ∃ m, gk = m + 1 := ⟨gk - 1, by omega⟩
    by_cases hlt : i < xs.length
    · obtain ⟨b, o, A0, c0, A1, c1, A2, c2, rfl, g0, g1, g2, g3, g4, l0, r0, l1, r1, l2, r2⟩ := kChan_at (HR.out.below hb) hlt
      have R0 := Lib.hid r0; clear r0
      have R1 := Lib.hid r1; clear r1
      have R2 := Lib.hid r2; clear r2
      go_wp2_with fail
      refine (toChan_calls xs[i] [_, _, _, _, _] _ (kChan_mk _ _ l0 (R0.out.below bel) l1 (R1.out.below bel) l2 (R2.out.below bel)) (by have := cntChanS_at hlt; omega)).mono ?_
      rintro e w1 ⟨cs', bs, rfl, ho, hfr, hb1⟩
      have HO := Lib.hid ho
      obtain ⟨E0, e0, b0, E1, e1, b1, E2, e2, b2, rfl, rfl, o0, o1, o2⟩ := kChan_O ho
      obtain ⟨u0, q0, f0⟩ := Fill.cell HF hb1 hlt 0 (at_ := i * 5) (by decide) rfl
      obtain ⟨u1, q1, f1⟩ := Fill.cell HF hb1 hlt 1 (at_ := i * 5 + 1) (by decide) rfl
      obtain ⟨u2, q2, f2⟩ := Fill.cell HF hb1 hlt 2 (at_ := i * 5 + 2) (by decide) rfl
      obtain ⟨u3, q3, f3⟩ := Fill.cell HF hb1 hlt 3 (at_ := i * 5 + 3) (by decide) rfl
      obtain ⟨u4, q4, f4⟩ := Fill.cell HF hb1 hlt 4 (at_ := i * 5 + 4) (by decide) rfl
      have HFR := Lib.hid hfr; clear hfr
      clear ho o0 o1 o2
      go_wp2
      go_roundg gk
      case measure => omega
      case rel => exact ⟨i + 1, by go_num, by omega, by omega, Fill.next HF hlt hlt hb1 HO.out HFR.out rfl, (((((bvia hb1 hb).setCell hg _).setCell hg _).setCell hg _).setCell hg _).setCell hg _⟩
    · go_wp2
      go_ret
      obtain ⟨bs, h1, h2⟩ := Fill.fin HF (by omega) rfl (by omega)
      exact ⟨_, _, bs, rfl, h1, h2, bel⟩

theorem toMutex_calls (x : MMutex) (cs : List Value) (w : World) (hx : kMutex.K w x cs) (hc : cntMutex x ≤ 1048576) :
    Calls Tryz.prog 131 #[.agg cs.toArray] w fun e w' => ∃ cs' bs, e = .returned (.agg cs'.toArray) ∧ kMutex.O w' bs x cs' ∧ Fresh w bs ∧ Below w.heap.size w w' := by
  obtain ⟨A0, c0, rfl, l0, r0⟩ := kMutex_K hx
  clear hx
  unfold cntMutex at hc
  obtain ⟨x0, x1⟩ := x
  simp only at *
  have R0 := Lib.hid r0; clear r0
  go_enter Tryz.func131, Tryz.ntmps131
  go_wp2_with (first
    | (go_at_call 63; (with_reducible refine (toIntS_calls x1 _ _ _ (R0.out.below bel) (by omega)).mono ?_); rintro e w0 ⟨E0, e0, b0, rfl, o0, f0, hb0⟩; obtain ⟨C0, D0⟩ := bcell hb0; obtain ⟨za0, zb0, zc0⟩ : w.heap.size < w0.heap.size ∧ w.heap.size + 1 < w0.heap.size ∧ w.heap.size + 1 + 1 < w0.heap.size := (by have := hb0.size; (try simp at this); omega); have Ho0 := Lib.hid o0; clear o0; have Hf0 := Lib.hid f0; clear f0))
  refine bodyPost_ret (v := .agg #[.int .i64 x0, .slice E0 x1.length e0]) ?_ ?_ ?_
  · simp only [results, Tryz.results131]
    go_simp
  · rfl
  · exact ⟨_, _, rfl, kMutex_mkO _ ⟨x0, x1⟩ (Hf0.out.own Ho0.out), Hf0.out.sub, bel⟩

theorem toMutexS_calls (xs : List MMutex) (A : Option Addr) (c : Nat) (w : World) (hr : kMutex.Row w A xs) (hm : xs.length + cntMutexS xs ≤ 1048576) :
    Calls Tryz.prog 68 #[.slice A xs.length c] w fun e w' => ∃ B d bs, e = .returned (.slice B xs.length d) ∧ kMutex.Own 193 w' bs (.slice B xs.length d) xs ∧ Fresh w bs ∧ Below w.heap.size w w' := by
  have HR := Lib.hid hr; clear hr
  have hmk := mkrow (P := Tryz.prog) 43 193 2 32 _ Tryz.underlying43 info_Mutex xs.length (by omega) (by omega)
  go_enter Tryz.func68, Tryz.ntmps68
  go_wp2
  clear hmk
  have F0 := Fill.init kMutex 193 w xs xs.length (madeCells #[.int .i64 0, .slice none 0 0] (xs.length * 2)) (by rw [size_madeCells]; rfl)
  have hb0 : Below w.heap.size w (w.alloc (.cells (madeCells #[.int .i64 0, .slice none 0 0] (xs.length * 2)) 193)) := bel
  generalize hg : w.heap.size = g at F0 ⊢
  replace hg : w.heap.size ≤ g := Nat.le_of_eq hg
  go_loopg [4] (xs.length + 1) (fun kq v4 w' => ∃ i : Nat, v4 = .int .i64 i ∧ i + kq = xs.length + 1 ∧ i ≤ xs.length ∧ (∃ cur bss, Hid (Fill kMutex 193 w w' g xs.length (xs.take i) cur bss)) ∧ Below w.heap.size w w')
  case atStart => exact ⟨0, rfl, by omega, by omega, F0, hb0⟩
  case round =>
    clear F0 hb0
    obtain ⟨i, rfl, hi, hi2, ⟨cur, bss, HF⟩, hb⟩ := hrel
    obtain ⟨gk, rfl⟩ : ∃ m, gk = m + 1 := ⟨gk - 1, by omega⟩
    by_cases hlt : i < xs.length
    · obtain ⟨b, o, A0, c0, rfl, g0, g1, l0, r0⟩ := kMutex_at (HR.out.below hb) hlt
      have R0 := Lib.hid r0; clear r0
      go_wp2_with fail
      refine (toMutex_calls xs[i] [_, _] _ (kMutex_mk _ _ l0 (R0.out.below bel)) (by have := cntMutexS_at hlt; omega)).mono ?_
      rintro e w1 ⟨cs', bs, rfl, ho, hfr, hb1⟩
      have HO := Lib.hid ho
      obtain ⟨E0, e0, b0, rfl, rfl, o0⟩ := kMutex_O ho
      obtain ⟨u0, q0, f0⟩ := Fill.cell HF hb1 hlt 0 (at_ := i * 2) (by decide) rfl
      obtain ⟨u1, q1, f1⟩ := Fill.cell HF hb1 hlt 1 (at_ := i * 2 + 1) (by decide) rfl
      have HFR := Lib.hid hfr; clear hfr
      clear ho o0
      go_wp2
      go_roundg gk
      case measure => omega
      case rel => exact ⟨i + 1, by go_num, by omega, by omega, Fill.next HF hlt hlt hb1 HO.out HFR.out rfl, ((bvia hb1 hb).setCell hg _).setCell hg _⟩
    · go_wp2
      go_ret
      obtain ⟨bs, h1, h2⟩ := Fill.fin HF (by omega) rfl (by omega)
      exact ⟨_, _, bs, rfl, h1, h2, bel⟩

theorem toEng_calls (x : MEng) (cs : List Value) (w : World) (hx : kEng.K w x cs) (hc : cntEng x ≤ 1048576) :
    Calls Tryz.prog 15 #[.agg cs.toArray] w fun e w' => ∃ cs' bs, e = .returned (.agg cs'.toArray) ∧ kEng.O w' bs x cs' ∧ Fresh w bs ∧ Below w.heap.size w w' := by
  obtain ⟨A0, c0, A1, c1, A2, c2, rfl, l0, r0, l1, r1, l2, r2⟩ := kEng_K hx
  clear hx
  unfold cntEng at hc
  obtain ⟨x0, x1, x2⟩ := x
  simp only at *
  have R0 := Lib.hid r0; clear r0
  have R1 := Lib.hid r1; clear r1
  have R2 := Lib.hid r2; clear r2
  go_enter Tryz.func15, Tryz.ntmps15
  go_wp2_with (first
    | (go_at_call 66; (with_reducible refine (toGorS_calls x0 _ _ _ (R0.out.below bel) (by omega)).mono ?_); rintro e w0 ⟨E0, e0, b0, rfl, o0, f0, hb0⟩; obtain ⟨C0, D0⟩ := bcell hb0; obtain ⟨za0, zb0, zc0⟩ : w.heap.size < w0.heap.size ∧ w.heap.size + 1 < w0.heap.size ∧ w.heap.size + 1 + 1 < w0.heap.size := (by have := hb0.size; (try simp at this); omega); have Ho0 := Lib.hid o0; clear o0; have Hf0 := Lib.hid f0; clear f0)
    | (go_at_call 67; (with_reducible refine (toChanS_calls x1 _ _ _ (R1.out.below bel) (by omega)).mono ?_); rintro e w1 ⟨E1, e1, b1, rfl, o1, f1, hb1⟩; obtain ⟨C1, D1⟩ := bcell hb1; obtain ⟨za1, zb1, zc1⟩ : w.heap.size < w1.heap.size ∧ w.heap.size + 1 < w1.heap.size ∧ w.heap.size + 1 + 1 < w1.heap.size := (by have := hb1.size; (try simp at this); omega); have Ho1 := Lib.hid o1; clear o1; have Hf1 := Lib.hid f1; clear f1)
    | (go_at_call 68; (with_reducible refine (toMutexS_calls x2 _ _ _ (R2.out.below bel) (by omega)).mono ?_); rintro e w2 ⟨E2, e2, b2, rfl, o2, f2, hb2⟩; obtain ⟨C2, D2⟩ := bcell hb2; obtain ⟨za2, zb2, zc2⟩ : w.heap.size < w2.heap.size ∧ w.heap.size + 1 < w2.heap.size ∧ w.heap.size + 1 + 1 < w2.heap.size := (by have := hb2.size; (try simp at this); omega); have Ho2 := Lib.hid o2; clear o2; have Hf2 := Lib.hid f2; clear f2))
  refine bodyPost_ret (v := .agg #[.slice E0 x0.length e0, .slice E1 x1.length e1, .slice E2 x2.length e2]) ?_ ?_ ?_
  · simp only [results, Tryz.results15]
    go_simp
  · rfl
  · exact ⟨_, _, rfl, kEng_mkO _ ⟨x0, x1, x2⟩ (Hf0.out.own Ho0.out) (Hf1.out.own Ho1.out) (Hf2.out.own Ho2.out), ((Hf0.out.sub).app ((Hf0.out.own Ho0.out).lt) Hf1.out).app (mem2 ((Hf0.out.own Ho0.out).lt) (Hf1.out.own Ho1.out).lt) Hf2.out, bel⟩
end Go.Proofs.YtjmefaihkblliaaGreat.Wd
/- Contracts of the laws' helpers over programs. Conditions: none. -/
namespace Go.Proofs.YtjmefaihkblliaaGreat.Wd
open Go.RowKit
open Go.Proofs.YtjmefaihkblliaaGreat.Ab (MCase MSelect MInstr MProc MProg MWaiter MChan MMutex MItem MGor MEng MPick)
set_option linter.unusedVariables false
set_option linter.unusedSimpArgs false
set_option maxHeartbeats 4000000
set_option maxRecDepth 100000
theorem toCase_calls (x : MCase) (cs : List Value) (w : World) (hx : kCase.K w x cs) :
    Calls Tryz.prog 233 #[.agg cs.toArray] w fun e w' => ∃ cs' bs, e = .returned (.agg cs'.toArray) ∧ kCase.O w' bs x cs' ∧ Fresh w bs ∧ Below w.heap.size w w' := by
  obtain rfl := kCase_K hx
  clear hx
  obtain ⟨x0, x1, x2, x3, x4⟩ := x
  go_enter Tryz.func233, Tryz.ntmps233
  go_wp2
  refine bodyPost_ret (v := .agg #[.bool x0, .int .i64 x1, .int .i64 x2, .int .i64 x3, .int .i64 x4]) ?_ ?_ ?_
  · simp only [results, Tryz.results233]
    go_simp
  · rfl
  · exact ⟨_, _, rfl, kCase_mkO _ ⟨x0, x1, x2, x3, x4⟩, fresh_nil _, bel⟩

theorem toCaseS_calls (xs : List MCase) (A : Option Addr) (c : Nat) (w : World) (hr : kCase.Row w A xs) (hm : xs.length ≤ 1048576) :
    Calls Tryz.prog 185 #[.slice A xs.length c] w fun e w' => ∃ B d bs, e = .returned (.slice B xs.length d) ∧ kCase.Own 248 w' bs (.slice B xs.length d) xs ∧ Fresh w bs ∧ Below w.heap.size w w' := by
  have HR := Lib.hid hr; clear hr
  have hmk := mkrow (P := Tryz.prog) 180 248 5 40 _ Tryz.underlying180 info_Case xs.length (by omega) (by omega)
  go_enter Tryz.func185, Tryz.ntmps185
  go_wp2
  clear hmk
  have F0 := Fill.init kCase 248 w xs xs.length (madeCells #[.bool false, .int .i64 0, .int .i64 0, .int .i64 0, .int .i64 0] (xs.length * 5)) (by rw [size_madeCells]; rfl)
  have hb0 : Below w.heap.size w (w.alloc (.cells (madeCells #[.bool false, .int .i64 0, .int .i64 0, .int .i64 0, .int .i64 0] (xs.length * 5)) 248)) := bel
  generalize hg : w.heap.size = g at F0 ⊢
  replace hg : w.heap.size ≤ g := Nat.le_of_eq hg
  go_loopg [4] (xs.length + 1) (fun kq v4 w' => ∃ i : Nat, v4 = .int .i64 i ∧ i + kq = xs.length + 1 ∧ i ≤ xs.length ∧ (∃ cur bss, Hid (Fill kCase 248 w w' g xs.length (xs.take i) cur bss)) ∧ Below w.heap.size w w')
  case atStart => exact ⟨0, rfl, by omega, by omega, F0, hb0⟩
  case round =>
    clear F0 hb0
    obtain ⟨i, rfl, hi, hi2, ⟨cur, bss, HF⟩, hb⟩ := hrel
    obtain ⟨gk, rfl⟩ : ∃ m, gk = m + 1 := ⟨gk - 1, by omega⟩
    by_cases hlt : i < xs.length
    · obtain ⟨b, o, rfl, g0, g1, g2, g3, g4⟩ := kCase_at (HR.out.below hb) hlt
      go_wp2_with fail
      refine (toCase_calls xs[i] [_, _, _, _, _] _ (kCase_mk _ _)).mono ?_
      rintro e w1 ⟨cs', bs, rfl, ho, hfr, hb1⟩
      have HO := Lib.hid ho
      obtain ⟨rfl, rfl⟩ := kCase_O ho
      obtain ⟨u0, q0, f0⟩ := Fill.cell HF hb1 hlt 0 (at_ := i * 5) (by decide) rfl
      obtain ⟨u1, q1, f1⟩ := Fill.cell HF hb1 hlt 1 (at_ := i * 5 + 1) (by decide) rfl
      obtain ⟨u2, q2, f2⟩ := Fill.cell HF hb1 hlt 2 (at_ := i * 5 + 2) (by decide) rfl
      obtain ⟨u3, q3, f3⟩ := Fill.cell HF hb1 hlt 3 (at_ := i * 5 + 3) (by decide) rfl
      obtain ⟨u4, q4, f4⟩ := Fill.cell HF hb1 hlt 4 (at_ := i * 5 + 4) (by decide) rfl
      have HFR := Lib.hid hfr; clear hfr
      clear ho
      go_wp2
      go_roundg gk
      case measure => omega
      case rel => exact ⟨i + 1, by go_num, by omega, by omega, Fill.next HF hlt hlt hb1 HO.out HFR.out rfl, (((((bvia hb1 hb).setCell hg _).setCell hg _).setCell hg _).setCell hg _).setCell hg _⟩
    · go_wp2
      go_ret
      obtain ⟨bs, h1, h2⟩ := Fill.fin HF (by omega) rfl (by omega)
      exact ⟨_, _, bs, rfl, h1, h2, bel⟩

theorem toInstr_calls (x : MInstr) (cs : List Value) (w : World) (hx : kInstr.K w x cs) :
    Calls Tryz.prog 234 #[.agg cs.toArray] w fun e w' => ∃ cs' bs, e = .returned (.agg cs'.toArray) ∧ kInstr.O w' bs x cs' ∧ Fresh w bs ∧ Below w.heap.size w w' := by
  obtain rfl := kInstr_K hx
  clear hx
  obtain ⟨x0, x1, x2, x3⟩ := x
  go_enter Tryz.func234, Tryz.ntmps234
  go_wp2
  refine bodyPost_ret (v := .agg #[.int .i64 x0, .int .i64 x1, .int .i64 x2, .int .i64 x3]) ?_ ?_ ?_
  · simp only [results, Tryz.results234]
    go_simp
  · rfl
  · exact ⟨_, _, rfl, kInstr_mkO _ ⟨x0, x1, x2, x3⟩, fresh_nil _, bel⟩

theorem toInstrS_calls (xs : List MInstr) (A : Option Addr) (c : Nat) (w : World) (hr : kInstr.Row w A xs) (hm : xs.length ≤ 1048576) :
    Calls Tryz.prog 186 #[.slice A xs.length c] w fun e w' => ∃ B d bs, e = .returned (.slice B xs.length d) ∧ kInstr.Own 203 w' bs (.slice B xs.length d) xs ∧ Fresh w bs ∧ Below w.heap.size w w' := by
  have HR := Lib.hid hr; clear hr
  have hmk := mkrow (P := Tryz.prog) 184 203 4 32 _ Tryz.underlying184 info_Instr xs.length (by omega) (by omega)
  go_enter Tryz.func186, Tryz.ntmps186
  go_wp2
  clear hmk
  have F0 := Fill.init kInstr 203 w xs xs.length (madeCells #[.int .i64 0, .int .i64 0, .int .i64 0, .int .i64 0] (xs.length * 4)) (by rw [size_madeCells]; rfl)
  have hb0 : Below w.heap.size w (w.alloc (.cells (madeCells #[.int .i64 0, .int .i64 0, .int .i64 0, .int .i64 0] (xs.length * 4)) 203)) := bel
  generalize hg : w.heap.size = g at F0 ⊢
  replace hg : w.heap.size ≤ g := Nat.le_of_eq hg
  go_loopg [4] (xs.length + 1) (fun kq v4 w' => ∃ i : Nat, v4 = .int .i64 i ∧ i + kq = xs.length + 1 ∧ i ≤ xs.length ∧ (∃ cur bss, Hid (Fill kInstr 203 w w' g xs.length (xs.take i) cur bss)) ∧ Below w.heap.size w w')
  case atStart => exact ⟨0, rfl, by omega, by omega, F0, hb0⟩
  case round =>
    clear F0 hb0
    obtain ⟨i, rfl, hi, hi2, ⟨cur, bss, HF⟩, hb⟩ := hrel
    obtain ⟨gk, rfl⟩ : ∃ m, gk = m + 1 := ⟨gk - 1, by omega⟩
    by_cases hlt : i < xs.length
    · obtain ⟨b, o, rfl, g0, g1, g2, g3⟩ := kInstr_at (HR.out.below hb) hlt
      go_wp2_with fail
      refine (toInstr_calls xs[i] [_, _, _, _] _ (kInstr_mk _ _)).mono ?_
      rintro e w1 ⟨cs', bs, rfl, ho, hfr, hb1⟩
      have HO := Lib.hid ho
      obtain ⟨rfl, rfl⟩ := kInstr_O ho
      obtain ⟨u0, q0, f0⟩ := Fill.cell HF hb1 hlt 0 (at_ := i * 4) (by decide) rfl
      obtain ⟨u1, q1, f1⟩ := Fill.cell HF hb1 hlt 1 (at_ := i * 4 + 1) (by decide) rfl
      obtain ⟨u2, q2, f2⟩ := Fill.cell HF hb1 hlt 2 (at_ := i * 4 + 2) (by decide) rfl
      obtain ⟨u3, q3, f3⟩ := Fill.cell HF hb1 hlt 3 (at_ := i * 4 + 3) (by decide) rfl
      have HFR := Lib.hid hfr; clear hfr
      clear ho
      go_wp2
      go_roundg gk
      case measure => omega
      case rel => exact ⟨i + 1, by go_num, by omega, by omega, Fill.next HF hlt hlt hb1 HO.out HFR.out rfl, ((((bvia hb1 hb).setCell hg _).setCell hg _).setCell hg _).setCell hg _⟩
    · go_wp2
      go_ret
      obtain ⟨bs, h1, h2⟩ := Fill.fin HF (by omega) rfl (by omega)
      exact ⟨_, _, bs, rfl, h1, h2, bel⟩

theorem toSelect_calls (x : MSelect) (cs : List Value) (w : World) (hx : kSelect.K w x cs) (hc : cntSelect x ≤ 1048576) :
    Calls Tryz.prog 127 #[.agg cs.toArray] w fun e w' => ∃ cs' bs, e = .returned (.agg cs'.toArray) ∧ kSelect.O w' bs x cs' ∧ Fresh w bs ∧ Below w.heap.size w w' := by
  obtain ⟨A0, c0, rfl, l0, r0⟩ := kSelect_K hx
  clear hx
  unfold cntSelect at hc
  obtain ⟨x0, x1⟩ := x
  simp only at *
  have R0 := Lib.hid r0; clear r0
  go_enter Tryz.func127, Tryz.ntmps127
  go_wp2_with (first
    | (go_at_call 185; (with_reducible refine (toCaseS_calls x0 _ _ _ (R0.out.below bel) (by omega)).mono ?_); rintro e w0 ⟨E0, e0, b0, rfl, o0, f0, hb0⟩; obtain ⟨C0, D0⟩ := bcell hb0; obtain ⟨za0, zb0, zc0⟩ : w.heap.size < w0.heap.size ∧ w.heap.size + 1 < w0.heap.size ∧ w.heap.size + 1 + 1 < w0.heap.size := (by have := hb0.size; (try simp at this); omega); have Ho0 := Lib.hid o0; clear o0; have Hf0 := Lib.hid f0; clear f0))
  refine bodyPost_ret (v := .agg #[.slice E0 x0.length e0, .int .i64 x1]) ?_ ?_ ?_
  · simp only [results, Tryz.results127]
    go_simp
  · rfl
  · exact ⟨_, _, rfl, kSelect_mkO _ ⟨x0, x1⟩ (Hf0.out.own Ho0.out), Hf0.out.sub, bel⟩

theorem toSelectS_calls (xs : List MSelect) (A : Option Addr) (c : Nat) (w : World) (hr : kSelect.Row w A xs) (hm : xs.length + cntSelectS xs ≤ 1048576) :
    Calls Tryz.prog 64 #[.slice A xs.length c] w fun e w' => ∃ B d bs, e = .returned (.slice B xs.length d) ∧ kSelect.Own 182 w' bs (.slice B xs.length d) xs ∧ Fresh w bs ∧ Below w.heap.size w w' := by
  have HR := Lib.hid hr; clear hr
  have hmk := mkrow (P := Tryz.prog) 36 182 2 32 _ Tryz.underlying36 info_Select xs.length (by omega) (by omega)
  go_enter Tryz.func64, Tryz.ntmps64
  go_wp2
  clear hmk
  have F0 := Fill.init kSelect 182 w xs xs.length (madeCells #[.slice none 0 0, .int .i64 0] (xs.length * 2)) (by rw [size_madeCells]; rfl)
  have hb0 : Below w.heap.size w (w.alloc (.cells (madeCells #[.slice none 0 0, .int .i64 0] (xs.length * 2)) 182)) := bel
  generalize hg : w.heap.size = g at F0 ⊢
  replace hg : w.heap.size ≤ g := Nat.le_of_eq hg
  go_loopg [4] (xs.length + 1) (fun kq v4 w' => ∃ i : Nat, v4 = .int .i64 i ∧ i + kq = xs.length + 1 ∧ i ≤ xs.length ∧ (∃ cur bss, Hid (Fill kSelect 182 w w' g xs.length (xs.take i) cur bss)) ∧ Below w.heap.size w w')
  case atStart => exact ⟨0, rfl, by omega, by omega, F0, hb0⟩
  case round =>
    clear F0 hb0
    obtain ⟨i, rfl, hi, hi2, ⟨cur, bss, HF⟩, hb⟩ := hrel
    obtain ⟨gk, rfl⟩ : ∃ m, gk = m + 1 := ⟨gk - 1, by omega⟩
    by_cases hlt : i < xs.length
    · obtain ⟨b, o, A0, c0, rfl, g0, g1, l0, r0⟩ := kSelect_at (HR.out.below hb) hlt
      have R0 := Lib.hid r0; clear r0
      go_wp2_with fail
      refine (toSelect_calls xs[i] [_, _] _ (kSelect_mk _ _ l0 (R0.out.below bel)) (by have := cntSelectS_at hlt; omega)).mono ?_
      rintro e w1 ⟨cs', bs, rfl, ho, hfr, hb1⟩
      have HO := Lib.hid ho
      obtain ⟨E0, e0, b0, rfl, rfl, o0⟩ := kSelect_O ho
      obtain ⟨u0, q0, f0⟩ := Fill.cell HF hb1 hlt 0 (at_ := i * 2) (by decide) rfl
      obtain ⟨u1, q1, f1⟩ := Fill.cell HF hb1 hlt 1 (at_ := i * 2 + 1) (by decide) rfl
      have HFR := Lib.hid hfr; clear hfr
      clear ho o0
      go_wp2
      go_roundg gk
      case measure => omega
      case rel => exact ⟨i + 1, by go_num, by omega, by omega, Fill.next HF hlt hlt hb1 HO.out HFR.out rfl, ((bvia hb1 hb).setCell hg _).setCell hg _⟩
    · go_wp2
      go_ret
      obtain ⟨bs, h1, h2⟩ := Fill.fin HF (by omega) rfl (by omega)
      exact ⟨_, _, bs, rfl, h1, h2, bel⟩

theorem toProc_calls (x : MProc) (cs : List Value) (w : World) (hx : kProc.K w x cs) (hc : cntProc x ≤ 1048576) :
    Calls Tryz.prog 128 #[.agg cs.toArray] w fun e w' => ∃ cs' bs, e = .returned (.agg cs'.toArray) ∧ kProc.O w' bs x cs' ∧ Fresh w bs ∧ Below w.heap.size w w' := by
  obtain ⟨A0, c0, rfl, l0, r0⟩ := kProc_K hx
  clear hx
  unfold cntProc at hc
  obtain ⟨x0⟩ := x
  simp only at *
  have R0 := Lib.hid r0; clear r0
  go_enter Tryz.func128, Tryz.ntmps128
  go_wp2_with (first
    | (go_at_call 186; (with_reducible refine (toInstrS_calls x0 _ _ _ (R0.out.below bel) (by omega)).mono ?_); rintro e w0 ⟨E0, e0, b0, rfl, o0, f0, hb0⟩; obtain ⟨C0, D0⟩ := bcell hb0; obtain ⟨za0, zb0, zc0⟩ : w.heap.size < w0.heap.size ∧ w.heap.size + 1 < w0.heap.size ∧ w.heap.size + 1 + 1 < w0.heap.size := (by have := hb0.size; (try simp at this); omega); have Ho0 := Lib.hid o0; clear o0; have Hf0 := Lib.hid f0; clear f0))
  refine bodyPost_ret (v := .agg #[.slice E0 x0.length e0]) ?_ ?_ ?_
  · simp only [results, Tryz.results128]
    go_simp
  · rfl
  · exact ⟨_, _, rfl, kProc_mkO _ ⟨x0⟩ (Hf0.out.own Ho0.out), Hf0.out.sub, bel⟩

theorem toProcS_calls (xs : List MProc) (A : Option Addr) (c : Nat) (w : World) (hr : kProc.Row w A xs) (hm : xs.length + cntProcS xs ≤ 1048576) :
    Calls Tryz.prog 65 #[.slice A xs.length c] w fun e w' => ∃ B d bs, e = .returned (.slice B xs.length d) ∧ kProc.Own 186 w' bs (.slice B xs.length d) xs ∧ Fresh w bs ∧ Below w.heap.size w w' := by
  have HR := Lib.hid hr; clear hr
  have hmk := mkrow (P := Tryz.prog) 37 186 1 24 _ Tryz.underlying37 info_Proc xs.length (by omega) (by omega)
  go_enter Tryz.func65, Tryz.ntmps65
  go_wp2
  clear hmk
  have F0 := Fill.init kProc 186 w xs xs.length (madeCells #[.slice none 0 0] xs.length) (by rw [size_madeCells]; exact (Nat.mul_one _).symm)
  have hb0 : Below w.heap.size w (w.alloc (.cells (madeCells #[.slice none 0 0] xs.length) 186)) := bel
  generalize hg : w.heap.size = g at F0 ⊢
  replace hg : w.heap.size ≤ g := Nat.le_of_eq hg
  go_loopg [4] (xs.length + 1) (fun kq v4 w' => ∃ i : Nat, v4 = .int .i64 i ∧ i + kq = xs.length + 1 ∧ i ≤ xs.length ∧ (∃ cur bss, Hid (Fill kProc 186 w w' g xs.length (xs.take i) cur bss)) ∧ Below w.heap.size w w')
  case atStart => exact ⟨0, rfl, by omega, by omega, F0, hb0⟩
  case round =>
    clear F0 hb0
    obtain ⟨i, rfl, hi, hi2, ⟨cur, bss, HF⟩, hb⟩ := hrel
    obtain ⟨gk, rfl⟩ : ∃ m, gk = m + 1 := ⟨gk - 1, by omega⟩
    by_cases hlt : i < xs.length
    · obtain ⟨b, o, A0, c0, rfl, g0, l0, r0⟩ := kProc_at (HR.out.below hb) hlt
      have R0 := Lib.hid r0; clear r0
      go_wp2_with fail
      refine (toProc_calls xs[i] [_] _ (kProc_mk _ _ l0 (R0.out.below bel)) (by have := cntProcS_at hlt; omega)).mono ?_
      rintro e w1 ⟨cs', bs, rfl, ho, hfr, hb1⟩
      have HO := Lib.hid ho
      obtain ⟨E0, e0, b0, rfl, rfl, o0⟩ := kProc_O ho
      obtain ⟨u0, q0, f0⟩ := Fill.cell HF hb1 hlt 0 (at_ := i) (by decide) (Nat.mul_one i)
      have HFR := Lib.hid hfr; clear hfr
      clear ho o0
      go_wp2
      go_roundg gk
      case measure => omega
      case rel => exact ⟨i + 1, by go_num, by omega, by omega, Fill.next HF hlt hlt hb1 HO.out HFR.out (Nat.mul_one i), (bvia hb1 hb).setCell hg _⟩
    · go_wp2
      go_ret
      obtain ⟨bs, h1, h2⟩ := Fill.fin HF (by omega) rfl (by omega)
      exact ⟨_, _, bs, rfl, h1, h2, bel⟩

theorem toProg_calls (x : MProg) (cs : List Value) (w : World) (hx : kProg.K w x cs) (hc : cntProg x ≤ 1048576) :
    Calls Tryz.prog 14 #[.agg cs.toArray] w fun e w' => ∃ cs' bs, e = .returned (.agg cs'.toArray) ∧ kProg.O w' bs x cs' ∧ Fresh w bs ∧ Below w.heap.size w w' := by
  obtain ⟨A0, c0, A1, c1, A2, c2, rfl, l0, r0, l1, r1, l2, r2⟩ := kProg_K hx
  clear hx
  unfold cntProg at hc
  obtain ⟨x0, x1, x2, x3⟩ := x
  simp only at *
  have R0 := Lib.hid r0; clear r0
  have R1 := Lib.hid r1; clear r1
  have R2 := Lib.hid r2; clear r2
  go_enter Tryz.func14, Tryz.ntmps14
  go_wp2_with (first
    | (go_at_call 63; (with_reducible refine (toIntS_calls x0 _ _ _ (R0.out.below bel) (by omega)).mono ?_); rintro e w0 ⟨E0, e0, b0, rfl, o0, f0, hb0⟩; obtain ⟨C0, D0⟩ := bcell hb0; obtain ⟨za0, zb0, zc0⟩ : w.heap.size < w0.heap.size ∧ w.heap.size + 1 < w0.heap.size ∧ w.heap.size + 1 + 1 < w0.heap.size := (by have := hb0.size; (try simp at this); omega); have Ho0 := Lib.hid o0; clear o0; have Hf0 := Lib.hid f0; clear f0)
    | (go_at_call 64; (with_reducible refine (toSelectS_calls x2 _ _ _ (R1.out.below bel) (by omega)).mono ?_); rintro e w1 ⟨E1, e1, b1, rfl, o1, f1, hb1⟩; obtain ⟨C1, D1⟩ := bcell hb1; obtain ⟨za1, zb1, zc1⟩ : w.heap.size < w1.heap.size ∧ w.heap.size + 1 < w1.heap.size ∧ w.heap.size + 1 + 1 < w1.heap.size := (by have := hb1.size; (try simp at this); omega); have Ho1 := Lib.hid o1; clear o1; have Hf1 := Lib.hid f1; clear f1)
    | (go_at_call 65; (with_reducible refine (toProcS_calls x3 _ _ _ (R2.out.below bel) (by omega)).mono ?_); rintro e w2 ⟨E2, e2, b2, rfl, o2, f2, hb2⟩; obtain ⟨C2, D2⟩ := bcell hb2; obtain ⟨za2, zb2, zc2⟩ : w.heap.size < w2.heap.size ∧ w.heap.size + 1 < w2.heap.size ∧ w.heap.size + 1 + 1 < w2.heap.size := (by have := hb2.size; (try simp at this); omega); have Ho2 := Lib.hid o2; clear o2; have Hf2 := Lib.hid f2; clear f2))
  refine bodyPost_ret (v := .agg #[.slice E0 x0.length e0, .int .i64 x1, .slice E1 x2.length e1, .slice E2 x3.length e2]) ?_ ?_ ?_
  · simp only [results, Tryz.results14]
    go_simp
  · rfl
  · exact ⟨_, _, rfl, kProg_mkO _ ⟨x0, x1, x2, x3⟩ (Hf0.out.own Ho0.out) (Hf1.out.own Ho1.out) (Hf2.out.own Ho2.out), ((Hf0.out.sub).app ((Hf0.out.own Ho0.out).lt) Hf1.out).app (mem2 ((Hf0.out.own Ho0.out).lt) (Hf1.out.own Ho1.out).lt) Hf2.out, bel⟩

end Go.Proofs.YtjmefaihkblliaaGreat.Wd
/- Contracts of the laws' helpers. Conditions: none. -/
namespace Go.Proofs.YtjmefaihkblliaaGreat.Wd
open Go.RowKit
open Go.Proofs.YtjmefaihkblliaaGreat.Ab (MCase MSelect MInstr MProc MProg MWaiter MChan MMutex MItem MGor MEng MPick)
set_option linter.unusedVariables false
set_option linter.unusedSimpArgs false
set_option maxHeartbeats 4000000
set_option maxRecDepth 100000
theorem szIntS_calls (xs : List Int) (A : Option Addr) (c : Nat) (l : Int) (w : World) (hr : Rp.int.Row w A xs) (h0 : 0 ≤ l) (h1 : l ≤ 1048576) :
    Calls Tryz.prog 54 #[.slice A xs.length c, .int .i64 l] w fun e w' => e = .returned (.int .i64 (szr l xs.length)) ∧ Below w.heap.size w w' := by
  have hm := hr.1
  clear hr
  unfold szr
  by_cases h : (xs.length : Int) ≤ l
  · rw [if_pos h]
    have t1 : decide (l - (xs.length : Int) < 0) = false := by simp; omega
    go_enter Tryz.func54, Tryz.ntmps54
    go_wp2
    go_ret
    exact ⟨rfl, bel⟩
  · rw [if_neg h]
    have t1 : decide (l - (xs.length : Int) < 0) = true := by simp; omega
    go_enter Tryz.func54, Tryz.ntmps54
    go_wp2
    go_ret
    exact ⟨rfl, bel⟩

theorem szWaiterS_calls (xs : List MWaiter) (A : Option Addr) (c : Nat) (l : Int) (w : World) (hr : kWaiter.Row w A xs) (h0 : 0 ≤ l) (h1 : l ≤ 1048576) :
    Calls Tryz.prog 174 #[.slice A xs.length c, .int .i64 l] w fun e w' => e = .returned (.int .i64 (szr l xs.length)) ∧ Below w.heap.size w w' := by
  have hm := hr.1
  clear hr
  unfold szr
  by_cases h : (xs.length : Int) ≤ l
  · rw [if_pos h]
    have t1 : decide (l - (xs.length : Int) < 0) = false := by simp; omega
    go_enter Tryz.func174, Tryz.ntmps174
    go_wp2
    go_ret
    exact ⟨rfl, bel⟩
  · rw [if_neg h]
    have t1 : decide (l - (xs.length : Int) < 0) = true := by simp; omega
    go_enter Tryz.func174, Tryz.ntmps174
    go_wp2
    go_ret
    exact ⟨rfl, bel⟩

theorem szItemS_calls (xs : List MItem) (A : Option Addr) (c : Nat) (l : Int) (w : World) (hr : kItem.Row w A xs) (h0 : 0 ≤ l) (h1 : l ≤ 1048576) :
    Calls Tryz.prog 173 #[.slice A xs.length c, .int .i64 l] w fun e w' => e = .returned (.int .i64 (szr l xs.length)) ∧ Below w.heap.size w w' := by
  have hm := hr.1
  clear hr
  unfold szr
  by_cases h : (xs.length : Int) ≤ l
  · rw [if_pos h]
    have t1 : decide (l - (xs.length : Int) < 0) = false := by simp; omega
    go_enter Tryz.func173, Tryz.ntmps173
    go_wp2
    go_ret
    exact ⟨rfl, bel⟩
  · rw [if_neg h]
    have t1 : decide (l - (xs.length : Int) < 0) = true := by simp; omega
    go_enter Tryz.func173, Tryz.ntmps173
    go_wp2
    go_ret
    exact ⟨rfl, bel⟩

theorem szGor_calls (x : MGor) (cs : List Value) (l : Int) (w : World) (hx : kGor.K w x cs) (h0 : 0 ≤ l) (h1 : l ≤ 1048576) :
    Calls Tryz.prog 115 #[.agg cs.toArray, .int .i64 l] w fun e w' => e = .returned (.int .i64 (szr l (cntGor x))) ∧ Below w.heap.size w w' := by
  obtain ⟨A0, c0, A1, c1, rfl, l0, r0, l1, r1⟩ := kGor_K hx
  clear hx
  unfold cntGor
  obtain ⟨x0, x1, x2, x3, x4⟩ := x
  simp only at *
  have R0 := Lib.hid r0; clear r0
  have R1 := Lib.hid r1; clear r1
  by_cases h2 : ((x2.length : Nat) : Int) ≤ l
  rotate_left
  · go_enter Tryz.func115, Tryz.ntmps115
    go_wp2_with fail
    refine (sz_no (szIntS_calls x2 _ _ (l) _ (R0.out.below bel) (by omega) (by omega)) rfl (by omega)).mono ?_
    rintro e w0 ⟨rfl, hb0⟩
    obtain ⟨C0, D0⟩ := bcell hb0
    have za0 : w.heap.size < w0.heap.size := by have := hb0.size; (try simp at this); omega
    go_wp2
    go_ret
    refine ⟨?_, bel⟩
    exact szr_n (by omega)
  by_cases h3 : ((x2.length : Nat) : Int) + ((x4.length : Nat) : Int) ≤ l
  rotate_left
  · have t0 : decide (l - ((x2.length : Nat) : Int) < 0) = false := by simp; omega
    go_enter Tryz.func115, Tryz.ntmps115
    go_wp2_with fail
    refine (sz_yes (szIntS_calls x2 _ _ (l) _ (R0.out.below bel) (by omega) (by omega)) rfl (by omega)).mono ?_
    rintro e w0 ⟨rfl, hb0⟩
    obtain ⟨C0, D0⟩ := bcell hb0
    have za0 : w.heap.size < w0.heap.size := by have := hb0.size; (try simp at this); omega
    go_wp2_with fail
    refine (sz_no (szItemS_calls x4 _ _ (l - ((x2.length : Nat) : Int)) _ (R1.out.below bel) (by omega) (by omega)) rfl (by omega)).mono ?_
    rintro e w1 ⟨rfl, hb1⟩
    obtain ⟨C1, D1⟩ := bcell hb1
    have za1 : w.heap.size < w1.heap.size := by have := hb1.size; (try simp at this); omega
    go_wp2
    go_ret
    refine ⟨?_, bel⟩
    exact szr_n (by omega)
  have t0 : decide (l - ((x2.length : Nat) : Int) < 0) = false := by simp; omega
  have t1 : decide (l - ((x2.length : Nat) : Int) - ((x4.length : Nat) : Int) < 0) = false := by simp; omega
  go_enter Tryz.func115, Tryz.ntmps115
  go_wp2_with fail
  refine (sz_yes (szIntS_calls x2 _ _ (l) _ (R0.out.below bel) (by omega) (by omega)) rfl (by omega)).mono ?_
  rintro e w0 ⟨rfl, hb0⟩
  obtain ⟨C0, D0⟩ := bcell hb0
  have za0 : w.heap.size < w0.heap.size := by have := hb0.size; (try simp at this); omega
  go_wp2_with fail
  refine (sz_yes (szItemS_calls x4 _ _ (l - ((x2.length : Nat) : Int)) _ (R1.out.below bel) (by omega) (by omega)) rfl (by omega)).mono ?_
  rintro e w1 ⟨rfl, hb1⟩
  obtain ⟨C1, D1⟩ := bcell hb1
  have za1 : w.heap.size < w1.heap.size := by have := hb1.size; (try simp at this); omega
  go_wp2
  go_ret
  refine ⟨?_, bel⟩
  exact szr_y (by omega) (by omega)

theorem szGorS_calls (xs : List MGor) (A : Option Addr) (c : Nat) (l : Int) (w : World) (hr : kGor.Row w A xs) (h0 : 0 ≤ l) (h1 : l ≤ 1048576) :
    Calls Tryz.prog 57 #[.slice A xs.length c, .int .i64 l] w fun e w' => e = .returned (.int .i64 (szr l (xs.length + cntGorS xs))) ∧ Below w.heap.size w w' := by
  have hm := hr.1
  have HR := Lib.hid hr; clear hr
  by_cases h : (xs.length : Int) ≤ l
  · have t1 : decide (l - (xs.length : Int) < 0) = false := by simp; omega
    go_enter Tryz.func57, Tryz.ntmps57
    go_wp2
    go_loopg [1, 5] (xs.length + 1) (fun kq v1 v3 w' => ∃ i : Nat, v3 = .int .i64 i ∧ i + kq = xs.length + 1 ∧ i ≤ xs.length ∧ v1 = .int .i64 (l - (xs.length : Int) - (cntGorS (xs.take i) : Int)) ∧ 0 ≤ l - (xs.length : Int) - (cntGorS (xs.take i) : Int) ∧ Below w.heap.size w w')
    case atStart => exact ⟨0, rfl, by omega, by omega, by simp [cntGorS], by simp [cntGorS]; omega, Below.refl _ _⟩
    case round =>
      obtain ⟨i, rfl, hi, hi2, rfl, h3, hb⟩ := hrel
      obtain ⟨gk, rfl⟩ : ∃ m, gk = m + 1 := ⟨gk - 1, by omega⟩
      by_cases hlt : i < xs.length
      · obtain ⟨b, o, A0, c0, A1, c1, rfl, g0, g1, g2, g3, g4, l0, r0, l1, r1⟩ := kGor_at (HR.out.below hb) hlt
        have R0 := Lib.hid r0; clear r0
        have R1 := Lib.hid r1; clear r1
        have hs := cntGorS_take hlt
        have hle := cntGorS_le (xs := xs) (i := i + 1)
        generalize hp : l - (xs.length : Int) - (cntGorS (xs.take i) : Int) = p at h3 ⊢
        have hp1 : p ≤ 1048576 := by omega
        by_cases h4 : (cntGor xs[i] : Int) ≤ p
        · have t2 : decide (p - (cntGor xs[i] : Int) < 0) = false := by simp; omega
          have Hs := Lib.hid hs; clear hs
          have Hp := Lib.hid hp; clear hp
          go_wp2_with fail
          refine (sz_yes (szGor_calls xs[i] [_, _, _, _, _] p _ (kGor_mk _ _ l0 (R0.out.below bel) l1 (R1.out.below bel)) (by omega) (by omega)) rfl h4).mono ?_
          rintro e w1 ⟨rfl, hb1⟩
          go_wp2
          go_roundg gk
          case measure => omega
          case rel => exact ⟨i + 1, by go_num, by omega, by omega, by rw [Hs.out, ← Hp.out]; congr 1; omega, by have := Hs.out; have := Hp.out; omega, bvia hb1 hb⟩
        · have Hs := Lib.hid hs; clear hs
          have Hp := Lib.hid hp; clear hp
          go_wp2_with fail
          refine (sz_no (szGor_calls xs[i] [_, _, _, _, _] p _ (kGor_mk _ _ l0 (R0.out.below bel) l1 (R1.out.below bel)) (by omega) (by omega)) rfl (by omega)).mono ?_
          rintro e w1 ⟨rfl, hb1⟩
          go_wp2
          go_ret
          refine ⟨?_, bvia hb1 hb⟩
          have := Hs.out; have := Hp.out
          exact szr_n (by omega)
      · have hi' : i = xs.length := by omega
        subst hi'
        rw [List.take_length] at h3 ⊢
        go_wp2
        go_ret
        exact ⟨szr_y (by omega) (by omega), hb⟩
  · have t1 : decide (l - (xs.length : Int) < 0) = true := by simp; omega
    go_enter Tryz.func57, Tryz.ntmps57
    go_wp2
    go_ret
    exact ⟨szr_n (by omega), bel⟩

theorem szChan_calls (x : MChan) (cs : List Value) (l : Int) (w : World) (hx : kChan.K w x cs) (h0 : 0 ≤ l) (h1 : l ≤ 1048576) :
    Calls Tryz.prog 116 #[.agg cs.toArray, .int .i64 l] w fun e w' => e = .returned (.int .i64 (szr l (cntChan x))) ∧ Below w.heap.size w w' := by
  obtain ⟨A0, c0, A1, c1, A2, c2, rfl, l0, r0, l1, r1, l2, r2⟩ := kChan_K hx
  clear hx
  unfold cntChan
  obtain ⟨x0, x1, x2, x3, x4⟩ := x
  simp only at *
  have R0 := Lib.hid r0; clear r0
  have R1 := Lib.hid r1; clear r1
  have R2 := Lib.hid r2; clear r2
  by_cases h2 : ((x1.length : Nat) : Int) ≤ l
  rotate_left
  · go_enter Tryz.func116, Tryz.ntmps116
    go_wp2_with fail
    refine (sz_no (szIntS_calls x1 _ _ (l) _ (R0.out.below bel) (by omega) (by omega)) rfl (by omega)).mono ?_
    rintro e w0 ⟨rfl, hb0⟩
    obtain ⟨C0, D0⟩ := bcell hb0
    have za0 : w.heap.size < w0.heap.size := by have := hb0.size; (try simp at this); omega
    go_wp2
    go_ret
    refine ⟨?_, bel⟩
    exact szr_n (by omega)
  by_cases h3 : ((x1.length : Nat) : Int) + ((x2.length : Nat) : Int) ≤ l
  rotate_left
  · have t0 : decide (l - ((x1.length : Nat) : Int) < 0) = false := by simp; omega
    go_enter Tryz.func116, Tryz.ntmps116
    go_wp2_with fail
    refine (sz_yes (szIntS_calls x1 _ _ (l) _ (R0.out.below bel) (by omega) (by omega)) rfl (by omega)).mono ?_
    rintro e w0 ⟨rfl, hb0⟩
    obtain ⟨C0, D0⟩ := bcell hb0
    have za0 : w.heap.size < w0.heap.size := by have := hb0.size; (try simp at this); omega
    go_wp2_with fail
    refine (sz_no (szWaiterS_calls x2 _ _ (l - ((x1.length : Nat) : Int)) _ (R1.out.below bel) (by omega) (by omega)) rfl (by omega)).mono ?_
    rintro e w1 ⟨rfl, hb1⟩
    obtain ⟨C1, D1⟩ := bcell hb1
    have za1 : w.heap.size < w1.heap.size := by have := hb1.size; (try simp at this); omega
    go_wp2
    go_ret
    refine ⟨?_, bel⟩
    exact szr_n (by omega)
  by_cases h4 : ((x1.length : Nat) : Int) + ((x2.length : Nat) : Int) + ((x3.length : Nat) : Int) ≤ l
  rotate_left
  · have t0 : decide (l - ((x1.length : Nat) : Int) < 0) = false := by simp; omega
    have t1 : decide (l - ((x1.length : Nat) : Int) - ((x2.length : Nat) : Int) < 0) = false := by simp; omega
    go_enter Tryz.func116, Tryz.ntmps116
    go_wp2_with fail
    refine (sz_yes (szIntS_calls x1 _ _ (l) _ (R0.out.below bel) (by omega) (by omega)) rfl (by omega)).mono ?_
    rintro e w0 ⟨rfl, hb0⟩
    obtain ⟨C0, D0⟩ := bcell hb0
    have za0 : w.heap.size < w0.heap.size := by have := hb0.size; (try simp at this); omega
    go_wp2_with fail
    refine (sz_yes (szWaiterS_calls x2 _ _ (l - ((x1.length : Nat) : Int)) _ (R1.out.below bel) (by omega) (by omega)) rfl (by omega)).mono ?_
    rintro e w1 ⟨rfl, hb1⟩
    obtain ⟨C1, D1⟩ := bcell hb1
    have za1 : w.heap.size < w1.heap.size := by have := hb1.size; (try simp at this); omega
    go_wp2_with fail
    refine (sz_no (szWaiterS_calls x3 _ _ (l - ((x1.length : Nat) : Int) - ((x2.length : Nat) : Int)) _ (R2.out.below bel) (by omega) (by omega)) rfl (by omega)).mono ?_
    rintro e w2 ⟨rfl, hb2⟩
    obtain ⟨C2, D2⟩ := bcell hb2
    have za2 : w.heap.size < w2.heap.size := by have := hb2.size; (try simp at this); omega
    go_wp2
    go_ret
    refine ⟨?_, bel⟩
    exact szr_n (by omega)
  have t0 : decide (l - ((x1.length : Nat) : Int) < 0) = false := by simp; omega
  have t1 : decide (l - ((x1.length : Nat) : Int) - ((x2.length : Nat) : Int) < 0) = false := by simp; omega
  have t2 : decide (l - ((x1.length : Nat) : Int) - ((x2.length : Nat) : Int) - ((x3.length : Nat) : Int) < 0) = false := by simp; omega
  go_enter Tryz.func116, Tryz.ntmps116
  go_wp2_with fail
  refine (sz_yes (szIntS_calls x1 _ _ (l) _ (R0.out.below bel) (by omega) (by omega)) rfl (by omega)).mono ?_
  rintro e w0 ⟨rfl, hb0⟩
  obtain ⟨C0, D0⟩ := bcell hb0
  have za0 : w.heap.size < w0.heap.size := by have := hb0.size; (try simp at this); omega
  go_wp2_with fail
  refine (sz_yes (szWaiterS_calls x2 _ _ (l - ((x1.length : Nat) : Int)) _ (R1.out.below bel) (by omega) (by omega)) rfl (by omega)).mono ?_
  rintro e w1 ⟨rfl, hb1⟩
  obtain ⟨C1, D1⟩ := bcell hb1
  have za1 : w.heap.size < w1.heap.size := by have := hb1.size; (try simp at this); omega
  go_wp2_with fail
  refine (sz_yes (szWaiterS_calls x3 _ _ (l - ((x1.length : Nat) : Int) - ((x2.length : Nat) : Int)) _ (R2.out.below bel) (by omega) (by omega)) rfl (by omega)).mono ?_
  rintro e w2 ⟨rfl, hb2⟩
  obtain ⟨C2, D2⟩ := bcell hb2
  have za2 : w.heap.size < w2.heap.size := by have := hb2.size; (try simp at this); omega
  go_wp2
  go_ret
  refine ⟨?_, bel⟩
  exact szr_y (by omega) (by omega)

theorem szChanS_calls (xs : List MChan) (A : Option Addr) (c : Nat) (l : Int) (w : World) (hr : kChan.Row w A xs) (h0 : 0 ≤ l) (h1 : l ≤ 1048576) :
    Calls Tryz.prog 58 #[.slice A xs.length c, .int .i64 l] w fun e w' => e = .returned (.int .i64 (szr l (xs.length + cntChanS xs))) ∧ Below w.heap.size w w' := by
  have hm := hr.1
  have HR := Lib.hid hr; clear hr
  by_cases h : (xs.length : Int) ≤ l
  · have t1 : decide (l - (xs.length : Int) < 0) = false := by simp; omega
    go_enter Tryz.func58, Tryz.ntmps58
    go_wp2
    go_loopg [1, 5] (xs.length + 1) (fun kq v1 v3 w' => ∃ i : Nat, v3 = .int .i64 i ∧ i + kq = xs.length + 1 ∧ i ≤ xs.length ∧ v1 = .int .i64 (l - (xs.length : Int) - (cntChanS (xs.take i) : Int)) ∧ 0 ≤ l - (xs.length : Int) - (cntChanS (xs.take i) : Int) ∧ Below w.heap.size w w')
    case atStart => exact ⟨0, rfl, by omega, by omega, by simp [cntChanS], by simp [cntChanS]; omega, Below.refl _ _⟩
    case round =>
      obtain ⟨i, rfl, hi, hi2, rfl, h3, hb⟩ := hrel
      obtain ⟨gk, rfl⟩ : ∃ m, gk = m + 1 := ⟨gk - 1, by omega⟩
      by_cases hlt : i < xs.length
      · obtain ⟨b, o, A0, c0, A1, c1, A2, c2, rfl, g0, g1, g2, g3, g4, l0, r0, l1, r1, l2, r2⟩ := kChan_at (HR.out.below hb) hlt
        have R0 := Lib.hid r0; clear r0
        have R1 := Lib.hid r1; clear r1
        have R2 := Lib.hid r2; clear r2
        have hs := cntChanS_take hlt
        have hle := cntChanS_le (xs := xs) (i := i + 1)
        generalize hp : l - (xs.length : Int) - (cntChanS (xs.take i) : Int) = p at h3 ⊢
        have hp1 : p ≤ 1048576 := by omega
        by_cases h4 : (cntChan xs[i] : Int) ≤ p
        · have t2 : decide (p - (cntChan xs[i] : Int) < 0) = false := by simp; omega
          have Hs := Lib.hid hs; clear hs
          have Hp := Lib.hid hp; clear hp
          go_wp2_with fail
          refine (sz_yes (szChan_calls xs[i] [_, _, _, _, _] p _ (kChan_mk _ _ l0 (R0.out.below bel) l1 (R1.out.below bel) l2 (R2.out.below bel)) (by omega) (by omega)) rfl h4).mono ?_
          rintro e w1 ⟨rfl, hb1⟩
          go_wp2
          go_roundg gk
          case measure => omega
          case rel => exact ⟨i + 1, by go_num, by omega, by omega, by rw [Hs.out, ← Hp.out]; congr 1; omega, by have := Hs.out; have := Hp.out; omega, bvia hb1 hb⟩
        · have Hs := Lib.hid hs; clear hs
          have Hp := Lib.hid hp; clear hp
          go_wp2_with fail
          refine (sz_no (szChan_calls xs[i] [_, _, _, _, _] p _ (kChan_mk _ _ l0 (R0.out.below bel) l1 (R1.out.below bel) l2 (R2.out.below bel)) (by omega) (by omega)) rfl (by omega)).mono ?_
          rintro e w1 ⟨rfl, hb1⟩
          go_wp2
          go_ret
          refine ⟨?_, bvia hb1 hb⟩
          have := Hs.out; have := Hp.out
          exact szr_n (by omega)
      · have hi' : i = xs.length := by omega
        subst hi'
        rw [List.take_length] at h3 ⊢
        go_wp2
        go_ret
        exact ⟨szr_y (by omega) (by omega), hb⟩
  · have t1 : decide (l - (xs.length : Int) < 0) = true := by simp; omega
    go_enter Tryz.func58, Tryz.ntmps58
    go_wp2
    go_ret
    exact ⟨szr_n (by omega), bel⟩

theorem szMutex_calls (x : MMutex) (cs : List Value) (l : Int) (w : World) (hx : kMutex.K w x cs) (h0 : 0 ≤ l) (h1 : l ≤ 1048576) :
    Calls Tryz.prog 117 #[.agg cs.toArray, .int .i64 l] w fun e w' => e = .returned (.int .i64 (szr l (cntMutex x))) ∧ Below w.heap.size w w' := by
  obtain ⟨A0, c0, rfl, l0, r0⟩ := kMutex_K hx
  clear hx
  unfold cntMutex
  obtain ⟨x0, x1⟩ := x
  simp only at *
  have R0 := Lib.hid r0; clear r0
  by_cases h2 : ((x1.length : Nat) : Int) ≤ l
  rotate_left
  · go_enter Tryz.func117, Tryz.ntmps117
    go_wp2_with fail
    refine (sz_no (szIntS_calls x1 _ _ (l) _ (R0.out.below bel) (by omega) (by omega)) rfl (by omega)).mono ?_
    rintro e w0 ⟨rfl, hb0⟩
    obtain ⟨C0, D0⟩ := bcell hb0
    have za0 : w.heap.size < w0.heap.size := by have := hb0.size; (try simp at this); omega
    go_wp2
    go_ret
    refine ⟨?_, bel⟩
    exact szr_n (by omega)
  have t0 : decide (l - ((x1.length : Nat) : Int) < 0) = false := by simp; omega
  go_enter Tryz.func117, Tryz.ntmps117
  go_wp2_with fail
  refine (sz_yes (szIntS_calls x1 _ _ (l) _ (R0.out.below bel) (by omega) (by omega)) rfl (by omega)).mono ?_
  rintro e w0 ⟨rfl, hb0⟩
  obtain ⟨C0, D0⟩ := bcell hb0
  have za0 : w.heap.size < w0.heap.size := by have := hb0.size; (try simp at this); omega
  go_wp2
  go_ret
  refine ⟨?_, bel⟩
  exact szr_y (by omega) (by omega)

theorem szMutexS_calls (xs : List MMutex) (A : Option Addr) (c : Nat) (l : Int) (w : World) (hr : kMutex.Row w A xs) (h0 : 0 ≤ l) (h1 : l ≤ 1048576) :
    Calls Tryz.prog 59 #[.slice A xs.length c, .int .i64 l] w fun e w' => e = .returned (.int .i64 (szr l (xs.length + cntMutexS xs))) ∧ Below w.heap.size w w' := by
  have hm := hr.1
  have HR := Lib.hid hr; clear hr
  by_cases h : (xs.length : Int) ≤ l
  · have t1 : decide (l - (xs.length : Int) < 0) = false := by simp; omega
    go_enter Tryz.func59, Tryz.ntmps59
    go_wp2
    go_loopg [1, 5] (xs.length + 1) (fun kq v1 v3 w' => ∃ i : Nat, v3 = .int .i64 i ∧ i + kq = xs.length + 1 ∧ i ≤ xs.length ∧ v1 = .int .i64 (l - (xs.length : Int) - (cntMutexS (xs.take i) : Int)) ∧ 0 ≤ l - (xs.length : Int) - (cntMutexS (xs.take i) : Int) ∧ Below w.heap.size w w')
    case atStart => exact ⟨0, rfl, by omega, by omega, by simp [cntMutexS], by simp [cntMutexS]; omega, Below.refl _ _⟩
    case round =>
      obtain ⟨i, rfl, hi, hi2, rfl, h3, hb⟩ := hrel
      obtain ⟨gk, rfl⟩ : ∃ m, gk = m + 1 := ⟨gk - 1, by omega⟩
      by_cases hlt : i < xs.length
      · obtain ⟨b, o, A0, c0, rfl, g0, g1, l0, r0⟩ := kMutex_at (HR.out.below hb) hlt
        have R0 := Lib.hid r0; clear r0
        have hs := cntMutexS_take hlt
        have hle := cntMutexS_le (xs := xs) (i := i + 1)
        generalize hp : l - (xs.length : Int) - (cntMutexS (xs.take i) : Int) = p at h3 ⊢
        have hp1 : p ≤ 1048576 := by omega
        by_cases h4 : (cntMutex xs[i] : Int) ≤ p
        · have t2 : decide (p - (cntMutex xs[i] : Int) < 0) = false := by simp; omega
          have Hs := Lib.hid hs; clear hs
          have Hp := Lib.hid hp; clear hp
          go_wp2_with fail
          refine (sz_yes (szMutex_calls xs[i] [_, _] p _ (kMutex_mk _ _ l0 (R0.out.below bel)) (by omega) (by omega)) rfl h4).mono ?_
          rintro e w1 ⟨rfl, hb1⟩
          go_wp2
          go_roundg gk
          case measure => omega
          case rel => exact ⟨i + 1, by go_num, by omega, by omega, by rw [Hs.out, ← Hp.out]; congr 1; omega, by have := Hs.out; have := Hp.out; omega, bvia hb1 hb⟩
        · have Hs := Lib.hid hs; clear hs
          have Hp := Lib.hid hp; clear hp
          go_wp2_with fail
          refine (sz_no (szMutex_calls xs[i] [_, _] p _ (kMutex_mk _ _ l0 (R0.out.below bel)) (by omega) (by omega)) rfl (by omega)).mono ?_
          rintro e w1 ⟨rfl, hb1⟩
          go_wp2
          go_ret
          refine ⟨?_, bvia hb1 hb⟩
          have := Hs.out; have := Hp.out
          exact szr_n (by omega)
      · have hi' : i = xs.length := by omega
        subst hi'
        rw [List.take_length] at h3 ⊢
        go_wp2
        go_ret
        exact ⟨szr_y (by omega) (by omega), hb⟩
  · have t1 : decide (l - (xs.length : Int) < 0) = true := by simp; omega
    go_enter Tryz.func59, Tryz.ntmps59
    go_wp2
    go_ret
    exact ⟨szr_n (by omega), bel⟩

theorem szEng_calls (x : MEng) (cs : List Value) (l : Int) (w : World) (hx : kEng.K w x cs) (h0 : 0 ≤ l) (h1 : l ≤ 1048576) :
    Calls Tryz.prog 12 #[.agg cs.toArray, .int .i64 l] w fun e w' => e = .returned (.int .i64 (szr l (cntEng x))) ∧ Below w.heap.size w w' := by
  obtain ⟨A0, c0, A1, c1, A2, c2, rfl, l0, r0, l1, r1, l2, r2⟩ := kEng_K hx
  clear hx
  unfold cntEng
  obtain ⟨x0, x1, x2⟩ := x
  simp only at *
  have R0 := Lib.hid r0; clear r0
  have R1 := Lib.hid r1; clear r1
  have R2 := Lib.hid r2; clear r2
  obtain ⟨n0, hn0⟩ : ∃ m : Nat, (x0.length + cntGorS x0) = m := ⟨_, rfl⟩
  obtain ⟨n1, hn1⟩ : ∃ m : Nat, (x1.length + cntChanS x1) = m := ⟨_, rfl⟩
  obtain ⟨n2, hn2⟩ : ∃ m : Nat, (x2.length + cntMutexS x2) = m := ⟨_, rfl⟩
  rw [hn0, hn1, hn2]
  have Hn0 := Lib.hid hn0; clear hn0
  have Hn1 := Lib.hid hn1; clear hn1
  have Hn2 := Lib.hid hn2; clear hn2
  by_cases h2 : ((n0 : Nat) : Int) ≤ l
  rotate_left
  · go_enter Tryz.func12, Tryz.ntmps12
    go_wp2_with fail
    refine (sz_no (szGorS_calls x0 _ _ (l) _ (R0.out.below bel) (by omega) (by omega)) Hn0.out (by omega)).mono ?_
    rintro e w0 ⟨rfl, hb0⟩
    obtain ⟨C0, D0⟩ := bcell hb0
    have za0 : w.heap.size < w0.heap.size := by have := hb0.size; (try simp at this); omega
    go_wp2
    go_ret
    refine ⟨?_, bel⟩
    exact szr_n (by omega)
  by_cases h3 : ((n0 : Nat) : Int) + ((n1 : Nat) : Int) ≤ l
  rotate_left
  · have t0 : decide (l - ((n0 : Nat) : Int) < 0) = false := by simp; omega
    go_enter Tryz.func12, Tryz.ntmps12
    go_wp2_with fail
    refine (sz_yes (szGorS_calls x0 _ _ (l) _ (R0.out.below bel) (by omega) (by omega)) Hn0.out (by omega)).mono ?_
    rintro e w0 ⟨rfl, hb0⟩
    obtain ⟨C0, D0⟩ := bcell hb0
    have za0 : w.heap.size < w0.heap.size := by have := hb0.size; (try simp at this); omega
    go_wp2_with fail
    refine (sz_no (szChanS_calls x1 _ _ (l - ((n0 : Nat) : Int)) _ (R1.out.below bel) (by omega) (by omega)) Hn1.out (by omega)).mono ?_
    rintro e w1 ⟨rfl, hb1⟩
    obtain ⟨C1, D1⟩ := bcell hb1
    have za1 : w.heap.size < w1.heap.size := by have := hb1.size; (try simp at this); omega
    go_wp2
    go_ret
    refine ⟨?_, bel⟩
    exact szr_n (by omega)
  by_cases h4 : ((n0 : Nat) : Int) + ((n1 : Nat) : Int) + ((n2 : Nat) : Int) ≤ l
  rotate_left
  · have t0 : decide (l - ((n0 : Nat) : Int) < 0) = false := by simp; omega
    have t1 : decide (l - ((n0 : Nat) : Int) - ((n1 : Nat) : Int) < 0) = false := by simp; omega
    go_enter Tryz.func12, Tryz.ntmps12
    go_wp2_with fail
    refine (sz_yes (szGorS_calls x0 _ _ (l) _ (R0.out.below bel) (by omega) (by omega)) Hn0.out (by omega)).mono ?_
    rintro e w0 ⟨rfl, hb0⟩
    obtain ⟨C0, D0⟩ := bcell hb0
    have za0 : w.heap.size < w0.heap.size := by have := hb0.size; (try simp at this); omega
    go_wp2_with fail
    refine (sz_yes (szChanS_calls x1 _ _ (l - ((n0 : Nat) : Int)) _ (R1.out.below bel) (by omega) (by omega)) Hn1.out (by omega)).mono ?_
    rintro e w1 ⟨rfl, hb1⟩
    obtain ⟨C1, D1⟩ := bcell hb1
    have za1 : w.heap.size < w1.heap.size := by have := hb1.size; (try simp at this); omega
    go_wp2_with fail
    refine (sz_no (szMutexS_calls x2 _ _ (l - ((n0 : Nat) : Int) - ((n1 : Nat) : Int)) _ (R2.out.below bel) (by omega) (by omega)) Hn2.out (by omega)).mono ?_
    rintro e w2 ⟨rfl, hb2⟩
    obtain ⟨C2, D2⟩ := bcell hb2
    have za2 : w.heap.size < w2.heap.size := by have := hb2.size; (try simp at this); omega
    go_wp2
    go_ret
    refine ⟨?_, bel⟩
    exact szr_n (by omega)
  have t0 : decide (l - ((n0 : Nat) : Int) < 0) = false := by simp; omega
  have t1 : decide (l - ((n0 : Nat) : Int) - ((n1 : Nat) : Int) < 0) = false := by simp; omega
  have t2 : decide (l - ((n0 : Nat) : Int) - ((n1 : Nat) : Int) - ((n2 : Nat) : Int) < 0) = false := by simp; omega
  go_enter Tryz.func12, Tryz.ntmps12
  go_wp2_with fail
  refine (sz_yes (szGorS_calls x0 _ _ (l) _ (R0.out.below bel) (by omega) (by omega)) Hn0.out (by omega)).mono ?_
  rintro e w0 ⟨rfl, hb0⟩
  obtain ⟨C0, D0⟩ := bcell hb0
  have za0 : w.heap.size < w0.heap.size := by have := hb0.size; (try simp at this); omega
  go_wp2_with fail
  refine (sz_yes (szChanS_calls x1 _ _ (l - ((n0 : Nat) : Int)) _ (R1.out.below bel) (by omega) (by omega)) Hn1.out (by omega)).mono ?_
  rintro e w1 ⟨rfl, hb1⟩
  obtain ⟨C1, D1⟩ := bcell hb1
  have za1 : w.heap.size < w1.heap.size := by have := hb1.size; (try simp at this); omega
  go_wp2_with fail
  refine (sz_yes (szMutexS_calls x2 _ _ (l - ((n0 : Nat) : Int) - ((n1 : Nat) : Int)) _ (R2.out.below bel) (by omega) (by omega)) Hn2.out (by omega)).mono ?_
  rintro e w2 ⟨rfl, hb2⟩
  obtain ⟨C2, D2⟩ := bcell hb2
  have za2 : w.heap.size < w2.heap.size := by have := hb2.size; (try simp at this); omega
  go_wp2
  go_ret
  refine ⟨?_, bel⟩
  exact szr_y (by omega) (by omega)
end Go.Proofs.YtjmefaihkblliaaGreat.Wd
/- Contracts of the laws' helpers over programs. Conditions: none. -/
namespace Go.Proofs.YtjmefaihkblliaaGreat.Wd
open Go.RowKit
open Go.Proofs.YtjmefaihkblliaaGreat.Ab (MCase MSelect MInstr MProc MProg MWaiter MChan MMutex MItem MGor MEng MPick)
set_option linter.unusedVariables false
set_option linter.unusedSimpArgs false
set_option maxHeartbeats 4000000
set_option maxRecDepth 100000
theorem szCaseS_calls (xs : List MCase) (A : Option Addr) (c : Nat) (l : Int) (w : World) (hr : kCase.Row w A xs) (h0 : 0 ≤ l) (h1 : l ≤ 1048576) :
    Calls Tryz.prog 171 #[.slice A xs.length c, .int .i64 l] w fun e w' => e = .returned (.int .i64 (szr l xs.length)) ∧ Below w.heap.size w w' := by
  have hm := hr.1
  clear hr
  unfold szr
  by_cases h : (xs.length : Int) ≤ l
  · rw [if_pos h]
    have t1 : decide (l - (xs.length : Int) < 0) = false := by simp; omega
    go_enter Tryz.func171, Tryz.ntmps171
    go_wp2
    go_ret
    exact ⟨rfl, bel⟩
  · rw [if_neg h]
    have t1 : decide (l - (xs.length : Int) < 0) = true := by simp; omega
    go_enter Tryz.func171, Tryz.ntmps171
    go_wp2
    go_ret
    exact ⟨rfl, bel⟩

theorem szInstrS_calls (xs : List MInstr) (A : Option Addr) (c : Nat) (l : Int) (w : World) (hr : kInstr.Row w A xs) (h0 : 0 ≤ l) (h1 : l ≤ 1048576) :
    Calls Tryz.prog 172 #[.slice A xs.length c, .int .i64 l] w fun e w' => e = .returned (.int .i64 (szr l xs.length)) ∧ Below w.heap.size w w' := by
  have hm := hr.1
  clear hr
  unfold szr
  by_cases h : (xs.length : Int) ≤ l
  · rw [if_pos h]
    have t1 : decide (l - (xs.length : Int) < 0) = false := by simp; omega
    go_enter Tryz.func172, Tryz.ntmps172
    go_wp2
    go_ret
    exact ⟨rfl, bel⟩
  · rw [if_neg h]
    have t1 : decide (l - (xs.length : Int) < 0) = true := by simp; omega
    go_enter Tryz.func172, Tryz.ntmps172
    go_wp2
    go_ret
    exact ⟨rfl, bel⟩

theorem szSelect_calls (x : MSelect) (cs : List Value) (l : Int) (w : World) (hx : kSelect.K w x cs) (h0 : 0 ≤ l) (h1 : l ≤ 1048576) :
    Calls Tryz.prog 113 #[.agg cs.toArray, .int .i64 l] w fun e w' => e = .returned (.int .i64 (szr l (cntSelect x))) ∧ Below w.heap.size w w' := by
  obtain ⟨A0, c0, rfl, l0, r0⟩ := kSelect_K hx
  clear hx
  unfold cntSelect
  obtain ⟨x0, x1⟩ := x
  simp only at *
  have R0 := Lib.hid r0; clear r0
  by_cases h2 : ((x0.length : Nat) : Int) ≤ l
  rotate_left
  · go_enter Tryz.func113, Tryz.ntmps113
    go_wp2_with fail
    refine (sz_no (szCaseS_calls x0 _ _ (l) _ (R0.out.below bel) (by omega) (by omega)) rfl (by omega)).mono ?_
    rintro e w0 ⟨rfl, hb0⟩
    obtain ⟨C0, D0⟩ := bcell hb0
    have za0 : w.heap.size < w0.heap.size := by have := hb0.size; (try simp at this); omega
    go_wp2
    go_ret
    refine ⟨?_, bel⟩
    exact szr_n (by omega)
  have t0 : decide (l - ((x0.length : Nat) : Int) < 0) = false := by simp; omega
  go_enter Tryz.func113, Tryz.ntmps113
  go_wp2_with fail
  refine (sz_yes (szCaseS_calls x0 _ _ (l) _ (R0.out.below bel) (by omega) (by omega)) rfl (by omega)).mono ?_
  rintro e w0 ⟨rfl, hb0⟩
  obtain ⟨C0, D0⟩ := bcell hb0
  have za0 : w.heap.size < w0.heap.size := by have := hb0.size; (try simp at this); omega
  go_wp2
  go_ret
  refine ⟨?_, bel⟩
  exact szr_y (by omega) (by omega)

theorem szSelectS_calls (xs : List MSelect) (A : Option Addr) (c : Nat) (l : Int) (w : World) (hr : kSelect.Row w A xs) (h0 : 0 ≤ l) (h1 : l ≤ 1048576) :
    Calls Tryz.prog 55 #[.slice A xs.length c, .int .i64 l] w fun e w' => e = .returned (.int .i64 (szr l (xs.length + cntSelectS xs))) ∧ Below w.heap.size w w' := by
  have hm := hr.1
  have HR := Lib.hid hr; clear hr
  by_cases h : (xs.length : Int) ≤ l
  · have t1 : decide (l - (xs.length : Int) < 0) = false := by simp; omega
    go_enter Tryz.func55, Tryz.ntmps55
    go_wp2
    go_loopg [1, 5] (xs.length + 1) (fun kq v1 v3 w' => ∃ i : Nat, v3 = .int .i64 i ∧ i + kq = xs.length + 1 ∧ i ≤ xs.length ∧ v1 = .int .i64 (l - (xs.length : Int) - (cntSelectS (xs.take i) : Int)) ∧ 0 ≤ l - (xs.length : Int) - (cntSelectS (xs.take i) : Int) ∧ Below w.heap.size w w')
    case atStart => exact ⟨0, rfl, by omega, by omega, by simp [cntSelectS], by simp [cntSelectS]; omega, Below.refl _ _⟩
    case round =>
      obtain ⟨i, rfl, hi, hi2, rfl, h3, hb⟩ := hrel
      obtain ⟨gk, rfl⟩ : ∃ m, gk = m + 1 := ⟨gk - 1, by omega⟩
      by_cases hlt : i < xs.length
      · obtain ⟨b, o, A0, c0, rfl, g0, g1, l0, r0⟩ := kSelect_at (HR.out.below hb) hlt
        have R0 := Lib.hid r0; clear r0
        have hs := cntSelectS_take hlt
        have hle := cntSelectS_le (xs := xs) (i := i + 1)
        generalize hp : l - (xs.length : Int) - (cntSelectS (xs.take i) : Int) = p at h3 ⊢
        have hp1 : p ≤ 1048576 := by omega
        by_cases h4 : (cntSelect xs[i] : Int) ≤ p
        · have t2 : decide (p - (cntSelect xs[i] : Int) < 0) = false := by simp; omega
          have Hs := Lib.hid hs; clear hs
          have Hp := Lib.hid hp; clear hp
          go_wp2_with fail
          refine (sz_yes (szSelect_calls xs[i] [_, _] p _ (kSelect_mk _ _ l0 (R0.out.below bel)) (by omega) (by omega)) rfl h4).mono ?_
          rintro e w1 ⟨rfl, hb1⟩
          go_wp2
          go_roundg gk
          case measure => omega
          case rel => exact ⟨i + 1, by go_num, by omega, by omega, by rw [Hs.out, ← Hp.out]; congr 1; omega, by have := Hs.out; have := Hp.out; omega, bvia hb1 hb⟩
        · have Hs := Lib.hid hs; clear hs
          have Hp := Lib.hid hp; clear hp
          go_wp2_with fail
          refine (sz_no (szSelect_calls xs[i] [_, _] p _ (kSelect_mk _ _ l0 (R0.out.below bel)) (by omega) (by omega)) rfl (by omega)).mono ?_
          rintro e w1 ⟨rfl, hb1⟩
          go_wp2
          go_ret
          refine ⟨?_, bvia hb1 hb⟩
          have := Hs.out; have := Hp.out
          exact szr_n (by omega)
      · have hi' : i = xs.length := by omega
        subst hi'
        rw [List.take_length] at h3 ⊢
        go_wp2
        go_ret
        exact ⟨szr_y (by omega) (by omega), hb⟩
  · have t1 : decide (l - (xs.length : Int) < 0) = true := by simp; omega
    go_enter Tryz.func55, Tryz.ntmps55
    go_wp2
    go_ret
    exact ⟨szr_n (by omega), bel⟩

theorem szProc_calls (x : MProc) (cs : List Value) (l : Int) (w : World) (hx : kProc.K w x cs) (h0 : 0 ≤ l) (h1 : l ≤ 1048576) :
    Calls Tryz.prog 114 #[.agg cs.toArray, .int .i64 l] w fun e w' => e = .returned (.int .i64 (szr l (cntProc x))) ∧ Below w.heap.size w w' := by
  obtain ⟨A0, c0, rfl, l0, r0⟩ := kProc_K hx
  clear hx
  unfold cntProc
  obtain ⟨x0⟩ := x
  simp only at *
  have R0 := Lib.hid r0; clear r0
  by_cases h2 : ((x0.length : Nat) : Int) ≤ l
  rotate_left
  · go_enter Tryz.func114, Tryz.ntmps114
    go_wp2_with fail
    refine (sz_no (szInstrS_calls x0 _ _ (l) _ (R0.out.below bel) (by omega) (by omega)) rfl (by omega)).mono ?_
    rintro e w0 ⟨rfl, hb0⟩
    obtain ⟨C0, D0⟩ := bcell hb0
    have za0 : w.heap.size < w0.heap.size := by have := hb0.size; (try simp at this); omega
    go_wp2
    go_ret
    refine ⟨?_, bel⟩
    exact szr_n (by omega)
  have t0 : decide (l - ((x0.length : Nat) : Int) < 0) = false := by simp; omega
  go_enter Tryz.func114, Tryz.ntmps114
  go_wp2_with fail
  refine (sz_yes (szInstrS_calls x0 _ _ (l) _ (R0.out.below bel) (by omega) (by omega)) rfl (by omega)).mono ?_
  rintro e w0 ⟨rfl, hb0⟩
  obtain ⟨C0, D0⟩ := bcell hb0
  have za0 : w.heap.size < w0.heap.size := by have := hb0.size; (try simp at this); omega
  go_wp2
  go_ret
  refine ⟨?_, bel⟩
  exact szr_y (by omega) (by omega)

theorem szProcS_calls (xs : List MProc) (A : Option Addr) (c : Nat) (l : Int) (w : World) (hr : kProc.Row w A xs) (h0 : 0 ≤ l) (h1 : l ≤ 1048576) :
    Calls Tryz.prog 56 #[.slice A xs.length c, .int .i64 l] w fun e w' => e = .returned (.int .i64 (szr l (xs.length + cntProcS xs))) ∧ Below w.heap.size w w' := by
  have hm := hr.1
  have HR := Lib.hid hr; clear hr
  by_cases h : (xs.length : Int) ≤ l
  · have t1 : decide (l - (xs.length : Int) < 0) = false := by simp; omega
    go_enter Tryz.func56, Tryz.ntmps56
    go_wp2
    go_loopg [1, 5] (xs.length + 1) (fun kq v1 v3 w' => ∃ i : Nat, v3 = .int .i64 i ∧ i + kq = xs.length + 1 ∧ i ≤ xs.length ∧ v1 = .int .i64 (l - (xs.length : Int) - (cntProcS (xs.take i) : Int)) ∧ 0 ≤ l - (xs.length : Int) - (cntProcS (xs.take i) : Int) ∧ Below w.heap.size w w')
    case atStart => exact ⟨0, rfl, by omega, by omega, by simp [cntProcS], by simp [cntProcS]; omega, Below.refl _ _⟩
    case round =>
      obtain ⟨i, rfl, hi, hi2, rfl, h3, hb⟩ := hrel
      obtain ⟨gk, rfl⟩ : ∃ m, gk = m + 1 := ⟨gk - 1, by omega⟩
      by_cases hlt : i < xs.length
      · obtain ⟨b, o, A0, c0, rfl, g0, l0, r0⟩ := kProc_at (HR.out.below hb) hlt
        have R0 := Lib.hid r0; clear r0
        have hs := cntProcS_take hlt
        have hle := cntProcS_le (xs := xs) (i := i + 1)
        generalize hp : l - (xs.length : Int) - (cntProcS (xs.take i) : Int) = p at h3 ⊢
        have hp1 : p ≤ 1048576 := by omega
        by_cases h4 : (cntProc xs[i] : Int) ≤ p
        · have t2 : decide (p - (cntProc xs[i] : Int) < 0) = false := by simp; omega
          have Hs := Lib.hid hs; clear hs
          have Hp := Lib.hid hp; clear hp
          go_wp2_with fail
          refine (sz_yes (szProc_calls xs[i] [_] p _ (kProc_mk _ _ l0 (R0.out.below bel)) (by omega) (by omega)) rfl h4).mono ?_
          rintro e w1 ⟨rfl, hb1⟩
          go_wp2
          go_roundg gk
          case measure => omega
          case rel => exact ⟨i + 1, by go_num, by omega, by omega, by rw [Hs.out, ← Hp.out]; congr 1; omega, by have := Hs.out; have := Hp.out; omega, bvia hb1 hb⟩
        · have Hs := Lib.hid hs; clear hs
          have Hp := Lib.hid hp; clear hp
          go_wp2_with fail
          refine (sz_no (szProc_calls xs[i] [_] p _ (kProc_mk _ _ l0 (R0.out.below bel)) (by omega) (by omega)) rfl (by omega)).mono ?_
          rintro e w1 ⟨rfl, hb1⟩
          go_wp2
          go_ret
          refine ⟨?_, bvia hb1 hb⟩
          have := Hs.out; have := Hp.out
          exact szr_n (by omega)
      · have hi' : i = xs.length := by omega
        subst hi'
        rw [List.take_length] at h3 ⊢
        go_wp2
        go_ret
        exact ⟨szr_y (by omega) (by omega), hb⟩
  · have t1 : decide (l - (xs.length : Int) < 0) = true := by simp; omega
    go_enter Tryz.func56, Tryz.ntmps56
    go_wp2
    go_ret
    exact ⟨szr_n (by omega), bel⟩

theorem szProg_calls (x : MProg) (cs : List Value) (l : Int) (w : World) (hx : kProg.K w x cs) (h0 : 0 ≤ l) (h1 : l ≤ 1048576) :
    Calls Tryz.prog 11 #[.agg cs.toArray, .int .i64 l] w fun e w' => e = .returned (.int .i64 (szr l (cntProg x))) ∧ Below w.heap.size w w' := by
  obtain ⟨A0, c0, A1, c1, A2, c2, rfl, l0, r0, l1, r1, l2, r2⟩ := kProg_K hx
  clear hx
  unfold cntProg
  obtain ⟨x0, x1, x2, x3⟩ := x
  simp only at *
  have R0 := Lib.hid r0; clear r0
  have R1 := Lib.hid r1; clear r1
  have R2 := Lib.hid r2; clear r2
  obtain ⟨n1, hn1⟩ : ∃ m : Nat, (x2.length + cntSelectS x2) = m := ⟨_, rfl⟩
  obtain ⟨n2, hn2⟩ : ∃ m : Nat, (x3.length + cntProcS x3) = m := ⟨_, rfl⟩
  rw [hn1, hn2]
  have Hn1 := Lib.hid hn1; clear hn1
  have Hn2 := Lib.hid hn2; clear hn2
  by_cases h2 : ((x0.length : Nat) : Int) ≤ l
  rotate_left
  · go_enter Tryz.func11, Tryz.ntmps11
    go_wp2_with fail
    refine (sz_no (szIntS_calls x0 _ _ (l) _ (R0.out.below bel) (by omega) (by omega)) rfl (by omega)).mono ?_
    rintro e w0 ⟨rfl, hb0⟩
    obtain ⟨C0, D0⟩ := bcell hb0
    have za0 : w.heap.size < w0.heap.size := by have := hb0.size; (try simp at this); omega
    go_wp2
    go_ret
    refine ⟨?_, bel⟩
    exact szr_n (by omega)
  by_cases h3 : ((x0.length : Nat) : Int) + ((n1 : Nat) : Int) ≤ l
  rotate_left
  · have t0 : decide (l - ((x0.length : Nat) : Int) < 0) = false := by simp; omega
    go_enter Tryz.func11, Tryz.ntmps11
    go_wp2_with fail
    refine (sz_yes (szIntS_calls x0 _ _ (l) _ (R0.out.below bel) (by omega) (by omega)) rfl (by omega)).mono ?_
    rintro e w0 ⟨rfl, hb0⟩
    obtain ⟨C0, D0⟩ := bcell hb0
    have za0 : w.heap.size < w0.heap.size := by have := hb0.size; (try simp at this); omega
    go_wp2_with fail
    refine (sz_no (szSelectS_calls x2 _ _ (l - ((x0.length : Nat) : Int)) _ (R1.out.below bel) (by omega) (by omega)) Hn1.out (by omega)).mono ?_
    rintro e w1 ⟨rfl, hb1⟩
    obtain ⟨C1, D1⟩ := bcell hb1
    have za1 : w.heap.size < w1.heap.size := by have := hb1.size; (try simp at this); omega
    go_wp2
    go_ret
    refine ⟨?_, bel⟩
    exact szr_n (by omega)
  by_cases h4 : ((x0.length : Nat) : Int) + ((n1 : Nat) : Int) + ((n2 : Nat) : Int) ≤ l
  rotate_left
  · have t0 : decide (l - ((x0.length : Nat) : Int) < 0) = false := by simp; omega
    have t1 : decide (l - ((x0.length : Nat) : Int) - ((n1 : Nat) : Int) < 0) = false := by simp; omega
    go_enter Tryz.func11, Tryz.ntmps11
    go_wp2_with fail
    refine (sz_yes (szIntS_calls x0 _ _ (l) _ (R0.out.below bel) (by omega) (by omega)) rfl (by omega)).mono ?_
    rintro e w0 ⟨rfl, hb0⟩
    obtain ⟨C0, D0⟩ := bcell hb0
    have za0 : w.heap.size < w0.heap.size := by have := hb0.size; (try simp at this); omega
    go_wp2_with fail
    refine (sz_yes (szSelectS_calls x2 _ _ (l - ((x0.length : Nat) : Int)) _ (R1.out.below bel) (by omega) (by omega)) Hn1.out (by omega)).mono ?_
    rintro e w1 ⟨rfl, hb1⟩
    obtain ⟨C1, D1⟩ := bcell hb1
    have za1 : w.heap.size < w1.heap.size := by have := hb1.size; (try simp at this); omega
    go_wp2_with fail
    refine (sz_no (szProcS_calls x3 _ _ (l - ((x0.length : Nat) : Int) - ((n1 : Nat) : Int)) _ (R2.out.below bel) (by omega) (by omega)) Hn2.out (by omega)).mono ?_
    rintro e w2 ⟨rfl, hb2⟩
    obtain ⟨C2, D2⟩ := bcell hb2
    have za2 : w.heap.size < w2.heap.size := by have := hb2.size; (try simp at this); omega
    go_wp2
    go_ret
    refine ⟨?_, bel⟩
    exact szr_n (by omega)
  have t0 : decide (l - ((x0.length : Nat) : Int) < 0) = false := by simp; omega
  have t1 : decide (l - ((x0.length : Nat) : Int) - ((n1 : Nat) : Int) < 0) = false := by simp; omega
  have t2 : decide (l - ((x0.length : Nat) : Int) - ((n1 : Nat) : Int) - ((n2 : Nat) : Int) < 0) = false := by simp; omega
  go_enter Tryz.func11, Tryz.ntmps11
  go_wp2_with fail
  refine (sz_yes (szIntS_calls x0 _ _ (l) _ (R0.out.below bel) (by omega) (by omega)) rfl (by omega)).mono ?_
  rintro e w0 ⟨rfl, hb0⟩
  obtain ⟨C0, D0⟩ := bcell hb0
  have za0 : w.heap.size < w0.heap.size := by have := hb0.size; (try simp at this); omega
  go_wp2_with fail
  refine (sz_yes (szSelectS_calls x2 _ _ (l - ((x0.length : Nat) : Int)) _ (R1.out.below bel) (by omega) (by omega)) Hn1.out (by omega)).mono ?_
  rintro e w1 ⟨rfl, hb1⟩
  obtain ⟨C1, D1⟩ := bcell hb1
  have za1 : w.heap.size < w1.heap.size := by have := hb1.size; (try simp at this); omega
  go_wp2_with fail
  refine (sz_yes (szProcS_calls x3 _ _ (l - ((x0.length : Nat) : Int) - ((n1 : Nat) : Int)) _ (R2.out.below bel) (by omega) (by omega)) Hn2.out (by omega)).mono ?_
  rintro e w2 ⟨rfl, hb2⟩
  obtain ⟨C2, D2⟩ := bcell hb2
  have za2 : w.heap.size < w2.heap.size := by have := hb2.size; (try simp at this); omega
  go_wp2
  go_ret
  refine ⟨?_, bel⟩
  exact szr_y (by omega) (by omega)

end Go.Proofs.YtjmefaihkblliaaGreat.Wd
/- The law FnExactBranches returns true at every argument. Conditions: none. -/
namespace Go.Proofs.YtjmefaihkblliaaGreat.Wd
open Go.RowKit
open Go.Proofs.YtjmefaihkblliaaGreat.Ab (MCase MSelect MInstr MProc MProg MWaiter MChan MMutex MItem MGor MEng MPick)
set_option linter.unusedVariables false
set_option linter.unusedSimpArgs false
set_option maxHeartbeats 4000000
set_option maxRecDepth 100000
theorem law_Branches (a0 : MProg) (a1 : MEng) (cs0 : List Value) (cs1 : List Value) (w : World) (h0 : kProg.K w a0 cs0) (h1 : kEng.K w a1 cs1) :
    Calls Tryz.prog 3 #[.agg cs0.toArray, .agg cs1.toArray] w fun e w' => e = .returned (.bool true) ∧ Below w.heap.size w w' := by
  obtain ⟨Ea0_0, ea0_0, Ea0_1, ea0_1, Ea0_2, ea0_2, rfl, l0_0, r0_0, l0_1, r0_1, l0_2, r0_2⟩ := kProg_K h0
  have R0_0 := Lib.hid r0_0; clear r0_0
  have R0_1 := Lib.hid r0_1; clear r0_1
  have R0_2 := Lib.hid r0_2; clear r0_2
  obtain ⟨Ea1_0, ea1_0, Ea1_1, ea1_1, Ea1_2, ea1_2, rfl, l1_0, r1_0, l1_1, r1_1, l1_2, r1_2⟩ := kEng_K h1
  have R1_0 := Lib.hid r1_0; clear r1_0
  have R1_1 := Lib.hid r1_1; clear r1_1
  have R1_2 := Lib.hid r1_2; clear r1_2
  clear h0 h1
  by_cases hc0 : ((cntProg a0 : Nat) : Int) ≤ 1048576
  rotate_left
  · go_enter Tryz.func3, Tryz.ntmps3
    go_wp2_with fail
    refine (sz_no (szProg_calls a0 [_, _, _, _] (1048576) _ (kProg_mk _ _ l0_0 (R0_0.out.below bel) l0_1 (R0_1.out.below bel) l0_2 (R0_2.out.below bel)) (by omega) (by omega)) rfl (by omega)).mono ?_
    rintro e ws0 ⟨rfl, hbs0⟩
    have f0_0_0 : ws0.cell? ⟨w.heap.size, 0, none⟩ = some (.slice Ea0_0 a0.caps.length ea0_0) := by obtain ⟨C, D⟩ := bcell hbs0; go_simp
    have f0_1_0 : ws0.cell? ⟨w.heap.size, 1, none⟩ = some (.int .i64 a0.mus) := by obtain ⟨C, D⟩ := bcell hbs0; go_simp
    have f0_2_0 : ws0.cell? ⟨w.heap.size, 2, none⟩ = some (.slice Ea0_1 a0.sels.length ea0_1) := by obtain ⟨C, D⟩ := bcell hbs0; go_simp
    have f0_3_0 : ws0.cell? ⟨w.heap.size, 3, none⟩ = some (.slice Ea0_2 a0.procs.length ea0_2) := by obtain ⟨C, D⟩ := bcell hbs0; go_simp
    have f1_0_0 : ws0.cell? ⟨w.heap.size + 1, 0, none⟩ = some (.slice Ea1_0 a1.gs.length ea1_0) := by obtain ⟨C, D⟩ := bcell hbs0; go_simp
    have f1_1_0 : ws0.cell? ⟨w.heap.size + 1, 1, none⟩ = some (.slice Ea1_1 a1.chans.length ea1_1) := by obtain ⟨C, D⟩ := bcell hbs0; go_simp
    have f1_2_0 : ws0.cell? ⟨w.heap.size + 1, 2, none⟩ = some (.slice Ea1_2 a1.mus.length ea1_2) := by obtain ⟨C, D⟩ := bcell hbs0; go_simp
    have z0_ws0 : w.heap.size < ws0.heap.size := World.block_lt_of_cell? _ _ f0_0_0
    have z1_ws0 : w.heap.size + 1 < ws0.heap.size := World.block_lt_of_cell? _ _ f1_0_0
    go_wp2
    go_ret
    exact ⟨rfl, bel⟩
  by_cases hc1 : ((cntProg a0 : Nat) : Int) + ((cntEng a1 : Nat) : Int) ≤ 1048576
  rotate_left
  · have t0 : decide (1048576 - ((cntProg a0 : Nat) : Int) < 0) = false := by simp; omega
    go_enter Tryz.func3, Tryz.ntmps3
    go_wp2_with fail
    refine (sz_yes (szProg_calls a0 [_, _, _, _] (1048576) _ (kProg_mk _ _ l0_0 (R0_0.out.below bel) l0_1 (R0_1.out.below bel) l0_2 (R0_2.out.below bel)) (by omega) (by omega)) rfl (by omega)).mono ?_
    rintro e ws0 ⟨rfl, hbs0⟩
    have f0_0_1 : ws0.cell? ⟨w.heap.size, 0, none⟩ = some (.slice Ea0_0 a0.caps.length ea0_0) := by obtain ⟨C, D⟩ := bcell hbs0; go_simp
    have f0_1_1 : ws0.cell? ⟨w.heap.size, 1, none⟩ = some (.int .i64 a0.mus) := by obtain ⟨C, D⟩ := bcell hbs0; go_simp
    have f0_2_1 : ws0.cell? ⟨w.heap.size, 2, none⟩ = some (.slice Ea0_1 a0.sels.length ea0_1) := by obtain ⟨C, D⟩ := bcell hbs0; go_simp
    have f0_3_1 : ws0.cell? ⟨w.heap.size, 3, none⟩ = some (.slice Ea0_2 a0.procs.length ea0_2) := by obtain ⟨C, D⟩ := bcell hbs0; go_simp
    have f1_0_1 : ws0.cell? ⟨w.heap.size + 1, 0, none⟩ = some (.slice Ea1_0 a1.gs.length ea1_0) := by obtain ⟨C, D⟩ := bcell hbs0; go_simp
    have f1_1_1 : ws0.cell? ⟨w.heap.size + 1, 1, none⟩ = some (.slice Ea1_1 a1.chans.length ea1_1) := by obtain ⟨C, D⟩ := bcell hbs0; go_simp
    have f1_2_1 : ws0.cell? ⟨w.heap.size + 1, 2, none⟩ = some (.slice Ea1_2 a1.mus.length ea1_2) := by obtain ⟨C, D⟩ := bcell hbs0; go_simp
    have z0_ws0 : w.heap.size < ws0.heap.size := World.block_lt_of_cell? _ _ f0_0_1
    have z1_ws0 : w.heap.size + 1 < ws0.heap.size := World.block_lt_of_cell? _ _ f1_0_1
    go_wp2_with fail
    refine (sz_no (szEng_calls a1 [_, _, _] (1048576 - ((cntProg a0 : Nat) : Int)) _ (kEng_mk _ _ l1_0 (R1_0.out.below bel) l1_1 (R1_1.out.below bel) l1_2 (R1_2.out.below bel)) (by omega) (by omega)) rfl (by omega)).mono ?_
    rintro e ws1 ⟨rfl, hbs1⟩
    have hk2 : Below ws0.heap.size ws0 ws1 := bel
    have f0_0_2 := keepc hk2 f0_0_1
    have f0_1_2 := keepc hk2 f0_1_1
    have f0_2_2 := keepc hk2 f0_2_1
    have f0_3_2 := keepc hk2 f0_3_1
    have f1_0_2 := keepc hk2 f1_0_1
    have f1_1_2 := keepc hk2 f1_1_1
    have f1_2_2 := keepc hk2 f1_2_1
    clear f0_0_1 f0_1_1 f0_2_1 f0_3_1 f1_0_1 f1_1_1 f1_2_1 z0_ws0 z1_ws0
    have z0_ws1 : w.heap.size < ws1.heap.size := World.block_lt_of_cell? _ _ f0_0_2
    have z1_ws1 : w.heap.size + 1 < ws1.heap.size := World.block_lt_of_cell? _ _ f1_0_2
    go_wp2
    go_ret
    exact ⟨rfl, bel⟩
  have t0 : decide (1048576 - ((cntProg a0 : Nat) : Int) < 0) = false := by simp; omega
  have t1 : decide (1048576 - ((cntProg a0 : Nat) : Int) - ((cntEng a1 : Nat) : Int) < 0) = false := by simp; omega
  go_enter Tryz.func3, Tryz.ntmps3
  go_wp2_with fail
  refine (sz_yes (szProg_calls a0 [_, _, _, _] (1048576) _ (kProg_mk _ _ l0_0 (R0_0.out.below bel) l0_1 (R0_1.out.below bel) l0_2 (R0_2.out.below bel)) (by omega) (by omega)) rfl (by omega)).mono ?_
  rintro e ws0 ⟨rfl, hbs0⟩
  have f0_0_3 : ws0.cell? ⟨w.heap.size, 0, none⟩ = some (.slice Ea0_0 a0.caps.length ea0_0) := by obtain ⟨C, D⟩ := bcell hbs0; go_simp
  have f0_1_3 : ws0.cell? ⟨w.heap.size, 1, none⟩ = some (.int .i64 a0.mus) := by obtain ⟨C, D⟩ := bcell hbs0; go_simp
  have f0_2_3 : ws0.cell? ⟨w.heap.size, 2, none⟩ = some (.slice Ea0_1 a0.sels.length ea0_1) := by obtain ⟨C, D⟩ := bcell hbs0; go_simp
  have f0_3_3 : ws0.cell? ⟨w.heap.size, 3, none⟩ = some (.slice Ea0_2 a0.procs.length ea0_2) := by obtain ⟨C, D⟩ := bcell hbs0; go_simp
  have f1_0_3 : ws0.cell? ⟨w.heap.size + 1, 0, none⟩ = some (.slice Ea1_0 a1.gs.length ea1_0) := by obtain ⟨C, D⟩ := bcell hbs0; go_simp
  have f1_1_3 : ws0.cell? ⟨w.heap.size + 1, 1, none⟩ = some (.slice Ea1_1 a1.chans.length ea1_1) := by obtain ⟨C, D⟩ := bcell hbs0; go_simp
  have f1_2_3 : ws0.cell? ⟨w.heap.size + 1, 2, none⟩ = some (.slice Ea1_2 a1.mus.length ea1_2) := by obtain ⟨C, D⟩ := bcell hbs0; go_simp
  have z0_ws0 : w.heap.size < ws0.heap.size := World.block_lt_of_cell? _ _ f0_0_3
  have z1_ws0 : w.heap.size + 1 < ws0.heap.size := World.block_lt_of_cell? _ _ f1_0_3
  go_wp2_with fail
  refine (sz_yes (szEng_calls a1 [_, _, _] (1048576 - ((cntProg a0 : Nat) : Int)) _ (kEng_mk _ _ l1_0 (R1_0.out.below bel) l1_1 (R1_1.out.below bel) l1_2 (R1_2.out.below bel)) (by omega) (by omega)) rfl (by omega)).mono ?_
  rintro e ws1 ⟨rfl, hbs1⟩
  have hk4 : Below ws0.heap.size ws0 ws1 := bel
  have f0_0_4 := keepc hk4 f0_0_3
  have f0_1_4 := keepc hk4 f0_1_3
  have f0_2_4 := keepc hk4 f0_2_3
  have f0_3_4 := keepc hk4 f0_3_3
  have f1_0_4 := keepc hk4 f1_0_3
  have f1_1_4 := keepc hk4 f1_1_3
  have f1_2_4 := keepc hk4 f1_2_3
  clear f0_0_3 f0_1_3 f0_2_3 f0_3_3 f1_0_3 f1_1_3 f1_2_3 z0_ws0 z1_ws0
  have z0_ws1 : w.heap.size < ws1.heap.size := World.block_lt_of_cell? _ _ f0_0_4
  have z1_ws1 : w.heap.size + 1 < ws1.heap.size := World.block_lt_of_cell? _ _ f1_0_4
  go_wp2_with fail
  refine settleR ?_
  intro W5 hW5
  have hbW5 : Below ws1.heap.size ws1 W5 := by rw [hW5]; exact bel
  have f0_0_5 := keepc hbW5 f0_0_4
  have f0_1_5 := keepc hbW5 f0_1_4
  have f0_2_5 := keepc hbW5 f0_2_4
  have f0_3_5 := keepc hbW5 f0_3_4
  have f1_0_5 := keepc hbW5 f1_0_4
  have f1_1_5 := keepc hbW5 f1_1_4
  have f1_2_5 := keepc hbW5 f1_2_4
  clear hW5
  clear f0_0_4 f0_1_4 f0_2_4 f0_3_4 f1_0_4 f1_1_4 f1_2_4 z0_ws1 z1_ws1
  have z0_W5 : w.heap.size < W5.heap.size := World.block_lt_of_cell? _ _ f0_0_5
  have z1_W5 : w.heap.size + 1 < W5.heap.size := World.block_lt_of_cell? _ _ f1_0_5
  go_region_held3 (fun w' => w'.cell? ⟨w.heap.size, 0, none⟩ = some (.slice Ea0_0 a0.caps.length ea0_0) ∧ w'.cell? ⟨w.heap.size, 1, none⟩ = some (.int .i64 a0.mus) ∧ w'.cell? ⟨w.heap.size, 2, none⟩ = some (.slice Ea0_1 a0.sels.length ea0_1) ∧ w'.cell? ⟨w.heap.size, 3, none⟩ = some (.slice Ea0_2 a0.procs.length ea0_2) ∧ w'.cell? ⟨w.heap.size + 1, 0, none⟩ = some (.slice Ea1_0 a1.gs.length ea1_0) ∧ w'.cell? ⟨w.heap.size + 1, 1, none⟩ = some (.slice Ea1_1 a1.chans.length ea1_1) ∧ w'.cell? ⟨w.heap.size + 1, 2, none⟩ = some (.slice Ea1_2 a1.mus.length ea1_2)) (exact ⟨keepc bel f0_0_5, keepc bel f0_1_5, keepc bel f0_2_5, keepc bel f0_3_5, keepc bel f1_0_5, keepc bel f1_1_5, keepc bel f1_2_5⟩)
    (first
      | (go_at_call 14; (with_reducible refine (toProg_calls a0 [_, _, _, _] _ (kProg_mk _ _ l0_0 (R0_0.out.below bel) l0_1 (R0_1.out.below bel) l0_2 (R0_2.out.below bel)) (by omega)).mono ?_); rintro e wp0 ⟨csp0, bp0, rfl, op0, frp0, hbp0⟩; have Op0 := Lib.hid op0; have Frp0 := Lib.hid frp0; clear frp0; obtain ⟨Ep0_0, ep0_0, yp0_0, Ep0_1, ep0_1, yp0_1, Ep0_2, ep0_2, yp0_2, rfl, rfl, qp0_0, qp0_1, qp0_2⟩ := kProg_O op0; clear op0; clear qp0_0 qp0_1 qp0_2)
      | (go_at_call 15; (with_reducible refine (toEng_calls a1 [_, _, _] _ (kEng_mk _ _ l1_0 (R1_0.out.below bel) l1_1 (R1_1.out.below bel) l1_2 (R1_2.out.below bel)) (by omega)).mono ?_); rintro e wp1 ⟨csp1, bp1, rfl, op1, frp1, hbp1⟩; have Op1 := Lib.hid op1; have Frp1 := Lib.hid frp1; clear frp1; obtain ⟨Ep1_0, ep1_0, yp1_0, Ep1_1, ep1_1, yp1_1, Ep1_2, ep1_2, yp1_2, rfl, rfl, qp1_0, qp1_1, qp1_2⟩ := kEng_O op1; clear op1; clear qp1_0 qp1_1 qp1_2)
      | (go_at_call 13; (with_reducible refine (spec_Branches_calls a0 a1 [_, _, _, _] [_, _, _] _ (O_bel (d := kProg) bel Op0.out) (O_bel (d := kEng) bel Op1.out) (by omega) (by omega)).mono ?_); rintro e wq ⟨Eq0, eq0, bq0, rfl, oq0, frq, hbq⟩; have Oq0 := Lib.hid oq0; have Frq := Lib.hid frq; clear frq; clear oq0; have Frq0 := Frq; have Fsq0 : Hid (∀ k ∈ (bq0), W5.heap.size ≤ k) := Lib.hid (fun k h => by refine Nat.le_trans ?_ (Frq0.out.2 k h); exact (bel : Below W5.heap.size W5 _).size); have upq0 : Hid (∀ k ∈ (bq0), k < wq.heap.size) := Lib.hid (Oq0.out.lt); have nbq0_0 : Hid (w.heap.size ∉ (bq0)) := Lib.hid (fun h => by have h3 := Fsq0.out _ h; have h4 := World.block_lt_of_cell? _ _ f0_0_5; omega); have nbq0_1 : Hid (w.heap.size + 1 ∉ (bq0)) := Lib.hid (fun h => by have h3 := Fsq0.out _ h; have h4 := World.block_lt_of_cell? _ _ f1_0_5; omega)))
  have hk6 : Below W5.heap.size W5 wq := bel
  have f0_0_6 := keepc hk6 f0_0_5
  have f0_1_6 := keepc hk6 f0_1_5
  have f0_2_6 := keepc hk6 f0_2_5
  have f0_3_6 := keepc hk6 f0_3_5
  have f1_0_6 := keepc hk6 f1_0_5
  have f1_1_6 := keepc hk6 f1_1_5
  have f1_2_6 := keepc hk6 f1_2_5
  clear f0_0_5 f0_1_5 f0_2_5 f0_3_5 f1_0_5 f1_1_5 f1_2_5 z0_W5 z1_W5
  have z0_wq : w.heap.size < wq.heap.size := World.block_lt_of_cell? _ _ f0_0_6
  have z1_wq : w.heap.size + 1 < wq.heap.size := World.block_lt_of_cell? _ _ f1_0_6
  have lwq0 : Hid (∀ k ∈ (bq0), w.heap.size ≤ k) := Lib.hid fun k h => Nat.le_trans (bel : Below w.heap.size w W5).size (Fsq0.out k h)
  go_wp2_with fail
  go_at_call 14; (refine (toProg_calls a0 [_, _, _, _] _ (kProg_mk _ _ l0_0 (R0_0.out.below bel) l0_1 (R0_1.out.below bel) l0_2 (R0_2.out.below bel)) (by omega)).mono ?_); rintro e wx0 ⟨csx0, bx0, rfl, ox0, frx0, hbx0⟩; have Ox0 := Lib.hid ox0; have Frx0 := Lib.hid frx0; clear frx0; obtain ⟨Ex0_0, ex0_0, yx0_0, Ex0_1, ex0_1, yx0_1, Ex0_2, ex0_2, yx0_2, rfl, rfl, qx0_0, qx0_1, qx0_2⟩ := kProg_O ox0; clear ox0; have Qx0_0 := Lib.hid qx0_0; have Qx0_1 := Lib.hid qx0_1; have Qx0_2 := Lib.hid qx0_2; have Fsx0 : Hid (∀ k ∈ (yx0_0 ++ yx0_1 ++ yx0_2), wq.heap.size ≤ k) := Lib.hid (fun k h => by refine Nat.le_trans ?_ (Frx0.out.2 k h); exact (bel : Below wq.heap.size wq _).size); have upx0 : Hid (∀ k ∈ (yx0_0 ++ yx0_1 ++ yx0_2), k < wx0.heap.size) := Lib.hid (kProg.O_lt Ox0.out); have nbx0_0 : Hid (w.heap.size ∉ (yx0_0 ++ yx0_1 ++ yx0_2)) := Lib.hid (fun h => by have h3 := Fsx0.out _ h; have h4 := World.block_lt_of_cell? _ _ f0_0_6; omega); have nbx0_1 : Hid (w.heap.size + 1 ∉ (yx0_0 ++ yx0_1 ++ yx0_2)) := Lib.hid (fun h => by have h3 := Fsx0.out _ h; have h4 := World.block_lt_of_cell? _ _ f1_0_6; omega); have djx0_q0 : Hid (∀ k ∈ (yx0_0 ++ yx0_1 ++ yx0_2), k ∉ (bq0)) := Lib.hid (fun k h h2 => by have h3 := Fsx0.out k h; have h4 := upq0.out k h2; omega); have djq0_x0 : Hid (∀ k ∈ (bq0), k ∉ (yx0_0 ++ yx0_1 ++ yx0_2)) := Lib.hid (fun k h2 h => by have h3 := Fsx0.out k h; have h4 := upq0.out k h2; omega); clear qx0_0 qx0_1 qx0_2
  have hk7 : Below wq.heap.size wq wx0 := bel
  have f0_0_7 := keepc hk7 f0_0_6
  have f0_1_7 := keepc hk7 f0_1_6
  have f0_2_7 := keepc hk7 f0_2_6
  have f0_3_7 := keepc hk7 f0_3_6
  have f1_0_7 := keepc hk7 f1_0_6
  have f1_1_7 := keepc hk7 f1_1_6
  have f1_2_7 := keepc hk7 f1_2_6
  have upq0_7 : Hid (∀ k ∈ (bq0), k < wx0.heap.size) := Lib.hid fun k h => Nat.lt_of_lt_of_le (upq0.out k h) hk7.size
  clear upq0
  clear f0_0_6 f0_1_6 f0_2_6 f0_3_6 f1_0_6 f1_1_6 f1_2_6 z0_wq z1_wq
  have z0_wx0 : w.heap.size < wx0.heap.size := World.block_lt_of_cell? _ _ f0_0_7
  have z1_wx0 : w.heap.size + 1 < wx0.heap.size := World.block_lt_of_cell? _ _ f1_0_7
  have lwx0 : Hid (∀ k ∈ (yx0_0 ++ yx0_1 ++ yx0_2), w.heap.size ≤ k) := Lib.hid fun k h => Nat.le_trans (bel : Below w.heap.size w wq).size (Fsx0.out k h)
  go_wp2_with fail
  refine settleC ?_
  intro V8 hW8
  have hbW8 : Below wx0.heap.size wx0 V8 := by rw [hW8]; exact bel
  have f0_0_8 := keepc hbW8 f0_0_7
  have f0_1_8 := keepc hbW8 f0_1_7
  have f0_2_8 := keepc hbW8 f0_2_7
  have f0_3_8 := keepc hbW8 f0_3_7
  have f1_0_8 := keepc hbW8 f1_0_7
  have f1_1_8 := keepc hbW8 f1_1_7
  have f1_2_8 := keepc hbW8 f1_2_7
  have f2_0_8 : V8.cell? ⟨wx0.heap.size, 0, none⟩ = some (.slice Ex0_0 a0.caps.length ex0_0) := by rw [hW8]; go_simp
  have f2_1_8 : V8.cell? ⟨wx0.heap.size, 1, none⟩ = some (.int .i64 a0.mus) := by rw [hW8]; go_simp
  have f2_2_8 : V8.cell? ⟨wx0.heap.size, 2, none⟩ = some (.slice Ex0_1 a0.sels.length ex0_1) := by rw [hW8]; go_simp
  have f2_3_8 : V8.cell? ⟨wx0.heap.size, 3, none⟩ = some (.slice Ex0_2 a0.procs.length ex0_2) := by rw [hW8]; go_simp
  clear hW8
  have nbq0_2 : Hid (wx0.heap.size ∉ (bq0)) := Lib.hid fun h => by have := upq0_7.out _ h; omega
  have upq0_8 : Hid (∀ k ∈ (bq0), k < V8.heap.size) := Lib.hid fun k h => Nat.lt_of_lt_of_le (upq0_7.out k h) hbW8.size
  have nbx0_2 : Hid (wx0.heap.size ∉ (yx0_0 ++ yx0_1 ++ yx0_2)) := Lib.hid fun h => by have := upx0.out _ h; omega
  have upx0_8 : Hid (∀ k ∈ (yx0_0 ++ yx0_1 ++ yx0_2), k < V8.heap.size) := Lib.hid fun k h => Nat.lt_of_lt_of_le (upx0.out k h) hbW8.size
  clear upq0_7 upx0
  clear f0_0_7 f0_1_7 f0_2_7 f0_3_7 f1_0_7 f1_1_7 f1_2_7 z0_wx0 z1_wx0
  have z0_V8 : w.heap.size < V8.heap.size := World.block_lt_of_cell? _ _ f0_0_8
  have z1_V8 : w.heap.size + 1 < V8.heap.size := World.block_lt_of_cell? _ _ f1_0_8
  have z2_V8 : wx0.heap.size < V8.heap.size := World.block_lt_of_cell? _ _ f2_0_8
  go_at_call 15; (refine (toEng_calls a1 [_, _, _] _ (kEng_mk _ _ l1_0 (R1_0.out.below bel) l1_1 (R1_1.out.below bel) l1_2 (R1_2.out.below bel)) (by omega)).mono ?_); rintro e wx1 ⟨csx1, bx1, rfl, ox1, frx1, hbx1⟩; have Ox1 := Lib.hid ox1; have Frx1 := Lib.hid frx1; clear frx1; obtain ⟨Ex1_0, ex1_0, yx1_0, Ex1_1, ex1_1, yx1_1, Ex1_2, ex1_2, yx1_2, rfl, rfl, qx1_0, qx1_1, qx1_2⟩ := kEng_O ox1; clear ox1; have Qx1_0 := Lib.hid qx1_0; have Qx1_1 := Lib.hid qx1_1; have Qx1_2 := Lib.hid qx1_2; have Fsx1 : Hid (∀ k ∈ (yx1_0 ++ yx1_1 ++ yx1_2), V8.heap.size ≤ k) := Lib.hid (fun k h => by refine Nat.le_trans ?_ (Frx1.out.2 k h); exact (bel : Below V8.heap.size V8 _).size); have upx1 : Hid (∀ k ∈ (yx1_0 ++ yx1_1 ++ yx1_2), k < wx1.heap.size) := Lib.hid (kEng.O_lt Ox1.out); have nbx1_0 : Hid (w.heap.size ∉ (yx1_0 ++ yx1_1 ++ yx1_2)) := Lib.hid (fun h => by have h3 := Fsx1.out _ h; have h4 := World.block_lt_of_cell? _ _ f0_0_8; omega); have nbx1_1 : Hid (w.heap.size + 1 ∉ (yx1_0 ++ yx1_1 ++ yx1_2)) := Lib.hid (fun h => by have h3 := Fsx1.out _ h; have h4 := World.block_lt_of_cell? _ _ f1_0_8; omega); have nbx1_2 : Hid (wx0.heap.size ∉ (yx1_0 ++ yx1_1 ++ yx1_2)) := Lib.hid (fun h => by have h3 := Fsx1.out _ h; have h4 := World.block_lt_of_cell? _ _ f2_0_8; omega); have djx1_q0 : Hid (∀ k ∈ (yx1_0 ++ yx1_1 ++ yx1_2), k ∉ (bq0)) := Lib.hid (fun k h h2 => by have h3 := Fsx1.out k h; have h4 := upq0_8.out k h2; omega); have djq0_x1 : Hid (∀ k ∈ (bq0), k ∉ (yx1_0 ++ yx1_1 ++ yx1_2)) := Lib.hid (fun k h2 h => by have h3 := Fsx1.out k h; have h4 := upq0_8.out k h2; omega); have djx1_x0 : Hid (∀ k ∈ (yx1_0 ++ yx1_1 ++ yx1_2), k ∉ (yx0_0 ++ yx0_1 ++ yx0_2)) := Lib.hid (fun k h h2 => by have h3 := Fsx1.out k h; have h4 := upx0_8.out k h2; omega); have djx0_x1 : Hid (∀ k ∈ (yx0_0 ++ yx0_1 ++ yx0_2), k ∉ (yx1_0 ++ yx1_1 ++ yx1_2)) := Lib.hid (fun k h2 h => by have h3 := Fsx1.out k h; have h4 := upx0_8.out k h2; omega); clear qx1_0 qx1_1 qx1_2
  have hk9 : Below V8.heap.size V8 wx1 := bel
  have f0_0_9 := keepc hk9 f0_0_8
  have f0_1_9 := keepc hk9 f0_1_8
  have f0_2_9 := keepc hk9 f0_2_8
  have f0_3_9 := keepc hk9 f0_3_8
  have f1_0_9 := keepc hk9 f1_0_8
  have f1_1_9 := keepc hk9 f1_1_8
  have f1_2_9 := keepc hk9 f1_2_8
  have f2_0_9 := keepc hk9 f2_0_8
  have f2_1_9 := keepc hk9 f2_1_8
  have f2_2_9 := keepc hk9 f2_2_8
  have f2_3_9 := keepc hk9 f2_3_8
  have upq0_9 : Hid (∀ k ∈ (bq0), k < wx1.heap.size) := Lib.hid fun k h => Nat.lt_of_lt_of_le (upq0_8.out k h) hk9.size
  have upx0_9 : Hid (∀ k ∈ (yx0_0 ++ yx0_1 ++ yx0_2), k < wx1.heap.size) := Lib.hid fun k h => Nat.lt_of_lt_of_le (upx0_8.out k h) hk9.size
  clear upq0_8 upx0_8
  clear f0_0_8 f0_1_8 f0_2_8 f0_3_8 f1_0_8 f1_1_8 f1_2_8 f2_0_8 f2_1_8 f2_2_8 f2_3_8 z0_V8 z1_V8 z2_V8
  have z0_wx1 : w.heap.size < wx1.heap.size := World.block_lt_of_cell? _ _ f0_0_9
  have z1_wx1 : w.heap.size + 1 < wx1.heap.size := World.block_lt_of_cell? _ _ f1_0_9
  have z2_wx1 : wx0.heap.size < wx1.heap.size := World.block_lt_of_cell? _ _ f2_0_9
  have lwx1 : Hid (∀ k ∈ (yx1_0 ++ yx1_1 ++ yx1_2), w.heap.size ≤ k) := Lib.hid fun k h => Nat.le_trans (bel : Below w.heap.size w V8).size (Fsx1.out k h)
  go_wp2_with fail
  refine settleC ?_
  intro V10 hW10
  have hbW10 : Below wx1.heap.size wx1 V10 := by rw [hW10]; exact bel
  have f0_0_10 := keepc hbW10 f0_0_9
  have f0_1_10 := keepc hbW10 f0_1_9
  have f0_2_10 := keepc hbW10 f0_2_9
  have f0_3_10 := keepc hbW10 f0_3_9
  have f1_0_10 := keepc hbW10 f1_0_9
  have f1_1_10 := keepc hbW10 f1_1_9
  have f1_2_10 := keepc hbW10 f1_2_9
  have f2_0_10 := keepc hbW10 f2_0_9
  have f2_1_10 := keepc hbW10 f2_1_9
  have f2_2_10 := keepc hbW10 f2_2_9
  have f2_3_10 := keepc hbW10 f2_3_9
  have f3_0_10 : V10.cell? ⟨wx1.heap.size, 0, none⟩ = some (.slice Ex1_0 a1.gs.length ex1_0) := by rw [hW10]; go_simp
  have f3_1_10 : V10.cell? ⟨wx1.heap.size, 1, none⟩ = some (.slice Ex1_1 a1.chans.length ex1_1) := by rw [hW10]; go_simp
  have f3_2_10 : V10.cell? ⟨wx1.heap.size, 2, none⟩ = some (.slice Ex1_2 a1.mus.length ex1_2) := by rw [hW10]; go_simp
  clear hW10
  have nbq0_3 : Hid (wx1.heap.size ∉ (bq0)) := Lib.hid fun h => by have := upq0_9.out _ h; omega
  have upq0_10 : Hid (∀ k ∈ (bq0), k < V10.heap.size) := Lib.hid fun k h => Nat.lt_of_lt_of_le (upq0_9.out k h) hbW10.size
  have nbx0_3 : Hid (wx1.heap.size ∉ (yx0_0 ++ yx0_1 ++ yx0_2)) := Lib.hid fun h => by have := upx0_9.out _ h; omega
  have upx0_10 : Hid (∀ k ∈ (yx0_0 ++ yx0_1 ++ yx0_2), k < V10.heap.size) := Lib.hid fun k h => Nat.lt_of_lt_of_le (upx0_9.out k h) hbW10.size
  have nbx1_3 : Hid (wx1.heap.size ∉ (yx1_0 ++ yx1_1 ++ yx1_2)) := Lib.hid fun h => by have := upx1.out _ h; omega
  have upx1_10 : Hid (∀ k ∈ (yx1_0 ++ yx1_1 ++ yx1_2), k < V10.heap.size) := Lib.hid fun k h => Nat.lt_of_lt_of_le (upx1.out k h) hbW10.size
  clear upq0_9 upx0_9 upx1
  clear f0_0_9 f0_1_9 f0_2_9 f0_3_9 f1_0_9 f1_1_9 f1_2_9 f2_0_9 f2_1_9 f2_2_9 f2_3_9 z0_wx1 z1_wx1 z2_wx1
  have z0_V10 : w.heap.size < V10.heap.size := World.block_lt_of_cell? _ _ f0_0_10
  have z1_V10 : w.heap.size + 1 < V10.heap.size := World.block_lt_of_cell? _ _ f1_0_10
  have z2_V10 : wx0.heap.size < V10.heap.size := World.block_lt_of_cell? _ _ f2_0_10
  have z3_V10 : wx1.heap.size < V10.heap.size := World.block_lt_of_cell? _ _ f3_0_10
  go_at_call 16; (refine (impl_Branches_calls a0 a1 [_, _, _, _] [_, _, _] _ (O_bel (d := kProg) bel Ox0.out) (O_bel (d := kEng) bel Ox1.out) (by omega) (by omega)).mono ?_); rintro e wi ⟨Eg0, eg0, bg0, rfl, og0, frg, hbi⟩; have Og0 := Lib.hid og0; have Frg := Lib.hid frg; clear frg; clear og0; have Frg0 := Frg; have Fsg0 : Hid (∀ k ∈ (bg0), V10.heap.size ≤ k) := Lib.hid (fun k h => by refine Nat.le_trans ?_ (Frg0.out.2 k h); exact (bel : Below V10.heap.size V10 _).size); have upg0 : Hid (∀ k ∈ (bg0), k < wi.heap.size) := Lib.hid (Og0.out.lt); have nbg0_0 : Hid (w.heap.size ∉ (bg0)) := Lib.hid (fun h => by have h3 := Fsg0.out _ h; have h4 := World.block_lt_of_cell? _ _ f0_0_10; omega); have nbg0_1 : Hid (w.heap.size + 1 ∉ (bg0)) := Lib.hid (fun h => by have h3 := Fsg0.out _ h; have h4 := World.block_lt_of_cell? _ _ f1_0_10; omega); have nbg0_2 : Hid (wx0.heap.size ∉ (bg0)) := Lib.hid (fun h => by have h3 := Fsg0.out _ h; have h4 := World.block_lt_of_cell? _ _ f2_0_10; omega); have nbg0_3 : Hid (wx1.heap.size ∉ (bg0)) := Lib.hid (fun h => by have h3 := Fsg0.out _ h; have h4 := World.block_lt_of_cell? _ _ f3_0_10; omega); have djg0_q0 : Hid (∀ k ∈ (bg0), k ∉ (bq0)) := Lib.hid (fun k h h2 => by have h3 := Fsg0.out k h; have h4 := upq0_10.out k h2; omega); have djq0_g0 : Hid (∀ k ∈ (bq0), k ∉ (bg0)) := Lib.hid (fun k h2 h => by have h3 := Fsg0.out k h; have h4 := upq0_10.out k h2; omega); have djg0_x0 : Hid (∀ k ∈ (bg0), k ∉ (yx0_0 ++ yx0_1 ++ yx0_2)) := Lib.hid (fun k h h2 => by have h3 := Fsg0.out k h; have h4 := upx0_10.out k h2; omega); have djx0_g0 : Hid (∀ k ∈ (yx0_0 ++ yx0_1 ++ yx0_2), k ∉ (bg0)) := Lib.hid (fun k h2 h => by have h3 := Fsg0.out k h; have h4 := upx0_10.out k h2; omega); have djg0_x1 : Hid (∀ k ∈ (bg0), k ∉ (yx1_0 ++ yx1_1 ++ yx1_2)) := Lib.hid (fun k h h2 => by have h3 := Fsg0.out k h; have h4 := upx1_10.out k h2; omega); have djx1_g0 : Hid (∀ k ∈ (yx1_0 ++ yx1_1 ++ yx1_2), k ∉ (bg0)) := Lib.hid (fun k h2 h => by have h3 := Fsg0.out k h; have h4 := upx1_10.out k h2; omega)
  have hk11 : Below V10.heap.size V10 wi := bel
  have f0_0_11 := keepc hk11 f0_0_10
  have f0_1_11 := keepc hk11 f0_1_10
  have f0_2_11 := keepc hk11 f0_2_10
  have f0_3_11 := keepc hk11 f0_3_10
  have f1_0_11 := keepc hk11 f1_0_10
  have f1_1_11 := keepc hk11 f1_1_10
  have f1_2_11 := keepc hk11 f1_2_10
  have f2_0_11 := keepc hk11 f2_0_10
  have f2_1_11 := keepc hk11 f2_1_10
  have f2_2_11 := keepc hk11 f2_2_10
  have f2_3_11 := keepc hk11 f2_3_10
  have f3_0_11 := keepc hk11 f3_0_10
  have f3_1_11 := keepc hk11 f3_1_10
  have f3_2_11 := keepc hk11 f3_2_10
  have upq0_11 : Hid (∀ k ∈ (bq0), k < wi.heap.size) := Lib.hid fun k h => Nat.lt_of_lt_of_le (upq0_10.out k h) hk11.size
  have upx0_11 : Hid (∀ k ∈ (yx0_0 ++ yx0_1 ++ yx0_2), k < wi.heap.size) := Lib.hid fun k h => Nat.lt_of_lt_of_le (upx0_10.out k h) hk11.size
  have upx1_11 : Hid (∀ k ∈ (yx1_0 ++ yx1_1 ++ yx1_2), k < wi.heap.size) := Lib.hid fun k h => Nat.lt_of_lt_of_le (upx1_10.out k h) hk11.size
  clear upq0_10 upx0_10 upx1_10
  clear f0_0_10 f0_1_10 f0_2_10 f0_3_10 f1_0_10 f1_1_10 f1_2_10 f2_0_10 f2_1_10 f2_2_10 f2_3_10 f3_0_10 f3_1_10 f3_2_10 z0_V10 z1_V10 z2_V10 z3_V10
  have z0_wi : w.heap.size < wi.heap.size := World.block_lt_of_cell? _ _ f0_0_11
  have z1_wi : w.heap.size + 1 < wi.heap.size := World.block_lt_of_cell? _ _ f1_0_11
  have z2_wi : wx0.heap.size < wi.heap.size := World.block_lt_of_cell? _ _ f2_0_11
  have z3_wi : wx1.heap.size < wi.heap.size := World.block_lt_of_cell? _ _ f3_0_11
  have lwg0 : Hid (∀ k ∈ (bg0), w.heap.size ≤ k) := Lib.hid fun k h => Nat.le_trans (bel : Below w.heap.size w V10).size (Fsg0.out k h)
  go_wp2_with fail
  go_at_call 17; (refine (eqPickS_calls _ _ _ _ _ _ _ ((row_of Og0.out).2.below bel) ((row_of Oq0.out).2.below bel)).mono ?_); rintro e wc0 ⟨rfl, hbc0⟩
  have hk12 : Below wi.heap.size wi wc0 := bel
  have f0_0_12 := keepc hk12 f0_0_11
  have f0_1_12 := keepc hk12 f0_1_11
  have f0_2_12 := keepc hk12 f0_2_11
  have f0_3_12 := keepc hk12 f0_3_11
  have f1_0_12 := keepc hk12 f1_0_11
  have f1_1_12 := keepc hk12 f1_1_11
  have f1_2_12 := keepc hk12 f1_2_11
  have f2_0_12 := keepc hk12 f2_0_11
  have f2_1_12 := keepc hk12 f2_1_11
  have f2_2_12 := keepc hk12 f2_2_11
  have f2_3_12 := keepc hk12 f2_3_11
  have f3_0_12 := keepc hk12 f3_0_11
  have f3_1_12 := keepc hk12 f3_1_11
  have f3_2_12 := keepc hk12 f3_2_11
  have upq0_12 : Hid (∀ k ∈ (bq0), k < wc0.heap.size) := Lib.hid fun k h => Nat.lt_of_lt_of_le (upq0_11.out k h) hk12.size
  have upx0_12 : Hid (∀ k ∈ (yx0_0 ++ yx0_1 ++ yx0_2), k < wc0.heap.size) := Lib.hid fun k h => Nat.lt_of_lt_of_le (upx0_11.out k h) hk12.size
  have upx1_12 : Hid (∀ k ∈ (yx1_0 ++ yx1_1 ++ yx1_2), k < wc0.heap.size) := Lib.hid fun k h => Nat.lt_of_lt_of_le (upx1_11.out k h) hk12.size
  have upg0_12 : Hid (∀ k ∈ (bg0), k < wc0.heap.size) := Lib.hid fun k h => Nat.lt_of_lt_of_le (upg0.out k h) hk12.size
  clear upq0_11 upx0_11 upx1_11 upg0
  clear f0_0_11 f0_1_11 f0_2_11 f0_3_11 f1_0_11 f1_1_11 f1_2_11 f2_0_11 f2_1_11 f2_2_11 f2_3_11 f3_0_11 f3_1_11 f3_2_11 z0_wi z1_wi z2_wi z3_wi
  have z0_wc0 : w.heap.size < wc0.heap.size := World.block_lt_of_cell? _ _ f0_0_12
  have z1_wc0 : w.heap.size + 1 < wc0.heap.size := World.block_lt_of_cell? _ _ f1_0_12
  have z2_wc0 : wx0.heap.size < wc0.heap.size := World.block_lt_of_cell? _ _ f2_0_12
  have z3_wc0 : wx1.heap.size < wc0.heap.size := World.block_lt_of_cell? _ _ f3_0_12
  go_wp2_with fail
  refine settleR ?_
  intro W13 hW13
  have hbW13 : Below wc0.heap.size wc0 W13 := by rw [hW13]; exact bel
  have f0_0_13 := keepc hbW13 f0_0_12
  have f0_1_13 := keepc hbW13 f0_1_12
  have f0_2_13 := keepc hbW13 f0_2_12
  have f0_3_13 := keepc hbW13 f0_3_12
  have f1_0_13 := keepc hbW13 f1_0_12
  have f1_1_13 := keepc hbW13 f1_1_12
  have f1_2_13 := keepc hbW13 f1_2_12
  have f2_0_13 := keepc hbW13 f2_0_12
  have f2_1_13 := keepc hbW13 f2_1_12
  have f2_2_13 := keepc hbW13 f2_2_12
  have f2_3_13 := keepc hbW13 f2_3_12
  have f3_0_13 := keepc hbW13 f3_0_12
  have f3_1_13 := keepc hbW13 f3_1_12
  have f3_2_13 := keepc hbW13 f3_2_12
  clear hW13
  have upq0_13 : Hid (∀ k ∈ (bq0), k < W13.heap.size) := Lib.hid fun k h => Nat.lt_of_lt_of_le (upq0_12.out k h) hbW13.size
  have upx0_13 : Hid (∀ k ∈ (yx0_0 ++ yx0_1 ++ yx0_2), k < W13.heap.size) := Lib.hid fun k h => Nat.lt_of_lt_of_le (upx0_12.out k h) hbW13.size
  have upx1_13 : Hid (∀ k ∈ (yx1_0 ++ yx1_1 ++ yx1_2), k < W13.heap.size) := Lib.hid fun k h => Nat.lt_of_lt_of_le (upx1_12.out k h) hbW13.size
  have upg0_13 : Hid (∀ k ∈ (bg0), k < W13.heap.size) := Lib.hid fun k h => Nat.lt_of_lt_of_le (upg0_12.out k h) hbW13.size
  clear upq0_12 upx0_12 upx1_12 upg0_12
  clear f0_0_12 f0_1_12 f0_2_12 f0_3_12 f1_0_12 f1_1_12 f1_2_12 f2_0_12 f2_1_12 f2_2_12 f2_3_12 f3_0_12 f3_1_12 f3_2_12 z0_wc0 z1_wc0 z2_wc0 z3_wc0
  have z0_W13 : w.heap.size < W13.heap.size := World.block_lt_of_cell? _ _ f0_0_13
  have z1_W13 : w.heap.size + 1 < W13.heap.size := World.block_lt_of_cell? _ _ f1_0_13
  have z2_W13 : wx0.heap.size < W13.heap.size := World.block_lt_of_cell? _ _ f2_0_13
  have z3_W13 : wx1.heap.size < W13.heap.size := World.block_lt_of_cell? _ _ f3_0_13
  go_region_held3 (fun w' => w'.cell? ⟨w.heap.size, 0, none⟩ = some (.slice Ea0_0 a0.caps.length ea0_0) ∧ w'.cell? ⟨w.heap.size, 1, none⟩ = some (.int .i64 a0.mus) ∧ w'.cell? ⟨w.heap.size, 2, none⟩ = some (.slice Ea0_1 a0.sels.length ea0_1) ∧ w'.cell? ⟨w.heap.size, 3, none⟩ = some (.slice Ea0_2 a0.procs.length ea0_2) ∧ w'.cell? ⟨w.heap.size + 1, 0, none⟩ = some (.slice Ea1_0 a1.gs.length ea1_0) ∧ w'.cell? ⟨w.heap.size + 1, 1, none⟩ = some (.slice Ea1_1 a1.chans.length ea1_1) ∧ w'.cell? ⟨w.heap.size + 1, 2, none⟩ = some (.slice Ea1_2 a1.mus.length ea1_2) ∧ w'.cell? ⟨wx0.heap.size, 0, none⟩ = some (.slice Ex0_0 a0.caps.length ex0_0) ∧ w'.cell? ⟨wx0.heap.size, 1, none⟩ = some (.int .i64 a0.mus) ∧ w'.cell? ⟨wx0.heap.size, 2, none⟩ = some (.slice Ex0_1 a0.sels.length ex0_1) ∧ w'.cell? ⟨wx0.heap.size, 3, none⟩ = some (.slice Ex0_2 a0.procs.length ex0_2) ∧ w'.cell? ⟨wx1.heap.size, 0, none⟩ = some (.slice Ex1_0 a1.gs.length ex1_0) ∧ w'.cell? ⟨wx1.heap.size, 1, none⟩ = some (.slice Ex1_1 a1.chans.length ex1_1) ∧ w'.cell? ⟨wx1.heap.size, 2, none⟩ = some (.slice Ex1_2 a1.mus.length ex1_2)) (exact ⟨keepc bel f0_0_13, keepc bel f0_1_13, keepc bel f0_2_13, keepc bel f0_3_13, keepc bel f1_0_13, keepc bel f1_1_13, keepc bel f1_2_13, keepc bel f2_0_13, keepc bel f2_1_13, keepc bel f2_2_13, keepc bel f2_3_13, keepc bel f3_0_13, keepc bel f3_1_13, keepc bel f3_2_13⟩)
    (first
      | (go_at_call 14; (with_reducible refine (toProg_calls a0 [_, _, _, _] _ (kProg_mk _ _ l0_0 (R0_0.out.below bel) l0_1 (R0_1.out.below bel) l0_2 (R0_2.out.below bel)) (by omega)).mono ?_); rintro e we0 ⟨cse0, be0, rfl, oe0, fre0, hbe0⟩; have Oe0 := Lib.hid oe0; have Fre0 := Lib.hid fre0; clear fre0; obtain ⟨Ee0_0, ee0_0, ye0_0, Ee0_1, ee0_1, ye0_1, Ee0_2, ee0_2, ye0_2, rfl, rfl, qe0_0, qe0_1, qe0_2⟩ := kProg_O oe0; clear oe0; clear qe0_0 qe0_1 qe0_2)
      | (go_at_call 18; (with_reducible refine (eqProg_calls a0 a0 [_, _, _, _] [_, _, _, _] _ (kProg.K_below bel (kProg.O_K Ox0.out)) (kProg.K_below bel (kProg.O_K Oe0.out))).mono ?_); rintro e wr0 ⟨rfl, hbr0⟩))
  have hk14 : Below W13.heap.size W13 wr0 := bel
  have f0_0_14 := keepc hk14 f0_0_13
  have f0_1_14 := keepc hk14 f0_1_13
  have f0_2_14 := keepc hk14 f0_2_13
  have f0_3_14 := keepc hk14 f0_3_13
  have f1_0_14 := keepc hk14 f1_0_13
  have f1_1_14 := keepc hk14 f1_1_13
  have f1_2_14 := keepc hk14 f1_2_13
  have f2_0_14 := keepc hk14 f2_0_13
  have f2_1_14 := keepc hk14 f2_1_13
  have f2_2_14 := keepc hk14 f2_2_13
  have f2_3_14 := keepc hk14 f2_3_13
  have f3_0_14 := keepc hk14 f3_0_13
  have f3_1_14 := keepc hk14 f3_1_13
  have f3_2_14 := keepc hk14 f3_2_13
  have upq0_14 : Hid (∀ k ∈ (bq0), k < wr0.heap.size) := Lib.hid fun k h => Nat.lt_of_lt_of_le (upq0_13.out k h) hk14.size
  have upx0_14 : Hid (∀ k ∈ (yx0_0 ++ yx0_1 ++ yx0_2), k < wr0.heap.size) := Lib.hid fun k h => Nat.lt_of_lt_of_le (upx0_13.out k h) hk14.size
  have upx1_14 : Hid (∀ k ∈ (yx1_0 ++ yx1_1 ++ yx1_2), k < wr0.heap.size) := Lib.hid fun k h => Nat.lt_of_lt_of_le (upx1_13.out k h) hk14.size
  have upg0_14 : Hid (∀ k ∈ (bg0), k < wr0.heap.size) := Lib.hid fun k h => Nat.lt_of_lt_of_le (upg0_13.out k h) hk14.size
  clear upq0_13 upx0_13 upx1_13 upg0_13
  clear f0_0_13 f0_1_13 f0_2_13 f0_3_13 f1_0_13 f1_1_13 f1_2_13 f2_0_13 f2_1_13 f2_2_13 f2_3_13 f3_0_13 f3_1_13 f3_2_13 z0_W13 z1_W13 z2_W13 z3_W13
  have z0_wr0 : w.heap.size < wr0.heap.size := World.block_lt_of_cell? _ _ f0_0_14
  have z1_wr0 : w.heap.size + 1 < wr0.heap.size := World.block_lt_of_cell? _ _ f1_0_14
  have z2_wr0 : wx0.heap.size < wr0.heap.size := World.block_lt_of_cell? _ _ f2_0_14
  have z3_wr0 : wx1.heap.size < wr0.heap.size := World.block_lt_of_cell? _ _ f3_0_14
  go_wp2_with fail
  refine settleR ?_
  intro W15 hW15
  have hbW15 : Below wr0.heap.size wr0 W15 := by rw [hW15]; exact bel
  have f0_0_15 := keepc hbW15 f0_0_14
  have f0_1_15 := keepc hbW15 f0_1_14
  have f0_2_15 := keepc hbW15 f0_2_14
  have f0_3_15 := keepc hbW15 f0_3_14
  have f1_0_15 := keepc hbW15 f1_0_14
  have f1_1_15 := keepc hbW15 f1_1_14
  have f1_2_15 := keepc hbW15 f1_2_14
  have f2_0_15 := keepc hbW15 f2_0_14
  have f2_1_15 := keepc hbW15 f2_1_14
  have f2_2_15 := keepc hbW15 f2_2_14
  have f2_3_15 := keepc hbW15 f2_3_14
  have f3_0_15 := keepc hbW15 f3_0_14
  have f3_1_15 := keepc hbW15 f3_1_14
  have f3_2_15 := keepc hbW15 f3_2_14
  clear hW15
  have upq0_15 : Hid (∀ k ∈ (bq0), k < W15.heap.size) := Lib.hid fun k h => Nat.lt_of_lt_of_le (upq0_14.out k h) hbW15.size
  have upx0_15 : Hid (∀ k ∈ (yx0_0 ++ yx0_1 ++ yx0_2), k < W15.heap.size) := Lib.hid fun k h => Nat.lt_of_lt_of_le (upx0_14.out k h) hbW15.size
  have upx1_15 : Hid (∀ k ∈ (yx1_0 ++ yx1_1 ++ yx1_2), k < W15.heap.size) := Lib.hid fun k h => Nat.lt_of_lt_of_le (upx1_14.out k h) hbW15.size
  have upg0_15 : Hid (∀ k ∈ (bg0), k < W15.heap.size) := Lib.hid fun k h => Nat.lt_of_lt_of_le (upg0_14.out k h) hbW15.size
  clear upq0_14 upx0_14 upx1_14 upg0_14
  clear f0_0_14 f0_1_14 f0_2_14 f0_3_14 f1_0_14 f1_1_14 f1_2_14 f2_0_14 f2_1_14 f2_2_14 f2_3_14 f3_0_14 f3_1_14 f3_2_14 z0_wr0 z1_wr0 z2_wr0 z3_wr0
  have z0_W15 : w.heap.size < W15.heap.size := World.block_lt_of_cell? _ _ f0_0_15
  have z1_W15 : w.heap.size + 1 < W15.heap.size := World.block_lt_of_cell? _ _ f1_0_15
  have z2_W15 : wx0.heap.size < W15.heap.size := World.block_lt_of_cell? _ _ f2_0_15
  have z3_W15 : wx1.heap.size < W15.heap.size := World.block_lt_of_cell? _ _ f3_0_15
  go_region_held3 (fun w' => w'.cell? ⟨w.heap.size, 0, none⟩ = some (.slice Ea0_0 a0.caps.length ea0_0) ∧ w'.cell? ⟨w.heap.size, 1, none⟩ = some (.int .i64 a0.mus) ∧ w'.cell? ⟨w.heap.size, 2, none⟩ = some (.slice Ea0_1 a0.sels.length ea0_1) ∧ w'.cell? ⟨w.heap.size, 3, none⟩ = some (.slice Ea0_2 a0.procs.length ea0_2) ∧ w'.cell? ⟨w.heap.size + 1, 0, none⟩ = some (.slice Ea1_0 a1.gs.length ea1_0) ∧ w'.cell? ⟨w.heap.size + 1, 1, none⟩ = some (.slice Ea1_1 a1.chans.length ea1_1) ∧ w'.cell? ⟨w.heap.size + 1, 2, none⟩ = some (.slice Ea1_2 a1.mus.length ea1_2) ∧ w'.cell? ⟨wx0.heap.size, 0, none⟩ = some (.slice Ex0_0 a0.caps.length ex0_0) ∧ w'.cell? ⟨wx0.heap.size, 1, none⟩ = some (.int .i64 a0.mus) ∧ w'.cell? ⟨wx0.heap.size, 2, none⟩ = some (.slice Ex0_1 a0.sels.length ex0_1) ∧ w'.cell? ⟨wx0.heap.size, 3, none⟩ = some (.slice Ex0_2 a0.procs.length ex0_2) ∧ w'.cell? ⟨wx1.heap.size, 0, none⟩ = some (.slice Ex1_0 a1.gs.length ex1_0) ∧ w'.cell? ⟨wx1.heap.size, 1, none⟩ = some (.slice Ex1_1 a1.chans.length ex1_1) ∧ w'.cell? ⟨wx1.heap.size, 2, none⟩ = some (.slice Ex1_2 a1.mus.length ex1_2)) (exact ⟨keepc bel f0_0_15, keepc bel f0_1_15, keepc bel f0_2_15, keepc bel f0_3_15, keepc bel f1_0_15, keepc bel f1_1_15, keepc bel f1_2_15, keepc bel f2_0_15, keepc bel f2_1_15, keepc bel f2_2_15, keepc bel f2_3_15, keepc bel f3_0_15, keepc bel f3_1_15, keepc bel f3_2_15⟩)
    (first
      | (go_at_call 15; (with_reducible refine (toEng_calls a1 [_, _, _] _ (kEng_mk _ _ l1_0 (R1_0.out.below bel) l1_1 (R1_1.out.below bel) l1_2 (R1_2.out.below bel)) (by omega)).mono ?_); rintro e we1 ⟨cse1, be1, rfl, oe1, fre1, hbe1⟩; have Oe1 := Lib.hid oe1; have Fre1 := Lib.hid fre1; clear fre1; obtain ⟨Ee1_0, ee1_0, ye1_0, Ee1_1, ee1_1, ye1_1, Ee1_2, ee1_2, ye1_2, rfl, rfl, qe1_0, qe1_1, qe1_2⟩ := kEng_O oe1; clear oe1; clear qe1_0 qe1_1 qe1_2)
      | (go_at_call 19; (with_reducible refine (eqEng_calls a1 a1 [_, _, _] [_, _, _] _ (kEng.K_below bel (kEng.O_K Ox1.out)) (kEng.K_below bel (kEng.O_K Oe1.out))).mono ?_); rintro e wr1 ⟨rfl, hbr1⟩))
  have hk16 : Below W15.heap.size W15 wr1 := bel
  have f0_0_16 := keepc hk16 f0_0_15
  have f0_1_16 := keepc hk16 f0_1_15
  have f0_2_16 := keepc hk16 f0_2_15
  have f0_3_16 := keepc hk16 f0_3_15
  have f1_0_16 := keepc hk16 f1_0_15
  have f1_1_16 := keepc hk16 f1_1_15
  have f1_2_16 := keepc hk16 f1_2_15
  have f2_0_16 := keepc hk16 f2_0_15
  have f2_1_16 := keepc hk16 f2_1_15
  have f2_2_16 := keepc hk16 f2_2_15
  have f2_3_16 := keepc hk16 f2_3_15
  have f3_0_16 := keepc hk16 f3_0_15
  have f3_1_16 := keepc hk16 f3_1_15
  have f3_2_16 := keepc hk16 f3_2_15
  have upq0_16 : Hid (∀ k ∈ (bq0), k < wr1.heap.size) := Lib.hid fun k h => Nat.lt_of_lt_of_le (upq0_15.out k h) hk16.size
  have upx0_16 : Hid (∀ k ∈ (yx0_0 ++ yx0_1 ++ yx0_2), k < wr1.heap.size) := Lib.hid fun k h => Nat.lt_of_lt_of_le (upx0_15.out k h) hk16.size
  have upx1_16 : Hid (∀ k ∈ (yx1_0 ++ yx1_1 ++ yx1_2), k < wr1.heap.size) := Lib.hid fun k h => Nat.lt_of_lt_of_le (upx1_15.out k h) hk16.size
  have upg0_16 : Hid (∀ k ∈ (bg0), k < wr1.heap.size) := Lib.hid fun k h => Nat.lt_of_lt_of_le (upg0_15.out k h) hk16.size
  clear upq0_15 upx0_15 upx1_15 upg0_15
  clear f0_0_15 f0_1_15 f0_2_15 f0_3_15 f1_0_15 f1_1_15 f1_2_15 f2_0_15 f2_1_15 f2_2_15 f2_3_15 f3_0_15 f3_1_15 f3_2_15 z0_W15 z1_W15 z2_W15 z3_W15
  have z0_wr1 : w.heap.size < wr1.heap.size := World.block_lt_of_cell? _ _ f0_0_16
  have z1_wr1 : w.heap.size + 1 < wr1.heap.size := World.block_lt_of_cell? _ _ f1_0_16
  have z2_wr1 : wx0.heap.size < wr1.heap.size := World.block_lt_of_cell? _ _ f2_0_16
  have z3_wr1 : wx1.heap.size < wr1.heap.size := World.block_lt_of_cell? _ _ f3_0_16
  go_wp2_with fail
  refine (markProg_calls (a0) (1) _ (Qx0_0.out.below bel) (Qx0_1.out.below bel) (Qx0_2.out.below bel) Frx0.out.1 (by have hq := hc1; simp only [cntProg, cntEng] at hq; omega) (by omega) (by omega)).mono ?_
  rintro e wmx0 ⟨vx0_0, vx0_1, vx0_2, he, hvx0_0, pvx0_0, mvx0_0, hvx0_1, pvx0_1, mvx0_1, hvx0_2, pvx0_2, mvx0_2, hcmx0⟩
  obtain ⟨kmx0, hkm⟩ : ∃ km : Int, 1 + (((a0).caps.length : Nat) : Int) + ((mcSelectS (a0).sels : Nat) : Int) + ((mcProcS (a0).procs : Nat) : Int) = km := ⟨_, rfl⟩
  rw [hkm] at he mvx0_2; subst he
  have bkx0 : 0 ≤ kmx0 ∧ kmx0 ≤ 67108864 := by have hq := hc1; simp only [cntProg, cntEng] at hq; have := mcSelectS_le (a0).sels; have := mcProcS_le (a0).procs; omega
  have tkx0 : decide (kmx0 < 0) = false := by simp; omega
  clear hkm
  clear mvx0_0 pvx0_0 hvx0_0
  clear mvx0_1 pvx0_1 hvx0_1
  clear mvx0_2 pvx0_2 hvx0_2
  have hbw17 : Below w.heap.size w wmx0 := hcmx0.below lwx0.out bel
  have f0_0_17 := hcmx0.cell nbx0_0.out f0_0_16
  have f0_1_17 := hcmx0.cell nbx0_0.out f0_1_16
  have f0_2_17 := hcmx0.cell nbx0_0.out f0_2_16
  have f0_3_17 := hcmx0.cell nbx0_0.out f0_3_16
  have f1_0_17 := hcmx0.cell nbx0_1.out f1_0_16
  have f1_1_17 := hcmx0.cell nbx0_1.out f1_1_16
  have f1_2_17 := hcmx0.cell nbx0_1.out f1_2_16
  have f2_0_17 := hcmx0.cell nbx0_2.out f2_0_16
  have f2_1_17 := hcmx0.cell nbx0_2.out f2_1_16
  have f2_2_17 := hcmx0.cell nbx0_2.out f2_2_16
  have f2_3_17 := hcmx0.cell nbx0_2.out f2_3_16
  have f3_0_17 := hcmx0.cell nbx0_3.out f3_0_16
  have f3_1_17 := hcmx0.cell nbx0_3.out f3_1_16
  have f3_2_17 := hcmx0.cell nbx0_3.out f3_2_16
  have Owq0_0_17 := Lib.hid (hcmx0.own (fun k h => djq0_x0.out k (by simp [h])) (Oq0.out.below bel))
  have Owg0_0_17 := Lib.hid (hcmx0.own (fun k h => djg0_x0.out k (by simp [h])) (Og0.out.below bel))
  have Owx1_0_17 := Lib.hid (hcmx0.own (fun k h => djx1_x0.out k (by simp [h])) (Qx1_0.out.below bel))
  have Owx1_1_17 := Lib.hid (hcmx0.own (fun k h => djx1_x0.out k (by simp [h])) (Qx1_1.out.below bel))
  have Owx1_2_17 := Lib.hid (hcmx0.own (fun k h => djx1_x0.out k (by simp [h])) (Qx1_2.out.below bel))
  have upq0_17 : Hid (∀ k ∈ (bq0), k < wmx0.heap.size) := Lib.hid fun k h => Nat.lt_of_lt_of_le (upq0_16.out k h) hcmx0.size
  have upx0_17 : Hid (∀ k ∈ (yx0_0 ++ yx0_1 ++ yx0_2), k < wmx0.heap.size) := Lib.hid fun k h => Nat.lt_of_lt_of_le (upx0_16.out k h) hcmx0.size
  have upx1_17 : Hid (∀ k ∈ (yx1_0 ++ yx1_1 ++ yx1_2), k < wmx0.heap.size) := Lib.hid fun k h => Nat.lt_of_lt_of_le (upx1_16.out k h) hcmx0.size
  have upg0_17 : Hid (∀ k ∈ (bg0), k < wmx0.heap.size) := Lib.hid fun k h => Nat.lt_of_lt_of_le (upg0_16.out k h) hcmx0.size
  clear f0_0_16 f0_1_16 f0_2_16 f0_3_16 f1_0_16 f1_1_16 f1_2_16 f2_0_16 f2_1_16 f2_2_16 f2_3_16 f3_0_16 f3_1_16 f3_2_16 z0_wr1 z1_wr1 z2_wr1 z3_wr1
  have z0_wmx0 : w.heap.size < wmx0.heap.size := World.block_lt_of_cell? _ _ f0_0_17
  have z1_wmx0 : w.heap.size + 1 < wmx0.heap.size := World.block_lt_of_cell? _ _ f1_0_17
  have z2_wmx0 : wx0.heap.size < wmx0.heap.size := World.block_lt_of_cell? _ _ f2_0_17
  have z3_wmx0 : wx1.heap.size < wmx0.heap.size := World.block_lt_of_cell? _ _ f3_0_17
  go_wp2_with fail
  refine (markEng_calls (a1) (kmx0) _ (Owx1_0_17.out.below bel) (Owx1_1_17.out.below bel) (Owx1_2_17.out.below bel) Frx1.out.1 (by have hq := hc1; simp only [cntProg, cntEng] at hq; omega) (by omega) (by omega)).mono ?_
  rintro e wmx1 ⟨vx1_0, vx1_1, vx1_2, he, hvx1_0, pvx1_0, mvx1_0, hvx1_1, pvx1_1, mvx1_1, hvx1_2, pvx1_2, mvx1_2, hcmx1⟩
  obtain ⟨kmx1, hkm⟩ : ∃ km : Int, kmx0 + ((mcGorS (a1).gs : Nat) : Int) + ((mcChanS (a1).chans : Nat) : Int) + ((mcMutexS (a1).mus : Nat) : Int) = km := ⟨_, rfl⟩
  rw [hkm] at he mvx1_2; subst he
  have bkx1 : 0 ≤ kmx1 ∧ kmx1 ≤ 134217728 := by have hq := hc1; simp only [cntProg, cntEng] at hq; have := mcGorS_le (a1).gs; have := mcChanS_le (a1).chans; have := mcMutexS_le (a1).mus; omega
  have tkx1 : decide (kmx1 < 0) = false := by simp; omega
  clear hkm
  clear mvx1_0 pvx1_0 hvx1_0
  clear mvx1_1 pvx1_1 hvx1_1
  clear mvx1_2 pvx1_2 hvx1_2
  have hbw18 : Below w.heap.size w wmx1 := hcmx1.below lwx1.out bel
  have f0_0_18 := hcmx1.cell nbx1_0.out f0_0_17
  have f0_1_18 := hcmx1.cell nbx1_0.out f0_1_17
  have f0_2_18 := hcmx1.cell nbx1_0.out f0_2_17
  have f0_3_18 := hcmx1.cell nbx1_0.out f0_3_17
  have f1_0_18 := hcmx1.cell nbx1_1.out f1_0_17
  have f1_1_18 := hcmx1.cell nbx1_1.out f1_1_17
  have f1_2_18 := hcmx1.cell nbx1_1.out f1_2_17
  have f2_0_18 := hcmx1.cell nbx1_2.out f2_0_17
  have f2_1_18 := hcmx1.cell nbx1_2.out f2_1_17
  have f2_2_18 := hcmx1.cell nbx1_2.out f2_2_17
  have f2_3_18 := hcmx1.cell nbx1_2.out f2_3_17
  have f3_0_18 := hcmx1.cell nbx1_3.out f3_0_17
  have f3_1_18 := hcmx1.cell nbx1_3.out f3_1_17
  have f3_2_18 := hcmx1.cell nbx1_3.out f3_2_17
  have Owq0_0_18 := Lib.hid (hcmx1.own (fun k h => djq0_x1.out k (by simp [h])) (Owq0_0_17.out.below bel))
  have Owg0_0_18 := Lib.hid (hcmx1.own (fun k h => djg0_x1.out k (by simp [h])) (Owg0_0_17.out.below bel))
  have upq0_18 : Hid (∀ k ∈ (bq0), k < wmx1.heap.size) := Lib.hid fun k h => Nat.lt_of_lt_of_le (upq0_17.out k h) hcmx1.size
  have upx0_18 : Hid (∀ k ∈ (yx0_0 ++ yx0_1 ++ yx0_2), k < wmx1.heap.size) := Lib.hid fun k h => Nat.lt_of_lt_of_le (upx0_17.out k h) hcmx1.size
  have upx1_18 : Hid (∀ k ∈ (yx1_0 ++ yx1_1 ++ yx1_2), k < wmx1.heap.size) := Lib.hid fun k h => Nat.lt_of_lt_of_le (upx1_17.out k h) hcmx1.size
  have upg0_18 : Hid (∀ k ∈ (bg0), k < wmx1.heap.size) := Lib.hid fun k h => Nat.lt_of_lt_of_le (upg0_17.out k h) hcmx1.size
  clear f0_0_17 f0_1_17 f0_2_17 f0_3_17 f1_0_17 f1_1_17 f1_2_17 f2_0_17 f2_1_17 f2_2_17 f2_3_17 f3_0_17 f3_1_17 f3_2_17 z0_wmx0 z1_wmx0 z2_wmx0 z3_wmx0
  have z0_wmx1 : w.heap.size < wmx1.heap.size := World.block_lt_of_cell? _ _ f0_0_18
  have z1_wmx1 : w.heap.size + 1 < wmx1.heap.size := World.block_lt_of_cell? _ _ f1_0_18
  have z2_wmx1 : wx0.heap.size < wmx1.heap.size := World.block_lt_of_cell? _ _ f2_0_18
  have z3_wmx1 : wx1.heap.size < wmx1.heap.size := World.block_lt_of_cell? _ _ f3_0_18
  go_wp2_with fail
  go_at_call 17; (refine (eqPickS_calls _ _ _ _ _ _ _ ((row_of Owg0_0_18.out).2.below bel) ((row_of Owq0_0_18.out).2.below bel)).mono ?_); rintro e wd0 ⟨rfl, hbd0⟩
  have hk19 : Below wmx1.heap.size wmx1 wd0 := bel
  have f0_0_19 := keepc hk19 f0_0_18
  have f0_1_19 := keepc hk19 f0_1_18
  have f0_2_19 := keepc hk19 f0_2_18
  have f0_3_19 := keepc hk19 f0_3_18
  have f1_0_19 := keepc hk19 f1_0_18
  have f1_1_19 := keepc hk19 f1_1_18
  have f1_2_19 := keepc hk19 f1_2_18
  have f2_0_19 := keepc hk19 f2_0_18
  have f2_1_19 := keepc hk19 f2_1_18
  have f2_2_19 := keepc hk19 f2_2_18
  have f2_3_19 := keepc hk19 f2_3_18
  have f3_0_19 := keepc hk19 f3_0_18
  have f3_1_19 := keepc hk19 f3_1_18
  have f3_2_19 := keepc hk19 f3_2_18
  have upq0_19 : Hid (∀ k ∈ (bq0), k < wd0.heap.size) := Lib.hid fun k h => Nat.lt_of_lt_of_le (upq0_18.out k h) hk19.size
  have upx0_19 : Hid (∀ k ∈ (yx0_0 ++ yx0_1 ++ yx0_2), k < wd0.heap.size) := Lib.hid fun k h => Nat.lt_of_lt_of_le (upx0_18.out k h) hk19.size
  have upx1_19 : Hid (∀ k ∈ (yx1_0 ++ yx1_1 ++ yx1_2), k < wd0.heap.size) := Lib.hid fun k h => Nat.lt_of_lt_of_le (upx1_18.out k h) hk19.size
  have upg0_19 : Hid (∀ k ∈ (bg0), k < wd0.heap.size) := Lib.hid fun k h => Nat.lt_of_lt_of_le (upg0_18.out k h) hk19.size
  clear upq0_18 upx0_18 upx1_18 upg0_18
  clear f0_0_18 f0_1_18 f0_2_18 f0_3_18 f1_0_18 f1_1_18 f1_2_18 f2_0_18 f2_1_18 f2_2_18 f2_3_18 f3_0_18 f3_1_18 f3_2_18 z0_wmx1 z1_wmx1 z2_wmx1 z3_wmx1
  have z0_wd0 : w.heap.size < wd0.heap.size := World.block_lt_of_cell? _ _ f0_0_19
  have z1_wd0 : w.heap.size + 1 < wd0.heap.size := World.block_lt_of_cell? _ _ f1_0_19
  have z2_wd0 : wx0.heap.size < wd0.heap.size := World.block_lt_of_cell? _ _ f2_0_19
  have z3_wd0 : wx1.heap.size < wd0.heap.size := World.block_lt_of_cell? _ _ f3_0_19
  go_wp2_with fail
  refine (markPickS_calls (Ab.brAll a0 a1) _ _ (1) _ _ (Owg0_0_18.out.below bel) Frg0.out.1 (by  have := Ab.brAll_le a0 a1; omega) (by omega) (by omega)).mono ?_
  rintro e wmg0 ⟨vg0_0, he, hvg0_0, pvg0_0, mvg0_0, hcmg0⟩
  obtain ⟨kmg0, hkm⟩ : ∃ km : Int, 1 + (((Ab.brAll a0 a1).length * 2 : Nat) : Int) = km := ⟨_, rfl⟩
  rw [hkm] at he mvg0_0; subst he
  have bkg0 : 0 ≤ kmg0 ∧ kmg0 ≤ 201326592 := by  have := Ab.brAll_le a0 a1; omega
  have tkg0 : decide (kmg0 < 0) = false := by simp; omega
  clear hkm
  have Mvg0_0 := Lib.hid mvg0_0; have Pvg0_0 := Lib.hid pvg0_0; clear mvg0_0 pvg0_0
  have hbw20 : Below w.heap.size w wmg0 := hcmg0.below lwg0.out bel
  have f0_0_20 := hcmg0.cell nbg0_0.out f0_0_19
  have f0_1_20 := hcmg0.cell nbg0_0.out f0_1_19
  have f0_2_20 := hcmg0.cell nbg0_0.out f0_2_19
  have f0_3_20 := hcmg0.cell nbg0_0.out f0_3_19
  have f1_0_20 := hcmg0.cell nbg0_1.out f1_0_19
  have f1_1_20 := hcmg0.cell nbg0_1.out f1_1_19
  have f1_2_20 := hcmg0.cell nbg0_1.out f1_2_19
  have f2_0_20 := hcmg0.cell nbg0_2.out f2_0_19
  have f2_1_20 := hcmg0.cell nbg0_2.out f2_1_19
  have f2_2_20 := hcmg0.cell nbg0_2.out f2_2_19
  have f2_3_20 := hcmg0.cell nbg0_2.out f2_3_19
  have f3_0_20 := hcmg0.cell nbg0_3.out f3_0_19
  have f3_1_20 := hcmg0.cell nbg0_3.out f3_1_19
  have f3_2_20 := hcmg0.cell nbg0_3.out f3_2_19
  have Owq0_0_20 := Lib.hid (hcmg0.own (fun k h => djq0_g0.out k (by simp [h])) (Owq0_0_18.out.below bel))
  have upq0_20 : Hid (∀ k ∈ (bq0), k < wmg0.heap.size) := Lib.hid fun k h => Nat.lt_of_lt_of_le (upq0_19.out k h) hcmg0.size
  have upx0_20 : Hid (∀ k ∈ (yx0_0 ++ yx0_1 ++ yx0_2), k < wmg0.heap.size) := Lib.hid fun k h => Nat.lt_of_lt_of_le (upx0_19.out k h) hcmg0.size
  have upx1_20 : Hid (∀ k ∈ (yx1_0 ++ yx1_1 ++ yx1_2), k < wmg0.heap.size) := Lib.hid fun k h => Nat.lt_of_lt_of_le (upx1_19.out k h) hcmg0.size
  have upg0_20 : Hid (∀ k ∈ (bg0), k < wmg0.heap.size) := Lib.hid fun k h => Nat.lt_of_lt_of_le (upg0_19.out k h) hcmg0.size
  clear f0_0_19 f0_1_19 f0_2_19 f0_3_19 f1_0_19 f1_1_19 f1_2_19 f2_0_19 f2_1_19 f2_2_19 f2_3_19 f3_0_19 f3_1_19 f3_2_19 z0_wd0 z1_wd0 z2_wd0 z3_wd0
  have z0_wmg0 : w.heap.size < wmg0.heap.size := World.block_lt_of_cell? _ _ f0_0_20
  have z1_wmg0 : w.heap.size + 1 < wmg0.heap.size := World.block_lt_of_cell? _ _ f1_0_20
  have z2_wmg0 : wx0.heap.size < wmg0.heap.size := World.block_lt_of_cell? _ _ f2_0_20
  have z3_wmg0 : wx1.heap.size < wmg0.heap.size := World.block_lt_of_cell? _ _ f3_0_20
  go_wp2_with fail
  have hs := heldPickS_calls vg0_0 Eg0 eg0 (1) wmg0 ((row_of Pvg0_0.out).2.below bel) _ Mvg0_0.out (by rw [hvg0_0];  have := Ab.brAll_le a0 a1; omega) (by omega) (by omega)
  rw [hvg0_0] at hs
  refine hs.mono ?_
  clear hs
  rintro e wha0 ⟨rfl, hbha0⟩
  have hk21 : Below wmg0.heap.size wmg0 wha0 := bel
  have f0_0_21 := keepc hk21 f0_0_20
  have f0_1_21 := keepc hk21 f0_1_20
  have f0_2_21 := keepc hk21 f0_2_20
  have f0_3_21 := keepc hk21 f0_3_20
  have f1_0_21 := keepc hk21 f1_0_20
  have f1_1_21 := keepc hk21 f1_1_20
  have f1_2_21 := keepc hk21 f1_2_20
  have f2_0_21 := keepc hk21 f2_0_20
  have f2_1_21 := keepc hk21 f2_1_20
  have f2_2_21 := keepc hk21 f2_2_20
  have f2_3_21 := keepc hk21 f2_3_20
  have f3_0_21 := keepc hk21 f3_0_20
  have f3_1_21 := keepc hk21 f3_1_20
  have f3_2_21 := keepc hk21 f3_2_20
  have upq0_21 : Hid (∀ k ∈ (bq0), k < wha0.heap.size) := Lib.hid fun k h => Nat.lt_of_lt_of_le (upq0_20.out k h) hk21.size
  have upx0_21 : Hid (∀ k ∈ (yx0_0 ++ yx0_1 ++ yx0_2), k < wha0.heap.size) := Lib.hid fun k h => Nat.lt_of_lt_of_le (upx0_20.out k h) hk21.size
  have upx1_21 : Hid (∀ k ∈ (yx1_0 ++ yx1_1 ++ yx1_2), k < wha0.heap.size) := Lib.hid fun k h => Nat.lt_of_lt_of_le (upx1_20.out k h) hk21.size
  have upg0_21 : Hid (∀ k ∈ (bg0), k < wha0.heap.size) := Lib.hid fun k h => Nat.lt_of_lt_of_le (upg0_20.out k h) hk21.size
  clear upq0_20 upx0_20 upx1_20 upg0_20
  clear f0_0_20 f0_1_20 f0_2_20 f0_3_20 f1_0_20 f1_1_20 f1_2_20 f2_0_20 f2_1_20 f2_2_20 f2_3_20 f3_0_20 f3_1_20 f3_2_20 z0_wmg0 z1_wmg0 z2_wmg0 z3_wmg0
  have z0_wha0 : w.heap.size < wha0.heap.size := World.block_lt_of_cell? _ _ f0_0_21
  have z1_wha0 : w.heap.size + 1 < wha0.heap.size := World.block_lt_of_cell? _ _ f1_0_21
  have z2_wha0 : wx0.heap.size < wha0.heap.size := World.block_lt_of_cell? _ _ f2_0_21
  have z3_wha0 : wx1.heap.size < wha0.heap.size := World.block_lt_of_cell? _ _ f3_0_21
  go_wp2_with fail
  refine settleR ?_
  intro W22 hW22
  have hbW22 : Below wha0.heap.size wha0 W22 := by rw [hW22]; exact bel
  have f0_0_22 := keepc hbW22 f0_0_21
  have f0_1_22 := keepc hbW22 f0_1_21
  have f0_2_22 := keepc hbW22 f0_2_21
  have f0_3_22 := keepc hbW22 f0_3_21
  have f1_0_22 := keepc hbW22 f1_0_21
  have f1_1_22 := keepc hbW22 f1_1_21
  have f1_2_22 := keepc hbW22 f1_2_21
  have f2_0_22 := keepc hbW22 f2_0_21
  have f2_1_22 := keepc hbW22 f2_1_21
  have f2_2_22 := keepc hbW22 f2_2_21
  have f2_3_22 := keepc hbW22 f2_3_21
  have f3_0_22 := keepc hbW22 f3_0_21
  have f3_1_22 := keepc hbW22 f3_1_21
  have f3_2_22 := keepc hbW22 f3_2_21
  clear hW22
  have upq0_22 : Hid (∀ k ∈ (bq0), k < W22.heap.size) := Lib.hid fun k h => Nat.lt_of_lt_of_le (upq0_21.out k h) hbW22.size
  have upx0_22 : Hid (∀ k ∈ (yx0_0 ++ yx0_1 ++ yx0_2), k < W22.heap.size) := Lib.hid fun k h => Nat.lt_of_lt_of_le (upx0_21.out k h) hbW22.size
  have upx1_22 : Hid (∀ k ∈ (yx1_0 ++ yx1_1 ++ yx1_2), k < W22.heap.size) := Lib.hid fun k h => Nat.lt_of_lt_of_le (upx1_21.out k h) hbW22.size
  have upg0_22 : Hid (∀ k ∈ (bg0), k < W22.heap.size) := Lib.hid fun k h => Nat.lt_of_lt_of_le (upg0_21.out k h) hbW22.size
  clear upq0_21 upx0_21 upx1_21 upg0_21
  clear f0_0_21 f0_1_21 f0_2_21 f0_3_21 f1_0_21 f1_1_21 f1_2_21 f2_0_21 f2_1_21 f2_2_21 f2_3_21 f3_0_21 f3_1_21 f3_2_21 z0_wha0 z1_wha0 z2_wha0 z3_wha0
  have z0_W22 : w.heap.size < W22.heap.size := World.block_lt_of_cell? _ _ f0_0_22
  have z1_W22 : w.heap.size + 1 < W22.heap.size := World.block_lt_of_cell? _ _ f1_0_22
  have z2_W22 : wx0.heap.size < W22.heap.size := World.block_lt_of_cell? _ _ f2_0_22
  have z3_W22 : wx1.heap.size < W22.heap.size := World.block_lt_of_cell? _ _ f3_0_22
  go_region_held3 (fun w' => w'.cell? ⟨w.heap.size, 0, none⟩ = some (.slice Ea0_0 a0.caps.length ea0_0) ∧ w'.cell? ⟨w.heap.size, 1, none⟩ = some (.int .i64 a0.mus) ∧ w'.cell? ⟨w.heap.size, 2, none⟩ = some (.slice Ea0_1 a0.sels.length ea0_1) ∧ w'.cell? ⟨w.heap.size, 3, none⟩ = some (.slice Ea0_2 a0.procs.length ea0_2) ∧ w'.cell? ⟨w.heap.size + 1, 0, none⟩ = some (.slice Ea1_0 a1.gs.length ea1_0) ∧ w'.cell? ⟨w.heap.size + 1, 1, none⟩ = some (.slice Ea1_1 a1.chans.length ea1_1) ∧ w'.cell? ⟨w.heap.size + 1, 2, none⟩ = some (.slice Ea1_2 a1.mus.length ea1_2) ∧ w'.cell? ⟨wx0.heap.size, 0, none⟩ = some (.slice Ex0_0 a0.caps.length ex0_0) ∧ w'.cell? ⟨wx0.heap.size, 1, none⟩ = some (.int .i64 a0.mus) ∧ w'.cell? ⟨wx0.heap.size, 2, none⟩ = some (.slice Ex0_1 a0.sels.length ex0_1) ∧ w'.cell? ⟨wx0.heap.size, 3, none⟩ = some (.slice Ex0_2 a0.procs.length ex0_2) ∧ w'.cell? ⟨wx1.heap.size, 0, none⟩ = some (.slice Ex1_0 a1.gs.length ex1_0) ∧ w'.cell? ⟨wx1.heap.size, 1, none⟩ = some (.slice Ex1_1 a1.chans.length ex1_1) ∧ w'.cell? ⟨wx1.heap.size, 2, none⟩ = some (.slice Ex1_2 a1.mus.length ex1_2)) (exact ⟨keepc bel f0_0_22, keepc bel f0_1_22, keepc bel f0_2_22, keepc bel f0_3_22, keepc bel f1_0_22, keepc bel f1_1_22, keepc bel f1_2_22, keepc bel f2_0_22, keepc bel f2_1_22, keepc bel f2_2_22, keepc bel f2_3_22, keepc bel f3_0_22, keepc bel f3_1_22, keepc bel f3_2_22⟩)
    (first
      | (go_at_call 14; (with_reducible refine (toProg_calls a0 [_, _, _, _] _ (kProg_mk _ _ l0_0 (R0_0.out.below bel) l0_1 (R0_1.out.below bel) l0_2 (R0_2.out.below bel)) (by omega)).mono ?_); rintro e wz0 ⟨csz0, bz0, rfl, oz0, frz0, hbz0⟩; have Oz0 := Lib.hid oz0; have Frz0 := Lib.hid frz0; clear frz0; obtain ⟨Ez0_0, ez0_0, yz0_0, Ez0_1, ez0_1, yz0_1, Ez0_2, ez0_2, yz0_2, rfl, rfl, qz0_0, qz0_1, qz0_2⟩ := kProg_O oz0; clear oz0; clear qz0_0 qz0_1 qz0_2)
      | (go_at_call 15; (with_reducible refine (toEng_calls a1 [_, _, _] _ (kEng_mk _ _ l1_0 (R1_0.out.below bel) l1_1 (R1_1.out.below bel) l1_2 (R1_2.out.below bel)) (by omega)).mono ?_); rintro e wz1 ⟨csz1, bz1, rfl, oz1, frz1, hbz1⟩; have Oz1 := Lib.hid oz1; have Frz1 := Lib.hid frz1; clear frz1; obtain ⟨Ez1_0, ez1_0, yz1_0, Ez1_1, ez1_1, yz1_1, Ez1_2, ez1_2, yz1_2, rfl, rfl, qz1_0, qz1_1, qz1_2⟩ := kEng_O oz1; clear oz1; clear qz1_0 qz1_1 qz1_2)
      | (go_at_call 16; (with_reducible refine (impl_Branches_calls a0 a1 [_, _, _, _] [_, _, _] _ (O_bel (d := kProg) bel Oz0.out) (O_bel (d := kEng) bel Oz1.out) (by omega) (by omega)).mono ?_); rintro e wh ⟨Eh0, eh0, bh0, rfl, oh0, frh, hbh⟩; have Oh0 := Lib.hid oh0; have Frh := Lib.hid frh; clear frh; clear oh0; have Frh0 := Frh))
  have hk23 : Below W22.heap.size W22 wh := bel
  have f0_0_23 := keepc hk23 f0_0_22
  have f0_1_23 := keepc hk23 f0_1_22
  have f0_2_23 := keepc hk23 f0_2_22
  have f0_3_23 := keepc hk23 f0_3_22
  have f1_0_23 := keepc hk23 f1_0_22
  have f1_1_23 := keepc hk23 f1_1_22
  have f1_2_23 := keepc hk23 f1_2_22
  have f2_0_23 := keepc hk23 f2_0_22
  have f2_1_23 := keepc hk23 f2_1_22
  have f2_2_23 := keepc hk23 f2_2_22
  have f2_3_23 := keepc hk23 f2_3_22
  have f3_0_23 := keepc hk23 f3_0_22
  have f3_1_23 := keepc hk23 f3_1_22
  have f3_2_23 := keepc hk23 f3_2_22
  have upq0_23 : Hid (∀ k ∈ (bq0), k < wh.heap.size) := Lib.hid fun k h => Nat.lt_of_lt_of_le (upq0_22.out k h) hk23.size
  have upx0_23 : Hid (∀ k ∈ (yx0_0 ++ yx0_1 ++ yx0_2), k < wh.heap.size) := Lib.hid fun k h => Nat.lt_of_lt_of_le (upx0_22.out k h) hk23.size
  have upx1_23 : Hid (∀ k ∈ (yx1_0 ++ yx1_1 ++ yx1_2), k < wh.heap.size) := Lib.hid fun k h => Nat.lt_of_lt_of_le (upx1_22.out k h) hk23.size
  have upg0_23 : Hid (∀ k ∈ (bg0), k < wh.heap.size) := Lib.hid fun k h => Nat.lt_of_lt_of_le (upg0_22.out k h) hk23.size
  clear upq0_22 upx0_22 upx1_22 upg0_22
  clear f0_0_22 f0_1_22 f0_2_22 f0_3_22 f1_0_22 f1_1_22 f1_2_22 f2_0_22 f2_1_22 f2_2_22 f2_3_22 f3_0_22 f3_1_22 f3_2_22 z0_W22 z1_W22 z2_W22 z3_W22
  have z0_wh : w.heap.size < wh.heap.size := World.block_lt_of_cell? _ _ f0_0_23
  have z1_wh : w.heap.size + 1 < wh.heap.size := World.block_lt_of_cell? _ _ f1_0_23
  have z2_wh : wx0.heap.size < wh.heap.size := World.block_lt_of_cell? _ _ f2_0_23
  have z3_wh : wx1.heap.size < wh.heap.size := World.block_lt_of_cell? _ _ f3_0_23
  go_wp2_with fail
  go_at_call 17; (refine (eqPickS_calls _ _ _ _ _ _ _ ((row_of Oh0.out).2.below bel) ((row_of Owq0_0_20.out).2.below bel)).mono ?_); rintro e wf0 ⟨rfl, hbf0⟩
  have hk24 : Below wh.heap.size wh wf0 := bel
  have f0_0_24 := keepc hk24 f0_0_23
  have f0_1_24 := keepc hk24 f0_1_23
  have f0_2_24 := keepc hk24 f0_2_23
  have f0_3_24 := keepc hk24 f0_3_23
  have f1_0_24 := keepc hk24 f1_0_23
  have f1_1_24 := keepc hk24 f1_1_23
  have f1_2_24 := keepc hk24 f1_2_23
  have f2_0_24 := keepc hk24 f2_0_23
  have f2_1_24 := keepc hk24 f2_1_23
  have f2_2_24 := keepc hk24 f2_2_23
  have f2_3_24 := keepc hk24 f2_3_23
  have f3_0_24 := keepc hk24 f3_0_23
  have f3_1_24 := keepc hk24 f3_1_23
  have f3_2_24 := keepc hk24 f3_2_23
  have upq0_24 : Hid (∀ k ∈ (bq0), k < wf0.heap.size) := Lib.hid fun k h => Nat.lt_of_lt_of_le (upq0_23.out k h) hk24.size
  have upx0_24 : Hid (∀ k ∈ (yx0_0 ++ yx0_1 ++ yx0_2), k < wf0.heap.size) := Lib.hid fun k h => Nat.lt_of_lt_of_le (upx0_23.out k h) hk24.size
  have upx1_24 : Hid (∀ k ∈ (yx1_0 ++ yx1_1 ++ yx1_2), k < wf0.heap.size) := Lib.hid fun k h => Nat.lt_of_lt_of_le (upx1_23.out k h) hk24.size
  have upg0_24 : Hid (∀ k ∈ (bg0), k < wf0.heap.size) := Lib.hid fun k h => Nat.lt_of_lt_of_le (upg0_23.out k h) hk24.size
  clear upq0_23 upx0_23 upx1_23 upg0_23
  clear f0_0_23 f0_1_23 f0_2_23 f0_3_23 f1_0_23 f1_1_23 f1_2_23 f2_0_23 f2_1_23 f2_2_23 f2_3_23 f3_0_23 f3_1_23 f3_2_23 z0_wh z1_wh z2_wh z3_wh
  have z0_wf0 : w.heap.size < wf0.heap.size := World.block_lt_of_cell? _ _ f0_0_24
  have z1_wf0 : w.heap.size + 1 < wf0.heap.size := World.block_lt_of_cell? _ _ f1_0_24
  have z2_wf0 : wx0.heap.size < wf0.heap.size := World.block_lt_of_cell? _ _ f2_0_24
  have z3_wf0 : wx1.heap.size < wf0.heap.size := World.block_lt_of_cell? _ _ f3_0_24
  go_wp2_with fail
  have hs := heldPickS_calls vg0_0 Eg0 eg0 (1) wf0 ((row_of Pvg0_0.out).2.below bel) _ Mvg0_0.out (by rw [hvg0_0];  have := Ab.brAll_le a0 a1; omega) (by omega) (by omega)
  rw [hvg0_0] at hs
  refine hs.mono ?_
  clear hs
  rintro e whb0 ⟨rfl, hbhb0⟩
  have hk25 : Below wf0.heap.size wf0 whb0 := bel
  have f0_0_25 := keepc hk25 f0_0_24
  have f0_1_25 := keepc hk25 f0_1_24
  have f0_2_25 := keepc hk25 f0_2_24
  have f0_3_25 := keepc hk25 f0_3_24
  have f1_0_25 := keepc hk25 f1_0_24
  have f1_1_25 := keepc hk25 f1_1_24
  have f1_2_25 := keepc hk25 f1_2_24
  have f2_0_25 := keepc hk25 f2_0_24
  have f2_1_25 := keepc hk25 f2_1_24
  have f2_2_25 := keepc hk25 f2_2_24
  have f2_3_25 := keepc hk25 f2_3_24
  have f3_0_25 := keepc hk25 f3_0_24
  have f3_1_25 := keepc hk25 f3_1_24
  have f3_2_25 := keepc hk25 f3_2_24
  have upq0_25 : Hid (∀ k ∈ (bq0), k < whb0.heap.size) := Lib.hid fun k h => Nat.lt_of_lt_of_le (upq0_24.out k h) hk25.size
  have upx0_25 : Hid (∀ k ∈ (yx0_0 ++ yx0_1 ++ yx0_2), k < whb0.heap.size) := Lib.hid fun k h => Nat.lt_of_lt_of_le (upx0_24.out k h) hk25.size
  have upx1_25 : Hid (∀ k ∈ (yx1_0 ++ yx1_1 ++ yx1_2), k < whb0.heap.size) := Lib.hid fun k h => Nat.lt_of_lt_of_le (upx1_24.out k h) hk25.size
  have upg0_25 : Hid (∀ k ∈ (bg0), k < whb0.heap.size) := Lib.hid fun k h => Nat.lt_of_lt_of_le (upg0_24.out k h) hk25.size
  clear upq0_24 upx0_24 upx1_24 upg0_24
  clear f0_0_24 f0_1_24 f0_2_24 f0_3_24 f1_0_24 f1_1_24 f1_2_24 f2_0_24 f2_1_24 f2_2_24 f2_3_24 f3_0_24 f3_1_24 f3_2_24 z0_wf0 z1_wf0 z2_wf0 z3_wf0
  have z0_whb0 : w.heap.size < whb0.heap.size := World.block_lt_of_cell? _ _ f0_0_25
  have z1_whb0 : w.heap.size + 1 < whb0.heap.size := World.block_lt_of_cell? _ _ f1_0_25
  have z2_whb0 : wx0.heap.size < whb0.heap.size := World.block_lt_of_cell? _ _ f2_0_25
  have z3_whb0 : wx1.heap.size < whb0.heap.size := World.block_lt_of_cell? _ _ f3_0_25
  go_wp2
  go_ret
  exact ⟨rfl, bel⟩
end Go.Proofs.YtjmefaihkblliaaGreat.Wd

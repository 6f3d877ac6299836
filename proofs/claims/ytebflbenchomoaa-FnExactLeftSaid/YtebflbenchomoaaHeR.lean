/- Contracts of the laws' helpers over replays. Conditions: none. -/
import Derived.Test.YtebflbenchomoaaTyR
import Derived.Test.YtebflbenchomoaaEqE
import Derived.Test.YtebflbenchomoaaToE
import Derived.Test.YtebflbenchomoaaSzE
namespace Go.Proofs.Ytebflbenchomoaa.Wd
open Go.RowKit
set_option linter.unusedVariables false
set_option linter.unusedSimpArgs false
set_option maxHeartbeats 2000000
set_option maxRecDepth 100000
theorem eqDeed_calls (x y : MDeed) (cs ds : List Value) (w : World) (hx : kDeed.K w x cs) (hy : kDeed.K w y ds) :
    Calls Try.prog 88 #[.agg cs.toArray, .agg ds.toArray] w fun e w' => e = .returned (.bool (decide (x = y))) ∧ Below w.heap.size w w' := by
  obtain rfl := kDeed_K hx
  obtain rfl := kDeed_K hy
  clear hx hy
  obtain ⟨x0, x1, x2, x3⟩ := x
  obtain ⟨y0, y1, y2, y3⟩ := y
  go_enter Try.func88, Try.ntmps88
  go_wp2
  all_goals (go_ret; refine ⟨?_, bel⟩; simp_all)

theorem eqDeedS_calls (xs ys : List MDeed) (A B : Option Addr) (c d : Nat) (w : World) (hr : kDeed.Row w A xs) (hs : kDeed.Row w B ys) :
    Calls Try.prog 68 #[.slice A xs.length c, .slice B ys.length d] w fun e w' => e = .returned (.bool (decide (xs = ys))) ∧ Below w.heap.size w w' := by
  have hm := hr.1
  have HR := Lib.hid hr; clear hr
  have HS := Lib.hid hs; clear hs
  by_cases hl : xs.length = ys.length
  · have b2 : ((xs.length : Int) != (ys.length : Int)) = false := by simp [hl]
    have b3 : (xs.length != ys.length) = false := by simp [hl]
    have Hl := Lib.hid hl; clear hl
    go_enter Try.func68, Try.ntmps68
    go_wp2
    go_loopg [5] (xs.length + 1) (fun kq v5 w' => ∃ i : Nat, v5 = .int .i64 i ∧ i + kq = xs.length + 1 ∧ i ≤ xs.length ∧ Hid (∀ j, j < i → xs[j]? = ys[j]?) ∧ Below w.heap.size w w')
    case atStart => exact ⟨0, rfl, by omega, by omega, Lib.hid fun j hj => absurd hj (by omega), Below.refl _ _⟩
    case round =>
      obtain ⟨i, rfl, hi, hi2, HP, hb⟩ := hrel
      obtain ⟨gk, rfl⟩ : ∃ m, gk = m + 1 := ⟨gk - 1, by omega⟩
      by_cases hlt : i < xs.length
      · have hlt' : i < ys.length := by have := Hl.out; omega
        obtain ⟨b, o, rfl, g0, g1, g2, g3⟩ := kDeed_at (HR.out.below hb) hlt
        obtain ⟨b', o', rfl, k0, k1, k2, k3⟩ := kDeed_at (HS.out.below hb) hlt'
        go_wp2_with fail
        go_still_tail 8, (by kernel_rfl)
        change wpList _ _ _ _ _ wr.drew
        by_cases he : xs[i] = ys[i]
        · have hd : decide (xs[i] = ys[i]) = true := decide_eq_true he
          have He := Lib.hid he; clear he
          go_wp2_with fail
          refine (eqDeed_calls xs[i] ys[i] [_, _, _, _] [_, _, _, _] _ (kDeed_mk _ _) (kDeed_mk _ _)).mono ?_
          rintro e w' ⟨rfl, hb2⟩
          go_wp2
          go_roundg gk
          case measure => omega
          case rel => exact ⟨i + 1, by go_num, by omega, by omega, Lib.hid fun j hj => (by
            rcases Nat.lt_succ_iff_lt_or_eq.1 hj with h | rfl
            · exact HP.out j h
            · rw [List.getElem?_eq_getElem hlt, List.getElem?_eq_getElem hlt', He.out]), bstep hb hb2⟩
        · have hd : decide (xs[i] = ys[i]) = false := decide_eq_false he
          have He := Lib.hid he; clear he
          go_wp2_with fail
          refine (eqDeed_calls xs[i] ys[i] [_, _, _, _] [_, _, _, _] _ (kDeed_mk _ _) (kDeed_mk _ _)).mono ?_
          rintro e w' ⟨rfl, hb2⟩
          go_wp2
          go_ret
          exact ⟨retF (by rintro rfl; exact He.out rfl), bstep hb hb2⟩
      · have hi' : i = xs.length := by omega
        subst hi'
        go_wp2
        go_ret
        exact ⟨retT (take_eq Hl.out HP.out), bel⟩
  · have b2 : ((xs.length : Int) != (ys.length : Int)) = true := by simp; omega
    have b3 : (xs.length != ys.length) = true := by simp [hl]
    go_enter Try.func68, Try.ntmps68
    go_wp2
    go_ret
    exact ⟨retF (by rintro rfl; exact hl rfl), bel⟩

theorem eqBoolS_calls (xs ys : List Bool) (A B : Option Addr) (c d : Nat) (w : World) (hr : Rp.bool.Row w A xs) (hs : Rp.bool.Row w B ys) :
    Calls Try.prog 69 #[.slice A xs.length c, .slice B ys.length d] w fun e w' => e = .returned (.bool (decide (xs = ys))) ∧ Below w.heap.size w w' := by
  have hm := hr.1
  have HR := Lib.hid hr; clear hr
  have HS := Lib.hid hs; clear hs
  by_cases hl : xs.length = ys.length
  · have b2 : ((xs.length : Int) != (ys.length : Int)) = false := by simp [hl]
    have b3 : (xs.length != ys.length) = false := by simp [hl]
    have Hl := Lib.hid hl; clear hl
    go_enter Try.func69, Try.ntmps69
    go_wp2
    go_loopg [5] (xs.length + 1) (fun kq v5 w' => ∃ i : Nat, v5 = .int .i64 i ∧ i + kq = xs.length + 1 ∧ i ≤ xs.length ∧ Hid (∀ j, j < i → xs[j]? = ys[j]?) ∧ Below w.heap.size w w')
    case atStart => exact ⟨0, rfl, by omega, by omega, Lib.hid fun j hj => absurd hj (by omega), Below.refl _ _⟩
    case round =>
      obtain ⟨i, rfl, hi, hi2, HP, hb⟩ := hrel
      obtain ⟨gk, rfl⟩ : ∃ m, gk = m + 1 := ⟨gk - 1, by omega⟩
      by_cases hlt : i < xs.length
      · have hlt' : i < ys.length := by have := Hl.out; omega
        obtain ⟨b, o, rfl, g0⟩ := bool_at (HR.out.below hb) hlt
        obtain ⟨b', o', rfl, k0⟩ := bool_at (HS.out.below hb) hlt'
        by_cases he : xs[i] = ys[i]
        · have hd : (!xs[i] == ys[i]) = false := by simp [he]
          have hd2 : (xs[i] == ys[i]) = true := by simp [he]
          have hd3 : (xs[i] != ys[i]) = false := by simp [he]
          have He := Lib.hid he; clear he
          go_wp2_with fail
          go_quiet (fail)
          go_wp2
          go_roundg gk
          case measure => omega
          case rel => exact ⟨i + 1, by go_num, by omega, by omega, Lib.hid fun j hj => (by
            rcases Nat.lt_succ_iff_lt_or_eq.1 hj with h | rfl
            · exact HP.out j h
            · rw [List.getElem?_eq_getElem hlt, List.getElem?_eq_getElem hlt', He.out]), bel⟩
        · have hd : (!xs[i] == ys[i]) = true := by simp [he]
          have hd2 : (xs[i] == ys[i]) = false := by simp [he]
          have hd3 : (xs[i] != ys[i]) = true := by simp [he]
          have He := Lib.hid he; clear he
          go_wp2_with fail
          go_quiet (fail)
          go_wp2
          go_ret
          exact ⟨retF (by rintro rfl; exact He.out rfl), bel⟩
      · have hi' : i = xs.length := by omega
        subst hi'
        go_wp2
        go_ret
        exact ⟨retT (take_eq Hl.out HP.out), bel⟩
  · have b2 : ((xs.length : Int) != (ys.length : Int)) = true := by simp; omega
    have b3 : (xs.length != ys.length) = true := by simp [hl]
    go_enter Try.func69, Try.ntmps69
    go_wp2
    go_ret
    exact ⟨retF (by rintro rfl; exact hl rfl), bel⟩

theorem eqRep_calls (x y : MRep) (cs ds : List Value) (w : World) (hx : kRep.K w x cs) (hy : kRep.K w y ds) :
    Calls Try.prog 32 #[.agg cs.toArray, .agg ds.toArray] w fun e w' => e = .returned (.bool (decide (x = y))) ∧ Below w.heap.size w w' := by
  obtain ⟨A0, c0, A1, c1, A2, c2, A3, c3, A4, c4, rfl, l0, r0, l1, r1, l2, r2, l3, r3, l4, r4⟩ := kRep_K hx
  obtain ⟨B0, d0, B1, d1, B2, d2, B3, d3, B4, d4, rfl, m0, s0, m1, s1, m2, s2, m3, s3, m4, s4⟩ := kRep_K hy
  clear hx hy
  obtain ⟨x0, x1, x2⟩ := x
  obtain ⟨y0, y1, y2⟩ := y
  simp only at *
  have R0 := Lib.hid r0; clear r0
  have S0 := Lib.hid s0; clear s0
  have R1 := Lib.hid r1; clear r1
  have S1 := Lib.hid s1; clear s1
  have R2 := Lib.hid r2; clear r2
  have S2 := Lib.hid s2; clear s2
  have R3 := Lib.hid r3; clear r3
  have S3 := Lib.hid s3; clear s3
  have R4 := Lib.hid r4; clear r4
  have S4 := Lib.hid s4; clear s4
  go_enter Try.func32, Try.ntmps32
  go_wp2_with (first
    | (go_at_call 14; (with_reducible refine (eqEng_calls x0 y0 [_, _, _] [_, _, _] _ (kEng_mk _ _ l0 (R0.out.below bel) l1 (R1.out.below bel) l2 (R2.out.below bel)) (kEng_mk _ _ m0 (S0.out.below bel) m1 (S1.out.below bel) m2 (S2.out.below bel))).mono ?_); rintro e w1 ⟨rfl, hb1⟩; obtain ⟨C1, D1⟩ := bcell hb1; obtain ⟨za1, zb1⟩ : w.heap.size < w1.heap.size ∧ w.heap.size + 1 < w1.heap.size := (by have := hb1.size; (try simp at this); omega))
    | (go_at_call 68; (with_reducible refine (eqDeedS_calls _ _ _ _ _ _ _ (R3.out.below bel) (S3.out.below bel)).mono ?_); rintro e w2 ⟨rfl, hb2⟩; obtain ⟨C2, D2⟩ := bcell hb2; obtain ⟨za2, zb2⟩ : w.heap.size < w2.heap.size ∧ w.heap.size + 1 < w2.heap.size := (by have := hb2.size; (try simp at this); omega))
    | (go_at_call 69; (with_reducible refine (eqBoolS_calls _ _ _ _ _ _ _ (R4.out.below bel) (S4.out.below bel)).mono ?_); rintro e w3 ⟨rfl, hb3⟩; obtain ⟨C3, D3⟩ := bcell hb3; obtain ⟨za3, zb3⟩ : w.heap.size < w3.heap.size ∧ w.heap.size + 1 < w3.heap.size := (by have := hb3.size; (try simp at this); omega)))
  all_goals (go_ret; refine ⟨?_, bel⟩; simp_all)

theorem toDeed_calls (x : MDeed) (cs : List Value) (w : World) (hx : kDeed.K w x cs) :
    Calls Try.prog 87 #[.agg cs.toArray] w fun e w' => ∃ cs' bs, e = .returned (.agg cs'.toArray) ∧ kDeed.O w' bs x cs' ∧ Fresh w bs ∧ Below w.heap.size w w' := by
  obtain rfl := kDeed_K hx
  clear hx
  obtain ⟨x0, x1, x2, x3⟩ := x
  go_enter Try.func87, Try.ntmps87
  go_wp2
  refine bodyPost_ret (v := .agg #[.int .i64 x0, .int .i64 x1, .int .i64 x2, .int .i64 x3]) ?_ ?_ ?_
  · simp only [results, Try.results87]
    go_simp
  · rfl
  · exact ⟨_, _, rfl, kDeed_mkO _ ⟨x0, x1, x2, x3⟩, fresh_nil _, bel⟩

theorem toDeedS_calls (xs : List MDeed) (A : Option Addr) (c : Nat) (w : World) (hr : kDeed.Row w A xs) (hm : xs.length ≤ 1048576) :
    Calls Try.prog 66 #[.slice A xs.length c] w fun e w' => ∃ B d bs, e = .returned (.slice B xs.length d) ∧ kDeed.Own 122 w' bs (.slice B xs.length d) xs ∧ Fresh w bs ∧ Below w.heap.size w w' := by
  have HR := Lib.hid hr; clear hr
  have hmk := mkrow (P := Try.prog) 57 122 4 32 _ Try.underlying57 info_Deed xs.length (by omega) (by omega)
  go_enter Try.func66, Try.ntmps66
  go_wp2
  clear hmk
  have F0 := Fill.init kDeed 122 w xs xs.length (madeCells #[.int .i64 0, .int .i64 0, .int .i64 0, .int .i64 0] (xs.length * 4)) (by rw [size_madeCells]; rfl)
  have hb0 : Below w.heap.size w (w.alloc (.cells (madeCells #[.int .i64 0, .int .i64 0, .int .i64 0, .int .i64 0] (xs.length * 4)) 122)) := bel
  generalize hg : w.heap.size = g at F0 ⊢
  replace hg : w.heap.size ≤ g := Nat.le_of_eq hg
  go_loopg [4] (xs.length + 1) (fun kq v4 w' => ∃ i : Nat, v4 = .int .i64 i ∧ i + kq = xs.length + 1 ∧ i ≤ xs.length ∧ (∃ cur bss, Hid (Fill kDeed 122 w w' g xs.length (xs.take i) cur bss)) ∧ Below w.heap.size w w')
  case atStart => exact ⟨0, rfl, by omega, by omega, F0, hb0⟩
  case round =>
    clear F0 hb0
    obtain ⟨i, rfl, hi, hi2, ⟨cur, bss, HF⟩, hb⟩ := hrel
    obtain ⟨gk, rfl⟩ : ∃ m, gk = m + 1 := ⟨gk - 1, by omega⟩
    by_cases hlt : i < xs.length
    · obtain ⟨b, o, rfl, g0, g1, g2, g3⟩ := kDeed_at (HR.out.below hb) hlt
      go_wp2_with fail
      refine (toDeed_calls xs[i] [_, _, _, _] _ (kDeed_mk _ _)).mono ?_
      rintro e w1 ⟨cs', bs, rfl, ho, hfr, hb1⟩
      have HO := Lib.hid ho
      obtain ⟨rfl, rfl⟩ := kDeed_O ho
      obtain ⟨u0, q0, f0⟩ := Fill.cell HF hb1 hlt 0 (at_ := i * 4) (by decide) rfl
      obtain ⟨u1, q1, f1⟩ := Fill.cell HF hb1 hlt 1 (at_ := i * 4 + 1) (by decide) rfl
      obtain ⟨u2, q2, f2⟩ := Fill.cell HF hb1 hlt 2 (at_ := i * 4 + 2) (by decide) rfl
      obtain ⟨u3, q3, f3⟩ := Fill.cell HF hb1 hlt 3 (at_ := i * 4 + 3) (by decide) rfl
      have HFR := Lib.hid hfr; clear hfr
      clear ho
      go_wp2
      go_roundg gk
      case measure => omega
      case rel => exact ⟨i + 1, by go_num, by omega, by omega, Fill.next HF hlt hlt hb1 HO.out HFR.out rfl, ((((bvia hb1 hb).setCell hg _).setCell hg _).setCell hg _).setCell hg _⟩
    · go_wp2
      go_ret
      obtain ⟨bs, h1, h2⟩ := Fill.fin HF (by omega) rfl (by omega)
      exact ⟨_, _, bs, rfl, h1, h2, bel⟩

theorem toBoolS_calls (xs : List Bool) (A : Option Addr) (c : Nat) (w : World) (hr : Rp.bool.Row w A xs) (hm : xs.length ≤ 1048576) :
    Calls Try.prog 67 #[.slice A xs.length c] w fun e w' => ∃ B d bs, e = .returned (.slice B xs.length d) ∧ Rp.bool.Own 4 w' bs (.slice B xs.length d) xs ∧ Fresh w bs ∧ Below w.heap.size w w' := by
  have HR := Lib.hid hr; clear hr
  have hmk := mkrow (P := Try.prog) 52 4 1 1 _ Try.underlying52 info_bool xs.length (by omega) (by omega)
  go_enter Try.func67, Try.ntmps67
  go_wp2
  clear hmk
  have F0 := Fill.init Rp.bool 4 w xs xs.length (madeCells #[.bool false] xs.length) (by rw [size_madeCells]; exact (Nat.mul_one _).symm)
  have hb0 : Below w.heap.size w (w.alloc (.cells (madeCells #[.bool false] xs.length) 4)) := bel
  generalize hg : w.heap.size = g at F0 ⊢
  replace hg : w.heap.size ≤ g := Nat.le_of_eq hg
  go_loopg [4] (xs.length + 1) (fun kq v4 w' => ∃ i : Nat, v4 = .int .i64 i ∧ i + kq = xs.length + 1 ∧ i ≤ xs.length ∧ (∃ cur bss, Hid (Fill Rp.bool 4 w w' g xs.length (xs.take i) cur bss)) ∧ Below w.heap.size w w')
  case atStart => exact ⟨0, rfl, by omega, by omega, F0, hb0⟩
  case round =>
    clear F0 hb0
    obtain ⟨i, rfl, hi, hi2, ⟨cur, bss, HF⟩, hb⟩ := hrel
    obtain ⟨gk, rfl⟩ : ∃ m, gk = m + 1 := ⟨gk - 1, by omega⟩
    by_cases hlt : i < xs.length
    · obtain ⟨b, o, rfl, g0⟩ := bool_at (HR.out.below hb) hlt
      obtain ⟨u0, q0, f0⟩ := Fill.cell HF (Below.refl _ _) hlt 0 (at_ := i) (by decide) (Nat.mul_one i)
      go_wp2
      go_roundg gk
      case measure => omega
      case rel => exact ⟨i + 1, by go_num, by omega, by omega, Fill.next HF hlt hlt (Below.refl _ _) ⟨rfl, rfl⟩ (fresh_nil _) (Nat.mul_one i), hb.setCell hg _⟩
    · go_wp2
      go_ret
      obtain ⟨bs, h1, h2⟩ := Fill.fin HF (by omega) rfl (by omega)
      exact ⟨_, _, bs, rfl, h1, h2, bel⟩

theorem toRep_calls (x : MRep) (cs : List Value) (w : World) (hx : kRep.K w x cs) (hc : cntRep x ≤ 1048576) :
    Calls Try.prog 30 #[.agg cs.toArray] w fun e w' => ∃ cs' bs, e = .returned (.agg cs'.toArray) ∧ kRep.O w' bs x cs' ∧ Fresh w bs ∧ Below w.heap.size w w' := by
  obtain ⟨A0, c0, A1, c1, A2, c2, A3, c3, A4, c4, rfl, l0, r0, l1, r1, l2, r2, l3, r3, l4, r4⟩ := kRep_K hx
  clear hx
  unfold cntRep at hc
  obtain ⟨x0, x1, x2⟩ := x
  simp only at *
  have R0 := Lib.hid r0; clear r0
  have R1 := Lib.hid r1; clear r1
  have R2 := Lib.hid r2; clear r2
  have R3 := Lib.hid r3; clear r3
  have R4 := Lib.hid r4; clear r4
  go_enter Try.func30, Try.ntmps30
  go_wp2_with (first
    | (go_at_call 12; (with_reducible refine (toEng_calls x0 [_, _, _] _ (kEng_mk _ _ l0 (R0.out.below bel) l1 (R1.out.below bel) l2 (R2.out.below bel)) (by omega)).mono ?_); rintro e w0 ⟨cs0, bs0, rfl, ho0, f0, hb0⟩; obtain ⟨C0, D0⟩ := bcell hb0; obtain ⟨za0, zb0, zc0⟩ : w.heap.size < w0.heap.size ∧ w.heap.size + 1 < w0.heap.size ∧ w.heap.size + 1 + 1 < w0.heap.size := (by have := hb0.size; (try simp at this); omega); have Hho0 := Lib.hid ho0; obtain ⟨E0, e0, b0, E1, e1, b1, E2, e2, b2, rfl, rfl, o0, o1, o2⟩ := kEng_O ho0; clear ho0; have Ho0 := Lib.hid o0; clear o0; have Ho1 := Lib.hid o1; clear o1; have Ho2 := Lib.hid o2; clear o2; have Hf0 := Lib.hid f0; clear f0)
    | (go_at_call 66; (with_reducible refine (toDeedS_calls x1 _ _ _ (R3.out.below bel) (by omega)).mono ?_); rintro e w1 ⟨E3, e3, b3, rfl, o3, f1, hb1⟩; obtain ⟨C1, D1⟩ := bcell hb1; obtain ⟨za1, zb1, zc1⟩ : w.heap.size < w1.heap.size ∧ w.heap.size + 1 < w1.heap.size ∧ w.heap.size + 1 + 1 < w1.heap.size := (by have := hb1.size; (try simp at this); omega); have Ho3 := Lib.hid o3; clear o3; have Hf1 := Lib.hid f1; clear f1)
    | (go_at_call 67; (with_reducible refine (toBoolS_calls x2 _ _ _ (R4.out.below bel) (by omega)).mono ?_); rintro e w2 ⟨E4, e4, b4, rfl, o4, f2, hb2⟩; obtain ⟨C2, D2⟩ := bcell hb2; obtain ⟨za2, zb2, zc2⟩ : w.heap.size < w2.heap.size ∧ w.heap.size + 1 < w2.heap.size ∧ w.heap.size + 1 + 1 < w2.heap.size := (by have := hb2.size; (try simp at this); omega); have Ho4 := Lib.hid o4; clear o4; have Hf2 := Lib.hid f2; clear f2))
  refine bodyPost_ret (v := .agg #[.slice E0 x0.gs.length e0, .slice E1 x0.chans.length e1, .slice E2 x0.mus.length e2, .slice E3 x1.length e3, .slice E4 x2.length e4]) ?_ ?_ ?_
  · simp only [results, Try.results30]
    go_simp
  · rfl
  · exact ⟨_, _, rfl, kRep_mkO _ ⟨x0, x1, x2⟩ (Hf0.out.own1 (fun b hb => by simp [hb]) Ho0.out) (Hf0.out.own1 (fun b hb => by simp [hb]) Ho1.out) (Hf0.out.own1 (fun b hb => by simp [hb]) Ho2.out) (Hf1.out.own Ho3.out) (Hf2.out.own Ho4.out), ((Hf0.out.sub).app ((kEng.O_lt (Hf0.out.O Hho0.out))) Hf1.out).app (mem2 ((kEng.O_lt (Hf0.out.O Hho0.out))) (Hf1.out.own Ho3.out).lt) Hf2.out, bel⟩

theorem szDeedS_calls (xs : List MDeed) (A : Option Addr) (c : Nat) (l : Int) (w : World) (hr : kDeed.Row w A xs) (h0 : 0 ≤ l) (h1 : l ≤ 1048576) :
    Calls Try.prog 64 #[.slice A xs.length c, .int .i64 l] w fun e w' => e = .returned (.int .i64 (szr l xs.length)) ∧ Below w.heap.size w w' := by
  have hm := hr.1
  clear hr
  unfold szr
  by_cases h : (xs.length : Int) ≤ l
  · rw [if_pos h]
    have t1 : decide (l - (xs.length : Int) < 0) = false := by simp; omega
    go_enter Try.func64, Try.ntmps64
    go_wp2
    go_ret
    exact ⟨rfl, bel⟩
  · rw [if_neg h]
    have t1 : decide (l - (xs.length : Int) < 0) = true := by simp; omega
    go_enter Try.func64, Try.ntmps64
    go_wp2
    go_ret
    exact ⟨rfl, bel⟩

theorem szBoolS_calls (xs : List Bool) (A : Option Addr) (c : Nat) (l : Int) (w : World) (hr : Rp.bool.Row w A xs) (h0 : 0 ≤ l) (h1 : l ≤ 1048576) :
    Calls Try.prog 65 #[.slice A xs.length c, .int .i64 l] w fun e w' => e = .returned (.int .i64 (szr l xs.length)) ∧ Below w.heap.size w w' := by
  have hm := hr.1
  clear hr
  unfold szr
  by_cases h : (xs.length : Int) ≤ l
  · rw [if_pos h]
    have t1 : decide (l - (xs.length : Int) < 0) = false := by simp; omega
    go_enter Try.func65, Try.ntmps65
    go_wp2
    go_ret
    exact ⟨rfl, bel⟩
  · rw [if_neg h]
    have t1 : decide (l - (xs.length : Int) < 0) = true := by simp; omega
    go_enter Try.func65, Try.ntmps65
    go_wp2
    go_ret
    exact ⟨rfl, bel⟩

theorem szRep_calls (x : MRep) (cs : List Value) (l : Int) (w : World) (hx : kRep.K w x cs) (h0 : 0 ≤ l) (h1 : l ≤ 1048576) :
    Calls Try.prog 28 #[.agg cs.toArray, .int .i64 l] w fun e w' => e = .returned (.int .i64 (szr l (cntRep x))) ∧ Below w.heap.size w w' := by
  obtain ⟨A0, c0, A1, c1, A2, c2, A3, c3, A4, c4, rfl, l0, r0, l1, r1, l2, r2, l3, r3, l4, r4⟩ := kRep_K hx
  clear hx
  unfold cntRep
  obtain ⟨x0, x1, x2⟩ := x
  simp only at *
  have R0 := Lib.hid r0; clear r0
  have R1 := Lib.hid r1; clear r1
  have R2 := Lib.hid r2; clear r2
  have R3 := Lib.hid r3; clear r3
  have R4 := Lib.hid r4; clear r4
  obtain ⟨n0, hn0⟩ : ∃ m : Nat, cntEng x0 = m := ⟨_, rfl⟩
  rw [hn0]
  have Hn0 := Lib.hid hn0; clear hn0
  by_cases h2 : ((n0 : Nat) : Int) ≤ l
  rotate_left
  · go_enter Try.func28, Try.ntmps28
    go_wp2_with fail
    refine (sz_no (szEng_calls x0 [_, _, _] (l) _ (kEng_mk _ _ l0 (R0.out.below bel) l1 (R1.out.below bel) l2 (R2.out.below bel)) (by omega) (by omega)) Hn0.out (by omega)).mono ?_
    rintro e w0 ⟨rfl, hb0⟩
    obtain ⟨C0, D0⟩ := bcell hb0
    have za0 : w.heap.size < w0.heap.size := by have := hb0.size; (try simp at this); omega
    go_wp2
    go_ret
    refine ⟨?_, bel⟩
    exact szr_n (by omega)
  by_cases h3 : ((n0 : Nat) : Int) + ((x1.length : Nat) : Int) ≤ l
  rotate_left
  · have t0 : decide (l - ((n0 : Nat) : Int) < 0) = false := by simp; omega
    go_enter Try.func28, Try.ntmps28
    go_wp2_with fail
    refine (sz_yes (szEng_calls x0 [_, _, _] (l) _ (kEng_mk _ _ l0 (R0.out.below bel) l1 (R1.out.below bel) l2 (R2.out.below bel)) (by omega) (by omega)) Hn0.out (by omega)).mono ?_
    rintro e w0 ⟨rfl, hb0⟩
    obtain ⟨C0, D0⟩ := bcell hb0
    have za0 : w.heap.size < w0.heap.size := by have := hb0.size; (try simp at this); omega
    go_wp2_with fail
    refine (sz_no (szDeedS_calls x1 _ _ (l - ((n0 : Nat) : Int)) _ (R3.out.below bel) (by omega) (by omega)) rfl (by omega)).mono ?_
    rintro e w1 ⟨rfl, hb1⟩
    obtain ⟨C1, D1⟩ := bcell hb1
    have za1 : w.heap.size < w1.heap.size := by have := hb1.size; (try simp at this); omega
    go_wp2
    go_ret
    refine ⟨?_, bel⟩
    exact szr_n (by omega)
  by_cases h4 : ((n0 : Nat) : Int) + ((x1.length : Nat) : Int) + ((x2.length : Nat) : Int) ≤ l
  rotate_left
  · have t0 : decide (l - ((n0 : Nat) : Int) < 0) = false := by simp; omega
    have t1 : decide (l - ((n0 : Nat) : Int) - ((x1.length : Nat) : Int) < 0) = false := by simp; omega
    go_enter Try.func28, Try.ntmps28
    go_wp2_with fail
    refine (sz_yes (szEng_calls x0 [_, _, _] (l) _ (kEng_mk _ _ l0 (R0.out.below bel) l1 (R1.out.below bel) l2 (R2.out.below bel)) (by omega) (by omega)) Hn0.out (by omega)).mono ?_
    rintro e w0 ⟨rfl, hb0⟩
    obtain ⟨C0, D0⟩ := bcell hb0
    have za0 : w.heap.size < w0.heap.size := by have := hb0.size; (try simp at this); omega
    go_wp2_with fail
    refine (sz_yes (szDeedS_calls x1 _ _ (l - ((n0 : Nat) : Int)) _ (R3.out.below bel) (by omega) (by omega)) rfl (by omega)).mono ?_
    rintro e w1 ⟨rfl, hb1⟩
    obtain ⟨C1, D1⟩ := bcell hb1
    have za1 : w.heap.size < w1.heap.size := by have := hb1.size; (try simp at this); omega
    go_wp2_with fail
    refine (sz_no (szBoolS_calls x2 _ _ (l - ((n0 : Nat) : Int) - ((x1.length : Nat) : Int)) _ (R4.out.below bel) (by omega) (by omega)) rfl (by omega)).mono ?_
    rintro e w2 ⟨rfl, hb2⟩
    obtain ⟨C2, D2⟩ := bcell hb2
    have za2 : w.heap.size < w2.heap.size := by have := hb2.size; (try simp at this); omega
    go_wp2
    go_ret
    refine ⟨?_, bel⟩
    exact szr_n (by omega)
  have t0 : decide (l - ((n0 : Nat) : Int) < 0) = false := by simp; omega
  have t1 : decide (l - ((n0 : Nat) : Int) - ((x1.length : Nat) : Int) < 0) = false := by simp; omega
  have t2 : decide (l - ((n0 : Nat) : Int) - ((x1.length : Nat) : Int) - ((x2.length : Nat) : Int) < 0) = false := by simp; omega
  go_enter Try.func28, Try.ntmps28
  go_wp2_with fail
  refine (sz_yes (szEng_calls x0 [_, _, _] (l) _ (kEng_mk _ _ l0 (R0.out.below bel) l1 (R1.out.below bel) l2 (R2.out.below bel)) (by omega) (by omega)) Hn0.out (by omega)).mono ?_
  rintro e w0 ⟨rfl, hb0⟩
  obtain ⟨C0, D0⟩ := bcell hb0
  have za0 : w.heap.size < w0.heap.size := by have := hb0.size; (try simp at this); omega
  go_wp2_with fail
  refine (sz_yes (szDeedS_calls x1 _ _ (l - ((n0 : Nat) : Int)) _ (R3.out.below bel) (by omega) (by omega)) rfl (by omega)).mono ?_
  rintro e w1 ⟨rfl, hb1⟩
  obtain ⟨C1, D1⟩ := bcell hb1
  have za1 : w.heap.size < w1.heap.size := by have := hb1.size; (try simp at this); omega
  go_wp2_with fail
  refine (sz_yes (szBoolS_calls x2 _ _ (l - ((n0 : Nat) : Int) - ((x1.length : Nat) : Int)) _ (R4.out.below bel) (by omega) (by omega)) rfl (by omega)).mono ?_
  rintro e w2 ⟨rfl, hb2⟩
  obtain ⟨C2, D2⟩ := bcell hb2
  have za2 : w.heap.size < w2.heap.size := by have := hb2.size; (try simp at this); omega
  go_wp2
  go_ret
  refine ⟨?_, bel⟩
  exact szr_y (by omega) (by omega)
end Go.Proofs.Ytebflbenchomoaa.Wd

/- The laws' own helpers, and the laws on commands, as plain statements. Conditions: none. -/
import Derived.Test.YtcidbencoebfaaaDoorTxR
namespace Go.Proofs.YtcidbencoebfaaaDoor.Wd
open Go.RowKit Go.Proofs.YtcidbencoebfaaaDoor.PT Go.Proofs.YtcidbencoebfaaaDoorW.PrintWords Go.Proofs.YtcidbencoebfaaaDoorW.PrintLast Go.Proofs.YtcidbencoebfaaaDoorW.PrintMore
set_option linter.unusedVariables false
set_option linter.unusedSimpArgs false
set_option maxRecDepth 100000
theorem take_set_self {α : Type} (xs : List α) (i : Nat) (v : α) : (xs.set i v).take i = xs.take i := by
  apply List.ext_getElem?
  intro j
  by_cases h : j < i
  · rw [List.getElem?_take_of_lt h, List.getElem?_take_of_lt h, List.getElem?_set_ne (by omega)]
  · rw [List.getElem?_eq_none (by simp; omega), List.getElem?_eq_none (by simp; omega)]
theorem eqPick_self (a : S32) : laws_eqPick.f a.f0 a.f1 a.f0 a.f1 = some true := by
  unfold laws_eqPick.f
  simp
theorem rdT_Pick {xs : List S32} {i : Nat} (h : i < xs.length) : rd_T32 xs (i : Int) = xs[i] := by unfold rd_T32; simp [List.getD_eq_getElem?_getD, h]
theorem eqPickS_loop {xs : List S32} (hl : xs.length ≤ 4611686018427387904) : ∀ (d i : Nat), i + d = xs.length → Ev (fun k => laws_eqPickS.l0 k xs xs i) true := by
  intro d
  induction d with
  | zero =>
    intro i hi
    exact Ev.step (fun k => laws_eqPickS.l0.eq_2 _ _ _ k) (evN (by omega) (evS rfl))
  | succ d ih =>
    intro i hi
    refine Ev.step (fun k => laws_eqPickS.l0.eq_2 _ _ _ k) (evY (by omega) (evY (by omega) (evY (by omega) ?_)))
    rw [rdT_Pick (by omega)]
    refine evB (eqPick_self _) (evY rfl ?_)
    rw [wr (by omega) (by omega)]
    exact ih (i + 1) (by omega)
theorem eqPickS_self {xs : List S32} (hl : xs.length ≤ 4611686018427387904) : Ev (fun k => laws_eqPickS.f k xs xs) true := by
  unfold laws_eqPickS.f
  exact evY rfl (eqPickS_loop hl xs.length 0 (by omega))
def mkPick (m : Int) : S32 := ⟨m, m + 1⟩
def mksPick (m : Int) : Nat → List S32
  | 0 => []
  | d + 1 => mkPick m :: mksPick (m + 2) d
theorem mksPick_len : ∀ (d : Nat) (m : Int), (mksPick m d).length = d
  | 0, _ => rfl
  | d + 1, m => by rw [mksPick, List.length_cons, mksPick_len d]
theorem rdset_Pick {xs : List S32} {i : Nat} (h : i < xs.length) (v : S32) : rd_T32 (xs.set i v) (i : Int) = v := by rw [rdT_Pick (by simpa using h)]; simp
theorem markPickS_loop : ∀ (d i : Nat) (m : Int) (xs : List S32), i + d = xs.length → 0 ≤ m → m + 2 * d ≤ 4611686018427387904 → i + d ≤ 4611686018427387904 → Ev (fun k => laws_markPickS.l0 k xs m i) (m + 2 * d, xs.take i ++ mksPick m d) := by
  intro d
  induction d with
  | zero =>
    intro i m xs hi h0 hm hb
    refine Ev.step (fun k => laws_markPickS.l0.eq_2 _ _ _ k) (evN (by omega) (evS ?_))
    rw [List.take_of_length_le (by omega)]; simp [mksPick]
  | succ d ih =>
    intro i m xs hi h0 hm hb
    have hlt : i < xs.length := by omega
    refine Ev.step (fun k => laws_markPickS.l0.eq_2 _ _ _ k) (evY (by omega) (evY (by omega) ?_))
    simp only [Option.bind_some, Int.toNat_natCast, rdset_Pick hlt, List.set_set, List.length_set]
    have := ih (i + 1) (m + 2) (xs.set i (mkPick m)) (by simp; omega) (by omega) (by omega) (by omega)
    rw [show (xs.set i (mkPick m)).take (i + 1) = xs.take i ++ [mkPick m] by
      rw [List.take_succ_eq_append_getElem (by simpa using hlt)]; simp [take_set_self], List.append_assoc, show m + 2 + 2 * (d : Int) = m + 2 * ((d + 1 : Nat) : Int) by omega] at this
    rw [wr (x := m + 1) (by omega) (by omega), show (m + 1 : Int) + 1 = m + 2 by omega, wr (x := m + 2) (by omega) (by omega), wr (x := (i : Int) + 1) (by omega) (by omega)]
    exact this
theorem markPickS_ev {xs : List S32} {m : Int} (h0 : 0 ≤ m) (hm : m + 2 * xs.length ≤ 4611686018427387904) : Ev (fun k => laws_markPickS.f k xs m) (m + 2 * xs.length, mksPick m xs.length) := by
  unfold laws_markPickS.f
  exact markPickS_loop xs.length 0 m xs (by omega) h0 hm (by omega)
theorem heldPickS_loop : ∀ (d i : Nat) (m : Int) (xs : List S32), xs.drop i = mksPick m d → i + d = xs.length → 0 ≤ m → m + 2 * d ≤ 4611686018427387904 → i + d ≤ 4611686018427387904 → Ev (fun k => laws_heldPickS.l0 k xs m i) (m + 2 * d) := by
  intro d
  induction d with
  | zero =>
    intro i m xs hx hi h0 hm hb
    exact Ev.step (fun k => laws_heldPickS.l0.eq_2 _ _ _ k) (evN (by omega) (evS (by simp)))
  | succ d ih =>
    intro i m xs hx hi h0 hm hb
    have hlt : i < xs.length := by omega
    rw [List.drop_eq_getElem_cons hlt, mksPick] at hx
    injection hx with hx hd
    refine Ev.step (fun k => laws_heldPickS.l0.eq_2 _ _ _ k) (evY (by omega) (evY (by omega) ?_))
    rw [rdT_Pick hlt, hx]
    simp only [mkPick]
    rw [wr (x := m + 1) (by omega) (by omega), show (m + 1 : Int) + 1 = m + 2 by omega, wr (x := m + 2) (by omega) (by omega), wr (x := (i : Int) + 1) (by omega) (by omega)]
    have := ih (i + 1) (m + 2) xs hd (by omega) (by omega) (by omega) (by omega)
    rw [show m + 2 + 2 * (d : Int) = m + 2 * ((d + 1 : Nat) : Int) by omega] at this
    exact evY (by first | rfl | trivial) (evY (by first | rfl | trivial) (this))
theorem heldPickS_ev {m : Int} (d : Nat) (h0 : 0 ≤ m) (hm : m + 2 * d ≤ 4611686018427387904) : Ev (fun k => laws_heldPickS.f k (mksPick m d) m) (m + 2 * d) := by
  unfold laws_heldPickS.f
  exact heldPickS_loop d 0 m _ rfl (by rw [mksPick_len]; omega) h0 hm (by omega)
theorem eqCmd_self (k0 a b : Int) (ps : List S32) (hl : ps.length ≤ 4611686018427387904) : Ev (fun k => laws_eqCmd.f k k0 a b ps k0 a b ps) true := by
  unfold laws_eqCmd.f
  exact evY rfl (evY rfl (evY rfl (Ev.bind (eqPickS_self hl) (evY rfl (evS rfl)))))
theorem markCmd_ev (k0 a b : Int) (ps : List S32) (hl : ps.length ≤ 1099511627776) : Ev (fun k => laws_markCmd.f k k0 a b ps 1) (1 + 2 * (ps.length : Int), mksPick 1 ps.length) := by
  unfold laws_markCmd.f
  exact Ev.bind (markPickS_ev (by decide) (by omega)) (evS rfl)
theorem heldCmd_ev (k0 a b : Int) (d : Nat) (hl : d ≤ 1099511627776) : Ev (fun k => laws_heldCmd.f k k0 a b (mksPick 1 d) 1) (1 + 2 * (d : Int)) := by
  unfold laws_heldCmd.f
  exact Ev.bind (heldPickS_ev d (by decide) (by omega)) (evN (by omega) (evS rfl))
theorem strict_len {s : ByteArray} {x : MCmd} (h : strict s = some x) : x.picks.length ≤ s.size + 1 := by
  unfold strict at h
  obtain ⟨K, _, _, l, hp, rfl⟩ := strictK_some h
  have h1 := parseAll_len hp
  have h2 := parts_len 32 s
  rw [List.length_tail] at h1
  unfold mkCmd
  split
  · show l.length ≤ _; omega
  · exact Nat.zero_le _
theorem tup_len {s : ByteArray} (hs : s.size ≤ 1048576) : (cmdTup (strict s)).2.2.2.1.length ≤ 1048577 := by
  cases h : strict s with
  | none => exact Nat.zero_le _
  | some x => have := strict_len h; show (x.picks.map toP).length ≤ _; rw [List.length_map]; omega
theorem pure_TextCmd (s : ByteArray) : ∃ k, laws_FnExactTextCmd.f k s = some true := by
  apply Ev.rounds (g := fun k => laws_FnExactTextCmd.f k s)
  unfold laws_FnExactTextCmd.f
  by_cases hs : s.size ≤ 1048576
  · have hl := tup_len hs
    obtain ⟨t, ht⟩ : ∃ t, cmdTup (strict s) = t := ⟨_, rfl⟩
    have h1 := ev_sTc hs; have h2 := ev_iTc hs
    rw [ht] at hl h1 h2
    refine evN (by omega) (Ev.bind h1 (Ev.bind h2 (Ev.bind (eqCmd_self _ _ _ _ (by omega)) (evY rfl ?_))))
    rw [show (t.2.2.2.2 != t.2.2.2.2) = false by simp]
    refine Ev.step (fun k => laws_FnExactTextCmd.j0.eq_2 _ _ _ _ _ _ _ _ _ _ _ k) (evN (by decide) (Ev.bind (markCmd_ev _ _ _ _ (by omega)) (Ev.bind (heldCmd_ev _ _ _ _ (by omega)) (evN (by omega) (evY rfl (Ev.bind h2 (Ev.bind (eqCmd_self _ _ _ _ (by omega)) (evY rfl ?_))))))))
    rw [show (t.2.2.2.2 != t.2.2.2.2) = false by simp]
    exact Ev.step (fun k => laws_FnExactTextCmd.j1.eq_2 _ _ _ _ _ _ k) (evN (by decide) (Ev.bind (heldCmd_ev _ _ _ _ (by omega)) (evN (by omega) (evY rfl (evS rfl)))))
  · exact evY (by omega) (evS rfl)
end Go.Proofs.YtcidbencoebfaaaDoor.Wd


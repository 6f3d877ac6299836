/- What the printed functions on texts answer. Conditions: bounds on the sizes. -/
import Derived.Test.YtcidbencoebfaaaDoorTxV
import Derived.Test.YtcidbencoebfaaaDoorEvK
import Derived.Test.YtcidbencoebfaaaDoorPTx0
import Derived.Test.YtcidbencoebfaaaDoorPTx1
import Derived.Test.YtcidbencoebfaaaDoorPTx2
import Derived.Test.YtcidbencoebfaaaDoorPTx3
import Derived.Test.YtcidbencoebfaaaDoorPTx4
import Derived.Test.YtcidbencoebfaaaDoorPTx5
import Derived.Test.YtcidbencoebfaaaDoorPTx6
import Derived.Test.YtcidbencoebfaaaDoorPTx7
import Derived.Test.YtcidbencoebfaaaDoorPTx8
import Derived.Test.YtcidbencoebfaaaDoorPTx9
import Derived.Test.YtcidbencoebfaaaDoorPTx10
import Derived.Test.YtcidbencoebfaaaDoorPTx11
namespace Go.Proofs.YtcidbencoebfaaaDoor.Wd
open Go.RowKit Go.Proofs.YtcidbencoebfaaaDoor.PT Go.Proofs.YtcidbencoebfaaaDoorW.PrintWords Go.Proofs.YtcidbencoebfaaaDoorW.PrintLast Go.Proofs.YtcidbencoebfaaaDoorW.PrintMore
set_option linter.unusedVariables false
set_option linter.unusedSimpArgs false
set_option maxRecDepth 100000
theorem tl_eq {a b : ByteArray} : a.toList = b.toList ↔ a = b := by rw [Lib.toList_data, Lib.toList_data]; exact ⟨fun h => ba_ext h, fun h => by rw [h]⟩
theorem tl_nil {a : ByteArray} : a.toList = ([] : List UInt8) ↔ a.size = 0 := by
  rw [Lib.toList_data]
  constructor
  · intro h; rw [size_list, h]; rfl
  · intro h; rw [size_zero h]

theorem implNum_eq (n : Int) : impl_NumText.f n = some (numText n) := rfl
theorem implTn_loop {s : ByteArray} (h1 : 1 ≤ s.size ∧ s.size ≤ 10) : ∀ (d i : Nat), i + d = s.size → (s.data.toList.take i).all dig = true → Ev (fun k => impl_TextNum.l0 k s (numVal (s.data.toList.take i)) s.size i) (tnVal s, tnOk s) := by
  intro d
  induction d with
  | zero =>
    intro i hi ha
    obtain rfl : i = s.size := by omega
    have hall : s.data.toList.take s.size = s.data.toList := List.take_of_length_le (by simp)
    rw [hall] at ha ⊢
    have hv := numVal_lt ha
    refine Ev.step (fun k => impl_TextNum.l0.eq_2 _ _ _ _ k) (evN (by omega) (evB (implNum_eq _) ?_))
    have hte := textNum_end h1 ha
    by_cases he : numText (numVal s.data.toList) = s
    · refine evY (tl_eq.2 he) (evS ?_)
      rw [if_pos he] at hte; unfold tnVal tnOk; rw [hte]; rfl
    · refine evN (fun h => he (tl_eq.1 h)) (evS ?_)
      rw [if_neg he] at hte; unfold tnVal tnOk; rw [hte]; rfl
  | succ d ih =>
    intro i hi ha
    have hlt : i < s.size := by omega
    have hb := bt_get hlt
    have hv := numVal_lt ha
    rw [List.length_take, Nat.min_eq_left (by simp; omega)] at hv
    have hv2 : numVal (s.data.toList.take i) < 10 ^ 10 := Nat.lt_of_lt_of_le hv (Nat.pow_le_pow_right (by decide) (by omega))
    have hr := bt_range s i
    refine Ev.step (fun k => impl_TextNum.l0.eq_2 _ _ _ _ k) (evY (by omega) (evY (by omega) (evY (by omega) (evI (fun h => ?_) fun h => evI (fun g => ?_) fun g => ?_))))
    · have hd := textNum_dig hlt (dig_false.2 (by omega)); exact evS (by unfold tnVal tnOk; rw [hd]; rfl)
    · have hd := textNum_dig hlt (dig_false.2 (by omega)); exact evS (by unfold tnVal tnOk; rw [hd]; rfl)
    · have hd : dig s[i] = true := dig_true.2 (by omega)
      have := ih (i + 1) (by omega) (all_snoc hlt ha hd)
      rw [take_snoc hlt, numVal_snoc] at this
      rw [wr (x := 10 * ((numVal (s.data.toList.take i) : Nat) : Int)) (by omega) (by omega), wr (x := 10 * ((numVal (s.data.toList.take i) : Nat) : Int) + (bt s i - 48) % 256) (by omega) (by omega), wr (x := (i : Int) + 1) (by omega) (by omega)]
      rw [show 10 * ((numVal (s.data.toList.take i) : Nat) : Int) + (bt s i - 48) % 256 = ((10 * numVal (s.data.toList.take i) + (s[i].toNat - 48) : Nat) : Int) by omega, show (i : Int) + 1 = ((i + 1 : Nat) : Int) by omega]
      exact this
theorem ev_implTn (s : ByteArray) : Ev (fun k => impl_TextNum.f k s) (tnVal s, tnOk s) := by
  unfold impl_TextNum.f
  by_cases h0 : s.size = 0
  · have hd := textNum_size (s := s) (by omega)
    refine evY (tl_nil.2 h0) (Ev.step (fun k => impl_TextNum.j0.eq_2 _ _ _) (evY rfl (evS ?_)))
    unfold tnVal tnOk; rw [hd]; rfl
  · refine evN (fun h => h0 (tl_nil.1 h)) ?_
    by_cases h10 : s.size ≤ 10
    · rw [decide_eq_false (by omega)]
      refine Ev.step (fun k => impl_TextNum.j0.eq_2 _ _ _) (evN (by decide) ?_)
      exact implTn_loop (by omega) s.size 0 (by omega) rfl
    · have hd := textNum_size (s := s) (by omega)
      rw [decide_eq_true (by omega)]
      refine Ev.step (fun k => impl_TextNum.j0.eq_2 _ _ _) (evY rfl (evS ?_))
      unfold tnVal tnOk; rw [hd]; rfl
theorem iParts_eq {s : ByteArray} (hs : s.size ≤ 1048576) : impl_Parts.f s = some (parts 32 s) := by
  unfold impl_Parts.f strings_Split.f
  rw [if_pos ⟨rfl, hs⟩]; rfl
theorem iLines_eq {s : ByteArray} (hs : s.size ≤ 1048576) : impl_Lines.f s = some (lines s) := by
  have hne := parts_ne 10 s
  have hl := parts_len 10 s
  have hp := List.length_pos_iff.2 hne
  unfold impl_Lines.f strings_Split.f
  rw [if_pos ⟨rfl, hs⟩]
  show (some (parts 10 s)).bind _ = _
  simp only [Option.bind_some]
  have hw : wrap64 (((parts 10 s).length : Int) - 1) = (((parts 10 s).length - 1 : Nat) : Int) := by rw [wr (by omega) (by omega)]; omega
  rw [hw, if_pos (by omega), if_pos (by omega), rdOf_at _ _ (by omega)]
  unfold lines cutLast
  have hla : (parts 10 s).getLastD ⟨#[]⟩ = (parts 10 s)[(parts 10 s).length - 1] := by
    rw [List.getLastD_eq_getLast?, List.getLast?_eq_getElem?, List.getElem?_eq_getElem (by omega)]; rfl
  rw [hla]
  by_cases he : ((parts 10 s)[(parts 10 s).length - 1]).size = 0
  · rw [if_pos (tl_nil.2 he), if_pos (by omega), if_pos he, Int.toNat_natCast, List.dropLast_eq_take]
  · rw [if_neg (fun h => he (tl_nil.1 h)), if_neg he]

theorem splitL_size {c : UInt8} {l x : List UInt8} (h : x ∈ splitL c l) : x.length ≤ l.length := by
  induction l generalizing x with
  | nil => simp [splitL] at h; subst h; simp
  | cons b l ih =>
    unfold splitL at h
    split at h
    · rcases List.mem_cons.1 h with rfl | h
      · simp
      · have := ih h; simp; omega
    · rcases hs : splitL c l with _ | ⟨y, r⟩
      · exact absurd hs (splitL_ne c l)
      · rw [hs, consH] at h
        rcases List.mem_cons.1 h with rfl | h
        · have := ih (x := y) (by rw [hs]; exact List.mem_cons_self); simp; omega
        · have := ih (x := x) (by rw [hs]; exact List.mem_cons_of_mem _ h); simp; omega
theorem parts_size {c : UInt8} {s x : ByteArray} (h : x ∈ parts c s) : x.size ≤ s.size := by
  unfold parts at h
  obtain ⟨l, hl, rfl⟩ := List.mem_map.1 h
  have := splitL_size hl
  simpa [bytes_size] using this
def toP (p : MPick) : S32 := ⟨p.g, p.c⟩
def toC (x : MCmd) : S27 := ⟨x.kind, x.a, x.b, x.picks.map toP⟩
theorem form_eq (k : Int) : impl_cmdForm.f k = some (cmdWord k, (cmdCount k : Int), cmdPicks k) := by
  unfold impl_cmdForm.f
  by_cases h1 : k = 1; · subst h1; rfl
  by_cases h2 : k = 2; · subst h2; rfl
  by_cases h3 : k = 3; · subst h3; rfl
  by_cases h4 : k = 4; · subst h4; rfl
  by_cases h5 : k = 5; · subst h5; rfl
  by_cases h6 : k = 6; · subst h6; rfl
  by_cases h7 : k = 7; · subst h7; rfl
  by_cases h8 : k = 8; · subst h8; rfl
  rw [if_neg h1, if_neg h2, if_neg h3, if_neg h4, if_neg h5, if_neg h6, if_neg h7, if_neg h8]
  unfold cmdWord cmdCount cmdPicks
  simp [h1, h2, h3, h4, h5, h6, h7, h8]
def cmdTup : Option MCmd → Int × Int × Int × List S32 × Bool
  | none => (0, 0, 0, [], false)
  | some x => (x.kind, x.a, x.b, x.picks.map toP, true)

def stepW (pk : Bool) (t : Nat × Int × Int × List MPick) (p : MPick) : Nat × Int × Int × List MPick :=
  if pk then (t.1 + 1, t.2.1, t.2.2.1, t.2.2.2 ++ [p]) else if t.1 = 0 then (t.1 + 1, p.g, t.2.2.1, t.2.2.2) else (t.1 + 1, t.2.1, p.g, t.2.2.2)
def stepsW (pk : Bool) (K : Int) (t : Nat × Int × Int × List MPick) : Option (List MPick) → Option MCmd
  | none => none
  | some l => some ⟨K, (l.foldl (stepW pk) t).2.1, (l.foldl (stepW pk) t).2.2.1, (l.foldl (stepW pk) t).2.2.2⟩
theorem stepsW_cons (pk : Bool) (K : Int) (t : Nat × Int × Int × List MPick) (p : MPick) (o : Option (List MPick)) : stepsW pk K t (o.map (p :: ·)) = stepsW pk K (stepW pk t p) o := by cases o <;> rfl
theorem iTc_words {ws : List ByteArray} (hl : ws.length ≤ 1048577) (hz : ∀ x ∈ ws, x.size ≤ 1048576) (pk : Bool) (K : Int) : ∀ (rest : List ByteArray) (i : Nat) (a b : Int) (ps : List MPick), ws.drop i = rest → i ≤ ws.length → ps.length ≤ i →
    Ev (fun k => impl_TextCmd.l1 k pk ws ws.length i K a b (ps.map toP)) (cmdTup (stepsW pk K (i, a, b, ps) (parseAll pk rest))) := by
  intro rest
  induction rest with
  | nil =>
    intro i a b ps hd hi hp
    have : ws.length ≤ i := by simpa using hd
    exact Ev.step (fun k => impl_TextCmd.l1.eq_2 _ _ _ _ _ _ _ _ k) (evN (by omega) (evS rfl))
  | cons x rest ih =>
    intro i a b ps hd hi hp
    have hlt : i < ws.length := by
      rcases Nat.lt_or_ge i ws.length with h | h
      · exact h
      · rw [List.drop_eq_nil_of_le h] at hd; cases hd
    rw [List.drop_eq_getElem_cons hlt] at hd
    injection hd with hx hd
    have hxs : x.size ≤ 1048576 := hz x (by rw [← hx]; exact List.getElem_mem hlt)
    refine Ev.step (fun k => impl_TextCmd.l1.eq_2 _ _ _ _ _ _ _ _ k) (evY (by omega) (evY (by omega) (evY (by omega) ?_)))
    rw [rdOf_at _ _ hlt, hx]
    have hcut : strings_Cut.f x ⟨#[58]⟩ = some (cut1 58 x, cut2 58 x, cutF 58 x) := by unfold strings_Cut.f; rw [if_pos ⟨rfl, hxs⟩]; rfl
    refine evB hcut (Ev.bind (ev_implTn _) ?_)
    have key : ∀ (a1 b1 : Int) (ok : Bool), (ok = true → (cutF 58 x = pk → parseW pk x = some ⟨a1, b1⟩) ∧ (cutF 58 x ≠ pk → parseW pk x = none)) → (ok = false → parseW pk x = none) →
        Ev (fun k => impl_TextCmd.j4 k pk i (cutF 58 x) a1 ok b1 ws ws.length i K a b (ps.map toP)) (cmdTup (stepsW pk K (i, a, b, ps) (parseAll pk (x :: rest)))) := by
      intro a1 b1 ok hok hno
      have bad : parseW pk x = none → stepsW pk K (i, a, b, ps) (parseAll pk (x :: rest)) = none := fun h => by unfold parseAll; rw [h]; rfl
      have good : ∀ p, parseW pk x = some p → stepsW pk K (i, a, b, ps) (parseAll pk (x :: rest)) = stepsW pk K (stepW pk (i, a, b, ps) p) (parseAll pk rest) := fun p h => by
        conv => lhs; unfold parseAll
        rw [h]; exact stepsW_cons _ _ _ _ _
      refine Ev.step (fun k => impl_TextCmd.j4.eq_2 _ _ _ _ _ _ _ _ _ _ _ _ _ k) ?_
      cases hk : ok with
      | false =>
        rw [bad (hno hk)]
        exact evN (by decide) (Ev.step (fun k => impl_TextCmd.j5.eq_2 _ _ _ _ _ _ _ _ _ _ _ _ k) (evY rfl (evS rfl)))
      | true =>
        obtain ⟨h1, h2⟩ := hok hk
        refine evY rfl (Ev.step (fun k => impl_TextCmd.j5.eq_2 _ _ _ _ _ _ _ _ _ _ _ _ k) ?_)
        by_cases hc : cutF 58 x = pk
        · rw [good _ (h1 hc), show (cutF 58 x != pk) = false by simpa using hc]
          refine evN (by decide) ?_
          rw [wr (by omega) (by omega), show (i : Int) + 1 = ((i + 1 : Nat) : Int) by omega]
          cases hpk : pk with
          | true =>
            have hg := ih (i + 1) a b (ps ++ [⟨a1, b1⟩]) hd (by omega) (by simp; omega)
            rw [hpk, List.map_append] at hg
            exact evY rfl (evY (by simp; omega) hg)
          | false =>
            refine evN (by decide) ?_
            rcases Nat.eq_zero_or_pos i with h0 | h0
            · have hg := ih (i + 1) a1 b ps hd (by omega) (by omega)
              rw [hpk] at hg
              refine evY (by omega) ?_
              unfold stepW; rw [if_neg (by decide), if_pos h0]; exact hg
            · have hg := ih (i + 1) a a1 ps hd (by omega) (by omega)
              rw [hpk] at hg
              refine evN (by omega) ?_
              unfold stepW; rw [if_neg (by decide), if_neg (by show ¬ i = 0; omega)]; exact hg
        · rw [bad (h2 hc), show (cutF 58 x != pk) = true by simpa using hc]
          exact evY rfl (evS rfl)
    have tv : ∀ y : ByteArray, (tnOk y = true → textNum y = some (tnVal y).toNat ∧ 0 ≤ tnVal y) ∧ (tnOk y = false → textNum y = none) := fun y => by
      unfold tnOk tnVal
      cases h : textNum y with
      | none => simp
      | some n => simp
    cases hF : cutF 58 x with
    | true =>
      rw [hF] at key
      refine evY rfl (Ev.step (fun k => impl_TextCmd.j3.eq_2 _ _ _ _ _ _ _ _ _ _ _ _ _ _ _ k) ?_)
      cases h1 : tnOk (cut1 58 x) with
      | true =>
        refine evY rfl (Ev.bind (ev_implTn _) ?_)
        refine key _ _ _ (fun h2 => ⟨fun hp => ?_, fun hp => ?_⟩) fun h2 => ?_
        · subst hp
          have e1 := (tv (cut1 58 x)).1 h1; have e2 := (tv (cut2 58 x)).1 h2
          unfold parseW; rw [if_pos hF, if_pos rfl, e1.1, e2.1]
          show some _ = some _
          congr 2 <;> omega
        · unfold parseW; rw [if_neg (by rw [hF]; exact hp)]
        · have e2 := (tv (cut2 58 x)).2 h2
          unfold parseW
          by_cases hp : true = pk
          · subst hp; rw [if_pos hF, if_pos rfl, e2]; cases textNum (cut1 58 x) <;> rfl
          · rw [if_neg (by rw [hF]; exact hp)]
      | false =>
        refine evN (by simp) ?_
        refine key _ _ _ (fun h2 => by cases h2) fun h2 => ?_
        have e1 := (tv (cut1 58 x)).2 h1
        unfold parseW
        by_cases hp : true = pk
        · subst hp; rw [if_pos hF, if_pos rfl, e1]
        · rw [if_neg (by rw [hF]; exact hp)]
    | false =>
      rw [hF] at key
      refine evN (by simp) (Ev.step (fun k => impl_TextCmd.j3.eq_2 _ _ _ _ _ _ _ _ _ _ _ _ _ _ _ k) (evN (by decide) ?_))
      refine key _ _ _ (fun h1 => ⟨fun hp => ?_, fun hp => ?_⟩) fun h1 => ?_
      · subst hp
        have e1 := (tv (cut1 58 x)).1 h1
        unfold parseW; rw [if_pos hF, if_neg (by decide), e1.1]
        show some _ = some _
        congr 2 <;> omega
      · unfold parseW; rw [if_neg (by rw [hF]; exact hp)]
      · have e1 := (tv (cut1 58 x)).2 h1
        unfold parseW
        by_cases hp : false = pk
        · subst hp; rw [if_pos hF, if_neg (by decide), e1]; rfl
        · rw [if_neg (by rw [hF]; exact hp)]
theorem fold_picks (l : List MPick) : ∀ t : Nat × Int × Int × List MPick, (l.foldl (stepW true) t).2 = (t.2.1, t.2.2.1, t.2.2.2 ++ l) := by
  induction l with
  | nil => intro t; simp
  | cons p l ih => intro t; rw [List.foldl_cons, ih]; simp [stepW]
theorem stepsW_mk {K : Int} {ws : List ByteArray} (h : kindFits ws K = true) (hne : ws ≠ []) (hc : cmdCount K ≤ 2) : stepsW (cmdPicks K) K (0, 0, 0, []) (parseAll (cmdPicks K) ws.tail) = (parseAll (cmdPicks K) ws.tail).map (mkCmd K) := by
  cases hp : parseAll (cmdPicks K) ws.tail with
  | none => rfl
  | some l =>
    have hl := parseAll_len hp
    rw [Option.map_some]
    unfold stepsW mkCmd
    simp only
    cases hk : cmdPicks K with
    | true => rw [fold_picks, if_pos rfl]; simp
    | false =>
      rw [if_neg (by decide)]
      unfold kindFits at h
      rw [hk] at h
      simp only [Bool.false_or, Bool.and_eq_true, decide_eq_true_eq] at h
      have h3 : l.length = cmdCount K := by rw [hl, List.length_tail]; omega
      match l, h3 with
      | [], _ => rfl
      | [p], _ => rfl
      | [p, q], _ => rfl
      | _ :: _ :: _ :: _, h3 => simp at h3; omega
theorem iTc_kinds {x0 : ByteArray} {tl : List ByteArray} (hl : tl.length ≤ 1048576) (hz : ∀ x ∈ x0 :: tl, x.size ≤ 1048576) : ∀ (ks : List Int) (j : Nat), ks = kinds8.drop j → j ≤ 8 → Ev (fun k => impl_TextCmd.l0 k (x0 :: tl) ((j : Int) + 1)) (cmdTup (strictK (x0 :: tl) ks)) := by
  intro ks
  induction ks with
  | nil =>
    intro j hj h8
    have : 8 ≤ j := by
      have := congrArg List.length hj
      simp [kinds8] at this; omega
    exact Ev.step (fun k => impl_TextCmd.l0.eq_2 _ _ k) (evN (by omega) (evS rfl))
  | cons K ks ih =>
    intro j hj h8
    have hj8 : j < 8 := by
      rcases Nat.lt_or_ge j 8 with h | h
      · exact h
      · have := congrArg List.length hj
        simp [kinds8] at this; omega
    have hK : K = (j : Int) + 1 ∧ ks = kinds8.drop (j + 1) := by
      have : j = 0 ∨ j = 1 ∨ j = 2 ∨ j = 3 ∨ j = 4 ∨ j = 5 ∨ j = 6 ∨ j = 7 := by omega
      rcases this with rfl | rfl | rfl | rfl | rfl | rfl | rfl | rfl <;> · simp [kinds8] at hj; exact ⟨by omega, by simp [kinds8]; exact hj.2⟩
    obtain ⟨hK, hks⟩ := hK
    rw [← hK]
    have hnext := ih (j + 1) hks (by omega)
    refine Ev.step (fun k => impl_TextCmd.l0.eq_2 _ _ k) (evY (by omega) (evB (form_eq K) (evY (by simp) ?_)))
    have h0 : rdOf ByteArray.empty (x0 :: tl) 0 = x0 := rfl
    simp only [h0]
    have skip : kindFits (x0 :: tl) K = false → Ev (fun k => impl_TextCmd.j1 k (x0 :: tl) K (cmdPicks K) true) (cmdTup (strictK (x0 :: tl) (K :: ks))) := fun h => by
      unfold strictK; rw [if_neg (by rw [h]; decide)]
      refine Ev.step (fun k => impl_TextCmd.j1.eq_2 _ _ _ _ k) (evY rfl ?_)
      rw [wr (by omega) (by omega), show K + 1 = ((j + 1 : Nat) : Int) + 1 by omega]
      exact hnext
    have here : kindFits (x0 :: tl) K = true → Ev (fun k => impl_TextCmd.j1 k (x0 :: tl) K (cmdPicks K) false) (cmdTup (strictK (x0 :: tl) (K :: ks))) := fun h => by
      have hm := stepsW_mk h (by simp) (cmdCount_le K)
      unfold strictK; rw [if_pos h, ← hm]
      refine Ev.step (fun k => impl_TextCmd.j1.eq_2 _ _ _ _ k) (evN (by decide) (evY (by simp; omega) (evB rfl ?_)))
      exact iTc_words (ws := tl) (by omega) (fun x hx => hz x (List.mem_cons_of_mem _ hx)) (cmdPicks K) K tl 0 0 0 [] rfl (Nat.zero_le _) (by simp)
    have hfit : kindFits (x0 :: tl) K = (decide (cmdWord K = x0) && (cmdPicks K || decide (tl.length = cmdCount K))) := by unfold kindFits; simp
    have hc := cmdCount_le K
    by_cases hw : cmdWord K = x0
    · refine evY (tl_eq.2 hw) ?_
      rw [decide_eq_true hw, Bool.true_and] at hfit
      cases hp : cmdPicks K with
      | true => rw [hp] at here hfit; exact evY rfl (here hfit)
      | false =>
        rw [hp, Bool.false_or] at hfit
        rw [hp] at here skip
        refine evN (by decide) ?_
        rw [wr (by omega) (by omega)]
        by_cases hlen : tl.length = cmdCount K
        · rw [show ((((x0 :: tl).length : Nat) : Int) != (cmdCount K : Int) + 1) = false by simp; omega]
          exact here (by rw [hfit]; exact decide_eq_true hlen)
        · rw [show ((((x0 :: tl).length : Nat) : Int) != (cmdCount K : Int) + 1) = true by simp; omega]
          exact skip (by rw [hfit]; exact decide_eq_false hlen)
    · exact evN (fun h => hw (tl_eq.1 h)) (skip (by rw [hfit, decide_eq_false hw]; rfl))
theorem ev_iTc {s : ByteArray} (hs : s.size ≤ 1048576) : Ev (fun k => impl_TextCmd.f k s) (cmdTup (strict s)) := by
  have hne := parts_ne 32 s
  have hl := parts_len 32 s
  have hz : ∀ x ∈ parts 32 s, x.size ≤ 1048576 := fun x hx => Nat.le_trans (parts_size hx) hs
  unfold impl_TextCmd.f strict
  refine evB (iParts_eq hs) ?_
  obtain ⟨x0, tl, he⟩ : ∃ x tl, parts 32 s = x :: tl := by
    cases h : parts 32 s with
    | nil => exact absurd h hne
    | cons x tl => exact ⟨x, tl, rfl⟩
  rw [he] at hl hz ⊢
  simp only [List.length_cons] at hl
  exact iTc_kinds (by omega) hz kinds8 0 rfl (by omega)
end Go.Proofs.YtcidbencoebfaaaDoor.Wd


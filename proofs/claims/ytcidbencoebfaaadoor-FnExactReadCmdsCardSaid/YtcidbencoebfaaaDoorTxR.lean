/- What the printed functions on commands answer (the reference's, and the lines). Conditions: bounds on the sizes. -/
import Derived.Test.YtcidbencoebfaaaDoorTxQ
namespace Go.Proofs.YtcidbencoebfaaaDoor.Wd
open Go.RowKit Go.Proofs.YtcidbencoebfaaaDoor.PT Go.Proofs.YtcidbencoebfaaaDoorW.PrintWords Go.Proofs.YtcidbencoebfaaaDoorW.PrintLast Go.Proofs.YtcidbencoebfaaaDoorW.PrintMore
set_option linter.unusedVariables false
set_option linter.unusedSimpArgs false
set_option maxRecDepth 100000
theorem hasPicks_eq (k : Int) : spec_l27HasPicks.f k = some (cmdPicks k) := by
  unfold spec_l27HasPicks.f cmdPicks
  by_cases h1 : k = 1; · subst h1; rfl
  by_cases h3 : k = 3; · subst h3; rfl
  rw [if_neg h1, if_neg h3]
  congr 1; rw [Bool.eq_iff_iff]; simp [h1, h3]
theorem sNums (K a b : Int) (ps : List S32) : Ev (fun k => spec_l27Nums.f k K a b ps) (([a, b]).take (cmdCount K)) := by
  unfold spec_l27Nums.f
  by_cases h2 : K = 2
  · subst h2; exact evY rfl (Ev.step (fun k => spec_l27Nums.j0.eq_2 _ _ _ _ _ _ k) (evY rfl (evS rfl)))
  by_cases h4 : K = 4
  · subst h4; exact evN (by decide) (Ev.step (fun k => spec_l27Nums.j0.eq_2 _ _ _ _ _ _ k) (evY rfl (evS rfl)))
  refine evN h2 ?_
  rw [show (K == 4) = false by simpa using h4]
  refine Ev.step (fun k => spec_l27Nums.j0.eq_2 _ _ _ _ _ _ k) (evN (by decide) ?_)
  by_cases h5 : K = 5
  · subst h5; exact evY rfl (evS rfl)
  · refine evN h5 (evS ?_)
    unfold cmdCount; rw [if_neg h2, if_neg h4, if_neg h5]; rfl
theorem unP (ps : List MPick) : (ps.map toP).map (fun x => (⟨x.f0, x.f1⟩ : MPick)) = ps := by
  rw [List.map_map]
  exact List.map_id ps
theorem ev_sCt (x : MCmd) (hl : x.picks.length ≤ 1048576) : Ev (fun k => spec_CmdText.f x.kind x.a x.b (x.picks.map toP)) (cmdText x) := by
  refine ⟨0, fun _ _ => ?_⟩
  show spec_CmdText.f x.kind x.a x.b (x.picks.map toP) = some (cmdText x)
  unfold spec_CmdText.f
  rw [if_pos (by simpa using hl), unP]
theorem tnVal_nil : tnVal ⟨#[]⟩ = 0 := by unfold tnVal; rw [textNum_size (by decide)]; rfl
theorem ev_word (ws : List ByteArray) (hl : ws.length ≤ 2097152) (i : Nat) : Ev (fun k => spec_l27Word.f k ws i) (wordAt ws i) := by
  unfold spec_l27Word.f wordAt
  by_cases h : i < ws.length
  · refine evN (by omega) (evY (by omega) (evY (by omega) ?_))
    rw [rdOf_at _ _ h, List.getElem?_eq_getElem h]
    exact Ev.bind (ev_specTn _) (evS rfl)
  · refine evY (by omega) (evS ?_)
    rw [List.getElem?_eq_none (by omega)]; exact tnVal_nil.symm
theorem cmdTup_if (s : ByteArray) (X : MCmd) (h : soft s = X) (hs : 0 < s.size) : (if cmdText X = s then cmdTup (some X) else cmdTup none) = cmdTup (strict s) := by
  rw [← soft_strict, h]
  by_cases hq : cmdText X = s
  · rw [if_pos hq, if_pos ⟨hs, hq⟩]
  · rw [if_neg hq, if_neg fun hh => hq hh.2]
theorem strict_nil (s : ByteArray) (hs : s.size = 0) : strict s = none := by rw [← soft_strict, if_neg (by omega)]
theorem sTc_picks {s : ByteArray} (hs : s.size ≤ 1048576) (K : Int) {tl : List ByteArray} (hl : tl.length ≤ 1048576) (hz : ∀ x ∈ tl, x.size ≤ 1048576) (hX : soft s = ⟨K, 0, 0, tl.map softP⟩) : ∀ (d i : Nat), i + d = tl.length →
    Ev (fun k => spec_TextCmd.l1 k s tl tl.length i K 0 0 (((tl.take i).map softP).map toP)) (cmdTup (strict s)) := by
  intro d
  induction d with
  | zero =>
    intro i hi
    obtain rfl : i = tl.length := by omega
    rw [List.take_length]
    refine Ev.step (fun k => spec_TextCmd.l1.eq_2 _ _ _ _ _ _ _ _ k) (evN (by omega) ?_)
    by_cases h0 : s.size = 0
    · refine evY (tl_nil.2 h0) (evS ?_); rw [strict_nil s h0]; rfl
    · refine evN (fun h => h0 (tl_nil.1 h)) (Ev.bind (ev_sCt ⟨K, 0, 0, tl.map softP⟩ (by simp; omega)) ?_)
      rw [← cmdTup_if s _ hX (by omega)]
      by_cases hq : cmdText ⟨K, 0, 0, tl.map softP⟩ = s
      · rw [if_pos hq]; exact evY (tl_eq.2 hq) (evS rfl)
      · rw [if_neg hq]; exact evN (fun h => hq (tl_eq.1 h)) (evS rfl)
  | succ d ih =>
    intro i hi
    have hlt : i < tl.length := by omega
    have hxs := hz tl[i] (List.getElem_mem hlt)
    have hpl := parts_len 58 tl[i]
    refine Ev.step (fun k => spec_TextCmd.l1.eq_2 _ _ _ _ _ _ _ _ k) (evY (by omega) (evY (by omega) (evY (by omega) ?_)))
    rw [rdOf_at _ _ hlt]
    refine Ev.bind (ev_sColons hxs) (evY (by omega) (evB rfl (Ev.bind (ev_word _ (by simp; omega) 0) (Ev.bind (ev_word _ (by simp; omega) 1) (evY (by simp; omega) ?_)))))
    rw [wr (by omega) (by omega), show (i : Int) + 1 = ((i + 1 : Nat) : Int) by omega]
    have := ih (i + 1) (by omega)
    rw [List.take_succ_eq_append_getElem hlt, List.map_append, List.map_append] at this
    exact this
theorem sTc_kinds {s x0 : ByteArray} {tl ws : List ByteArray} (hs : s.size ≤ 1048576) (hp : parts 32 s = x0 :: tl) (hws : spec_l27Words.f = some ws) : ∀ (d i : Nat), i + d = 8 →
    Ev (fun k => spec_TextCmd.l0 k s (x0 :: tl) ws ws.length i (kindTo x0 i) 0 0) (cmdTup (strict s)) := by
  have hwl : ws.length = 8 := by rw [show ws = _ from (Option.some.inj hws).symm]; rfl
  have hl := parts_len 32 s
  have hz : ∀ x ∈ parts 32 s, x.size ≤ 1048576 := fun x hx => Nat.le_trans (parts_size hx) hs
  rw [hp] at hl hz
  simp only [List.length_cons] at hl
  intro d
  induction d with
  | zero =>
    intro i hi
    obtain rfl : i = 8 := by omega
    refine Ev.step (fun k => spec_TextCmd.l0.eq_2 _ _ _ _ _ _ _ _ k) (evN (by omega) (evB (hasPicks_eq _) ?_))
    have hso : soft s = (if cmdPicks (kindTo x0 8) then ⟨kindTo x0 8, 0, 0, tl.map softP⟩ else ⟨kindTo x0 8, if 0 < cmdCount (kindTo x0 8) then wordAt (x0 :: tl) 1 else 0, if 1 < cmdCount (kindTo x0 8) then wordAt (x0 :: tl) 2 else 0, []⟩) := by
      unfold soft; simp only [hp, List.headD_cons, List.tail_cons]
    obtain ⟨K, hK⟩ : ∃ K, kindTo x0 8 = K := ⟨_, rfl⟩
    have hcc := cmdCount_le K
    rw [hK] at hso ⊢
    cases hpk : cmdPicks K with
    | true =>
      rw [hpk, if_pos rfl] at hso
      refine evY rfl (evY (by simp; omega) (evB rfl ?_))
      exact sTc_picks hs K (tl := tl) (by omega) (fun x hx => hz x (List.mem_cons_of_mem _ hx)) hso tl.length 0 (by omega)
    | false =>
      rw [hpk, if_neg (by decide)] at hso
      refine evN (by decide) (Ev.bind (sNums K 0 0 _) ?_)
      have fin : ∀ a b, soft s = ⟨K, a, b, []⟩ → Ev (fun k => if s.toList = ([] : List UInt8) then (some (0, 0, 0, ([] : List S32), false)) else ((spec_CmdText.f K a b ([] : List S32)).bind fun t => (if t.toList = s.toList then (some (K, a, b, ([] : List S32), true)) else (some (0, 0, 0, ([] : List S32), false))))) (cmdTup (strict s)) := fun a b hX => by
        by_cases h0 : s.size = 0
        · refine evY (tl_nil.2 h0) (evS ?_); rw [strict_nil s h0]; rfl
        · refine evN (fun h => h0 (tl_nil.1 h)) (Ev.bind (ev_sCt ⟨K, a, b, []⟩ (by simp)) ?_)
          rw [← cmdTup_if s _ hX (by omega)]
          by_cases hq : cmdText ⟨K, a, b, []⟩ = s
          · rw [if_pos hq]; exact evY (tl_eq.2 hq) (evS rfl)
          · rw [if_neg hq]; exact evN (fun h => hq (tl_eq.1 h)) (evS rfl)
      have hlen : ((([0, 0] : List Int).take (cmdCount K)).length : Int) = cmdCount K := by simp only [List.length_take, List.length_cons, List.length_nil]; omega
      rw [hlen]
      obtain h0 | h0 | h0 : cmdCount K = 0 ∨ cmdCount K = 1 ∨ cmdCount K = 2 := by omega
      · rw [h0] at hso ⊢
        exact evN (by decide) (Ev.step (fun k => spec_TextCmd.j2.eq_2 _ _ _ _ _ _ k) (evN (by decide) (fin 0 0 hso)))
      · rw [h0] at hso ⊢
        exact evY (by decide) (Ev.bind (ev_word _ (by simp; omega) 1) (Ev.step (fun k => spec_TextCmd.j2.eq_2 _ _ _ _ _ _ k) (evN (by decide) (fin _ 0 hso))))
      · rw [h0] at hso ⊢
        exact evY (by decide) (Ev.bind (ev_word _ (by simp; omega) 1) (Ev.step (fun k => spec_TextCmd.j2.eq_2 _ _ _ _ _ _ k) (evY (by decide) (Ev.bind (ev_word _ (by simp; omega) 2) (fin _ _ hso)))))
  | succ d ih =>
    intro i hi
    have hi8 : i < 8 := by omega
    have hnext := ih (i + 1) (by omega)
    have hwi : rdOf ByteArray.empty ws (i : Int) = cmdWord ((i : Int) + 1) := by
      rw [show ws = _ from (Option.some.inj hws).symm]
      have : i = 0 ∨ i = 1 ∨ i = 2 ∨ i = 3 ∨ i = 4 ∨ i = 5 ∨ i = 6 ∨ i = 7 := by omega
      rcases this with rfl | rfl | rfl | rfl | rfl | rfl | rfl | rfl <;> rfl
    refine Ev.step (fun k => spec_TextCmd.l0.eq_2 _ _ _ _ _ _ _ _ k) (evY (by omega) (evY (by omega) (evY (by omega) (evY (by simp) ?_))))
    rw [hwi, show rdOf ByteArray.empty (x0 :: tl) 0 = x0 from rfl, wr (by omega) (by omega), show (i : Int) + 1 = ((i + 1 : Nat) : Int) by omega]
    have hk : kindTo x0 (i + 1) = if cmdWord (((i + 1 : Nat) : Int)) = x0 then ((i + 1 : Nat) : Int) else kindTo x0 i := by
      rw [kindTo]; rfl
    by_cases hw : cmdWord (((i + 1 : Nat) : Int)) = x0
    · rw [if_pos hw] at hk; rw [hk] at hnext; exact evY (tl_eq.2 hw) hnext
    · rw [if_neg hw] at hk; rw [hk] at hnext; exact evN (fun h => hw (tl_eq.1 h)) hnext
theorem ev_sTc {s : ByteArray} (hs : s.size ≤ 1048576) : Ev (fun k => spec_TextCmd.f k s) (cmdTup (strict s)) := by
  unfold spec_TextCmd.f
  have hne := parts_ne 32 s
  obtain ⟨x0, tl, he⟩ : ∃ x tl, parts 32 s = x :: tl := by
    cases h : parts 32 s with
    | nil => exact absurd h hne
    | cons x tl => exact ⟨x, tl, rfl⟩
  refine Ev.bind (ev_sParts hs) (evB rfl ?_)
  rw [he]
  exact sTc_kinds hs he rfl 8 0 (by omega)
end Go.Proofs.YtcidbencoebfaaaDoor.Wd


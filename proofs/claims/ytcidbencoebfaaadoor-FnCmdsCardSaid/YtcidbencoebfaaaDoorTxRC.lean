/- ReadCmds of both packages, as a plain function on lines. Conditions: bounds on the sizes. -/
import Derived.Test.YtcidbencoebfaaaDoorTxQ
import Derived.Test.YtcidbencoebfaaaDoorBrS
import Derived.Test.YtcidbencoebfaaaDoorPTx7
namespace Go.Proofs.YtcidbencoebfaaaDoor.Wd
open Go.RowKit Go.Proofs.YtcidbencoebfaaaDoor.PT Go.Proofs.YtcidbencoebfaaaDoorW.PrintWords Go.Proofs.YtcidbencoebfaaaDoorW.PrintLast Go.Proofs.YtcidbencoebfaaaDoorW.PrintMore
set_option linter.unusedVariables false
set_option linter.unusedSimpArgs false
set_option maxRecDepth 100000
def skipL (s : ByteArray) : Bool := if h : 0 < s.size then s[0] == 35 else true
def readL (i : Nat) (acc : List MCmd) : List ByteArray → List MCmd × Int
  | [] => (acc, 0)
  | s :: r => if skipL s = true then readL (i + 1) acc r else match strict s with
    | none => ([], (i : Int) + 1)
    | some x => if acc.length = 200 then ([], (i : Int) + 1) else readL (i + 1) (acc ++ [x]) r
def readCmds (s : ByteArray) : List MCmd × Int := if 20000 < s.size then ([], 1) else readL 0 [] (lines s)
def readT (r : List MCmd × Int) : List S27 × Int := (r.1.map toC, r.2)
def fromP (x : S32) : MPick := ⟨x.f0, x.f1⟩
def fromC (x : S27) : MCmd := ⟨x.f0, x.f1, x.f2, x.f3.map fromP⟩
theorem fromC_to (x : MCmd) : fromC (toC x) = x := by
  unfold fromC toC
  simp only [List.map_map]
  congr 1
  induction x.picks with
  | nil => rfl
  | cons p l ih => rw [List.map_cons, ih]; rfl
theorem readT_back (l : List MCmd) : (l.map toC).map fromC = l := by
  induction l with
  | nil => rfl
  | cons x l ih => rw [List.map_cons, List.map_cons, ih, fromC_to]
theorem cutLast_le (zs : List ByteArray) : (cutLast zs).length ≤ zs.length ∧ ∀ x ∈ cutLast zs, x ∈ zs := by
  rcases List.eq_nil_or_concat zs with rfl | ⟨ys, y, rfl⟩
  · exact ⟨Nat.le_refl _, fun x h => h⟩
  · rw [List.concat_eq_append, cutLast_snoc]
    split
    · exact ⟨by simp, fun x h => by simp [h]⟩
    · exact ⟨Nat.le_refl _, fun x h => h⟩
theorem lines_le (s : ByteArray) : (lines s).length ≤ s.size + 1 ∧ ∀ x ∈ lines s, x.size ≤ s.size := by
  obtain ⟨h1, h2⟩ := cutLast_le (parts 10 s)
  have := parts_len 10 s
  exact ⟨by unfold lines; omega, fun x hx => parts_size (h2 x hx)⟩
theorem k_Cmd_O {w : World} {base : Nat} (x : S27) (cs : List Value) (okk : Nat → Prop) (h : k27.M w base okk x cs) : ∃ b, kCmd.O w b (fromC x) cs ∧ b.Nodup ∧ ∀ k ∈ b, okk k ∧ base ≤ k := by
  obtain ⟨v, rfl, hR⟩ := k27_openM h
  obtain ⟨b, ho, hn, hm⟩ := own_of_R0 (d' := kPick) (f := fromP) rfl (fun y cs okk hy => by rw [k32_openM hy]; exact kPick_mkO _ (fromP y)) hR
  exact ⟨b, kCmd_mkO w (fromC x) ho, hn, hm⟩
theorem bt0 {s : ByteArray} (h : 0 < s.size) : (bt s 0 == 35) = skipL s := by
  unfold skipL
  rw [dif_pos h, show (0 : Int) = ((0 : Nat) : Int) from rfl, bt_get h]
  rw [Bool.eq_iff_iff, beq_iff_eq, beq_iff_eq]
  constructor
  · intro e; apply UInt8.toNat_inj.1; have : s[0].toNat = 35 := by omega
    rw [this]; rfl
  · intro e; rw [e]; rfl
theorem iRc_loop {ls : List ByteArray} (hz : ∀ x ∈ ls, x.size ≤ 1048576) (hl : ls.length ≤ 1048577) : ∀ (d i : Nat) (acc : List MCmd), i + d = ls.length → acc.length ≤ 200 → Ev (fun k => impl_ReadCmds.l0 k (acc.map toC) ls (ls.length : Int) i) (readT (readL i acc (ls.drop i))) := by
  intro d
  induction d with
  | zero =>
    intro i acc hi ha
    refine Ev.step (fun k => impl_ReadCmds.l0.eq_2 _ _ _ _ k) (evN (by omega) (evS ?_))
    rw [List.drop_of_length_le (by omega)]; rfl
  | succ d ih =>
    intro i acc hi ha
    have hlt : i < ls.length := by omega
    have hs := hz _ (List.getElem_mem hlt)
    have hla : (acc.map toC).length ≤ 200 := by rw [List.length_map]; exact ha
    rw [List.drop_eq_getElem_cons hlt]
    refine Ev.step (fun k => impl_ReadCmds.l0.eq_2 _ _ _ _ k) (evY (by omega) (evY (by omega) (evY (by omega) ?_)))
    rw [rdOf_at _ _ hlt]
    have hw : wrap64 ((i : Int) + 1) = ((i + 1 : Nat) : Int) := by rw [wr (by omega) (by omega)]; rfl
    have skip : skipL ls[i] = true → Ev (fun k => impl_ReadCmds.j1 k (acc.map toC) i ls[i] ls (ls.length : Int) i true) (readT (readL i acc (ls[i] :: ls.drop (i + 1)))) := fun hk => by
      refine Ev.step (fun k => impl_ReadCmds.j1.eq_2 _ _ _ _ _ _ _ k) (evY rfl ?_)
      rw [hw, readL, if_pos hk]
      exact ih (i + 1) acc (by omega) ha
    by_cases h0 : 0 < ls[i].size
    · refine evN (fun hc => by have := tl_nil.1 hc; omega) (evY (by omega) ?_)
      rw [bt0 h0]
      cases hk : skipL ls[i] with
      | true => exact skip hk
      | false =>
        refine Ev.step (fun k => impl_ReadCmds.j1.eq_2 _ _ _ _ _ _ _ k) (evN (by decide) (Ev.bind (ev_iTc hs) ?_))
        rw [readL, if_neg (by rw [hk]; decide), hw]
        cases ht : strict ls[i] with
        | none => exact evN (by decide) (evS (by simp [readT]))
        | some x =>
          refine evY rfl ?_
          dsimp only
          by_cases h2 : acc.length = 200
          · rw [if_pos h2]
            exact evY (by rw [List.length_map]; omega) (evS (by simp [readT]))
          · rw [if_neg h2]
            refine evN (by rw [List.length_map]; omega) (evY (by omega) ?_)
            have := ih (i + 1) (acc ++ [x]) (by omega) (by simp; omega)
            rw [List.map_append] at this
            exact this
    · have hk : skipL ls[i] = true := by unfold skipL; rw [dif_neg h0]
      exact evY (tl_nil.2 (by omega)) (skip hk)
theorem ev_iRc {s : ByteArray} (hs : s.size ≤ 1048576) : Ev (fun k => impl_ReadCmds.f k s) (readT (readCmds s)) := by
  unfold impl_ReadCmds.f readCmds
  by_cases h : 20000 < s.size
  · rw [if_pos h]; exact evY (by omega) (evS rfl)
  · rw [if_neg h]
    obtain ⟨h1, h2⟩ := lines_le s
    have := iRc_loop (ls := lines s) (fun x hx => by have := h2 x hx; omega) (by omega) (lines s).length 0 [] (by omega) (by simp)
    exact evN (by omega) (evB (iLines_eq (by omega)) this)
theorem impl_ReadCmds_calls (s : ByteArray) (w : World) (hs : s.size ≤ 1048576) :
    Calls Tryd.prog 8 #[.string s] w fun e w' => ∃ E c bs, e = .returned (.tuple #[.slice E (readCmds s).1.length c, .int .i64 (readCmds s).2]) ∧ kCmd.Own 27 w' bs (.slice E (readCmds s).1.length c) (readCmds s).1 ∧ (bs.Nodup ∧ ∀ b ∈ bs, w.heap.size ≤ b) ∧ Below w.heap.size w w' := by
  obtain ⟨k, hk⟩ := Ev.rounds (ev_iRc hs)
  refine (impl_ReadCmds.calls k s _ _ w hk).mono ?_
  rintro e w' ⟨v, rfl, hS, hb⟩
  obtain ⟨bs, ho, hn, hm⟩ := own_of_S (d' := kCmd) (f := fromC) rfl k_Cmd_O hS
  rw [readT_back] at ho
  obtain ⟨E, c, rfl, _⟩ := ho.row
  exact ⟨E, c, bs, rfl, ho, ⟨hn, fun b hb => (hm b hb).2⟩, hb⟩
end Go.Proofs.YtcidbencoebfaaaDoor.Wd


/- Commands that are written line by line are read as they were. Conditions: in each statement. -/
import Derived.Test.YtcidbencoebfaaaDoorTxD
namespace Go.Proofs.YtcidbencoebfaaaDoor.Wd
open Go.RowKit Go.Proofs.YtcidbencoebfaaaDoor.PT Go.Proofs.YtcidbencoebfaaaDoorW.PrintWords Go.Proofs.YtcidbencoebfaaaDoorW.PrintLast Go.Proofs.YtcidbencoebfaaaDoorW.PrintMore
set_option linter.unusedVariables false
set_option linter.unusedSimpArgs false
set_option maxRecDepth 100000
def okM (x : MCmd) : Prop := 1 ≤ x.kind ∧ x.kind ≤ 8 ∧ 0 ≤ x.a ∧ x.a ≤ 1000 ∧ 0 ≤ x.b ∧ x.b ≤ 1000 ∧ (¬ (x.kind = 1 ∨ x.kind = 3 ∨ x.kind = 6) → x.picks = []) ∧ (¬ (x.kind = 2 ∨ x.kind = 4 ∨ x.kind = 5) → x.a = 0) ∧ (x.kind ≠ 5 → x.b = 0) ∧ (∀ p ∈ x.picks, 0 ≤ p.g ∧ p.g ≤ 5 ∧ 0 ≤ p.c ∧ p.c ≤ 3) ∧ x.picks.length ≤ 16
theorem okM_of {y : S27} (h : okC y) : okM (fromC y) := by
  obtain ⟨h1, h2, h3, h4, h5, h6, h7, h8, h9, h10, h11⟩ := h
  refine ⟨h1, h2, h3, h4, h5, h6, fun hn => ?_, h8, h9, fun p hp => ?_, by show (y.f3.map fromP).length ≤ 16; rw [List.length_map]; exact h11⟩
  · show y.f3.map fromP = []
    rw [h7 hn]; rfl
  · obtain ⟨q, hq, rfl⟩ := List.mem_map.1 (show p ∈ y.f3.map fromP from hp)
    exact h10 q hq
theorem splitL_rows : ∀ {ys : List (List UInt8)} {z : List UInt8}, (∀ y ∈ ys, ∀ b ∈ y, b ≠ 10) → (∀ b ∈ z, b ≠ 10) → splitL 10 ((ys.flatMap fun y => y ++ [10]) ++ z) = ys ++ [z]
  | [], z, _, hz => splitL_free hz
  | y :: ys, z, h, hz => by
    have ih := splitL_rows (ys := ys) (z := z) (fun y hy => h y (List.mem_cons_of_mem _ hy)) hz
    rw [List.flatMap_cons, List.append_assoc, List.append_assoc, List.singleton_append, splitL_hit (h y List.mem_cons_self), ih]
    rfl
theorem mem_tail {c b : UInt8} : ∀ {r : List (List UInt8)}, b ∈ Lib.joinTail [c] r → b = c ∨ ∃ x ∈ r, b ∈ x
  | [], h => by simp [Lib.joinTail] at h
  | y :: r, h => by
    have e : Lib.joinTail [c] (y :: r) = [c] ++ y ++ Lib.joinTail [c] r := by simp [Lib.joinTail]
    rw [e] at h
    rcases List.mem_append.1 h with h | h
    · rcases List.mem_append.1 h with h | h
      · exact .inl (by simpa using h)
      · exact .inr ⟨y, List.mem_cons_self, h⟩
    · rcases mem_tail h with h | ⟨x, hx, hb⟩
      · exact .inl h
      · exact .inr ⟨x, List.mem_cons_of_mem _ hx, hb⟩
theorem cmdWord_ok : ∀ k ∈ kinds8, ∀ b ∈ (cmdWord k).data.toList, b ≠ 10 ∧ b ≠ 35 := by decide
theorem numT_ok (n : Int) : ∀ b ∈ (numText n).data.toList, b ≠ 10 ∧ b ≠ 35 := fun b hb => ⟨dig_ne (numText_digs n b hb) (by decide), dig_ne (numText_digs n b hb) (by decide)⟩
theorem kinds_in {k : Int} (h1 : 1 ≤ k) (h2 : k ≤ 8) : k ∈ kinds8 := by
  have : k = 1 ∨ k = 2 ∨ k = 3 ∨ k = 4 ∨ k = 5 ∨ k = 6 ∨ k = 7 ∨ k = 8 := by omega
  rcases this with rfl | rfl | rfl | rfl | rfl | rfl | rfl | rfl <;> decide
theorem fine_of {x : MCmd} (h : okM x) : cmdFine x := by
  obtain ⟨h1, h2, h3, h4, h5, h6, h7, h8, h9, h10, h11⟩ := h
  refine ⟨fun hc => ?_, fun hc => ?_, fun hc => ?_⟩
  · apply h8
    rintro (e | e | e) <;> rw [e] at hc <;> revert hc <;> decide
  · apply h9
    intro e; rw [e] at hc; revert hc; decide
  · apply h7
    rintro (e | e | e) <;> rw [e] at hc <;> revert hc <;> decide
theorem words_ok {x : MCmd} (h : okM x) : ∀ w ∈ wsTo x 2 ++ x.picks.map pickT, 0 < w.size ∧ w.size ≤ 64 ∧ ∀ b ∈ w.data.toList, b ≠ 10 ∧ b ≠ 35 := by
  have hfine := fine_of h
  obtain ⟨h1, h2, h3, h4, h5, h6, h7, h8, h9, h10, h11⟩ := h
  have hk := kinds_in h1 h2
  intro w hw
  rcases List.mem_append.1 hw with hw | hw
  · refine ⟨?_, wsTo_le w hw, ?_⟩
    all_goals
      unfold wsTo at hw
      rcases List.mem_cons.1 hw with rfl | hw
    · exact cmdWord_pos _ hk
    · obtain ⟨n, hn, rfl⟩ := List.mem_map.1 hw
      have hn' : n ∈ nums x := List.mem_of_mem_take hn
      unfold nums at hn'
      apply numText_pos2
      rcases List.mem_cons.1 hn' with rfl | hn'
      · omega
      · have e : n = x.b := by simpa using hn'
        omega
    · exact cmdWord_ok _ hk
    · obtain ⟨n, hn, rfl⟩ := List.mem_map.1 hw
      exact numT_ok n
  · obtain ⟨p, hp, rfl⟩ := List.mem_map.1 hw
    obtain ⟨a1, a2, a3, a4⟩ := h10 p hp
    have p1 := numText_pos2 (n := p.g) (by omega)
    have p2 := numText_pos2 (n := p.c) (by omega)
    have he := pickT_eq p1 p2
    refine ⟨?_, pickT_le p, fun b hb => ?_⟩
    · rw [size_list, he, List.length_append, List.length_cons]; omega
    · rw [he] at hb
      rcases List.mem_append.1 hb with hb | hb
      · exact numT_ok _ b hb
      · rcases List.mem_cons.1 hb with rfl | hb
        · decide
        · exact numT_ok _ b hb
theorem cmdText_ok {x : MCmd} (h : okM x) : 0 < (cmdText x).size ∧ (cmdText x).size ≤ 1235 ∧ ∀ b ∈ (cmdText x).data.toList, b ≠ 10 ∧ b ≠ 35 := by
  have hw := words_ok h
  have hl : (wsTo x 2 ++ x.picks.map pickT).length ≤ 19 := by
    have h11 := h.2.2.2.2.2.2.2.2.2.2
    unfold wsTo
    simp only [List.length_append, List.length_cons, List.length_map, List.length_take]
    omega
  rw [cmdText_yes (fine_of h)]
  refine ⟨?_, ?_, ?_⟩
  · rw [joined_all (fun w hm => (hw w hm).1), size_list]
    show 0 < (joinB (wsTo x 2 ++ x.picks.map pickT) sp).data.toList.length
    unfold joinB wsTo
    rw [List.cons_append, List.map_cons, Lib.join_cons]
    have := (hw (cmdWord x.kind) (by unfold wsTo; simp)).1
    rw [size_list] at this
    simp only [List.length_append]
    omega
  · have := joined_size (m := 64) (xs := wsTo x 2 ++ x.picks.map pickT) (sep := sp) (fun w hm => (hw w hm).2.1) (by decide)
    have h2 : (64 + 1) * (wsTo x 2 ++ x.picks.map pickT).length ≤ 65 * 19 := Nat.mul_le_mul_left _ hl
    omega
  · rw [joined_all (fun w hm => (hw w hm).1)]
    intro b hb
    have hb : b ∈ Lib.join ((wsTo x 2 ++ x.picks.map pickT).map (·.data.toList)) [32] := hb
    have hb' : b = 32 ∨ ∃ y ∈ (wsTo x 2 ++ x.picks.map pickT).map (·.data.toList), b ∈ y := by
      revert hb
      cases hcs : (wsTo x 2 ++ x.picks.map pickT).map (·.data.toList) with
      | nil => intro hb; simp [Lib.join_nil] at hb
      | cons y r =>
        intro hb
        rw [Lib.join_cons] at hb
        rcases List.mem_append.1 hb with hb | hb
        · exact .inr ⟨y, List.mem_cons_self, hb⟩
        · rcases mem_tail hb with hb | ⟨z, hz, hb⟩
          · exact .inl hb
          · exact .inr ⟨z, List.mem_cons_of_mem _ hz, hb⟩
    rcases hb' with rfl | ⟨y, hy, hb⟩
    · decide
    · obtain ⟨w, hm, rfl⟩ := List.mem_map.1 hy
      exact (hw w hm).2.2 b hb
theorem skip_no {s : ByteArray} (h : 0 < s.size) (hb : ∀ b ∈ s.data.toList, b ≠ 10 ∧ b ≠ 35) : skipL s = false := by
  unfold skipL
  rw [dif_pos h]
  have := (hb s[0] (List.mem_of_getElem? (byte_at h))).2
  simpa using this
theorem readL_texts : ∀ (L : List MCmd) (i : Nat) (acc : List MCmd) (r : List ByteArray), (∀ x ∈ L, okM x) → acc.length + L.length ≤ 200 → readL i acc (L.map cmdText ++ r) = readL (i + L.length) (acc ++ L) r
  | [], i, acc, r, _, _ => by simp
  | x :: L, i, acc, r, h, hl => by
    obtain ⟨h1, h2, h3⟩ := cmdText_ok (h x List.mem_cons_self)
    rw [List.map_cons, List.cons_append, readL, if_neg (by rw [skip_no h1 h3]; decide), text_strict rfl h1]
    dsimp only
    rw [List.length_cons] at hl
    rw [if_neg (by omega), readL_texts L (i + 1) (acc ++ [x]) r (fun y hy => h y (List.mem_cons_of_mem _ hy)) (by simp; omega)]
    rw [List.append_assoc, List.singleton_append, List.length_cons, show i + 1 + L.length = i + (L.length + 1) by omega]
def hdB : ByteArray := ⟨#[35, 32, 99, 111, 109, 109, 97, 110, 100, 115, 10, 10]⟩
def nlB : ByteArray := ⟨#[10]⟩
def stopB : ByteArray := ⟨#[115, 116, 111, 112]⟩
def addT (t : ByteArray) (x : MCmd) : ByteArray := t ++ cmdText x ++ nlB
def txt (L : List MCmd) : ByteArray := L.foldl addT hdB
theorem data_app (a b : ByteArray) : (a ++ b).data.toList = a.data.toList ++ b.data.toList := by
  rw [ByteArray.data_append, Array.toList_append]
theorem txt_list : ∀ (L : List MCmd) (t : ByteArray), (L.foldl addT t).data.toList = t.data.toList ++ L.flatMap fun x => (cmdText x).data.toList ++ [10]
  | [], t => by simp
  | x :: L, t => by
    rw [List.foldl_cons, txt_list L, List.flatMap_cons, ← List.append_assoc]
    congr 1
    unfold addT
    rw [data_app, data_app, List.append_assoc]
    rfl
theorem txt_snoc (L : List MCmd) (x : MCmd) : txt (L ++ [x]) = txt L ++ cmdText x ++ nlB := by unfold txt; rw [List.foldl_append]; rfl
theorem txt_size : ∀ (L : List MCmd), (∀ x ∈ L, okM x) → (txt L).size ≤ 12 + 1236 * L.length := by
  have key : ∀ (L : List MCmd) (t : ByteArray), (∀ x ∈ L, okM x) → (L.foldl addT t).size ≤ t.size + 1236 * L.length := by
    intro L
    induction L with
    | nil => intro t _; simp
    | cons x L ih =>
      intro t h
      have h1 := ih (addT t x) (fun y hy => h y (List.mem_cons_of_mem _ hy))
      have h2 := (cmdText_ok (h x List.mem_cons_self)).2.1
      have h3 : (addT t x).size = t.size + (cmdText x).size + 1 := by
        unfold addT; rw [ByteArray.size_append, ByteArray.size_append]; rfl
      rw [List.foldl_cons, List.length_cons]
      omega
  exact fun L h => key L hdB h
def h1L : List UInt8 := [35, 32, 99, 111, 109, 109, 97, 110, 100, 115]
theorem parts_txt {L : List MCmd} (h : ∀ x ∈ L, okM x) {s : ByteArray} {z : List UInt8} (hz : ∀ b ∈ z, b ≠ 10) (hs : s.data.toList = (txt L).data.toList ++ z) : parts 10 s = bytes h1L :: bytes [] :: L.map cmdText ++ [bytes z] := by
  unfold parts
  rw [hs]
  unfold txt
  rw [txt_list, show hdB.data.toList = ([h1L, []].flatMap fun y => y ++ [10]) by rfl, show (L.flatMap fun x => (cmdText x).data.toList ++ [10]) = ((L.map fun x => (cmdText x).data.toList).flatMap fun y => y ++ [10]) by rw [List.flatMap_map], ← List.flatMap_append, splitL_rows _ hz]
  · simp only [List.map_append, List.map_cons, List.map_nil, List.map_map, List.cons_append, List.nil_append]
    congr 3
  · intro y hy
    rcases List.mem_append.1 hy with hy | hy
    · rcases List.mem_cons.1 hy with rfl | hy
      · decide
      · have e : y = [] := by simpa using hy
        subst e; intro b hb; cases hb
    · obtain ⟨x, hx, rfl⟩ := List.mem_map.1 hy
      exact fun b hb => ((cmdText_ok (h x hx)).2.2 b hb).1
theorem readCmds_txt {L : List MCmd} (h : ∀ x ∈ L, okM x) (hl : L.length ≤ 6) : readCmds (txt L) = (L, 0) := by
  have hs := txt_size L h
  unfold readCmds
  rw [if_neg (by omega)]
  have hp := parts_txt h (s := txt L) (z := []) (by simp) (by simp)
  have : lines (txt L) = bytes h1L :: bytes [] :: L.map cmdText := by
    unfold lines
    rw [hp, cutLast_snoc, if_pos (by rfl)]
  rw [this, readL, if_pos (by decide), readL, if_pos (by decide)]
  have := readL_texts L 2 [] [] h (by simp; omega)
  rw [List.append_nil, List.nil_append] at this
  rw [this]; rfl
theorem readCmds_stop {L : List MCmd} (h : ∀ x ∈ L, okM x) (hl : L.length ≤ 6) : readCmds (txt L ++ stopB) = ([], (L.length : Int) + 3) := by
  have hs := txt_size L h
  unfold readCmds
  rw [if_neg (by rw [ByteArray.size_append]; have : stopB.size = 4 := rfl; omega)]
  have hp := parts_txt h (s := txt L ++ stopB) (z := stopB.data.toList) (by decide) (data_app _ _)
  have : lines (txt L ++ stopB) = bytes h1L :: bytes [] :: L.map cmdText ++ [stopB] := by
    unfold lines
    rw [hp, cutLast_snoc, if_neg (by decide), bytes_list]
  rw [this, List.cons_append, List.cons_append, readL, if_pos (by decide), readL, if_pos (by decide)]
  have := readL_texts L 2 [] [stopB] h (by simp; omega)
  rw [List.nil_append] at this
  rw [this, readL, if_neg (by decide), show strict stopB = none by decide +kernel]
  show ([], ((0 + 1 + 1 + L.length : Nat) : Int) + 1) = _
  congr 1
  omega
end Go.Proofs.YtcidbencoebfaaaDoor.Wd


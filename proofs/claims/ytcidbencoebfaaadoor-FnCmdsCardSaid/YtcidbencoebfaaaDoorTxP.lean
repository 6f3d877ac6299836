/- Commands as texts, read: the program's way, the reference's way, and that they say the same. Conditions: none. -/
import Derived.Test.YtcidbencoebfaaaDoorCmdF
import Derived.Lib.IndexLaws
import Derived.Lib.Split
namespace Go.Proofs.YtcidbencoebfaaaDoor.Wd
open Go.RowKit
set_option linter.unusedVariables false
set_option linter.unusedSimpArgs false
def consH (b : UInt8) : List (List UInt8) → List (List UInt8)
  | [] => [[b]]
  | x :: r => (b :: x) :: r

def splitL (c : UInt8) : List UInt8 → List (List UInt8)
  | [] => [[]]
  | b :: l => if b = c then [] :: splitL c l else consH b (splitL c l)
theorem splitL_ne (c : UInt8) (l : List UInt8) : splitL c l ≠ [] := by
  cases l with
  | nil => simp [splitL]
  | cons b l => unfold splitL; split
                · simp
                · cases splitL c l <;> simp [consH]
theorem splitL_free {c : UInt8} {p : List UInt8} (h : ∀ b ∈ p, b ≠ c) : splitL c p = [p] := by
  induction p with
  | nil => rfl
  | cons b p ih => rw [splitL, if_neg (h b List.mem_cons_self), ih (fun x hx => h x (List.mem_cons_of_mem _ hx))]; rfl
theorem splitL_hit {c : UInt8} {p : List UInt8} (h : ∀ b ∈ p, b ≠ c) (r : List UInt8) : splitL c (p ++ c :: r) = p :: splitL c r := by
  induction p with
  | nil => simp [splitL]
  | cons b p ih => rw [List.cons_append, splitL, if_neg (h b List.mem_cons_self), ih (fun x hx => h x (List.mem_cons_of_mem _ hx))]; rfl
theorem split_join {c : UInt8} {xs : List (List UInt8)} (hne : xs ≠ []) (h : ∀ x ∈ xs, ∀ b ∈ x, b ≠ c) : splitL c (Lib.join xs [c]) = xs := by
  induction xs with
  | nil => exact absurd rfl hne
  | cons x r ih =>
    have hx := h x List.mem_cons_self
    cases r with
    | nil => rw [Lib.join_one]; exact splitL_free hx
    | cons y r =>
      have := ih (by simp) (fun z hz => h z (List.mem_cons_of_mem _ hz))
      rw [Lib.join_cons] at this ⊢
      rw [show Lib.joinTail [c] (y :: r) = c :: (y ++ Lib.joinTail [c] r) by simp [Lib.joinTail]]
      rw [splitL_hit hx, this]
theorem splitL_len (c : UInt8) (l : List UInt8) : (splitL c l).length ≤ l.length + 1 := by
  induction l with
  | nil => simp [splitL]
  | cons b l ih =>
    unfold splitL
    split
    · simp; omega
    · rcases hs : splitL c l with _ | ⟨y, r⟩
      · simp [consH]
      · rw [hs] at ih; simp [consH] at ih ⊢; omega
def bytes (l : List UInt8) : ByteArray := ⟨l.toArray⟩
theorem bytes_list (x : ByteArray) : bytes x.data.toList = x := by obtain ⟨⟨l⟩⟩ := x; rfl
theorem bytes_size (l : List UInt8) : (bytes l).size = l.length := rfl
def parts (c : UInt8) (s : ByteArray) : List ByteArray := (splitL c s.data.toList).map bytes
theorem parts_ne (c : UInt8) (s : ByteArray) : parts c s ≠ [] := by unfold parts; simp [splitL_ne]
theorem parts_len (c : UInt8) (s : ByteArray) : (parts c s).length ≤ s.size + 1 := by
  unfold parts; rw [List.length_map]; simpa using splitL_len c s.data.toList
theorem parts_join {c : UInt8} {xs : List ByteArray} (hne : xs ≠ []) (h : ∀ x ∈ xs, ∀ b ∈ x.data.toList, b ≠ c) : parts c (joinB xs ⟨#[c]⟩) = xs := by
  unfold parts joinB
  rw [show (⟨#[c]⟩ : ByteArray).data.toList = [c] from rfl, show (∀ l : List UInt8, (⟨l.toArray⟩ : ByteArray).data.toList = l) from fun _ => rfl, split_join (by simpa using hne) (by
    intro x hx b hb
    obtain ⟨y, hy, rfl⟩ := List.mem_map.1 hx
    exact h y hy b hb), List.map_map, show (bytes ∘ fun x : ByteArray => x.data.toList) = id from funext bytes_list, List.map_id]
theorem parts_free {c : UInt8} {s : ByteArray} (h : ∀ b ∈ s.data.toList, b ≠ c) : parts c s = [s] := by
  unfold parts; rw [splitL_free h, List.map_cons, List.map_nil, bytes_list]

def dig (b : UInt8) : Bool := decide (48 ≤ b.toNat ∧ b.toNat ≤ 57)
def numVal (l : List UInt8) : Nat := l.foldl (fun n b => 10 * n + (b.toNat - 48)) 0
def textNum (s : ByteArray) : Option Nat := if 1 ≤ s.size ∧ s.size ≤ 10 ∧ s.data.toList.all dig = true ∧ numText (numVal s.data.toList) = s then some (numVal s.data.toList) else none
def tnVal (s : ByteArray) : Int := (textNum s).getD 0
def tnOk (s : ByteArray) : Bool := (textNum s).isSome
theorem digit_nat {n : Nat} (h : n < 10) : ((48 + n).toUInt8).toNat = 48 + n := by
  have : ∀ k : Fin 10, ((48 + k.val).toUInt8).toNat = 48 + k.val := by decide
  exact this ⟨n, h⟩
theorem numL_digs : ∀ (m n : Nat), n < m → ∀ b ∈ numL n, dig b = true
  | 0, n, h => absurd h (by omega)
  | m + 1, n, h => by
    rw [numL]
    by_cases h2 : n < 10
    · rw [dif_pos h2]
      intro b hb
      rw [List.mem_singleton.1 hb]
      unfold dig; rw [digit_nat h2]; simp; omega
    · rw [dif_neg h2]
      intro b hb
      rcases List.mem_append.1 hb with hb | hb
      · exact numL_digs m (n / 10) (by omega) b hb
      · rw [List.mem_singleton.1 hb]
        unfold dig; rw [digit_nat (by omega)]; simp; omega
theorem numL_val : ∀ (m n : Nat), n < m → numVal (numL n) = n
  | 0, n, h => absurd h (by omega)
  | m + 1, n, h => by
    rw [numL]
    by_cases h2 : n < 10
    · rw [dif_pos h2]; simp only [numVal, List.foldl_cons, List.foldl_nil]; rw [digit_nat h2]; omega
    · rw [dif_neg h2]
      have := numL_val m (n / 10) (by omega)
      unfold numVal at this ⊢
      rw [List.foldl_append, this]
      simp only [List.foldl_cons, List.foldl_nil]
      rw [digit_nat (by omega)]; omega
theorem numText_digs (n : Int) : ∀ b ∈ (numText n).data.toList, dig b = true := by
  unfold numText
  split
  · exact numL_digs (n.toNat + 1) n.toNat (by omega)
  · intro b hb; cases hb
theorem numText_in {n : Int} (h : 0 < (numText n).size) : 0 ≤ n ∧ n ≤ 4294967295 := by
  rcases Classical.em (0 ≤ n ∧ n ≤ 4294967295) with h2 | h2
  · exact h2
  · rw [(numText_empty n).2 h2] at h; exact absurd h (by decide)
theorem numText_pos2 {n : Int} (h : 0 ≤ n ∧ n ≤ 4294967295) : 0 < (numText n).size := by
  rcases Nat.eq_zero_or_pos (numText n).size with h0 | h0
  · exact absurd h ((numText_empty n).1 (size_zero h0))
  · exact h0
theorem textNum_num {n : Int} (h : 0 < (numText n).size) : textNum (numText n) = some n.toNat := by
  have hin := numText_in h
  have hv : numVal (numText n).data.toList = n.toNat := by
    unfold numText; rw [if_pos hin]; exact numL_val (n.toNat + 1) n.toNat (by omega)
  have hd : (numText n).data.toList.all dig = true := List.all_eq_true.2 (numText_digs n)
  have hb : numText (n.toNat : Int) = numText n := by rw [Int.toNat_of_nonneg hin.1]
  unfold textNum
  rw [hv, if_pos ⟨h, numText_size n, hd, hb⟩]
theorem dig_ne {b c : UInt8} (h : dig b = true) (hc : c.toNat < 48 ∨ 57 < c.toNat) : b ≠ c := by
  rintro rfl
  unfold dig at h
  simp at h
  omega

def cutL (c : UInt8) : List UInt8 → List UInt8 × List UInt8 × Bool
  | [] => ([], [], false)
  | b :: l => if b = c then ([], l, true) else (b :: (cutL c l).1, (cutL c l).2.1, (cutL c l).2.2)
theorem cutL_free {c : UInt8} {p : List UInt8} (h : ∀ b ∈ p, b ≠ c) : cutL c p = (p, [], false) := by
  induction p with
  | nil => rfl
  | cons b p ih => rw [cutL, if_neg (h b List.mem_cons_self), ih (fun x hx => h x (List.mem_cons_of_mem _ hx))]
theorem cutL_hit {c : UInt8} {p : List UInt8} (h : ∀ b ∈ p, b ≠ c) (r : List UInt8) : cutL c (p ++ c :: r) = (p, r, true) := by
  induction p with
  | nil => simp [cutL]
  | cons b p ih => rw [List.cons_append, cutL, if_neg (h b List.mem_cons_self), ih (fun x hx => h x (List.mem_cons_of_mem _ hx))]
def cut1 (c : UInt8) (w : ByteArray) : ByteArray := bytes (cutL c w.data.toList).1
def cut2 (c : UInt8) (w : ByteArray) : ByteArray := bytes (cutL c w.data.toList).2.1
def cutF (c : UInt8) (w : ByteArray) : Bool := (cutL c w.data.toList).2.2

def parseW (pk : Bool) (w : ByteArray) : Option MPick :=
  if cutF 58 w = pk then (if pk then (match textNum (cut1 58 w), textNum (cut2 58 w) with | some a, some b => some ⟨a, b⟩ | _, _ => none) else (textNum (cut1 58 w)).map (fun (a : Nat) => (⟨(a : Int), 0⟩ : MPick))) else none
def parseAll (pk : Bool) : List ByteArray → Option (List MPick)
  | [] => some []
  | w :: ws => match parseW pk w with
    | none => none
    | some p => (parseAll pk ws).map (p :: ·)
def kindFits (ws : List ByteArray) (k : Int) : Bool := decide (cmdWord k = ws.headD ⟨#[]⟩) && (cmdPicks k || decide (ws.length = cmdCount k + 1))
def mkCmd (k : Int) (l : List MPick) : MCmd := if cmdPicks k then ⟨k, 0, 0, l⟩ else ⟨k, (l[0]?.map (·.g)).getD 0, (l[1]?.map (·.g)).getD 0, []⟩
def strictK (ws : List ByteArray) : List Int → Option MCmd
  | [] => none
  | k :: ks => if kindFits ws k then (parseAll (cmdPicks k) ws.tail).map (mkCmd k) else strictK ws ks
def kinds8 : List Int := [1, 2, 3, 4, 5, 6, 7, 8]
def strict (s : ByteArray) : Option MCmd := strictK (parts 32 s) kinds8
theorem parseAll_len {pk : Bool} {ws : List ByteArray} {l : List MPick} (h : parseAll pk ws = some l) : l.length = ws.length := by
  induction ws generalizing l with
  | nil => cases h; rfl
  | cons w ws ih =>
    unfold parseAll at h
    split at h
    · cases h
    · obtain ⟨m, hm, rfl⟩ := Option.map_eq_some_iff.1 h
      simp [ih hm]
theorem joined_all {xs : List ByteArray} {sep : ByteArray} (h : ∀ x ∈ xs, 0 < x.size) : joined xs sep = joinB xs sep := by unfold joined; rw [if_pos h]
theorem joined_none {xs : List ByteArray} {sep : ByteArray} (h : ¬ ∀ x ∈ xs, 0 < x.size) : joined xs sep = ⟨#[]⟩ := by unfold joined; rw [if_neg h]
theorem pickT_eq {p : MPick} (h1 : 0 < (numText p.g).size) (h2 : 0 < (numText p.c).size) : (pickT p).data.toList = (numText p.g).data.toList ++ 58 :: (numText p.c).data.toList := by
  unfold pickT
  rw [joined_all (by intro x hx; simp at hx; rcases hx with rfl | rfl <;> assumption)]
  unfold joinB
  simp only [List.map_cons, List.map_nil, Lib.join_cons]
  simp [Lib.joinTail, colon]
theorem pickT_pos2 {p : MPick} (h : 0 < (pickT p).size) : 0 < (numText p.g).size ∧ 0 < (numText p.c).size := by
  rcases Classical.em (∀ x ∈ [numText p.g, numText p.c], 0 < x.size) with h2 | h2
  · exact ⟨h2 _ (by simp), h2 _ (by simp)⟩
  · unfold pickT at h; rw [joined_none h2] at h; exact absurd h (by decide)
theorem ba_ext {x y : ByteArray} (h : x.data.toList = y.data.toList) : x = y := by rw [← bytes_list x, ← bytes_list y, h]
theorem parseW_pickT {p : MPick} (h : 0 < (pickT p).size) : parseW true (pickT p) = some p := by
  obtain ⟨h1, h2⟩ := pickT_pos2 h
  have he := pickT_eq h1 h2
  have hc := cutL_hit (c := 58) (p := (numText p.g).data.toList) (fun b hb => dig_ne (numText_digs p.g b hb) (by decide)) (numText p.c).data.toList
  rw [← he] at hc
  have e1 : cut1 58 (pickT p) = numText p.g := by unfold cut1; rw [hc]; exact bytes_list _
  have e2 : cut2 58 (pickT p) = numText p.c := by unfold cut2; rw [hc]; exact bytes_list _
  have e3 : cutF 58 (pickT p) = true := by unfold cutF; rw [hc]
  unfold parseW
  rw [if_pos e3, if_pos rfl, e1, e2, textNum_num h1, textNum_num h2]
  have a1 := (numText_in h1).1; have a2 := (numText_in h2).1
  obtain ⟨g, c⟩ := p
  simp only at a1 a2 ⊢
  rw [Int.toNat_of_nonneg a1, Int.toNat_of_nonneg a2]
theorem parseW_numT {n : Int} (h : 0 < (numText n).size) : parseW false (numText n) = some ⟨n, 0⟩ := by
  have hc := cutL_free (c := 58) (p := (numText n).data.toList) (fun b hb => dig_ne (numText_digs n b hb) (by decide))
  have e1 : cut1 58 (numText n) = numText n := by unfold cut1; rw [hc]; exact bytes_list _
  have e3 : cutF 58 (numText n) = false := by unfold cutF; rw [hc]
  unfold parseW
  rw [if_pos e3, if_neg (by decide), e1, textNum_num h]
  have a1 := (numText_in h).1
  simp only [Option.map_some]
  rw [Int.toNat_of_nonneg a1]
theorem parseAll_picks {l : List MPick} (h : ∀ p ∈ l, 0 < (pickT p).size) : parseAll true (l.map pickT) = some l := by
  induction l with
  | nil => rfl
  | cons p l ih => rw [List.map_cons, parseAll, parseW_pickT (h p List.mem_cons_self), ih (fun q hq => h q (List.mem_cons_of_mem _ hq))]; rfl
theorem cmdWord_inj : ∀ k ∈ kinds8, ∀ j ∈ kinds8, cmdWord k = cmdWord j → k = j := by decide
theorem cmdWord_free : ∀ k ∈ kinds8, ∀ b ∈ (cmdWord k).data.toList, b ≠ 32 := by decide
theorem cmdWord_pos : ∀ k ∈ kinds8, 0 < (cmdWord k).size := by decide
theorem cmdWord_k8 {k : Int} (h : 0 < (cmdWord k).size) : k ∈ kinds8 := by
  rcases Classical.em (1 ≤ k ∧ k ≤ 8) with h2 | h2
  · have : k = 1 ∨ k = 2 ∨ k = 3 ∨ k = 4 ∨ k = 5 ∨ k = 6 ∨ k = 7 ∨ k = 8 := by omega
    rcases this with rfl | rfl | rfl | rfl | rfl | rfl | rfl | rfl <;> decide
  · unfold cmdWord at h
    rw [if_neg (by omega), if_neg (by omega), if_neg (by omega), if_neg (by omega), if_neg (by omega), if_neg (by omega), if_neg (by omega), if_neg (by omega)] at h
    exact absurd h (by decide)
theorem strictK_here {ws : List ByteArray} {ks : List Int} {k : Int} {l : List MPick} (hk : k ∈ ks) (hin : ∀ j ∈ ks, j ∈ kinds8) (hk8 : k ∈ kinds8) (hf : kindFits ws k = true) (hp : parseAll (cmdPicks k) ws.tail = some l) : strictK ws ks = some (mkCmd k l) := by
  induction ks with
  | nil => cases hk
  | cons j ks ih =>
    unfold strictK
    by_cases hj : kindFits ws j = true
    · have e1 : cmdWord k = ws.headD ⟨#[]⟩ := by unfold kindFits at hf; simp at hf; simpa using hf.1
      have e2 : cmdWord j = ws.headD ⟨#[]⟩ := by unfold kindFits at hj; simp at hj; simpa using hj.1
      have := cmdWord_inj k hk8 j (hin j List.mem_cons_self) (e1.trans e2.symm)
      subst this
      rw [if_pos hj, hp]; rfl
    · rw [if_neg hj]
      rcases List.mem_cons.1 hk with rfl | hk
      · exact absurd hf hj
      · exact ih hk (fun j hj => hin j (List.mem_cons_of_mem _ hj))
theorem text_strict {s : ByteArray} {x : MCmd} (h : cmdText x = s) (hs : 0 < s.size) : strict s = some x := by
  unfold cmdText at h
  split at h
  rotate_left
  · subst h; exact absurd hs (by decide)
  rename_i hfine
  rcases Classical.em (∀ w ∈ wsTo x 2 ++ x.picks.map pickT, 0 < w.size) with hall | hall
  rotate_left
  · rw [joined_none hall] at h; subst h; exact absurd hs (by decide)
  rw [joined_all hall] at h
  obtain ⟨f1, f2, f3⟩ := hfine
  have hk : x.kind ∈ kinds8 := cmdWord_k8 (hall _ (by unfold wsTo; simp))
  have hkk : x.kind = 1 ∨ x.kind = 2 ∨ x.kind = 3 ∨ x.kind = 4 ∨ x.kind = 5 ∨ x.kind = 6 ∨ x.kind = 7 ∨ x.kind = 8 := by simpa [kinds8] using hk
  have hfree : ∀ w ∈ wsTo x 2 ++ x.picks.map pickT, ∀ b ∈ w.data.toList, b ≠ 32 := by
    intro w hw
    rcases List.mem_append.1 hw with hw' | hw'
    · unfold wsTo at hw'
      rcases List.mem_cons.1 hw' with rfl | hw'
      · exact cmdWord_free _ hk
      · obtain ⟨n, _, rfl⟩ := List.mem_map.1 hw'
        exact fun b hb => dig_ne (numText_digs n b hb) (by decide)
    · obtain ⟨p, hp, rfl⟩ := List.mem_map.1 hw'
      obtain ⟨p1, p2⟩ := pickT_pos2 (hall _ hw)
      rw [pickT_eq p1 p2]
      intro b hb
      rcases List.mem_append.1 hb with hb | hb
      · exact dig_ne (numText_digs _ b hb) (by decide)
      · rcases List.mem_cons.1 hb with rfl | hb
        · decide
        · exact dig_ne (numText_digs _ b hb) (by decide)
  have hp : parts 32 s = wsTo x 2 ++ x.picks.map pickT := by rw [← h]; exact parts_join (by unfold wsTo; simp) hfree
  unfold strict
  rw [hp]
  by_cases hpk : cmdPicks x.kind = true
  · have hc : cmdCount x.kind = 0 := by
      have : x.kind = 1 ∨ x.kind = 3 ∨ x.kind = 6 := by unfold cmdPicks at hpk; simpa using hpk
      rcases this with e | e | e <;> rw [e] <;> rfl
    have hw : wsTo x 2 = [cmdWord x.kind] := by unfold wsTo; rw [hc]; simp
    rw [hw] at hall ⊢
    have := strictK_here (ws := [cmdWord x.kind] ++ x.picks.map pickT) (ks := kinds8) (k := x.kind) (l := x.picks) hk (fun _ h => h) hk (by unfold kindFits; simp [hpk]) (by rw [hpk]; exact parseAll_picks (fun p hp => hall _ (by simp; exact .inr ⟨p, hp, rfl⟩)))
    rw [this]
    unfold mkCmd; rw [if_pos hpk]
    have a0 := f1 (by omega); have b0 := f2 (by omega)
    obtain ⟨k, a, b, l⟩ := x
    simp only at a0 b0
    subst a0; subst b0; rfl
  · have hpk' : cmdPicks x.kind = false := by simpa using hpk
    have hnp := f3 hpk'
    have hc2 : cmdCount x.kind = 0 ∨ cmdCount x.kind = 1 ∨ cmdCount x.kind = 2 := by
      rcases hkk with e | e | e | e | e | e | e | e <;> rw [e] <;> decide
    rw [hnp] at hall ⊢
    simp only [List.map_nil, List.append_nil] at hall ⊢
    obtain ⟨k, a, b, l⟩ := x
    simp only at *
    subst hnp
    rcases hc2 with hc | hc | hc
    · have a0 := f1 (by omega); have b0 := f2 (by omega)
      subst a0; subst b0
      have hw : wsTo ⟨k, 0, 0, []⟩ 2 = [cmdWord k] := by unfold wsTo; simp [hc]
      rw [hw]
      rw [strictK_here (ws := [cmdWord k]) (ks := kinds8) (k := k) (l := []) hk (fun _ h => h) hk (by unfold kindFits; simp [hc]) (by rw [hpk']; rfl)]
      unfold mkCmd; rw [if_neg hpk]; rfl
    · have b0 := f2 (by omega)
      subst b0
      have hw : wsTo ⟨k, a, 0, []⟩ 2 = [cmdWord k, numText a] := by unfold wsTo nums; simp [hc]
      rw [hw] at hall ⊢
      rw [strictK_here (ws := [cmdWord k, numText a]) (ks := kinds8) (k := k) (l := [⟨a, 0⟩]) hk (fun _ h => h) hk (by unfold kindFits; simp [hc]) (by rw [hpk']; simp [parseAll, parseW_numT (hall (numText a) (by simp))])]
      unfold mkCmd; rw [if_neg hpk]; rfl
    · have hw : wsTo ⟨k, a, b, []⟩ 2 = [cmdWord k, numText a, numText b] := by unfold wsTo nums; simp [hc]
      rw [hw] at hall ⊢
      rw [strictK_here (ws := [cmdWord k, numText a, numText b]) (ks := kinds8) (k := k) (l := [⟨a, 0⟩, ⟨b, 0⟩]) hk (fun _ h => h) hk (by unfold kindFits; simp [hc]) (by rw [hpk']; simp [parseAll, parseW_numT (hall (numText a) (by simp)), parseW_numT (hall (numText b) (by simp))])]
      unfold mkCmd; rw [if_neg hpk]; rfl

end Go.Proofs.YtcidbencoebfaaaDoor.Wd


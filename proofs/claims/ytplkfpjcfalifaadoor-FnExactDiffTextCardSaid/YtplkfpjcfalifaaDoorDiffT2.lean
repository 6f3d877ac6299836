/- Both DiffText functions write the same text. Conditions: none. -/
import Derived.Test.YtplkfpjcfalifaaDoorItemI
import Derived.Test.YtplkfpjcfalifaaDoorItemS
import Derived.Deep.QuietTactic
namespace Go.Proofs.YtplkfpjcfalifaaDoor.Wd
open Go.RowKit
set_option linter.unusedVariables false
set_option linter.unusedSimpArgs false
set_option maxHeartbeats 4000000
set_option maxRecDepth 100000
def noneW : ByteArray := ⟨#[110, 111, 110, 101]⟩
def orNone (s : ByteArray) : ByteArray := if s.size = 0 then noneW else s
theorem orNone_le {s : ByteArray} (h : s.size ≤ 512) : (orNone s).size ≤ 512 := by unfold orNone; split; decide; exact h
theorem orNone_calls (s : ByteArray) (w : World) : Calls Tryd.prog 11 #[.string s] w fun e w' => e = .returned (.string (orNone s)) ∧ Below w.heap.size w w' := by
  unfold orNone
  by_cases h : s.size = 0
  · have hd : (s.toList == []) = true := by rw [toList_nil]; exact decide_eq_true h
    rw [if_pos h]
    clear h
    go_enter Tryd.func11, Tryd.ntmps11
    go_wp2
    go_ret
    exact ⟨rfl, bel⟩
  · have hd : (s.toList == []) = false := by rw [toList_nil]; exact decide_eq_false h
    rw [if_neg h]
    clear h
    go_enter Tryd.func11, Tryd.ntmps11
    go_wp2
    go_ret
    exact ⟨rfl, bel⟩
theorem l26Word_calls (i : MItem) (cs : List Value) (w : World) (hx : kItem.K w i cs) : Calls Tryd.prog 8 #[.agg cs.toArray] w fun e w' => e = .returned (.string (orNone (itemText i))) ∧ Below w.heap.size w w' := by
  obtain rfl := kItem_K hx
  clear hx
  obtain ⟨T, hT⟩ : ∃ T, itemText i = T := ⟨_, rfl⟩
  rw [hT]
  have HT := Lib.hid hT; clear hT
  unfold orNone
  by_cases h : T.size = 0
  · have hd : (T.toList == []) = true := by rw [toList_nil]; exact decide_eq_true h
    rw [if_pos h]
    clear h
    go_enter Tryd.func8, Tryd.ntmps8
    go_wp2_with fail
    refine (spec_ItemText_calls i [_, _, _, _] _ (kItem_mk _ _)).mono ?_
    rintro e w1 ⟨rfl, hb1⟩
    rw [HT.out]
    go_wp2
    go_ret
    exact ⟨rfl, bel⟩
  · have hd : (T.toList == []) = false := by rw [toList_nil]; exact decide_eq_false h
    rw [if_neg h]
    clear h
    go_enter Tryd.func8, Tryd.ntmps8
    go_wp2_with fail
    refine (spec_ItemText_calls i [_, _, _, _] _ (kItem_mk _ _)).mono ?_
    rintro e w1 ⟨rfl, hb1⟩
    rw [HT.out]
    go_wp2
    go_ret
    exact ⟨rfl, bel⟩
def diffText (x : MDiff) : ByteArray := ⟨#[103, 111, 32]⟩ ++ numText x.g ++ ⟨#[32, 105, 116, 101, 109, 32]⟩ ++ numText x.at_ ++ ⟨#[58, 32]⟩ ++ orNone (itemText x.here) ++ ⟨#[32, 47, 32]⟩ ++ orNone (itemText x.there)
theorem spec_DiffText_calls (x : MDiff) (cs : List Value) (w : World) (hx : kDiff.K w x cs) :
    Calls Tryd.prog 4 #[.agg cs.toArray] w fun e w' => e = .returned (.string (diffText x)) ∧ Below w.heap.size w w' := by
  obtain rfl := kDiff_K hx
  clear hx
  obtain ⟨g, a, h, t⟩ := x
  unfold diffText
  simp only
  obtain ⟨T1, hT1⟩ : ∃ T, numText g = T := ⟨_, rfl⟩
  obtain ⟨T2, hT2⟩ : ∃ T, numText a = T := ⟨_, rfl⟩
  obtain ⟨T3, hT3⟩ : ∃ T, orNone (itemText h) = T := ⟨_, rfl⟩
  obtain ⟨T4, hT4⟩ : ∃ T, orNone (itemText t) = T := ⟨_, rfl⟩
  have s1 : T1.size ≤ 10 := by rw [← hT1]; exact numText_size _
  have s2 : T2.size ≤ 10 := by rw [← hT2]; exact numText_size _
  have s3 : T3.size ≤ 512 := by rw [← hT3]; exact orNone_le (itemText_le _)
  have s4 : T4.size ≤ 512 := by rw [← hT4]; exact orNone_le (itemText_le _)
  rw [hT1, hT2, hT3, hT4]
  have e1 : ¬ (9223372036854775807 < 3 + T1.size) := by omega
  have e2 : ¬ (9223372036854775807 < 3 + T1.size + 6) := by omega
  have e3 : ¬ (9223372036854775807 < 3 + T1.size + 6 + T2.size) := by omega
  have e4 : ¬ (9223372036854775807 < 3 + T1.size + 6 + T2.size + 2) := by omega
  have e5 : ¬ (9223372036854775807 < 3 + T1.size + 6 + T2.size + 2 + T3.size) := by omega
  have e6 : ¬ (9223372036854775807 < 3 + T1.size + 6 + T2.size + 2 + T3.size + 3) := by omega
  have e7 : ¬ (9223372036854775807 < 3 + T1.size + 6 + T2.size + 2 + T3.size + 3 + T4.size) := by omega
  have H1 := Lib.hid hT1; have H2 := Lib.hid hT2; have H3 := Lib.hid hT3; have H4 := Lib.hid hT4
  clear hT1 hT2 hT3 hT4 s1 s2 s3 s4
  go_enter Tryd.func4, Tryd.ntmps4
  go_wp2_with fail
  refine settleR ?_; intro V hV
  have hbV : Below w.heap.size w V := by rw [hV]; exact bel
  have p0 : V.cell? ⟨w.heap.size, 0, none⟩ = some (.int .i64 g) := by rw [hV]; go_simp
  have p1 : V.cell? ⟨w.heap.size, 1, none⟩ = some (.int .i64 a) := by rw [hV]; go_simp
  have p2 : V.cell? ⟨w.heap.size, 2, none⟩ = some (.int .i64 h.kind) := by rw [hV]; go_simp
  have p3 : V.cell? ⟨w.heap.size, 3, none⟩ = some (.int .i64 h.obj) := by rw [hV]; go_simp
  have p4 : V.cell? ⟨w.heap.size, 4, none⟩ = some (.int .i64 h.val) := by rw [hV]; go_simp
  have p5 : V.cell? ⟨w.heap.size, 5, none⟩ = some (.bool h.ok) := by rw [hV]; go_simp
  have p6 : V.cell? ⟨w.heap.size, 6, none⟩ = some (.int .i64 t.kind) := by rw [hV]; go_simp
  have p7 : V.cell? ⟨w.heap.size, 7, none⟩ = some (.int .i64 t.obj) := by rw [hV]; go_simp
  have p8 : V.cell? ⟨w.heap.size, 8, none⟩ = some (.int .i64 t.val) := by rw [hV]; go_simp
  have p9 : V.cell? ⟨w.heap.size, 9, none⟩ = some (.bool t.ok) := by rw [hV]; go_simp
  clear hV
  refine wp_region_quiet (C := fun w' => Below V.heap.size V w') (by kernel_rfl) (by kernel_rfl) (Below.refl _ _).drew ?_
  refine wpQuiet_step (fun K hK => ?_)
  go_simp
  refine ⟨_, fun w' hw' => rfl, hK _ ?_⟩
  clear hK K
  refine wpQuiet_step (fun K hK => ?_)
  go_simp
  refine ⟨.int .i64 g, fun w' hw' => (by have q0 := keepc hw' p0; go_simp), hK _ ?_⟩
  clear hK K
  refine wpQuiet_step (fun K hK => ?_)
  go_simp
  refine ⟨.string T1, fun w' hw' => ((spec_NumText_calls _ _).mono (by rintro e w2 ⟨rfl, hb2⟩; rw [H1.out]; exact ⟨rfl, bvia hb2 hw'⟩)), hK _ ?_⟩
  clear hK K
  refine wpQuiet_step (fun K hK => ?_)
  go_simp
  refine ⟨_, fun w' hw' => rfl, hK _ ?_⟩
  clear hK K
  refine wpQuiet_step (fun K hK => ?_)
  go_simp
  refine ⟨_, fun w' hw' => rfl, hK _ ?_⟩
  clear hK K
  refine wpQuiet_step (fun K hK => ?_)
  go_simp
  refine ⟨_, fun w' hw' => rfl, hK _ ?_⟩
  clear hK K
  refine wpQuiet_step (fun K hK => ?_)
  go_simp
  refine ⟨.int .i64 a, fun w' hw' => (by have q1 := keepc hw' p1; go_simp), hK _ ?_⟩
  clear hK K
  refine wpQuiet_step (fun K hK => ?_)
  go_simp
  refine ⟨.string T2, fun w' hw' => ((spec_NumText_calls _ _).mono (by rintro e w2 ⟨rfl, hb2⟩; rw [H2.out]; exact ⟨rfl, bvia hb2 hw'⟩)), hK _ ?_⟩
  clear hK K
  refine wpQuiet_step (fun K hK => ?_)
  go_simp
  refine ⟨_, fun w' hw' => rfl, hK _ ?_⟩
  clear hK K
  refine wpQuiet_step (fun K hK => ?_)
  go_simp
  refine ⟨_, fun w' hw' => rfl, hK _ ?_⟩
  clear hK K
  refine wpQuiet_step (fun K hK => ?_)
  go_simp
  refine ⟨_, fun w' hw' => rfl, hK _ ?_⟩
  clear hK K
  refine wpQuiet_step (fun K hK => ?_)
  go_simp
  refine ⟨.agg #[.int .i64 h.kind, .int .i64 h.obj, .int .i64 h.val, .bool h.ok], fun w' hw' => (by have q2 := keepc hw' p2; have q3 := keepc hw' p3; have q4 := keepc hw' p4; have q5 := keepc hw' p5; go_simp), hK _ ?_⟩
  clear hK K
  refine wpQuiet_step (fun K hK => ?_)
  go_simp
  refine ⟨.string T3, fun w' hw' => ((l26Word_calls h [_, _, _, _] _ (kItem_mk _ _)).mono (by rintro e w2 ⟨rfl, hb2⟩; rw [H3.out]; exact ⟨rfl, bvia hb2 hw'⟩)), hK _ ?_⟩
  clear hK K
  refine wpQuiet_step (fun K hK => ?_)
  go_simp
  refine ⟨_, fun w' hw' => rfl, hK _ ?_⟩
  clear hK K
  refine wpQuiet_step (fun K hK => ?_)
  go_simp
  refine ⟨_, fun w' hw' => rfl, hK _ ?_⟩
  clear hK K
  refine wpQuiet_step (fun K hK => ?_)
  go_simp
  refine ⟨_, fun w' hw' => rfl, hK _ ?_⟩
  clear hK K
  refine wpQuiet_step (fun K hK => ?_)
  go_simp
  refine ⟨.agg #[.int .i64 t.kind, .int .i64 t.obj, .int .i64 t.val, .bool t.ok], fun w' hw' => (by have q6 := keepc hw' p6; have q7 := keepc hw' p7; have q8 := keepc hw' p8; have q9 := keepc hw' p9; go_simp), hK _ ?_⟩
  clear hK K
  refine wpQuiet_step (fun K hK => ?_)
  go_simp
  refine ⟨.string T4, fun w' hw' => ((l26Word_calls t [_, _, _, _] _ (kItem_mk _ _)).mono (by rintro e w2 ⟨rfl, hb2⟩; rw [H4.out]; exact ⟨rfl, bvia hb2 hw'⟩)), hK _ ?_⟩
  clear hK K
  refine wpQuiet_step (fun K hK => ?_)
  go_simp
  refine ⟨_, fun w' hw' => rfl, hK _ ?_⟩
  clear hK K
  refine wpQuiet_step (fun K hK => ?_)
  go_simp
  refine ⟨_, fun w' hw' => rfl, hK _ ?_⟩
  clear hK K
  refine wpQuiet_nil ?_
  intro W hW
  go_wp2
  go_ret
  exact ⟨rfl, bvia hW hbV⟩
theorem impl_DiffText_calls (x : MDiff) (cs : List Value) (w : World) (hx : kDiff.K w x cs) (htab : Lib.TabIs Tryd.prog w "strings.asciiSpace" .u8 Lib.asciiSpaceTab) :
    Calls Tryd.prog 6 #[.agg cs.toArray] w fun e w' => e = .returned (.string (diffText x)) ∧ Below w.heap.size w w' := by
  obtain rfl := kDiff_K hx
  clear hx
  have HTAB := Lib.hid htab; clear htab
  obtain ⟨g, a, h, t⟩ := x
  unfold diffText
  simp only
  obtain ⟨T1, hT1⟩ : ∃ T, numText g = T := ⟨_, rfl⟩
  obtain ⟨T2, hT2⟩ : ∃ T, numText a = T := ⟨_, rfl⟩
  obtain ⟨T3, hT3⟩ : ∃ T, orNone (itemText h) = T := ⟨_, rfl⟩
  obtain ⟨T4, hT4⟩ : ∃ T, orNone (itemText t) = T := ⟨_, rfl⟩
  have s1 : T1.size ≤ 10 := by rw [← hT1]; exact numText_size _
  have s2 : T2.size ≤ 10 := by rw [← hT2]; exact numText_size _
  have s3 : T3.size ≤ 512 := by rw [← hT3]; exact orNone_le (itemText_le _)
  have s4 : T4.size ≤ 512 := by rw [← hT4]; exact orNone_le (itemText_le _)
  rw [hT1, hT2, hT3, hT4]
  have e1 : ¬ (9223372036854775807 < 3 + T1.size) := by omega
  have e2 : ¬ (9223372036854775807 < 3 + T1.size + 6) := by omega
  have e3 : ¬ (9223372036854775807 < 3 + T1.size + 6 + T2.size) := by omega
  have e4 : ¬ (9223372036854775807 < 3 + T1.size + 6 + T2.size + 2) := by omega
  have e5 : ¬ (9223372036854775807 < 3 + T1.size + 6 + T2.size + 2 + T3.size) := by omega
  have e6 : ¬ (9223372036854775807 < 3 + T1.size + 6 + T2.size + 2 + T3.size + 3) := by omega
  have e7 : ¬ (9223372036854775807 < 3 + T1.size + 6 + T2.size + 2 + T3.size + 3 + T4.size) := by omega
  have H1 := Lib.hid hT1; have H2 := Lib.hid hT2; have H3 := Lib.hid hT3; have H4 := Lib.hid hT4
  clear hT1 hT2 hT3 hT4 s1 s2 s3 s4
  go_enter Tryd.func6, Tryd.ntmps6
  go_wp2_with fail
  refine settleR ?_; intro V hV
  have hbV : Below w.heap.size w V := by rw [hV]; exact bel
  have p0 : V.cell? ⟨w.heap.size, 0, none⟩ = some (.int .i64 g) := by rw [hV]; go_simp
  have p1 : V.cell? ⟨w.heap.size, 1, none⟩ = some (.int .i64 a) := by rw [hV]; go_simp
  have p2 : V.cell? ⟨w.heap.size, 2, none⟩ = some (.int .i64 h.kind) := by rw [hV]; go_simp
  have p3 : V.cell? ⟨w.heap.size, 3, none⟩ = some (.int .i64 h.obj) := by rw [hV]; go_simp
  have p4 : V.cell? ⟨w.heap.size, 4, none⟩ = some (.int .i64 h.val) := by rw [hV]; go_simp
  have p5 : V.cell? ⟨w.heap.size, 5, none⟩ = some (.bool h.ok) := by rw [hV]; go_simp
  have p6 : V.cell? ⟨w.heap.size, 6, none⟩ = some (.int .i64 t.kind) := by rw [hV]; go_simp
  have p7 : V.cell? ⟨w.heap.size, 7, none⟩ = some (.int .i64 t.obj) := by rw [hV]; go_simp
  have p8 : V.cell? ⟨w.heap.size, 8, none⟩ = some (.int .i64 t.val) := by rw [hV]; go_simp
  have p9 : V.cell? ⟨w.heap.size, 9, none⟩ = some (.bool t.ok) := by rw [hV]; go_simp
  have HTV := Lib.hid (tab_below HTAB.out hbV)
  clear hV
  refine wp_region_quiet (C := fun w' => Below V.heap.size V w') (by kernel_rfl) (by kernel_rfl) (Below.refl _ _).drew ?_
  refine wpQuiet_step (fun K hK => ?_)
  go_simp
  refine ⟨_, fun w' hw' => rfl, hK _ ?_⟩
  clear hK K
  refine wpQuiet_step (fun K hK => ?_)
  go_simp
  refine ⟨.int .i64 g, fun w' hw' => (by have q0 := keepc hw' p0; go_simp), hK _ ?_⟩
  clear hK K
  refine wpQuiet_step (fun K hK => ?_)
  go_simp
  refine ⟨.string T1, fun w' hw' => ((impl_NumText_calls _ _).mono (by rintro e w2 ⟨rfl, hb2⟩; rw [H1.out]; exact ⟨rfl, bvia hb2 hw'⟩)), hK _ ?_⟩
  clear hK K
  refine wpQuiet_step (fun K hK => ?_)
  go_simp
  refine ⟨_, fun w' hw' => rfl, hK _ ?_⟩
  clear hK K
  refine wpQuiet_step (fun K hK => ?_)
  go_simp
  refine ⟨_, fun w' hw' => rfl, hK _ ?_⟩
  clear hK K
  refine wpQuiet_step (fun K hK => ?_)
  go_simp
  refine ⟨_, fun w' hw' => rfl, hK _ ?_⟩
  clear hK K
  refine wpQuiet_step (fun K hK => ?_)
  go_simp
  refine ⟨.int .i64 a, fun w' hw' => (by have q1 := keepc hw' p1; go_simp), hK _ ?_⟩
  clear hK K
  refine wpQuiet_step (fun K hK => ?_)
  go_simp
  refine ⟨.string T2, fun w' hw' => ((impl_NumText_calls _ _).mono (by rintro e w2 ⟨rfl, hb2⟩; rw [H2.out]; exact ⟨rfl, bvia hb2 hw'⟩)), hK _ ?_⟩
  clear hK K
  refine wpQuiet_step (fun K hK => ?_)
  go_simp
  refine ⟨_, fun w' hw' => rfl, hK _ ?_⟩
  clear hK K
  refine wpQuiet_step (fun K hK => ?_)
  go_simp
  refine ⟨_, fun w' hw' => rfl, hK _ ?_⟩
  clear hK K
  refine wpQuiet_step (fun K hK => ?_)
  go_simp
  refine ⟨_, fun w' hw' => rfl, hK _ ?_⟩
  clear hK K
  refine wpQuiet_step (fun K hK => ?_)
  go_simp
  refine ⟨.agg #[.int .i64 h.kind, .int .i64 h.obj, .int .i64 h.val, .bool h.ok], fun w' hw' => (by have q2 := keepc hw' p2; have q3 := keepc hw' p3; have q4 := keepc hw' p4; have q5 := keepc hw' p5; go_simp), hK _ ?_⟩
  clear hK K
  refine wpQuiet_step (fun K hK => ?_)
  go_simp
  refine ⟨.string (itemText h), fun w' hw' => ((impl_ItemText_calls h [_, _, _, _] _ (kItem_mk _ _) (tab_below HTV.out hw')).mono (by rintro e w2 ⟨rfl, hb2⟩; exact ⟨rfl, bvia hb2 hw'⟩)), hK _ ?_⟩
  clear hK K
  refine wpQuiet_step (fun K hK => ?_)
  go_simp
  refine ⟨.string T3, fun w' hw' => ((orNone_calls _ _).mono (by rintro e w2 ⟨rfl, hb2⟩; rw [H3.out]; exact ⟨rfl, bvia hb2 hw'⟩)), hK _ ?_⟩
  clear hK K
  refine wpQuiet_step (fun K hK => ?_)
  go_simp
  refine ⟨_, fun w' hw' => rfl, hK _ ?_⟩
  clear hK K
  refine wpQuiet_step (fun K hK => ?_)
  go_simp
  refine ⟨_, fun w' hw' => rfl, hK _ ?_⟩
  clear hK K
  refine wpQuiet_step (fun K hK => ?_)
  go_simp
  refine ⟨_, fun w' hw' => rfl, hK _ ?_⟩
  clear hK K
  refine wpQuiet_step (fun K hK => ?_)
  go_simp
  refine ⟨.agg #[.int .i64 t.kind, .int .i64 t.obj, .int .i64 t.val, .bool t.ok], fun w' hw' => (by have q6 := keepc hw' p6; have q7 := keepc hw' p7; have q8 := keepc hw' p8; have q9 := keepc hw' p9; go_simp), hK _ ?_⟩
  clear hK K
  refine wpQuiet_step (fun K hK => ?_)
  go_simp
  refine ⟨.string (itemText t), fun w' hw' => ((impl_ItemText_calls t [_, _, _, _] _ (kItem_mk _ _) (tab_below HTV.out hw')).mono (by rintro e w2 ⟨rfl, hb2⟩; exact ⟨rfl, bvia hb2 hw'⟩)), hK _ ?_⟩
  clear hK K
  refine wpQuiet_step (fun K hK => ?_)
  go_simp
  refine ⟨.string T4, fun w' hw' => ((orNone_calls _ _).mono (by rintro e w2 ⟨rfl, hb2⟩; rw [H4.out]; exact ⟨rfl, bvia hb2 hw'⟩)), hK _ ?_⟩
  clear hK K
  refine wpQuiet_step (fun K hK => ?_)
  go_simp
  refine ⟨_, fun w' hw' => rfl, hK _ ?_⟩
  clear hK K
  refine wpQuiet_step (fun K hK => ?_)
  go_simp
  refine ⟨_, fun w' hw' => rfl, hK _ ?_⟩
  clear hK K
  refine wpQuiet_nil ?_
  intro W hW
  go_wp2
  go_ret
  exact ⟨rfl, bvia hW hbV⟩
end Go.Proofs.YtplkfpjcfalifaaDoor.Wd

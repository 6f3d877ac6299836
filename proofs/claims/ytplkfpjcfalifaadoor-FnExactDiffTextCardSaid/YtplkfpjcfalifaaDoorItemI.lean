/- The program's ItemText. Conditions: none. -/
import Derived.Test.YtplkfpjcfalifaaDoorItemP
import Derived.Test.YtplkfpjcfalifaaDoorMk
import Derived.Test.YtplkfpjcfalifaaDoorShelf
import Derived.Test.YtplkfpjcfalifaaDoorItemC
import Derived.Deep.CutRange
import Derived.Lib.SmallJoins
namespace Go.Proofs.YtplkfpjcfalifaaDoor.Wd
open Go.RowKit
set_option linter.unusedVariables false
set_option linter.unusedSimpArgs false
set_option maxHeartbeats 4000000
set_option maxRecDepth 100000
theorem fields_calls (w : World) (htab : Lib.TabIs Tryd.prog w "strings.asciiSpace" .u8 Lib.asciiSpaceTab) :
    Calls Tryd.prog 17 #[.string ⟨#[115, 101, 110, 116, 32, 103, 111, 116, 32, 99, 108, 111, 115, 101, 100, 32, 112, 105, 99, 107, 101, 100, 32, 108, 111, 99, 107, 101, 100, 32, 117, 110, 108, 111, 99, 107, 101, 100, 32, 115, 112, 97, 119, 110, 101, 100, 32, 112, 114, 105, 110, 116, 101, 100, 32, 100, 111, 110, 101, 32, 100, 101, 97, 100]⟩] w fun e w' => ∃ g, e = .returned (.slice (some ⟨g, 0, none⟩) 10 10) ∧ (∀ m : Nat, m < 10 → w'.cell? ⟨g, m, none⟩ = some (.string (itemWord (m + 1)))) ∧ w.heap.size ≤ g ∧ Below w.heap.size w w' := by
  refine (strings_Fields ⟨#[115, 101, 110, 116, 32, 103, 111, 116, 32, 99, 108, 111, 115, 101, 100, 32, 112, 105, 99, 107, 101, 100, 32, 108, 111, 99, 107, 101, 100, 32, 117, 110, 108, 111, 99, 107, 101, 100, 32, 115, 112, 97, 119, 110, 101, 100, 32, 112, 114, 105, 110, 116, 101, 100, 32, 100, 111, 110, 101, 32, 100, 101, 97, 100]⟩ w (by decide) (fun j b hj => ?_) htab).mono ?_
  · have hm : b ∈ (⟨#[115, 101, 110, 116, 32, 103, 111, 116, 32, 99, 108, 111, 115, 101, 100, 32, 112, 105, 99, 107, 101, 100, 32, 108, 111, 99, 107, 101, 100, 32, 117, 110, 108, 111, 99, 107, 101, 100, 32, 115, 112, 97, 119, 110, 101, 100, 32, 112, 114, 105, 110, 116, 101, 100, 32, 100, 111, 110, 101, 32, 100, 101, 97, 100]⟩ : ByteArray).data.toList := List.mem_of_getElem? hj
    have : ∀ b ∈ ([115, 101, 110, 116, 32, 103, 111, 116, 32, 99, 108, 111, 115, 101, 100, 32, 112, 105, 99, 107, 101, 100, 32, 108, 111, 99, 107, 101, 100, 32, 117, 110, 108, 111, 99, 107, 101, 100, 32, 115, 112, 97, 119, 110, 101, 100, 32, 112, 114, 105, 110, 116, 101, 100, 32, 100, 111, 110, 101, 32, 100, 101, 97, 100] : List UInt8), b.toNat < 128 := by decide
    exact this b hm
  · rintro e w' ⟨rfl, rfl⟩
    refine ⟨w.heap.size, rfl, fun m hm => ?_, Nat.le_refl _, bel⟩
    have h10 : m = 0 ∨ m = 1 ∨ m = 2 ∨ m = 3 ∨ m = 4 ∨ m = 5 ∨ m = 6 ∨ m = 7 ∨ m = 8 ∨ m = 9 := by omega
    have hf : Lib.fields (⟨#[115, 101, 110, 116, 32, 103, 111, 116, 32, 99, 108, 111, 115, 101, 100, 32, 112, 105, 99, 107, 101, 100, 32, 108, 111, 99, 107, 101, 100, 32, 117, 110, 108, 111, 99, 107, 101, 100, 32, 115, 112, 97, 119, 110, 101, 100, 32, 112, 114, 105, 110, 116, 101, 100, 32, 100, 111, 110, 101, 32, 100, 101, 97, 100]⟩ : ByteArray).data.toList = [[115, 101, 110, 116], [103, 111, 116], [99, 108, 111, 115, 101, 100], [112, 105, 99, 107, 101, 100], [108, 111, 99, 107, 101, 100], [117, 110, 108, 111, 99, 107, 101, 100], [115, 112, 97, 119, 110, 101, 100], [112, 114, 105, 110, 116, 101, 100], [100, 111, 110, 101], [100, 101, 97, 100]] := by decide
    rw [hf]
    rcases h10 with rfl | rfl | rfl | rfl | rfl | rfl | rfl | rfl | rfl | rfl <;> simp [itemWord]
theorem tab_below {w w' : World} (h : Lib.TabIs Tryd.prog w "strings.asciiSpace" .u8 Lib.asciiSpaceTab) (hb : Below w.heap.size w w') : Lib.TabIs Tryd.prog w' "strings.asciiSpace" .u8 Lib.asciiSpaceTab := Joins.tab_stays (g := 0) (by kernel_rfl) h hb (Nat.le_refl _)
theorem impl_ItemText_calls (i : MItem) (cs : List Value) (w : World) (hx : kItem.K w i cs) (htab : Lib.TabIs Tryd.prog w "strings.asciiSpace" .u8 Lib.asciiSpaceTab) :
    Calls Tryd.prog 12 #[.agg cs.toArray] w fun e w' => e = .returned (.string (itemText i)) ∧ Below w.heap.size w w' := by
  obtain rfl := kItem_K hx
  clear hx
  obtain ⟨R, hR⟩ : ∃ R, itemText i = R := ⟨_, rfl⟩
  rw [hR]
  cases hok : itemOk i with
  | false =>
    have HR : Hid (R = ⟨#[]⟩) := Lib.hid (by rw [← hR]; exact itemText_no hok)
    clear hR htab
    go_enter Tryd.func12, Tryd.ntmps12
    go_wp2_with fail
    refine (impl_ItemOk_calls i [_, _, _, _] _ (kItem_mk _ _)).mono ?_
    rintro e w1 ⟨rfl, hb1⟩
    rw [hok]
    go_wp2
    go_ret
    rw [HR.out]
    exact ⟨rfl, bel⟩
  | true =>
    have HR0 : Hid (R = joined (itemWords i.kind.toNat i.obj i.val i.ok) sp) := Lib.hid (by rw [← hR]; exact itemText_yes hok)
    have HTAB := Lib.hid htab
    clear hR htab
    obtain ⟨ki, ob, v, b⟩ := i
    have hd := of_decide_eq_true hok
    simp only at hd HR0
    have hd4 : ki ≠ 4 → (ki = 1 ∨ ki = 2 ∨ ki = 7 ∨ ki = 8 ∨ ki = 10) → v ≠ -1 := by omega
    have HD := Lib.hid hd4
    have hk : ki = 1 ∨ ki = 2 ∨ ki = 3 ∨ ki = 4 ∨ ki = 5 ∨ ki = 6 ∨ ki = 7 ∨ ki = 8 ∨ ki = 9 ∨ ki = 10 := by omega
    clear hd hd4
    rcases hk with rfl | rfl | rfl | rfl | rfl | rfl | rfl | rfl | rfl | rfl
    · have HR : Hid (R = joined (itemWords 1 ob v b) sp) := HR0; clear HR0
      go_enter Tryd.func12, Tryd.ntmps12
      go_wp2_with fail
      refine (impl_ItemOk_calls ⟨1, ob, v, b⟩ [_, _, _, _] _ (kItem_mk _ _)).mono ?_
      rintro e w1 ⟨rfl, hb1⟩
      rw [hok]
      have q0 : w1.cell? ⟨w.heap.size, 0, none⟩ = some (.int .i64 1) := keepc hb1 (by go_simp)
      have q1 : w1.cell? ⟨w.heap.size, 1, none⟩ = some (.int .i64 ob) := keepc hb1 (by go_simp)
      have q2 : w1.cell? ⟨w.heap.size, 2, none⟩ = some (.int .i64 v) := keepc hb1 (by go_simp)
      have q3 : w1.cell? ⟨w.heap.size, 3, none⟩ = some (.bool b) := keepc hb1 (by go_simp)
      have z1 : w.heap.size < w1.heap.size := World.block_lt_of_cell? w1 _ q0
      have hbw : Below w.heap.size w w1 := bel
      go_wp2_with fail
      go_cut [3] from 7 to 13 (fun v3 wx => ∃ g, v3 = .slice (some ⟨g, 0, none⟩) 1 1 ∧ wx.heap[g]? = some (.cells #[.string (itemWord 1)] 9 (0, 0)) ∧ w1.heap.size ≤ g ∧ Below w1.heap.size w1 wx)
      case first =>
        go_region_with (first | (go_at_call 17; (with_reducible refine (fields_calls _ (tab_below HTAB.out bel)).mono ?_); rintro e w2 ⟨g, rfl, hg, hgs, hb2⟩; have hgm : w2.cell? ⟨g, 0, none⟩ = some (.string (itemWord 1)) := hg 0 (by omega); have k0 : w2.cell? ⟨w.heap.size, 0, none⟩ = _ := keepc bel q0; clear hg))
        all_goals (go_wp2_with fail; go_meet; case rel => exact ⟨_, rfl, blk_alloc' (by simp), (by have := (bel : Below w1.heap.size w1 w2).size; (try simp); omega), bel⟩)
      obtain ⟨g, rfl, hg, hgs, hb2⟩ := hcut
      obtain ⟨w2, rfl⟩ : ∃ wq : World, wq = wc := ⟨_, rfl⟩
      have r0 : w2.cell? ⟨w.heap.size, 0, none⟩ = _ := keepc hb2 q0
      have r1 : w2.cell? ⟨w.heap.size, 1, none⟩ = _ := keepc hb2 q1
      have r2 : w2.cell? ⟨w.heap.size, 2, none⟩ = _ := keepc hb2 q2
      have r3 : w2.cell? ⟨w.heap.size, 3, none⟩ = _ := keepc hb2 q3
      clear q0 q1 q2 q3
      have z2 : w.heap.size < w2.heap.size := World.block_lt_of_cell? w2 _ r0
      have HO := Lib.hid (own_lit1 (d := Rp.str) (x := itemWord 1) (u := .string (itemWord 1)) rfl hg ⟨rfl, rfl⟩)
      have HF : Hid (Fresh w [g]) := Lib.hid ⟨by simp, fun b hm => by simp at hm; have := hbw.size; omega⟩
      have HNE : Hid (w.heap.size ∉ [g]) := Lib.hid (by simp; omega)
      have hb2w : Below w.heap.size w w2 := bel
      clear hg hgs
      go_wp2_with fail
      refine (impl_NumText_calls _ _).mono ?_
      rintro e wn1 ⟨rfl, hbn1⟩
      have n1_0 := keepc hbn1 r0
      have n1_1 := keepc hbn1 r1
      have n1_2 := keepc hbn1 r2
      have n1_3 := keepc hbn1 r3
      clear r0 r1 r2 r3
      have zn1 : w.heap.size < wn1.heap.size := World.block_lt_of_cell? _ _ n1_0
      go_wp2_with (at_builtin; refine Paus.out ?_)
      refine ⟨wl_app_one Rp.str _ rfl _ _ 39 rfl 9 16 _ rfl rfl rfl (by decide) (by decide) rfl (xs := [itemWord 1]) (bs := [g]) (HO.out.below bel) (by_ := []) (by rw [List.append_nil]; exact HF.out.1) rfl (y := (numText ob)) (cs := [.string (numText ob)]) ⟨rfl, rfl⟩ (cells_cons (by go_simp) cells_nil) (by simp) ?_⟩
      intro B1 d1 w1_ bs1 hres
      have hbw1 := hres.below (w0 := w) HF.out.2 bel
      have hf1 := hres.fresh (w0 := w) HF.out (fun b hb => by cases hb) (by have := (bel : Below w.heap.size w wn1).size; simp; omega)
      have hne1 : w.heap.size ∉ bs1 := fun hm => by
        rcases hres.sub _ hm with h | h | h
        · exact HNE.out h
        · cases h
        · simp at h; omega
      have a1_0 := hres.chg.cell HNE.out (show World.cell? _ ⟨w.heap.size, 0, none⟩ = some (.int .i64 1) by go_simp)
      have a1_1 := hres.chg.cell HNE.out (show World.cell? _ ⟨w.heap.size, 1, none⟩ = some (.int .i64 ob) by go_simp)
      have a1_2 := hres.chg.cell HNE.out (show World.cell? _ ⟨w.heap.size, 2, none⟩ = some (.int .i64 v) by go_simp)
      have a1_3 := hres.chg.cell HNE.out (show World.cell? _ ⟨w.heap.size, 3, none⟩ = some (.bool b) by go_simp)
      have HO1 := Lib.hid hres.own; have HF1 := Lib.hid hf1; have HNE1 := Lib.hid hne1; clear hres hf1 hne1 n1_0 n1_1 n1_2 n1_3
      have za1 : w.heap.size < w1_.heap.size := World.block_lt_of_cell? _ _ a1_0
      have hv : v ≠ -1 := HD.out (by decide) (by decide)
      have hdv : (v == -1) = false := by simpa using hv
      go_wp2_with fail
      refine (impl_NumText_calls _ _).mono ?_
      rintro e wn2 ⟨rfl, hbn2⟩
      rw [show numText v = valT v from (if_neg hv).symm]
      have n2_0 := keepc hbn2 a1_0
      have n2_1 := keepc hbn2 a1_1
      have n2_2 := keepc hbn2 a1_2
      have n2_3 := keepc hbn2 a1_3
      clear a1_0 a1_1 a1_2 a1_3
      have zn2 : w.heap.size < wn2.heap.size := World.block_lt_of_cell? _ _ n2_0
      go_wp2_with (at_builtin; refine Paus.out ?_)
      refine ⟨wl_app_one Rp.str _ rfl _ _ 39 rfl 9 16 _ rfl rfl rfl (by decide) (by decide) rfl (xs := ([itemWord 1] ++ [(numText ob)])) (bs := bs1) (HO1.out.below bel) (by_ := []) (by rw [List.append_nil]; exact HF1.out.1) rfl (y := (valT v)) (cs := [.string (valT v)]) ⟨rfl, rfl⟩ (cells_cons (by go_simp) cells_nil) (by simp) ?_⟩
      intro B2 d2 w2_ bs2 hres
      have hbw2 := hres.below (w0 := w) HF1.out.2 bel
      have hf2 := hres.fresh (w0 := w) HF1.out (fun b hb => by cases hb) (by have := (bel : Below w.heap.size w wn2).size; simp; omega)
      have hne2 : w.heap.size ∉ bs2 := fun hm => by
        rcases hres.sub _ hm with h | h | h
        · exact HNE1.out h
        · cases h
        · simp at h; omega
      have a2_0 := hres.chg.cell HNE1.out (show World.cell? _ ⟨w.heap.size, 0, none⟩ = some (.int .i64 1) by go_simp)
      have a2_1 := hres.chg.cell HNE1.out (show World.cell? _ ⟨w.heap.size, 1, none⟩ = some (.int .i64 ob) by go_simp)
      have a2_2 := hres.chg.cell HNE1.out (show World.cell? _ ⟨w.heap.size, 2, none⟩ = some (.int .i64 v) by go_simp)
      have a2_3 := hres.chg.cell HNE1.out (show World.cell? _ ⟨w.heap.size, 3, none⟩ = some (.bool b) by go_simp)
      have HO2 := Lib.hid hres.own; have HF2 := Lib.hid hf2; have HNE2 := Lib.hid hne2; clear hres hf2 hne2 n2_0 n2_1 n2_2 n2_3
      have za2 : w.heap.size < w2_.heap.size := World.block_lt_of_cell? _ _ a2_0
      go_wp2_with fail
      refine (joined_calls (([itemWord 1] ++ [(numText ob)]) ++ [(valT v)]) _ _ ⟨#[32]⟩ _ ((row_of HO2.out).2.below bel) (row_of HO2.out).1 (by simp) (fun y hy => itemWords_le (k := 1) (o := ob) (v := v) (b := b) y (by simpa [itemWords] using hy)) (by decide)).mono ?_
      rintro e wj ⟨rfl, hbj⟩
      rw [show joined (([itemWord 1] ++ [(numText ob)]) ++ [(valT v)]) ⟨#[32]⟩ = R by rw [HR.out]; simp [itemWords, sp]]
      go_wp2
      go_ret
      exact ⟨rfl, bel⟩
    · have HR : Hid (R = joined (itemWords 2 ob v b) sp) := HR0; clear HR0
      go_enter Tryd.func12, Tryd.ntmps12
      go_wp2_with fail
      refine (impl_ItemOk_calls ⟨2, ob, v, b⟩ [_, _, _, _] _ (kItem_mk _ _)).mono ?_
      rintro e w1 ⟨rfl, hb1⟩
      rw [hok]
      have q0 : w1.cell? ⟨w.heap.size, 0, none⟩ = some (.int .i64 2) := keepc hb1 (by go_simp)
      have q1 : w1.cell? ⟨w.heap.size, 1, none⟩ = some (.int .i64 ob) := keepc hb1 (by go_simp)
      have q2 : w1.cell? ⟨w.heap.size, 2, none⟩ = some (.int .i64 v) := keepc hb1 (by go_simp)
      have q3 : w1.cell? ⟨w.heap.size, 3, none⟩ = some (.bool b) := keepc hb1 (by go_simp)
      have z1 : w.heap.size < w1.heap.size := World.block_lt_of_cell? w1 _ q0
      have hbw : Below w.heap.size w w1 := bel
      go_wp2_with fail
      go_cut [3] from 7 to 13 (fun v3 wx => ∃ g, v3 = .slice (some ⟨g, 0, none⟩) 1 1 ∧ wx.heap[g]? = some (.cells #[.string (itemWord 2)] 9 (0, 0)) ∧ w1.heap.size ≤ g ∧ Below w1.heap.size w1 wx)
      case first =>
        go_region_with (first | (go_at_call 17; (with_reducible refine (fields_calls _ (tab_below HTAB.out bel)).mono ?_); rintro e w2 ⟨g, rfl, hg, hgs, hb2⟩; have hgm : w2.cell? ⟨g, 1, none⟩ = some (.string (itemWord 2)) := hg 1 (by omega); have k0 : w2.cell? ⟨w.heap.size, 0, none⟩ = _ := keepc bel q0; clear hg))
        all_goals (go_wp2_with fail; go_meet; case rel => exact ⟨_, rfl, blk_alloc' (by simp), (by have := (bel : Below w1.heap.size w1 w2).size; (try simp); omega), bel⟩)
      obtain ⟨g, rfl, hg, hgs, hb2⟩ := hcut
      obtain ⟨w2, rfl⟩ : ∃ wq : World, wq = wc := ⟨_, rfl⟩
      have r0 : w2.cell? ⟨w.heap.size, 0, none⟩ = _ := keepc hb2 q0
      have r1 : w2.cell? ⟨w.heap.size, 1, none⟩ = _ := keepc hb2 q1
      have r2 : w2.cell? ⟨w.heap.size, 2, none⟩ = _ := keepc hb2 q2
      have r3 : w2.cell? ⟨w.heap.size, 3, none⟩ = _ := keepc hb2 q3
      clear q0 q1 q2 q3
      have z2 : w.heap.size < w2.heap.size := World.block_lt_of_cell? w2 _ r0
      have HO := Lib.hid (own_lit1 (d := Rp.str) (x := itemWord 2) (u := .string (itemWord 2)) rfl hg ⟨rfl, rfl⟩)
      have HF : Hid (Fresh w [g]) := Lib.hid ⟨by simp, fun b hm => by simp at hm; have := hbw.size; omega⟩
      have HNE : Hid (w.heap.size ∉ [g]) := Lib.hid (by simp; omega)
      have hb2w : Below w.heap.size w w2 := bel
      clear hg hgs
      go_wp2_with fail
      refine (impl_NumText_calls _ _).mono ?_
      rintro e wn1 ⟨rfl, hbn1⟩
      have n1_0 := keepc hbn1 r0
      have n1_1 := keepc hbn1 r1
      have n1_2 := keepc hbn1 r2
      have n1_3 := keepc hbn1 r3
      clear r0 r1 r2 r3
      have zn1 : w.heap.size < wn1.heap.size := World.block_lt_of_cell? _ _ n1_0
      go_wp2_with (at_builtin; refine Paus.out ?_)
      refine ⟨wl_app_one Rp.str _ rfl _ _ 39 rfl 9 16 _ rfl rfl rfl (by decide) (by decide) rfl (xs := [itemWord 2]) (bs := [g]) (HO.out.below bel) (by_ := []) (by rw [List.append_nil]; exact HF.out.1) rfl (y := (numText ob)) (cs := [.string (numText ob)]) ⟨rfl, rfl⟩ (cells_cons (by go_simp) cells_nil) (by simp) ?_⟩
      intro B1 d1 w1_ bs1 hres
      have hbw1 := hres.below (w0 := w) HF.out.2 bel
      have hf1 := hres.fresh (w0 := w) HF.out (fun b hb => by cases hb) (by have := (bel : Below w.heap.size w wn1).size; simp; omega)
      have hne1 : w.heap.size ∉ bs1 := fun hm => by
        rcases hres.sub _ hm with h | h | h
        · exact HNE.out h
        · cases h
        · simp at h; omega
      have a1_0 := hres.chg.cell HNE.out (show World.cell? _ ⟨w.heap.size, 0, none⟩ = some (.int .i64 2) by go_simp)
      have a1_1 := hres.chg.cell HNE.out (show World.cell? _ ⟨w.heap.size, 1, none⟩ = some (.int .i64 ob) by go_simp)
      have a1_2 := hres.chg.cell HNE.out (show World.cell? _ ⟨w.heap.size, 2, none⟩ = some (.int .i64 v) by go_simp)
      have a1_3 := hres.chg.cell HNE.out (show World.cell? _ ⟨w.heap.size, 3, none⟩ = some (.bool b) by go_simp)
      have HO1 := Lib.hid hres.own; have HF1 := Lib.hid hf1; have HNE1 := Lib.hid hne1; clear hres hf1 hne1 n1_0 n1_1 n1_2 n1_3
      have za1 : w.heap.size < w1_.heap.size := World.block_lt_of_cell? _ _ a1_0
      have hv : v ≠ -1 := HD.out (by decide) (by decide)
      have hdv : (v == -1) = false := by simpa using hv
      go_wp2_with fail
      refine (impl_NumText_calls _ _).mono ?_
      rintro e wn2 ⟨rfl, hbn2⟩
      rw [show numText v = valT v from (if_neg hv).symm]
      have n2_0 := keepc hbn2 a1_0
      have n2_1 := keepc hbn2 a1_1
      have n2_2 := keepc hbn2 a1_2
      have n2_3 := keepc hbn2 a1_3
      clear a1_0 a1_1 a1_2 a1_3
      have zn2 : w.heap.size < wn2.heap.size := World.block_lt_of_cell? _ _ n2_0
      go_wp2_with (at_builtin; refine Paus.out ?_)
      refine ⟨wl_app_one Rp.str _ rfl _ _ 39 rfl 9 16 _ rfl rfl rfl (by decide) (by decide) rfl (xs := ([itemWord 2] ++ [(numText ob)])) (bs := bs1) (HO1.out.below bel) (by_ := []) (by rw [List.append_nil]; exact HF1.out.1) rfl (y := (valT v)) (cs := [.string (valT v)]) ⟨rfl, rfl⟩ (cells_cons (by go_simp) cells_nil) (by simp) ?_⟩
      intro B2 d2 w2_ bs2 hres
      have hbw2 := hres.below (w0 := w) HF1.out.2 bel
      have hf2 := hres.fresh (w0 := w) HF1.out (fun b hb => by cases hb) (by have := (bel : Below w.heap.size w wn2).size; simp; omega)
      have hne2 : w.heap.size ∉ bs2 := fun hm => by
        rcases hres.sub _ hm with h | h | h
        · exact HNE1.out h
        · cases h
        · simp at h; omega
      have a2_0 := hres.chg.cell HNE1.out (show World.cell? _ ⟨w.heap.size, 0, none⟩ = some (.int .i64 2) by go_simp)
      have a2_1 := hres.chg.cell HNE1.out (show World.cell? _ ⟨w.heap.size, 1, none⟩ = some (.int .i64 ob) by go_simp)
      have a2_2 := hres.chg.cell HNE1.out (show World.cell? _ ⟨w.heap.size, 2, none⟩ = some (.int .i64 v) by go_simp)
      have a2_3 := hres.chg.cell HNE1.out (show World.cell? _ ⟨w.heap.size, 3, none⟩ = some (.bool b) by go_simp)
      have HO2 := Lib.hid hres.own; have HF2 := Lib.hid hf2; have HNE2 := Lib.hid hne2; clear hres hf2 hne2 n2_0 n2_1 n2_2 n2_3
      have za2 : w.heap.size < w2_.heap.size := World.block_lt_of_cell? _ _ a2_0
      cases b with
      | false =>
        go_wp2_with (at_builtin; refine Paus.out ?_)
        refine ⟨wl_app_one Rp.str _ rfl _ _ 39 rfl 9 16 _ rfl rfl rfl (by decide) (by decide) rfl (xs := (([itemWord 2] ++ [(numText ob)]) ++ [(valT v)])) (bs := bs2) (HO2.out.below bel) (by_ := []) (by rw [List.append_nil]; exact HF2.out.1) rfl (y := zeroW) (cs := [.string ⟨#[122, 101, 114, 111]⟩]) ⟨rfl, rfl⟩ (cells_cons (by go_simp) cells_nil) (by simp) ?_⟩
        intro B3 d3 w3_ bs3 hres
        have hbw3 := hres.below (w0 := w) HF2.out.2 bel
        have hf3 := hres.fresh (w0 := w) HF2.out (fun b hb => by cases hb) (by have := (bel : Below w.heap.size w w2_).size; simp; omega)
        have hne3 : w.heap.size ∉ bs3 := fun hm => by
          rcases hres.sub _ hm with h | h | h
          · exact HNE2.out h
          · cases h
          · simp at h; omega
        have a3_0 := hres.chg.cell HNE2.out (show World.cell? _ ⟨w.heap.size, 0, none⟩ = some (.int .i64 2) by go_simp)
        have a3_1 := hres.chg.cell HNE2.out (show World.cell? _ ⟨w.heap.size, 1, none⟩ = some (.int .i64 ob) by go_simp)
        have a3_2 := hres.chg.cell HNE2.out (show World.cell? _ ⟨w.heap.size, 2, none⟩ = some (.int .i64 v) by go_simp)
        have a3_3 := hres.chg.cell HNE2.out (show World.cell? _ ⟨w.heap.size, 3, none⟩ = some (.bool false) by go_simp)
        have HO3 := Lib.hid hres.own; have HF3 := Lib.hid hf3; have HNE3 := Lib.hid hne3; clear hres hf3 hne3 a2_0 a2_1 a2_2 a2_3
        have za3 : w.heap.size < w3_.heap.size := World.block_lt_of_cell? _ _ a3_0
        go_wp2_with fail
        refine (joined_calls ((([itemWord 2] ++ [(numText ob)]) ++ [(valT v)]) ++ [zeroW]) _ _ ⟨#[32]⟩ _ ((row_of HO3.out).2.below bel) (row_of HO3.out).1 (by simp) (fun y hy => itemWords_le (k := 2) (o := ob) (v := v) (b := false) y (by simpa [itemWords] using hy)) (by decide)).mono ?_
        rintro e wj ⟨rfl, hbj⟩
        rw [show joined ((([itemWord 2] ++ [(numText ob)]) ++ [(valT v)]) ++ [zeroW]) ⟨#[32]⟩ = R by rw [HR.out]; simp [itemWords, sp]]
        go_wp2
        go_ret
        exact ⟨rfl, bel⟩
      | true =>
        go_wp2_with fail
        refine (joined_calls (([itemWord 2] ++ [(numText ob)]) ++ [(valT v)]) _ _ ⟨#[32]⟩ _ ((row_of HO2.out).2.below bel) (row_of HO2.out).1 (by simp) (fun y hy => itemWords_le (k := 2) (o := ob) (v := v) (b := true) y (by simpa [itemWords] using hy)) (by decide)).mono ?_
        rintro e wj ⟨rfl, hbj⟩
        rw [show joined (([itemWord 2] ++ [(numText ob)]) ++ [(valT v)]) ⟨#[32]⟩ = R by rw [HR.out]; simp [itemWords, sp]]
        go_wp2
        go_ret
        exact ⟨rfl, bel⟩
    · have HR : Hid (R = joined (itemWords 3 ob v b) sp) := HR0; clear HR0
      go_enter Tryd.func12, Tryd.ntmps12
      go_wp2_with fail
      refine (impl_ItemOk_calls ⟨3, ob, v, b⟩ [_, _, _, _] _ (kItem_mk _ _)).mono ?_
      rintro e w1 ⟨rfl, hb1⟩
      rw [hok]
      have q0 : w1.cell? ⟨w.heap.size, 0, none⟩ = some (.int .i64 3) := keepc hb1 (by go_simp)
      have q1 : w1.cell? ⟨w.heap.size, 1, none⟩ = some (.int .i64 ob) := keepc hb1 (by go_simp)
      have q2 : w1.cell? ⟨w.heap.size, 2, none⟩ = some (.int .i64 v) := keepc hb1 (by go_simp)
      have q3 : w1.cell? ⟨w.heap.size, 3, none⟩ = some (.bool b) := keepc hb1 (by go_simp)
      have z1 : w.heap.size < w1.heap.size := World.block_lt_of_cell? w1 _ q0
      have hbw : Below w.heap.size w w1 := bel
      go_wp2_with fail
      go_cut [3] from 7 to 13 (fun v3 wx => ∃ g, v3 = .slice (some ⟨g, 0, none⟩) 1 1 ∧ wx.heap[g]? = some (.cells #[.string (itemWord 3)] 9 (0, 0)) ∧ w1.heap.size ≤ g ∧ Below w1.heap.size w1 wx)
      case first =>
        go_region_with (first | (go_at_call 17; (with_reducible refine (fields_calls _ (tab_below HTAB.out bel)).mono ?_); rintro e w2 ⟨g, rfl, hg, hgs, hb2⟩; have hgm : w2.cell? ⟨g, 2, none⟩ = some (.string (itemWord 3)) := hg 2 (by omega); have k0 : w2.cell? ⟨w.heap.size, 0, none⟩ = _ := keepc bel q0; clear hg))
        all_goals (go_wp2_with fail; go_meet; case rel => exact ⟨_, rfl, blk_alloc' (by simp), (by have := (bel : Below w1.heap.size w1 w2).size; (try simp); omega), bel⟩)
      obtain ⟨g, rfl, hg, hgs, hb2⟩ := hcut
      obtain ⟨w2, rfl⟩ : ∃ wq : World, wq = wc := ⟨_, rfl⟩
      have r0 : w2.cell? ⟨w.heap.size, 0, none⟩ = _ := keepc hb2 q0
      have r1 : w2.cell? ⟨w.heap.size, 1, none⟩ = _ := keepc hb2 q1
      have r2 : w2.cell? ⟨w.heap.size, 2, none⟩ = _ := keepc hb2 q2
      have r3 : w2.cell? ⟨w.heap.size, 3, none⟩ = _ := keepc hb2 q3
      clear q0 q1 q2 q3
      have z2 : w.heap.size < w2.heap.size := World.block_lt_of_cell? w2 _ r0
      have HO := Lib.hid (own_lit1 (d := Rp.str) (x := itemWord 3) (u := .string (itemWord 3)) rfl hg ⟨rfl, rfl⟩)
      have HF : Hid (Fresh w [g]) := Lib.hid ⟨by simp, fun b hm => by simp at hm; have := hbw.size; omega⟩
      have HNE : Hid (w.heap.size ∉ [g]) := Lib.hid (by simp; omega)
      have hb2w : Below w.heap.size w w2 := bel
      clear hg hgs
      go_wp2_with fail
      refine (impl_NumText_calls _ _).mono ?_
      rintro e wn1 ⟨rfl, hbn1⟩
      have n1_0 := keepc hbn1 r0
      have n1_1 := keepc hbn1 r1
      have n1_2 := keepc hbn1 r2
      have n1_3 := keepc hbn1 r3
      clear r0 r1 r2 r3
      have zn1 : w.heap.size < wn1.heap.size := World.block_lt_of_cell? _ _ n1_0
      go_wp2_with (at_builtin; refine Paus.out ?_)
      refine ⟨wl_app_one Rp.str _ rfl _ _ 39 rfl 9 16 _ rfl rfl rfl (by decide) (by decide) rfl (xs := [itemWord 3]) (bs := [g]) (HO.out.below bel) (by_ := []) (by rw [List.append_nil]; exact HF.out.1) rfl (y := (numText ob)) (cs := [.string (numText ob)]) ⟨rfl, rfl⟩ (cells_cons (by go_simp) cells_nil) (by simp) ?_⟩
      intro B1 d1 w1_ bs1 hres
      have hbw1 := hres.below (w0 := w) HF.out.2 bel
      have hf1 := hres.fresh (w0 := w) HF.out (fun b hb => by cases hb) (by have := (bel : Below w.heap.size w wn1).size; simp; omega)
      have hne1 : w.heap.size ∉ bs1 := fun hm => by
        rcases hres.sub _ hm with h | h | h
        · exact HNE.out h
        · cases h
        · simp at h; omega
      have a1_0 := hres.chg.cell HNE.out (show World.cell? _ ⟨w.heap.size, 0, none⟩ = some (.int .i64 3) by go_simp)
      have a1_1 := hres.chg.cell HNE.out (show World.cell? _ ⟨w.heap.size, 1, none⟩ = some (.int .i64 ob) by go_simp)
      have a1_2 := hres.chg.cell HNE.out (show World.cell? _ ⟨w.heap.size, 2, none⟩ = some (.int .i64 v) by go_simp)
      have a1_3 := hres.chg.cell HNE.out (show World.cell? _ ⟨w.heap.size, 3, none⟩ = some (.bool b) by go_simp)
      have HO1 := Lib.hid hres.own; have HF1 := Lib.hid hf1; have HNE1 := Lib.hid hne1; clear hres hf1 hne1 n1_0 n1_1 n1_2 n1_3
      have za1 : w.heap.size < w1_.heap.size := World.block_lt_of_cell? _ _ a1_0
      go_wp2_with fail
      refine (joined_calls ([itemWord 3] ++ [(numText ob)]) _ _ ⟨#[32]⟩ _ ((row_of HO1.out).2.below bel) (row_of HO1.out).1 (by simp) (fun y hy => itemWords_le (k := 3) (o := ob) (v := v) (b := b) y (by simpa [itemWords] using hy)) (by decide)).mono ?_
      rintro e wj ⟨rfl, hbj⟩
      rw [show joined ([itemWord 3] ++ [(numText ob)]) ⟨#[32]⟩ = R by rw [HR.out]; simp [itemWords, sp]]
      go_wp2
      go_ret
      exact ⟨rfl, bel⟩
    · have HR : Hid (R = joined (itemWords 4 ob v b) sp) := HR0; clear HR0
      go_enter Tryd.func12, Tryd.ntmps12
      go_wp2_with fail
      refine (impl_ItemOk_calls ⟨4, ob, v, b⟩ [_, _, _, _] _ (kItem_mk _ _)).mono ?_
      rintro e w1 ⟨rfl, hb1⟩
      rw [hok]
      have q0 : w1.cell? ⟨w.heap.size, 0, none⟩ = some (.int .i64 4) := keepc hb1 (by go_simp)
      have q1 : w1.cell? ⟨w.heap.size, 1, none⟩ = some (.int .i64 ob) := keepc hb1 (by go_simp)
      have q2 : w1.cell? ⟨w.heap.size, 2, none⟩ = some (.int .i64 v) := keepc hb1 (by go_simp)
      have q3 : w1.cell? ⟨w.heap.size, 3, none⟩ = some (.bool b) := keepc hb1 (by go_simp)
      have z1 : w.heap.size < w1.heap.size := World.block_lt_of_cell? w1 _ q0
      have hbw : Below w.heap.size w w1 := bel
      go_wp2_with fail
      go_cut [3] from 7 to 13 (fun v3 wx => ∃ g, v3 = .slice (some ⟨g, 0, none⟩) 1 1 ∧ wx.heap[g]? = some (.cells #[.string (itemWord 4)] 9 (0, 0)) ∧ w1.heap.size ≤ g ∧ Below w1.heap.size w1 wx)
      case first =>
        go_region_with (first | (go_at_call 17; (with_reducible refine (fields_calls _ (tab_below HTAB.out bel)).mono ?_); rintro e w2 ⟨g, rfl, hg, hgs, hb2⟩; have hgm : w2.cell? ⟨g, 3, none⟩ = some (.string (itemWord 4)) := hg 3 (by omega); have k0 : w2.cell? ⟨w.heap.size, 0, none⟩ = _ := keepc bel q0; clear hg))
        all_goals (go_wp2_with fail; go_meet; case rel => exact ⟨_, rfl, blk_alloc' (by simp), (by have := (bel : Below w1.heap.size w1 w2).size; (try simp); omega), bel⟩)
      obtain ⟨g, rfl, hg, hgs, hb2⟩ := hcut
      obtain ⟨w2, rfl⟩ : ∃ wq : World, wq = wc := ⟨_, rfl⟩
      have r0 : w2.cell? ⟨w.heap.size, 0, none⟩ = _ := keepc hb2 q0
      have r1 : w2.cell? ⟨w.heap.size, 1, none⟩ = _ := keepc hb2 q1
      have r2 : w2.cell? ⟨w.heap.size, 2, none⟩ = _ := keepc hb2 q2
      have r3 : w2.cell? ⟨w.heap.size, 3, none⟩ = _ := keepc hb2 q3
      clear q0 q1 q2 q3
      have z2 : w.heap.size < w2.heap.size := World.block_lt_of_cell? w2 _ r0
      have HO := Lib.hid (own_lit1 (d := Rp.str) (x := itemWord 4) (u := .string (itemWord 4)) rfl hg ⟨rfl, rfl⟩)
      have HF : Hid (Fresh w [g]) := Lib.hid ⟨by simp, fun b hm => by simp at hm; have := hbw.size; omega⟩
      have HNE : Hid (w.heap.size ∉ [g]) := Lib.hid (by simp; omega)
      have hb2w : Below w.heap.size w w2 := bel
      clear hg hgs
      go_wp2_with fail
      refine (impl_NumText_calls _ _).mono ?_
      rintro e wn1 ⟨rfl, hbn1⟩
      have n1_0 := keepc hbn1 r0
      have n1_1 := keepc hbn1 r1
      have n1_2 := keepc hbn1 r2
      have n1_3 := keepc hbn1 r3
      clear r0 r1 r2 r3
      have zn1 : w.heap.size < wn1.heap.size := World.block_lt_of_cell? _ _ n1_0
      go_wp2_with (at_builtin; refine Paus.out ?_)
      refine ⟨wl_app_one Rp.str _ rfl _ _ 39 rfl 9 16 _ rfl rfl rfl (by decide) (by decide) rfl (xs := [itemWord 4]) (bs := [g]) (HO.out.below bel) (by_ := []) (by rw [List.append_nil]; exact HF.out.1) rfl (y := (numText ob)) (cs := [.string (numText ob)]) ⟨rfl, rfl⟩ (cells_cons (by go_simp) cells_nil) (by simp) ?_⟩
      intro B1 d1 w1_ bs1 hres
      have hbw1 := hres.below (w0 := w) HF.out.2 bel
      have hf1 := hres.fresh (w0 := w) HF.out (fun b hb => by cases hb) (by have := (bel : Below w.heap.size w wn1).size; simp; omega)
      have hne1 : w.heap.size ∉ bs1 := fun hm => by
        rcases hres.sub _ hm with h | h | h
        · exact HNE.out h
        · cases h
        · simp at h; omega
      have a1_0 := hres.chg.cell HNE.out (show World.cell? _ ⟨w.heap.size, 0, none⟩ = some (.int .i64 4) by go_simp)
      have a1_1 := hres.chg.cell HNE.out (show World.cell? _ ⟨w.heap.size, 1, none⟩ = some (.int .i64 ob) by go_simp)
      have a1_2 := hres.chg.cell HNE.out (show World.cell? _ ⟨w.heap.size, 2, none⟩ = some (.int .i64 v) by go_simp)
      have a1_3 := hres.chg.cell HNE.out (show World.cell? _ ⟨w.heap.size, 3, none⟩ = some (.bool b) by go_simp)
      have HO1 := Lib.hid hres.own; have HF1 := Lib.hid hf1; have HNE1 := Lib.hid hne1; clear hres hf1 hne1 n1_0 n1_1 n1_2 n1_3
      have za1 : w.heap.size < w1_.heap.size := World.block_lt_of_cell? _ _ a1_0
      by_cases hv : v = -1
      · subst hv
        go_wp2_with (at_builtin; refine Paus.out ?_)
        refine ⟨wl_app_one Rp.str _ rfl _ _ 39 rfl 9 16 _ rfl rfl rfl (by decide) (by decide) rfl (xs := ([itemWord 4] ++ [(numText ob)])) (bs := bs1) (HO1.out.below bel) (by_ := []) (by rw [List.append_nil]; exact HF1.out.1) rfl (y := (valT (-1))) (cs := [.string ⟨#[101, 108, 115, 101]⟩]) ⟨rfl, rfl⟩ (cells_cons (by go_simp) cells_nil) (by simp) ?_⟩
        intro B2 d2 w2_ bs2 hres
        have hbw2 := hres.below (w0 := w) HF1.out.2 bel
        have hf2 := hres.fresh (w0 := w) HF1.out (fun b hb => by cases hb) (by have := (bel : Below w.heap.size w w1_).size; simp; omega)
        have hne2 : w.heap.size ∉ bs2 := fun hm => by
          rcases hres.sub _ hm with h | h | h
          · exact HNE1.out h
          · cases h
          · simp at h; omega
        have a2_0 := hres.chg.cell HNE1.out (show World.cell? _ ⟨w.heap.size, 0, none⟩ = some (.int .i64 4) by go_simp)
        have a2_1 := hres.chg.cell HNE1.out (show World.cell? _ ⟨w.heap.size, 1, none⟩ = some (.int .i64 ob) by go_simp)
        have a2_2 := hres.chg.cell HNE1.out (show World.cell? _ ⟨w.heap.size, 2, none⟩ = some (.int .i64 (-1)) by go_simp)
        have a2_3 := hres.chg.cell HNE1.out (show World.cell? _ ⟨w.heap.size, 3, none⟩ = some (.bool b) by go_simp)
        have HO2 := Lib.hid hres.own; have HF2 := Lib.hid hf2; have HNE2 := Lib.hid hne2; clear hres hf2 hne2 a1_0 a1_1 a1_2 a1_3
        have za2 : w.heap.size < w2_.heap.size := World.block_lt_of_cell? _ _ a2_0
        go_wp2_with fail
        refine (joined_calls (([itemWord 4] ++ [(numText ob)]) ++ [(valT (-1))]) _ _ ⟨#[32]⟩ _ ((row_of HO2.out).2.below bel) (row_of HO2.out).1 (by simp) (fun y hy => itemWords_le (k := 4) (o := ob) (v := -1) (b := b) y (by simpa [itemWords] using hy)) (by decide)).mono ?_
        rintro e wj ⟨rfl, hbj⟩
        rw [show joined (([itemWord 4] ++ [(numText ob)]) ++ [(valT (-1))]) ⟨#[32]⟩ = R by rw [HR.out]; simp [itemWords, sp]]
        go_wp2
        go_ret
        exact ⟨rfl, bel⟩
      · have hdv : (v == -1) = false := by simpa using hv
        go_wp2_with fail
        refine (impl_NumText_calls _ _).mono ?_
        rintro e wn2 ⟨rfl, hbn2⟩
        rw [show numText v = valT v from (if_neg hv).symm]
        have n2_0 := keepc hbn2 a1_0
        have n2_1 := keepc hbn2 a1_1
        have n2_2 := keepc hbn2 a1_2
        have n2_3 := keepc hbn2 a1_3
        clear a1_0 a1_1 a1_2 a1_3
        have zn2 : w.heap.size < wn2.heap.size := World.block_lt_of_cell? _ _ n2_0
        go_wp2_with (at_builtin; refine Paus.out ?_)
        refine ⟨wl_app_one Rp.str _ rfl _ _ 39 rfl 9 16 _ rfl rfl rfl (by decide) (by decide) rfl (xs := ([itemWord 4] ++ [(numText ob)])) (bs := bs1) (HO1.out.below bel) (by_ := []) (by rw [List.append_nil]; exact HF1.out.1) rfl (y := (valT v)) (cs := [.string (valT v)]) ⟨rfl, rfl⟩ (cells_cons (by go_simp) cells_nil) (by simp) ?_⟩
        intro B2 d2 w2_ bs2 hres
        have hbw2 := hres.below (w0 := w) HF1.out.2 bel
        have hf2 := hres.fresh (w0 := w) HF1.out (fun b hb => by cases hb) (by have := (bel : Below w.heap.size w wn2).size; simp; omega)
        have hne2 : w.heap.size ∉ bs2 := fun hm => by
          rcases hres.sub _ hm with h | h | h
          · exact HNE1.out h
          · cases h
          · simp at h; omega
        have a2_0 := hres.chg.cell HNE1.out (show World.cell? _ ⟨w.heap.size, 0, none⟩ = some (.int .i64 4) by go_simp)
        have a2_1 := hres.chg.cell HNE1.out (show World.cell? _ ⟨w.heap.size, 1, none⟩ = some (.int .i64 ob) by go_simp)
        have a2_2 := hres.chg.cell HNE1.out (show World.cell? _ ⟨w.heap.size, 2, none⟩ = some (.int .i64 v) by go_simp)
        have a2_3 := hres.chg.cell HNE1.out (show World.cell? _ ⟨w.heap.size, 3, none⟩ = some (.bool b) by go_simp)
        have HO2 := Lib.hid hres.own; have HF2 := Lib.hid hf2; have HNE2 := Lib.hid hne2; clear hres hf2 hne2 n2_0 n2_1 n2_2 n2_3
        have za2 : w.heap.size < w2_.heap.size := World.block_lt_of_cell? _ _ a2_0
        go_wp2_with fail
        refine (joined_calls (([itemWord 4] ++ [(numText ob)]) ++ [(valT v)]) _ _ ⟨#[32]⟩ _ ((row_of HO2.out).2.below bel) (row_of HO2.out).1 (by simp) (fun y hy => itemWords_le (k := 4) (o := ob) (v := v) (b := b) y (by simpa [itemWords] using hy)) (by decide)).mono ?_
        rintro e wj ⟨rfl, hbj⟩
        rw [show joined (([itemWord 4] ++ [(numText ob)]) ++ [(valT v)]) ⟨#[32]⟩ = R by rw [HR.out]; simp [itemWords, sp]]
        go_wp2
        go_ret
        exact ⟨rfl, bel⟩
    · have HR : Hid (R = joined (itemWords 5 ob v b) sp) := HR0; clear HR0
      go_enter Tryd.func12, Tryd.ntmps12
      go_wp2_with fail
      refine (impl_ItemOk_calls ⟨5, ob, v, b⟩ [_, _, _, _] _ (kItem_mk _ _)).mono ?_
      rintro e w1 ⟨rfl, hb1⟩
      rw [hok]
      have q0 : w1.cell? ⟨w.heap.size, 0, none⟩ = some (.int .i64 5) := keepc hb1 (by go_simp)
      have q1 : w1.cell? ⟨w.heap.size, 1, none⟩ = some (.int .i64 ob) := keepc hb1 (by go_simp)
      have q2 : w1.cell? ⟨w.heap.size, 2, none⟩ = some (.int .i64 v) := keepc hb1 (by go_simp)
      have q3 : w1.cell? ⟨w.heap.size, 3, none⟩ = some (.bool b) := keepc hb1 (by go_simp)
      have z1 : w.heap.size < w1.heap.size := World.block_lt_of_cell? w1 _ q0
      have hbw : Below w.heap.size w w1 := bel
      go_wp2_with fail
      go_cut [3] from 7 to 13 (fun v3 wx => ∃ g, v3 = .slice (some ⟨g, 0, none⟩) 1 1 ∧ wx.heap[g]? = some (.cells #[.string (itemWord 5)] 9 (0, 0)) ∧ w1.heap.size ≤ g ∧ Below w1.heap.size w1 wx)
      case first =>
        go_region_with (first | (go_at_call 17; (with_reducible refine (fields_calls _ (tab_below HTAB.out bel)).mono ?_); rintro e w2 ⟨g, rfl, hg, hgs, hb2⟩; have hgm : w2.cell? ⟨g, 4, none⟩ = some (.string (itemWord 5)) := hg 4 (by omega); have k0 : w2.cell? ⟨w.heap.size, 0, none⟩ = _ := keepc bel q0; clear hg))
        all_goals (go_wp2_with fail; go_meet; case rel => exact ⟨_, rfl, blk_alloc' (by simp), (by have := (bel : Below w1.heap.size w1 w2).size; (try simp); omega), bel⟩)
      obtain ⟨g, rfl, hg, hgs, hb2⟩ := hcut
      obtain ⟨w2, rfl⟩ : ∃ wq : World, wq = wc := ⟨_, rfl⟩
      have r0 : w2.cell? ⟨w.heap.size, 0, none⟩ = _ := keepc hb2 q0
      have r1 : w2.cell? ⟨w.heap.size, 1, none⟩ = _ := keepc hb2 q1
      have r2 : w2.cell? ⟨w.heap.size, 2, none⟩ = _ := keepc hb2 q2
      have r3 : w2.cell? ⟨w.heap.size, 3, none⟩ = _ := keepc hb2 q3
      clear q0 q1 q2 q3
      have z2 : w.heap.size < w2.heap.size := World.block_lt_of_cell? w2 _ r0
      have HO := Lib.hid (own_lit1 (d := Rp.str) (x := itemWord 5) (u := .string (itemWord 5)) rfl hg ⟨rfl, rfl⟩)
      have HF : Hid (Fresh w [g]) := Lib.hid ⟨by simp, fun b hm => by simp at hm; have := hbw.size; omega⟩
      have HNE : Hid (w.heap.size ∉ [g]) := Lib.hid (by simp; omega)
      have hb2w : Below w.heap.size w w2 := bel
      clear hg hgs
      go_wp2_with fail
      refine (impl_NumText_calls _ _).mono ?_
      rintro e wn1 ⟨rfl, hbn1⟩
      have n1_0 := keepc hbn1 r0
      have n1_1 := keepc hbn1 r1
      have n1_2 := keepc hbn1 r2
      have n1_3 := keepc hbn1 r3
      clear r0 r1 r2 r3
      have zn1 : w.heap.size < wn1.heap.size := World.block_lt_of_cell? _ _ n1_0
      go_wp2_with (at_builtin; refine Paus.out ?_)
      refine ⟨wl_app_one Rp.str _ rfl _ _ 39 rfl 9 16 _ rfl rfl rfl (by decide) (by decide) rfl (xs := [itemWord 5]) (bs := [g]) (HO.out.below bel) (by_ := []) (by rw [List.append_nil]; exact HF.out.1) rfl (y := (numText ob)) (cs := [.string (numText ob)]) ⟨rfl, rfl⟩ (cells_cons (by go_simp) cells_nil) (by simp) ?_⟩
      intro B1 d1 w1_ bs1 hres
      have hbw1 := hres.below (w0 := w) HF.out.2 bel
      have hf1 := hres.fresh (w0 := w) HF.out (fun b hb => by cases hb) (by have := (bel : Below w.heap.size w wn1).size; simp; omega)
      have hne1 : w.heap.size ∉ bs1 := fun hm => by
        rcases hres.sub _ hm with h | h | h
        · exact HNE.out h
        · cases h
        · simp at h; omega
      have a1_0 := hres.chg.cell HNE.out (show World.cell? _ ⟨w.heap.size, 0, none⟩ = some (.int .i64 5) by go_simp)
      have a1_1 := hres.chg.cell HNE.out (show World.cell? _ ⟨w.heap.size, 1, none⟩ = some (.int .i64 ob) by go_simp)
      have a1_2 := hres.chg.cell HNE.out (show World.cell? _ ⟨w.heap.size, 2, none⟩ = some (.int .i64 v) by go_simp)
      have a1_3 := hres.chg.cell HNE.out (show World.cell? _ ⟨w.heap.size, 3, none⟩ = some (.bool b) by go_simp)
      have HO1 := Lib.hid hres.own; have HF1 := Lib.hid hf1; have HNE1 := Lib.hid hne1; clear hres hf1 hne1 n1_0 n1_1 n1_2 n1_3
      have za1 : w.heap.size < w1_.heap.size := World.block_lt_of_cell? _ _ a1_0
      go_wp2_with fail
      refine (joined_calls ([itemWord 5] ++ [(numText ob)]) _ _ ⟨#[32]⟩ _ ((row_of HO1.out).2.below bel) (row_of HO1.out).1 (by simp) (fun y hy => itemWords_le (k := 5) (o := ob) (v := v) (b := b) y (by simpa [itemWords] using hy)) (by decide)).mono ?_
      rintro e wj ⟨rfl, hbj⟩
      rw [show joined ([itemWord 5] ++ [(numText ob)]) ⟨#[32]⟩ = R by rw [HR.out]; simp [itemWords, sp]]
      go_wp2
      go_ret
      exact ⟨rfl, bel⟩
    · have HR : Hid (R = joined (itemWords 6 ob v b) sp) := HR0; clear HR0
      go_enter Tryd.func12, Tryd.ntmps12
      go_wp2_with fail
      refine (impl_ItemOk_calls ⟨6, ob, v, b⟩ [_, _, _, _] _ (kItem_mk _ _)).mono ?_
      rintro e w1 ⟨rfl, hb1⟩
      rw [hok]
      have q0 : w1.cell? ⟨w.heap.size, 0, none⟩ = some (.int .i64 6) := keepc hb1 (by go_simp)
      have q1 : w1.cell? ⟨w.heap.size, 1, none⟩ = some (.int .i64 ob) := keepc hb1 (by go_simp)
      have q2 : w1.cell? ⟨w.heap.size, 2, none⟩ = some (.int .i64 v) := keepc hb1 (by go_simp)
      have q3 : w1.cell? ⟨w.heap.size, 3, none⟩ = some (.bool b) := keepc hb1 (by go_simp)
      have z1 : w.heap.size < w1.heap.size := World.block_lt_of_cell? w1 _ q0
      have hbw : Below w.heap.size w w1 := bel
      go_wp2_with fail
      go_cut [3] from 7 to 13 (fun v3 wx => ∃ g, v3 = .slice (some ⟨g, 0, none⟩) 1 1 ∧ wx.heap[g]? = some (.cells #[.string (itemWord 6)] 9 (0, 0)) ∧ w1.heap.size ≤ g ∧ Below w1.heap.size w1 wx)
      case first =>
        go_region_with (first | (go_at_call 17; (with_reducible refine (fields_calls _ (tab_below HTAB.out bel)).mono ?_); rintro e w2 ⟨g, rfl, hg, hgs, hb2⟩; have hgm : w2.cell? ⟨g, 5, none⟩ = some (.string (itemWord 6)) := hg 5 (by omega); have k0 : w2.cell? ⟨w.heap.size, 0, none⟩ = _ := keepc bel q0; clear hg))
        all_goals (go_wp2_with fail; go_meet; case rel => exact ⟨_, rfl, blk_alloc' (by simp), (by have := (bel : Below w1.heap.size w1 w2).size; (try simp); omega), bel⟩)
      obtain ⟨g, rfl, hg, hgs, hb2⟩ := hcut
      obtain ⟨w2, rfl⟩ : ∃ wq : World, wq = wc := ⟨_, rfl⟩
      have r0 : w2.cell? ⟨w.heap.size, 0, none⟩ = _ := keepc hb2 q0
      have r1 : w2.cell? ⟨w.heap.size, 1, none⟩ = _ := keepc hb2 q1
      have r2 : w2.cell? ⟨w.heap.size, 2, none⟩ = _ := keepc hb2 q2
      have r3 : w2.cell? ⟨w.heap.size, 3, none⟩ = _ := keepc hb2 q3
      clear q0 q1 q2 q3
      have z2 : w.heap.size < w2.heap.size := World.block_lt_of_cell? w2 _ r0
      have HO := Lib.hid (own_lit1 (d := Rp.str) (x := itemWord 6) (u := .string (itemWord 6)) rfl hg ⟨rfl, rfl⟩)
      have HF : Hid (Fresh w [g]) := Lib.hid ⟨by simp, fun b hm => by simp at hm; have := hbw.size; omega⟩
      have HNE : Hid (w.heap.size ∉ [g]) := Lib.hid (by simp; omega)
      have hb2w : Below w.heap.size w w2 := bel
      clear hg hgs
      go_wp2_with fail
      refine (impl_NumText_calls _ _).mono ?_
      rintro e wn1 ⟨rfl, hbn1⟩
      have n1_0 := keepc hbn1 r0
      have n1_1 := keepc hbn1 r1
      have n1_2 := keepc hbn1 r2
      have n1_3 := keepc hbn1 r3
      clear r0 r1 r2 r3
      have zn1 : w.heap.size < wn1.heap.size := World.block_lt_of_cell? _ _ n1_0
      go_wp2_with (at_builtin; refine Paus.out ?_)
      refine ⟨wl_app_one Rp.str _ rfl _ _ 39 rfl 9 16 _ rfl rfl rfl (by decide) (by decide) rfl (xs := [itemWord 6]) (bs := [g]) (HO.out.below bel) (by_ := []) (by rw [List.append_nil]; exact HF.out.1) rfl (y := (numText ob)) (cs := [.string (numText ob)]) ⟨rfl, rfl⟩ (cells_cons (by go_simp) cells_nil) (by simp) ?_⟩
      intro B1 d1 w1_ bs1 hres
      have hbw1 := hres.below (w0 := w) HF.out.2 bel
      have hf1 := hres.fresh (w0 := w) HF.out (fun b hb => by cases hb) (by have := (bel : Below w.heap.size w wn1).size; simp; omega)
      have hne1 : w.heap.size ∉ bs1 := fun hm => by
        rcases hres.sub _ hm with h | h | h
        · exact HNE.out h
        · cases h
        · simp at h; omega
      have a1_0 := hres.chg.cell HNE.out (show World.cell? _ ⟨w.heap.size, 0, none⟩ = some (.int .i64 6) by go_simp)
      have a1_1 := hres.chg.cell HNE.out (show World.cell? _ ⟨w.heap.size, 1, none⟩ = some (.int .i64 ob) by go_simp)
      have a1_2 := hres.chg.cell HNE.out (show World.cell? _ ⟨w.heap.size, 2, none⟩ = some (.int .i64 v) by go_simp)
      have a1_3 := hres.chg.cell HNE.out (show World.cell? _ ⟨w.heap.size, 3, none⟩ = some (.bool b) by go_simp)
      have HO1 := Lib.hid hres.own; have HF1 := Lib.hid hf1; have HNE1 := Lib.hid hne1; clear hres hf1 hne1 n1_0 n1_1 n1_2 n1_3
      have za1 : w.heap.size < w1_.heap.size := World.block_lt_of_cell? _ _ a1_0
      go_wp2_with fail
      refine (joined_calls ([itemWord 6] ++ [(numText ob)]) _ _ ⟨#[32]⟩ _ ((row_of HO1.out).2.below bel) (row_of HO1.out).1 (by simp) (fun y hy => itemWords_le (k := 6) (o := ob) (v := v) (b := b) y (by simpa [itemWords] using hy)) (by decide)).mono ?_
      rintro e wj ⟨rfl, hbj⟩
      rw [show joined ([itemWord 6] ++ [(numText ob)]) ⟨#[32]⟩ = R by rw [HR.out]; simp [itemWords, sp]]
      go_wp2
      go_ret
      exact ⟨rfl, bel⟩
    · have HR : Hid (R = joined (itemWords 7 ob v b) sp) := HR0; clear HR0
      go_enter Tryd.func12, Tryd.ntmps12
      go_wp2_with fail
      refine (impl_ItemOk_calls ⟨7, ob, v, b⟩ [_, _, _, _] _ (kItem_mk _ _)).mono ?_
      rintro e w1 ⟨rfl, hb1⟩
      rw [hok]
      have q0 : w1.cell? ⟨w.heap.size, 0, none⟩ = some (.int .i64 7) := keepc hb1 (by go_simp)
      have q1 : w1.cell? ⟨w.heap.size, 1, none⟩ = some (.int .i64 ob) := keepc hb1 (by go_simp)
      have q2 : w1.cell? ⟨w.heap.size, 2, none⟩ = some (.int .i64 v) := keepc hb1 (by go_simp)
      have q3 : w1.cell? ⟨w.heap.size, 3, none⟩ = some (.bool b) := keepc hb1 (by go_simp)
      have z1 : w.heap.size < w1.heap.size := World.block_lt_of_cell? w1 _ q0
      have hbw : Below w.heap.size w w1 := bel
      go_wp2_with fail
      go_cut [3] from 7 to 13 (fun v3 wx => ∃ g, v3 = .slice (some ⟨g, 0, none⟩) 1 1 ∧ wx.heap[g]? = some (.cells #[.string (itemWord 7)] 9 (0, 0)) ∧ w1.heap.size ≤ g ∧ Below w1.heap.size w1 wx)
      case first =>
        go_region_with (first | (go_at_call 17; (with_reducible refine (fields_calls _ (tab_below HTAB.out bel)).mono ?_); rintro e w2 ⟨g, rfl, hg, hgs, hb2⟩; have hgm : w2.cell? ⟨g, 6, none⟩ = some (.string (itemWord 7)) := hg 6 (by omega); have k0 : w2.cell? ⟨w.heap.size, 0, none⟩ = _ := keepc bel q0; clear hg))
        all_goals (go_wp2_with fail; go_meet; case rel => exact ⟨_, rfl, blk_alloc' (by simp), (by have := (bel : Below w1.heap.size w1 w2).size; (try simp); omega), bel⟩)
      obtain ⟨g, rfl, hg, hgs, hb2⟩ := hcut
      obtain ⟨w2, rfl⟩ : ∃ wq : World, wq = wc := ⟨_, rfl⟩
      have r0 : w2.cell? ⟨w.heap.size, 0, none⟩ = _ := keepc hb2 q0
      have r1 : w2.cell? ⟨w.heap.size, 1, none⟩ = _ := keepc hb2 q1
      have r2 : w2.cell? ⟨w.heap.size, 2, none⟩ = _ := keepc hb2 q2
      have r3 : w2.cell? ⟨w.heap.size, 3, none⟩ = _ := keepc hb2 q3
      clear q0 q1 q2 q3
      have z2 : w.heap.size < w2.heap.size := World.block_lt_of_cell? w2 _ r0
      have HO := Lib.hid (own_lit1 (d := Rp.str) (x := itemWord 7) (u := .string (itemWord 7)) rfl hg ⟨rfl, rfl⟩)
      have HF : Hid (Fresh w [g]) := Lib.hid ⟨by simp, fun b hm => by simp at hm; have := hbw.size; omega⟩
      have HNE : Hid (w.heap.size ∉ [g]) := Lib.hid (by simp; omega)
      have hb2w : Below w.heap.size w w2 := bel
      clear hg hgs
      go_wp2_with fail
      refine (impl_NumText_calls _ _).mono ?_
      rintro e wn1 ⟨rfl, hbn1⟩
      have n1_0 := keepc hbn1 r0
      have n1_1 := keepc hbn1 r1
      have n1_2 := keepc hbn1 r2
      have n1_3 := keepc hbn1 r3
      clear r0 r1 r2 r3
      have zn1 : w.heap.size < wn1.heap.size := World.block_lt_of_cell? _ _ n1_0
      go_wp2_with (at_builtin; refine Paus.out ?_)
      refine ⟨wl_app_one Rp.str _ rfl _ _ 39 rfl 9 16 _ rfl rfl rfl (by decide) (by decide) rfl (xs := [itemWord 7]) (bs := [g]) (HO.out.below bel) (by_ := []) (by rw [List.append_nil]; exact HF.out.1) rfl (y := (numText ob)) (cs := [.string (numText ob)]) ⟨rfl, rfl⟩ (cells_cons (by go_simp) cells_nil) (by simp) ?_⟩
      intro B1 d1 w1_ bs1 hres
      have hbw1 := hres.below (w0 := w) HF.out.2 bel
      have hf1 := hres.fresh (w0 := w) HF.out (fun b hb => by cases hb) (by have := (bel : Below w.heap.size w wn1).size; simp; omega)
      have hne1 : w.heap.size ∉ bs1 := fun hm => by
        rcases hres.sub _ hm with h | h | h
        · exact HNE.out h
        · cases h
        · simp at h; omega
      have a1_0 := hres.chg.cell HNE.out (show World.cell? _ ⟨w.heap.size, 0, none⟩ = some (.int .i64 7) by go_simp)
      have a1_1 := hres.chg.cell HNE.out (show World.cell? _ ⟨w.heap.size, 1, none⟩ = some (.int .i64 ob) by go_simp)
      have a1_2 := hres.chg.cell HNE.out (show World.cell? _ ⟨w.heap.size, 2, none⟩ = some (.int .i64 v) by go_simp)
      have a1_3 := hres.chg.cell HNE.out (show World.cell? _ ⟨w.heap.size, 3, none⟩ = some (.bool b) by go_simp)
      have HO1 := Lib.hid hres.own; have HF1 := Lib.hid hf1; have HNE1 := Lib.hid hne1; clear hres hf1 hne1 n1_0 n1_1 n1_2 n1_3
      have za1 : w.heap.size < w1_.heap.size := World.block_lt_of_cell? _ _ a1_0
      have hv : v ≠ -1 := HD.out (by decide) (by decide)
      have hdv : (v == -1) = false := by simpa using hv
      go_wp2_with fail
      refine (impl_NumText_calls _ _).mono ?_
      rintro e wn2 ⟨rfl, hbn2⟩
      rw [show numText v = valT v from (if_neg hv).symm]
      have n2_0 := keepc hbn2 a1_0
      have n2_1 := keepc hbn2 a1_1
      have n2_2 := keepc hbn2 a1_2
      have n2_3 := keepc hbn2 a1_3
      clear a1_0 a1_1 a1_2 a1_3
      have zn2 : w.heap.size < wn2.heap.size := World.block_lt_of_cell? _ _ n2_0
      go_wp2_with (at_builtin; refine Paus.out ?_)
      refine ⟨wl_app_one Rp.str _ rfl _ _ 39 rfl 9 16 _ rfl rfl rfl (by decide) (by decide) rfl (xs := ([itemWord 7] ++ [(numText ob)])) (bs := bs1) (HO1.out.below bel) (by_ := []) (by rw [List.append_nil]; exact HF1.out.1) rfl (y := (valT v)) (cs := [.string (valT v)]) ⟨rfl, rfl⟩ (cells_cons (by go_simp) cells_nil) (by simp) ?_⟩
      intro B2 d2 w2_ bs2 hres
      have hbw2 := hres.below (w0 := w) HF1.out.2 bel
      have hf2 := hres.fresh (w0 := w) HF1.out (fun b hb => by cases hb) (by have := (bel : Below w.heap.size w wn2).size; simp; omega)
      have hne2 : w.heap.size ∉ bs2 := fun hm => by
        rcases hres.sub _ hm with h | h | h
        · exact HNE1.out h
        · cases h
        · simp at h; omega
      have a2_0 := hres.chg.cell HNE1.out (show World.cell? _ ⟨w.heap.size, 0, none⟩ = some (.int .i64 7) by go_simp)
      have a2_1 := hres.chg.cell HNE1.out (show World.cell? _ ⟨w.heap.size, 1, none⟩ = some (.int .i64 ob) by go_simp)
      have a2_2 := hres.chg.cell HNE1.out (show World.cell? _ ⟨w.heap.size, 2, none⟩ = some (.int .i64 v) by go_simp)
      have a2_3 := hres.chg.cell HNE1.out (show World.cell? _ ⟨w.heap.size, 3, none⟩ = some (.bool b) by go_simp)
      have HO2 := Lib.hid hres.own; have HF2 := Lib.hid hf2; have HNE2 := Lib.hid hne2; clear hres hf2 hne2 n2_0 n2_1 n2_2 n2_3
      have za2 : w.heap.size < w2_.heap.size := World.block_lt_of_cell? _ _ a2_0
      go_wp2_with fail
      refine (joined_calls (([itemWord 7] ++ [(numText ob)]) ++ [(valT v)]) _ _ ⟨#[32]⟩ _ ((row_of HO2.out).2.below bel) (row_of HO2.out).1 (by simp) (fun y hy => itemWords_le (k := 7) (o := ob) (v := v) (b := b) y (by simpa [itemWords] using hy)) (by decide)).mono ?_
      rintro e wj ⟨rfl, hbj⟩
      rw [show joined (([itemWord 7] ++ [(numText ob)]) ++ [(valT v)]) ⟨#[32]⟩ = R by rw [HR.out]; simp [itemWords, sp]]
      go_wp2
      go_ret
      exact ⟨rfl, bel⟩
    · have HR : Hid (R = joined (itemWords 8 ob v b) sp) := HR0; clear HR0
      go_enter Tryd.func12, Tryd.ntmps12
      go_wp2_with fail
      refine (impl_ItemOk_calls ⟨8, ob, v, b⟩ [_, _, _, _] _ (kItem_mk _ _)).mono ?_
      rintro e w1 ⟨rfl, hb1⟩
      rw [hok]
      have q0 : w1.cell? ⟨w.heap.size, 0, none⟩ = some (.int .i64 8) := keepc hb1 (by go_simp)
      have q1 : w1.cell? ⟨w.heap.size, 1, none⟩ = some (.int .i64 ob) := keepc hb1 (by go_simp)
      have q2 : w1.cell? ⟨w.heap.size, 2, none⟩ = some (.int .i64 v) := keepc hb1 (by go_simp)
      have q3 : w1.cell? ⟨w.heap.size, 3, none⟩ = some (.bool b) := keepc hb1 (by go_simp)
      have z1 : w.heap.size < w1.heap.size := World.block_lt_of_cell? w1 _ q0
      have hbw : Below w.heap.size w w1 := bel
      go_wp2_with fail
      go_cut [3] from 7 to 13 (fun v3 wx => ∃ g, v3 = .slice (some ⟨g, 0, none⟩) 1 1 ∧ wx.heap[g]? = some (.cells #[.string (itemWord 8)] 9 (0, 0)) ∧ w1.heap.size ≤ g ∧ Below w1.heap.size w1 wx)
      case first =>
        go_region_with (first | (go_at_call 17; (with_reducible refine (fields_calls _ (tab_below HTAB.out bel)).mono ?_); rintro e w2 ⟨g, rfl, hg, hgs, hb2⟩; have hgm : w2.cell? ⟨g, 7, none⟩ = some (.string (itemWord 8)) := hg 7 (by omega); have k0 : w2.cell? ⟨w.heap.size, 0, none⟩ = _ := keepc bel q0; clear hg))
        all_goals (go_wp2_with fail; go_meet; case rel => exact ⟨_, rfl, blk_alloc' (by simp), (by have := (bel : Below w1.heap.size w1 w2).size; (try simp); omega), bel⟩)
      obtain ⟨g, rfl, hg, hgs, hb2⟩ := hcut
      obtain ⟨w2, rfl⟩ : ∃ wq : World, wq = wc := ⟨_, rfl⟩
      have r0 : w2.cell? ⟨w.heap.size, 0, none⟩ = _ := keepc hb2 q0
      have r1 : w2.cell? ⟨w.heap.size, 1, none⟩ = _ := keepc hb2 q1
      have r2 : w2.cell? ⟨w.heap.size, 2, none⟩ = _ := keepc hb2 q2
      have r3 : w2.cell? ⟨w.heap.size, 3, none⟩ = _ := keepc hb2 q3
      clear q0 q1 q2 q3
      have z2 : w.heap.size < w2.heap.size := World.block_lt_of_cell? w2 _ r0
      have HO := Lib.hid (own_lit1 (d := Rp.str) (x := itemWord 8) (u := .string (itemWord 8)) rfl hg ⟨rfl, rfl⟩)
      have HF : Hid (Fresh w [g]) := Lib.hid ⟨by simp, fun b hm => by simp at hm; have := hbw.size; omega⟩
      have HNE : Hid (w.heap.size ∉ [g]) := Lib.hid (by simp; omega)
      have hb2w : Below w.heap.size w w2 := bel
      clear hg hgs
      have hv : v ≠ -1 := HD.out (by decide) (by decide)
      have hdv : (v == -1) = false := by simpa using hv
      go_wp2_with fail
      refine (impl_NumText_calls _ _).mono ?_
      rintro e wn1 ⟨rfl, hbn1⟩
      rw [show numText v = valT v from (if_neg hv).symm]
      have n1_0 := keepc hbn1 r0
      have n1_1 := keepc hbn1 r1
      have n1_2 := keepc hbn1 r2
      have n1_3 := keepc hbn1 r3
      clear r0 r1 r2 r3
      have zn1 : w.heap.size < wn1.heap.size := World.block_lt_of_cell? _ _ n1_0
      go_wp2_with (at_builtin; refine Paus.out ?_)
      refine ⟨wl_app_one Rp.str _ rfl _ _ 39 rfl 9 16 _ rfl rfl rfl (by decide) (by decide) rfl (xs := [itemWord 8]) (bs := [g]) (HO.out.below bel) (by_ := []) (by rw [List.append_nil]; exact HF.out.1) rfl (y := (valT v)) (cs := [.string (valT v)]) ⟨rfl, rfl⟩ (cells_cons (by go_simp) cells_nil) (by simp) ?_⟩
      intro B1 d1 w1_ bs1 hres
      have hbw1 := hres.below (w0 := w) HF.out.2 bel
      have hf1 := hres.fresh (w0 := w) HF.out (fun b hb => by cases hb) (by have := (bel : Below w.heap.size w wn1).size; simp; omega)
      have hne1 : w.heap.size ∉ bs1 := fun hm => by
        rcases hres.sub _ hm with h | h | h
        · exact HNE.out h
        · cases h
        · simp at h; omega
      have a1_0 := hres.chg.cell HNE.out (show World.cell? _ ⟨w.heap.size, 0, none⟩ = some (.int .i64 8) by go_simp)
      have a1_1 := hres.chg.cell HNE.out (show World.cell? _ ⟨w.heap.size, 1, none⟩ = some (.int .i64 ob) by go_simp)
      have a1_2 := hres.chg.cell HNE.out (show World.cell? _ ⟨w.heap.size, 2, none⟩ = some (.int .i64 v) by go_simp)
      have a1_3 := hres.chg.cell HNE.out (show World.cell? _ ⟨w.heap.size, 3, none⟩ = some (.bool b) by go_simp)
      have HO1 := Lib.hid hres.own; have HF1 := Lib.hid hf1; have HNE1 := Lib.hid hne1; clear hres hf1 hne1 n1_0 n1_1 n1_2 n1_3
      have za1 : w.heap.size < w1_.heap.size := World.block_lt_of_cell? _ _ a1_0
      go_wp2_with fail
      refine (joined_calls ([itemWord 8] ++ [(valT v)]) _ _ ⟨#[32]⟩ _ ((row_of HO1.out).2.below bel) (row_of HO1.out).1 (by simp) (fun y hy => itemWords_le (k := 8) (o := ob) (v := v) (b := b) y (by simpa [itemWords] using hy)) (by decide)).mono ?_
      rintro e wj ⟨rfl, hbj⟩
      rw [show joined ([itemWord 8] ++ [(valT v)]) ⟨#[32]⟩ = R by rw [HR.out]; simp [itemWords, sp]]
      go_wp2
      go_ret
      exact ⟨rfl, bel⟩
    · have HR : Hid (R = joined (itemWords 9 ob v b) sp) := HR0; clear HR0
      go_enter Tryd.func12, Tryd.ntmps12
      go_wp2_with fail
      refine (impl_ItemOk_calls ⟨9, ob, v, b⟩ [_, _, _, _] _ (kItem_mk _ _)).mono ?_
      rintro e w1 ⟨rfl, hb1⟩
      rw [hok]
      have q0 : w1.cell? ⟨w.heap.size, 0, none⟩ = some (.int .i64 9) := keepc hb1 (by go_simp)
      have q1 : w1.cell? ⟨w.heap.size, 1, none⟩ = some (.int .i64 ob) := keepc hb1 (by go_simp)
      have q2 : w1.cell? ⟨w.heap.size, 2, none⟩ = some (.int .i64 v) := keepc hb1 (by go_simp)
      have q3 : w1.cell? ⟨w.heap.size, 3, none⟩ = some (.bool b) := keepc hb1 (by go_simp)
      have z1 : w.heap.size < w1.heap.size := World.block_lt_of_cell? w1 _ q0
      have hbw : Below w.heap.size w w1 := bel
      go_wp2_with fail
      go_cut [3] from 7 to 13 (fun v3 wx => ∃ g, v3 = .slice (some ⟨g, 0, none⟩) 1 1 ∧ wx.heap[g]? = some (.cells #[.string (itemWord 9)] 9 (0, 0)) ∧ w1.heap.size ≤ g ∧ Below w1.heap.size w1 wx)
      case first =>
        go_region_with (first | (go_at_call 17; (with_reducible refine (fields_calls _ (tab_below HTAB.out bel)).mono ?_); rintro e w2 ⟨g, rfl, hg, hgs, hb2⟩; have hgm : w2.cell? ⟨g, 8, none⟩ = some (.string (itemWord 9)) := hg 8 (by omega); have k0 : w2.cell? ⟨w.heap.size, 0, none⟩ = _ := keepc bel q0; clear hg))
        all_goals (go_wp2_with fail; go_meet; case rel => exact ⟨_, rfl, blk_alloc' (by simp), (by have := (bel : Below w1.heap.size w1 w2).size; (try simp); omega), bel⟩)
      obtain ⟨g, rfl, hg, hgs, hb2⟩ := hcut
      obtain ⟨w2, rfl⟩ : ∃ wq : World, wq = wc := ⟨_, rfl⟩
      have r0 : w2.cell? ⟨w.heap.size, 0, none⟩ = _ := keepc hb2 q0
      have r1 : w2.cell? ⟨w.heap.size, 1, none⟩ = _ := keepc hb2 q1
      have r2 : w2.cell? ⟨w.heap.size, 2, none⟩ = _ := keepc hb2 q2
      have r3 : w2.cell? ⟨w.heap.size, 3, none⟩ = _ := keepc hb2 q3
      clear q0 q1 q2 q3
      have z2 : w.heap.size < w2.heap.size := World.block_lt_of_cell? w2 _ r0
      have HO := Lib.hid (own_lit1 (d := Rp.str) (x := itemWord 9) (u := .string (itemWord 9)) rfl hg ⟨rfl, rfl⟩)
      have HF : Hid (Fresh w [g]) := Lib.hid ⟨by simp, fun b hm => by simp at hm; have := hbw.size; omega⟩
      have HNE : Hid (w.heap.size ∉ [g]) := Lib.hid (by simp; omega)
      have hb2w : Below w.heap.size w w2 := bel
      clear hg hgs
      go_wp2_with fail
      refine (joined_calls [itemWord 9] _ _ ⟨#[32]⟩ _ ((row_of HO.out).2.below bel) (row_of HO.out).1 (by simp) (fun y hy => itemWords_le (k := 9) (o := ob) (v := v) (b := b) y (by simpa [itemWords] using hy)) (by decide)).mono ?_
      rintro e wj ⟨rfl, hbj⟩
      rw [show joined [itemWord 9] ⟨#[32]⟩ = R by rw [HR.out]; simp [itemWords, sp]]
      go_wp2
      go_ret
      exact ⟨rfl, bel⟩
    · have HR : Hid (R = joined (itemWords 10 ob v b) sp) := HR0; clear HR0
      go_enter Tryd.func12, Tryd.ntmps12
      go_wp2_with fail
      refine (impl_ItemOk_calls ⟨10, ob, v, b⟩ [_, _, _, _] _ (kItem_mk _ _)).mono ?_
      rintro e w1 ⟨rfl, hb1⟩
      rw [hok]
      have q0 : w1.cell? ⟨w.heap.size, 0, none⟩ = some (.int .i64 10) := keepc hb1 (by go_simp)
      have q1 : w1.cell? ⟨w.heap.size, 1, none⟩ = some (.int .i64 ob) := keepc hb1 (by go_simp)
      have q2 : w1.cell? ⟨w.heap.size, 2, none⟩ = some (.int .i64 v) := keepc hb1 (by go_simp)
      have q3 : w1.cell? ⟨w.heap.size, 3, none⟩ = some (.bool b) := keepc hb1 (by go_simp)
      have z1 : w.heap.size < w1.heap.size := World.block_lt_of_cell? w1 _ q0
      have hbw : Below w.heap.size w w1 := bel
      go_wp2_with fail
      go_cut [3] from 7 to 13 (fun v3 wx => ∃ g, v3 = .slice (some ⟨g, 0, none⟩) 1 1 ∧ wx.heap[g]? = some (.cells #[.string (itemWord 10)] 9 (0, 0)) ∧ w1.heap.size ≤ g ∧ Below w1.heap.size w1 wx)
      case first =>
        go_region_with (first | (go_at_call 17; (with_reducible refine (fields_calls _ (tab_below HTAB.out bel)).mono ?_); rintro e w2 ⟨g, rfl, hg, hgs, hb2⟩; have hgm : w2.cell? ⟨g, 9, none⟩ = some (.string (itemWord 10)) := hg 9 (by omega); have k0 : w2.cell? ⟨w.heap.size, 0, none⟩ = _ := keepc bel q0; clear hg))
        all_goals (go_wp2_with fail; go_meet; case rel => exact ⟨_, rfl, blk_alloc' (by simp), (by have := (bel : Below w1.heap.size w1 w2).size; (try simp); omega), bel⟩)
      obtain ⟨g, rfl, hg, hgs, hb2⟩ := hcut
      obtain ⟨w2, rfl⟩ : ∃ wq : World, wq = wc := ⟨_, rfl⟩
      have r0 : w2.cell? ⟨w.heap.size, 0, none⟩ = _ := keepc hb2 q0
      have r1 : w2.cell? ⟨w.heap.size, 1, none⟩ = _ := keepc hb2 q1
      have r2 : w2.cell? ⟨w.heap.size, 2, none⟩ = _ := keepc hb2 q2
      have r3 : w2.cell? ⟨w.heap.size, 3, none⟩ = _ := keepc hb2 q3
      clear q0 q1 q2 q3
      have z2 : w.heap.size < w2.heap.size := World.block_lt_of_cell? w2 _ r0
      have HO := Lib.hid (own_lit1 (d := Rp.str) (x := itemWord 10) (u := .string (itemWord 10)) rfl hg ⟨rfl, rfl⟩)
      have HF : Hid (Fresh w [g]) := Lib.hid ⟨by simp, fun b hm => by simp at hm; have := hbw.size; omega⟩
      have HNE : Hid (w.heap.size ∉ [g]) := Lib.hid (by simp; omega)
      have hb2w : Below w.heap.size w w2 := bel
      clear hg hgs
      have hv : v ≠ -1 := HD.out (by decide) (by decide)
      have hdv : (v == -1) = false := by simpa using hv
      go_wp2_with fail
      refine (impl_NumText_calls _ _).mono ?_
      rintro e wn1 ⟨rfl, hbn1⟩
      rw [show numText v = valT v from (if_neg hv).symm]
      have n1_0 := keepc hbn1 r0
      have n1_1 := keepc hbn1 r1
      have n1_2 := keepc hbn1 r2
      have n1_3 := keepc hbn1 r3
      clear r0 r1 r2 r3
      have zn1 : w.heap.size < wn1.heap.size := World.block_lt_of_cell? _ _ n1_0
      go_wp2_with (at_builtin; refine Paus.out ?_)
      refine ⟨wl_app_one Rp.str _ rfl _ _ 39 rfl 9 16 _ rfl rfl rfl (by decide) (by decide) rfl (xs := [itemWord 10]) (bs := [g]) (HO.out.below bel) (by_ := []) (by rw [List.append_nil]; exact HF.out.1) rfl (y := (valT v)) (cs := [.string (valT v)]) ⟨rfl, rfl⟩ (cells_cons (by go_simp) cells_nil) (by simp) ?_⟩
      intro B1 d1 w1_ bs1 hres
      have hbw1 := hres.below (w0 := w) HF.out.2 bel
      have hf1 := hres.fresh (w0 := w) HF.out (fun b hb => by cases hb) (by have := (bel : Below w.heap.size w wn1).size; simp; omega)
      have hne1 : w.heap.size ∉ bs1 := fun hm => by
        rcases hres.sub _ hm with h | h | h
        · exact HNE.out h
        · cases h
        · simp at h; omega
      have a1_0 := hres.chg.cell HNE.out (show World.cell? _ ⟨w.heap.size, 0, none⟩ = some (.int .i64 10) by go_simp)
      have a1_1 := hres.chg.cell HNE.out (show World.cell? _ ⟨w.heap.size, 1, none⟩ = some (.int .i64 ob) by go_simp)
      have a1_2 := hres.chg.cell HNE.out (show World.cell? _ ⟨w.heap.size, 2, none⟩ = some (.int .i64 v) by go_simp)
      have a1_3 := hres.chg.cell HNE.out (show World.cell? _ ⟨w.heap.size, 3, none⟩ = some (.bool b) by go_simp)
      have HO1 := Lib.hid hres.own; have HF1 := Lib.hid hf1; have HNE1 := Lib.hid hne1; clear hres hf1 hne1 n1_0 n1_1 n1_2 n1_3
      have za1 : w.heap.size < w1_.heap.size := World.block_lt_of_cell? _ _ a1_0
      go_wp2_with fail
      refine (joined_calls ([itemWord 10] ++ [(valT v)]) _ _ ⟨#[32]⟩ _ ((row_of HO1.out).2.below bel) (row_of HO1.out).1 (by simp) (fun y hy => itemWords_le (k := 10) (o := ob) (v := v) (b := b) y (by simpa [itemWords] using hy)) (by decide)).mono ?_
      rintro e wj ⟨rfl, hbj⟩
      rw [show joined ([itemWord 10] ++ [(valT v)]) ⟨#[32]⟩ = R by rw [HR.out]; simp [itemWords, sp]]
      go_wp2
      go_ret
      exact ⟨rfl, bel⟩
end Go.Proofs.YtplkfpjcfalifaaDoor.Wd

/- Printed by a program for this claim. -/
import Derived.Test.YtcidbencoebfaaaDoorPTx0
import Derived.Test.YtcidbencoebfaaaDoorPTx3
namespace Go.Proofs.YtcidbencoebfaaaDoor.PT
open Go.RowKit Go.Proofs.YtcidbencoebfaaaDoorW.PrintWords Go.Proofs.YtcidbencoebfaaaDoorW.PrintLast Go.Proofs.YtcidbencoebfaaaDoorW.PrintMore
set_option linter.unusedVariables false
set_option linter.unusedSimpArgs false


mutual
def impl_TextCmd.l0 : Nat → List ByteArray → Int → Option (Int × Int × Int × (List (S32)) × Bool)
 | 0, _, _ => none
 | k + 1, x4, x5 => if x5 ≤ 8 then ((impl_cmdForm.f x5).bind fun bt175 => (if 0 < (x4.length : Int) then (if bt175.1.toList = (rdOf ByteArray.empty x4 0).toList then (if bt175.2.2 = true then (impl_TextCmd.j1 k x4 x5 bt175.2.2 false) else (impl_TextCmd.j1 k x4 x5 bt175.2.2 ((x4.length : Int) != (wrap64 (bt175.2.1 + 1))))) else (impl_TextCmd.j1 k x4 x5 bt175.2.2 true)) else (none))) else (some (0, 0, 0, ([] : List (S32)), false))
def impl_TextCmd.j1 : Nat → List ByteArray → Int → Bool → Bool → Option (Int × Int × Int × (List (S32)) × Bool)
 | 0, _, _, _, _ => none
 | k + 1, x4, x5, x8, x45 => if x45 = true then (impl_TextCmd.l0 k x4 (wrap64 (x5 + 1))) else (if 1 ≤ (x4.length : Int) then ((some (x4.drop (1 : Int).toNat : List ByteArray)).bind fun y180 => (impl_TextCmd.l1 k x8 y180 (y180.length : Int) 0 x5 0 0 ([] : List (S32)))) else (none))
def impl_TextCmd.l1 : Nat → Bool → List ByteArray → Int → Int → Int → Int → Int → List (S32) → Option (Int × Int × Int × (List (S32)) × Bool)
 | 0, _, _, _, _, _, _, _, _ => none
 | k + 1, x8, x49, x50, x51, x180000, x180001, x180002, x180003 => if x51 < x50 then (if 0 ≤ x51 then (if x51 < (x49.length : Int) then ((strings_Cut.f (rdOf ByteArray.empty x49 x51) (⟨#[58]⟩ : ByteArray)).bind fun bt184 => ((impl_TextNum.f k bt184.1).bind fun bt187 => (if bt184.2.2 = true then (impl_TextCmd.j3 k x8 x51 bt184.2.1 bt184.2.2 bt187.1 bt187.2 0 x49 x50 x51 bt187.2 x180000 x180001 x180002 x180003) else (impl_TextCmd.j3 k x8 x51 bt184.2.1 bt184.2.2 bt187.1 bt187.2 0 x49 x50 x51 false x180000 x180001 x180002 x180003)))) else (none)) else (none)) else (some (x180000, x180001, x180002, x180003, true))
def impl_TextCmd.j3 : Nat → Bool → Int → ByteArray → Bool → Int → Bool → Int → List ByteArray → Int → Int → Bool → Int → Int → Int → List (S32) → Option (Int × Int × Int × (List (S32)) × Bool)
 | 0, _, _, _, _, _, _, _, _, _, _, _, _, _, _, _ => none
 | k + 1, x8, x10, x13, x14, x15, x16, x17, x49, x50, x51, x70, x180000, x180001, x180002, x180003 => if x70 = true then ((impl_TextNum.f k x13).bind fun bt189 => (impl_TextCmd.j4 k x8 x10 x14 x15 bt189.2 bt189.1 x49 x50 x51 x180000 x180001 x180002 x180003)) else (impl_TextCmd.j4 k x8 x10 x14 x15 x16 x17 x49 x50 x51 x180000 x180001 x180002 x180003)
def impl_TextCmd.j4 : Nat → Bool → Int → Bool → Int → Bool → Int → List ByteArray → Int → Int → Int → Int → Int → List (S32) → Option (Int × Int × Int × (List (S32)) × Bool)
 | 0, _, _, _, _, _, _, _, _, _, _, _, _, _ => none
 | k + 1, x8, x10, x14, x15, x16, x17, x49, x50, x51, x180000, x180001, x180002, x180003 => if x16 = true then (impl_TextCmd.j5 k x8 x10 x15 x17 x49 x50 x51 (x14 != x8) x180000 x180001 x180002 x180003) else (impl_TextCmd.j5 k x8 x10 x15 x17 x49 x50 x51 true x180000 x180001 x180002 x180003)
def impl_TextCmd.j5 : Nat → Bool → Int → Int → Int → List ByteArray → Int → Int → Bool → Int → Int → Int → List (S32) → Option (Int × Int × Int × (List (S32)) × Bool)
 | 0, _, _, _, _, _, _, _, _, _, _, _, _ => none
 | k + 1, x8, x10, x15, x17, x49, x50, x51, x82, x180000, x180001, x180002, x180003 => if x82 = true then (some (0, 0, 0, ([] : List (S32)), false)) else (if x8 = true then (if x180003.length < 8796093022208 then (impl_TextCmd.l1 k x8 x49 x50 (wrap64 (x51 + 1)) x180000 x180001 x180002 (x180003 ++ [(⟨x15, x17⟩ : S32)])) else (none)) else (if x10 = 0 then (impl_TextCmd.l1 k x8 x49 x50 (wrap64 (x51 + 1)) x180000 x15 x180002 x180003) else (impl_TextCmd.l1 k x8 x49 x50 (wrap64 (x51 + 1)) x180000 x180001 x15 x180003)))
end
def impl_TextCmd.f (k : Nat) (a0 : ByteArray) : Option (Int × Int × Int × (List (S32)) × Bool) := (impl_Parts.f a0).bind fun t172 => (impl_TextCmd.l0 k t172 1)
theorem impl_TextCmd.mono_l : ∀ k, (∀ y0 y1, LeO (impl_TextCmd.l0 k y0 y1) (impl_TextCmd.l0 (k + 1) y0 y1)) ∧ (∀ y0 y1 y2 y3, LeO (impl_TextCmd.j1 k y0 y1 y2 y3) (impl_TextCmd.j1 (k + 1) y0 y1 y2 y3)) ∧ (∀ y0 y1 y2 y3 y4 y5 y6 y7, LeO (impl_TextCmd.l1 k y0 y1 y2 y3 y4 y5 y6 y7) (impl_TextCmd.l1 (k + 1) y0 y1 y2 y3 y4 y5 y6 y7)) ∧ (∀ y0 y1 y2 y3 y4 y5 y6 y7 y8 y9 y10 y11 y12 y13 y14, LeO (impl_TextCmd.j3 k y0 y1 y2 y3 y4 y5 y6 y7 y8 y9 y10 y11 y12 y13 y14) (impl_TextCmd.j3 (k + 1) y0 y1 y2 y3 y4 y5 y6 y7 y8 y9 y10 y11 y12 y13 y14)) ∧ (∀ y0 y1 y2 y3 y4 y5 y6 y7 y8 y9 y10 y11 y12, LeO (impl_TextCmd.j4 k y0 y1 y2 y3 y4 y5 y6 y7 y8 y9 y10 y11 y12) (impl_TextCmd.j4 (k + 1) y0 y1 y2 y3 y4 y5 y6 y7 y8 y9 y10 y11 y12)) ∧ (∀ y0 y1 y2 y3 y4 y5 y6 y7 y8 y9 y10 y11, LeO (impl_TextCmd.j5 k y0 y1 y2 y3 y4 y5 y6 y7 y8 y9 y10 y11) (impl_TextCmd.j5 (k + 1) y0 y1 y2 y3 y4 y5 y6 y7 y8 y9 y10 y11))
 | 0 => ⟨fun _ _ r h => by simp [impl_TextCmd.l0] at h, fun _ _ _ _ r h => by simp [impl_TextCmd.j1] at h, fun _ _ _ _ _ _ _ _ r h => by simp [impl_TextCmd.l1] at h, fun _ _ _ _ _ _ _ _ _ _ _ _ _ _ _ r h => by simp [impl_TextCmd.j3] at h, fun _ _ _ _ _ _ _ _ _ _ _ _ _ r h => by simp [impl_TextCmd.j4] at h, fun _ _ _ _ _ _ _ _ _ _ _ _ r h => by simp [impl_TextCmd.j5] at h⟩
 | k + 1 => by
  obtain ⟨ih0, ih1, ih2, ih3, ih4, ih5⟩ := impl_TextCmd.mono_l k
  refine ⟨?_, ?_, ?_, ?_, ?_, ?_⟩
  ·intro y0 y1
   unfold impl_TextCmd.l0
   repeat' first
   | (with_reducible exact ih0 _ _)
   | (with_reducible exact ih1 _ _ _ _)
   | (with_reducible exact ih2 _ _ _ _ _ _ _ _)
   | (with_reducible exact ih3 _ _ _ _ _ _ _ _ _ _ _ _ _ _ _)
   | (with_reducible exact ih4 _ _ _ _ _ _ _ _ _ _ _ _ _)
   | (with_reducible exact ih5 _ _ _ _ _ _ _ _ _ _ _ _)
   | (with_reducible exact impl_TextNum.mono _ _)
   | (with_reducible exact LeO.refl _)
   | (with_reducible exact LeO.none _)
   | (with_reducible refine LeO.ite ?_ ?_)
   | (with_reducible refine LeO.bind ?_ (fun _ => ?_))
   | exact ih0 _ _
   | exact ih1 _ _ _ _
   | exact ih2 _ _ _ _ _ _ _ _
   | exact ih3 _ _ _ _ _ _ _ _ _ _ _ _ _ _ _
   | exact ih4 _ _ _ _ _ _ _ _ _ _ _ _ _
   | exact ih5 _ _ _ _ _ _ _ _ _ _ _ _
   | exact impl_TextNum.mono _ _
   | exact LeO.none _
   | refine LeO.ite ?_ ?_
   | refine LeO.bind ?_ (fun _ => ?_)
  ·intro y0 y1 y2 y3
   unfold impl_TextCmd.j1
   repeat' first
   | (with_reducible exact ih0 _ _)
   | (with_reducible exact ih1 _ _ _ _)
   | (with_reducible exact ih2 _ _ _ _ _ _ _ _)
   | (with_reducible exact ih3 _ _ _ _ _ _ _ _ _ _ _ _ _ _ _)
   | (with_reducible exact ih4 _ _ _ _ _ _ _ _ _ _ _ _ _)
   | (with_reducible exact ih5 _ _ _ _ _ _ _ _ _ _ _ _)
   | (with_reducible exact impl_TextNum.mono _ _)
   | (with_reducible exact LeO.refl _)
   | (with_reducible exact LeO.none _)
   | (with_reducible refine LeO.ite ?_ ?_)
   | (with_reducible refine LeO.bind ?_ (fun _ => ?_))
   | exact ih0 _ _
   | exact ih1 _ _ _ _
   | exact ih2 _ _ _ _ _ _ _ _
   | exact ih3 _ _ _ _ _ _ _ _ _ _ _ _ _ _ _
   | exact ih4 _ _ _ _ _ _ _ _ _ _ _ _ _
   | exact ih5 _ _ _ _ _ _ _ _ _ _ _ _
   | exact impl_TextNum.mono _ _
   | exact LeO.none _
   | refine LeO.ite ?_ ?_
   | refine LeO.bind ?_ (fun _ => ?_)
  ·intro y0 y1 y2 y3 y4 y5 y6 y7
   unfold impl_TextCmd.l1
   repeat' first
   | (with_reducible exact ih0 _ _)
   | (with_reducible exact ih1 _ _ _ _)
   | (with_reducible exact ih2 _ _ _ _ _ _ _ _)
   | (with_reducible exact ih3 _ _ _ _ _ _ _ _ _ _ _ _ _ _ _)
   | (with_reducible exact ih4 _ _ _ _ _ _ _ _ _ _ _ _ _)
   | (with_reducible exact ih5 _ _ _ _ _ _ _ _ _ _ _ _)
   | (with_reducible exact impl_TextNum.mono _ _)
   | (with_reducible exact LeO.refl _)
   | (with_reducible exact LeO.none _)
   | (with_reducible refine LeO.ite ?_ ?_)
   | (with_reducible refine LeO.bind ?_ (fun _ => ?_))
   | exact ih0 _ _
   | exact ih1 _ _ _ _
   | exact ih2 _ _ _ _ _ _ _ _
   | exact ih3 _ _ _ _ _ _ _ _ _ _ _ _ _ _ _
   | exact ih4 _ _ _ _ _ _ _ _ _ _ _ _ _
   | exact ih5 _ _ _ _ _ _ _ _ _ _ _ _
   | exact impl_TextNum.mono _ _
   | exact LeO.none _
   | refine LeO.ite ?_ ?_
   | refine LeO.bind ?_ (fun _ => ?_)
  ·intro y0 y1 y2 y3 y4 y5 y6 y7 y8 y9 y10 y11 y12 y13 y14
   unfold impl_TextCmd.j3
   repeat' first
   | (with_reducible exact ih0 _ _)
   | (with_reducible exact ih1 _ _ _ _)
   | (with_reducible exact ih2 _ _ _ _ _ _ _ _)
   | (with_reducible exact ih3 _ _ _ _ _ _ _ _ _ _ _ _ _ _ _)
   | (with_reducible exact ih4 _ _ _ _ _ _ _ _ _ _ _ _ _)
   | (with_reducible exact ih5 _ _ _ _ _ _ _ _ _ _ _ _)
   | (with_reducible exact impl_TextNum.mono _ _)
   | (with_reducible exact LeO.refl _)
   | (with_reducible exact LeO.none _)
   | (with_reducible refine LeO.ite ?_ ?_)
   | (with_reducible refine LeO.bind ?_ (fun _ => ?_))
   | exact ih0 _ _
   | exact ih1 _ _ _ _
   | exact ih2 _ _ _ _ _ _ _ _
   | exact ih3 _ _ _ _ _ _ _ _ _ _ _ _ _ _ _
   | exact ih4 _ _ _ _ _ _ _ _ _ _ _ _ _
   | exact ih5 _ _ _ _ _ _ _ _ _ _ _ _
   | exact impl_TextNum.mono _ _
   | exact LeO.none _
   | refine LeO.ite ?_ ?_
   | refine LeO.bind ?_ (fun _ => ?_)
  ·intro y0 y1 y2 y3 y4 y5 y6 y7 y8 y9 y10 y11 y12
   unfold impl_TextCmd.j4
   repeat' first
   | (with_reducible exact ih0 _ _)
   | (with_reducible exact ih1 _ _ _ _)
   | (with_reducible exact ih2 _ _ _ _ _ _ _ _)
   | (with_reducible exact ih3 _ _ _ _ _ _ _ _ _ _ _ _ _ _ _)
   | (with_reducible exact ih4 _ _ _ _ _ _ _ _ _ _ _ _ _)
   | (with_reducible exact ih5 _ _ _ _ _ _ _ _ _ _ _ _)
   | (with_reducible exact impl_TextNum.mono _ _)
   | (with_reducible exact LeO.refl _)
   | (with_reducible exact LeO.none _)
   | (with_reducible refine LeO.ite ?_ ?_)
   | (with_reducible refine LeO.bind ?_ (fun _ => ?_))
   | exact ih0 _ _
   | exact ih1 _ _ _ _
   | exact ih2 _ _ _ _ _ _ _ _
   | exact ih3 _ _ _ _ _ _ _ _ _ _ _ _ _ _ _
   | exact ih4 _ _ _ _ _ _ _ _ _ _ _ _ _
   | exact ih5 _ _ _ _ _ _ _ _ _ _ _ _
   | exact impl_TextNum.mono _ _
   | exact LeO.none _
   | refine LeO.ite ?_ ?_
   | refine LeO.bind ?_ (fun _ => ?_)
  ·intro y0 y1 y2 y3 y4 y5 y6 y7 y8 y9 y10 y11
   unfold impl_TextCmd.j5
   repeat' first
   | (with_reducible exact ih0 _ _)
   | (with_reducible exact ih1 _ _ _ _)
   | (with_reducible exact ih2 _ _ _ _ _ _ _ _)
   | (with_reducible exact ih3 _ _ _ _ _ _ _ _ _ _ _ _ _ _ _)
   | (with_reducible exact ih4 _ _ _ _ _ _ _ _ _ _ _ _ _)
   | (with_reducible exact ih5 _ _ _ _ _ _ _ _ _ _ _ _)
   | (with_reducible exact impl_TextNum.mono _ _)
   | (with_reducible exact LeO.refl _)
   | (with_reducible exact LeO.none _)
   | (with_reducible refine LeO.ite ?_ ?_)
   | (with_reducible refine LeO.bind ?_ (fun _ => ?_))
   | exact ih0 _ _
   | exact ih1 _ _ _ _
   | exact ih2 _ _ _ _ _ _ _ _
   | exact ih3 _ _ _ _ _ _ _ _ _ _ _ _ _ _ _
   | exact ih4 _ _ _ _ _ _ _ _ _ _ _ _ _
   | exact ih5 _ _ _ _ _ _ _ _ _ _ _ _
   | exact impl_TextNum.mono _ _
   | exact LeO.none _
   | refine LeO.ite ?_ ?_
   | refine LeO.bind ?_ (fun _ => ?_)
theorem impl_TextCmd.mono : ∀ a0 k, LeO (impl_TextCmd.f k a0) (impl_TextCmd.f (k + 1) a0) := by
 intro a0 k
 obtain ⟨ih0, ih1, ih2, ih3, ih4, ih5⟩ := impl_TextCmd.mono_l k
 unfold impl_TextCmd.f
 repeat' first
   | (with_reducible exact ih0 _ _)
   | (with_reducible exact ih1 _ _ _ _)
   | (with_reducible exact ih2 _ _ _ _ _ _ _ _)
   | (with_reducible exact ih3 _ _ _ _ _ _ _ _ _ _ _ _ _ _ _)
   | (with_reducible exact ih4 _ _ _ _ _ _ _ _ _ _ _ _ _)
   | (with_reducible exact ih5 _ _ _ _ _ _ _ _ _ _ _ _)
   | (with_reducible exact impl_TextNum.mono _ _)
   | (with_reducible exact LeO.refl _)
   | (with_reducible exact LeO.none _)
   | (with_reducible refine LeO.ite ?_ ?_)
   | (with_reducible refine LeO.bind ?_ (fun _ => ?_))
   | exact ih0 _ _
   | exact ih1 _ _ _ _
   | exact ih2 _ _ _ _ _ _ _ _
   | exact ih3 _ _ _ _ _ _ _ _ _ _ _ _ _ _ _
   | exact ih4 _ _ _ _ _ _ _ _ _ _ _ _ _
   | exact ih5 _ _ _ _ _ _ _ _ _ _ _ _
   | exact impl_TextNum.mono _ _
   | exact LeO.none _
   | refine LeO.ite ?_ ?_
   | refine LeO.bind ?_ (fun _ => ?_)
set_option maxHeartbeats 8000000 in
set_option maxRecDepth 100000 in
theorem impl_TextCmd.calls (k : Nat) (a0 : ByteArray) (r1 : Int) (r2 : Int) (r3 : Int) (r4 : List (S32)) (r5 : Bool) (w : World) (h : impl_TextCmd.f k a0 = some (r1, r2, r3, r4, r5)) :
  Calls Tryd.prog 10 #[.string a0] w fun e w' => ∃ v3_ : Value, e = .returned (.tuple #[.agg #[.int .i64 r1, .int .i64 r2, .int .i64 r3, v3_], .bool r5]) ∧ Kd.R k32 32 w' w.heap.size (fun _ => True) v3_ r4 ∧ Below w.heap.size w w' := by
 have hu27 := Tryd.underlying27
 have hu32 := Tryd.underlying32
 have HB := Aside0.mk (Below.refl w.heap.size w)
 have H : ((impl_Parts.f a0).bind fun t172 => (impl_TextCmd.l0 k t172 1)) = some (r1, r2, r3, r4, r5) := h
 clear h
 replace H := Option.bind_eq_some_iff.mp H
 obtain ⟨t172, A20, H⟩ := H
 replace H : (impl_TextCmd.l0 k t172 1) = some (r1, r2, r3, r4, r5) := H
 have A2 := Aside0.mk A20
 clear A20
 have H' := Aside0.mk H
 clear H
 go_enter Tryd.func10, Tryd.ntmps10
 go_wp2_with (first | ((with_reducible refine gate_dst (N := 2) rfl ?_); (try (refine gate_guard (by rfl) ?_; dsimp only)); refine box_event ?hg (N := 2) ?hd (cs := #[.int .i64 0, .int .i64 0, .int .i64 0, .slice none 0 0]) (t := 27) ?hr ?_; (case hd => rfl); (case hg => rfl); (case hr => first | (go_simp; done) | (go_simp; rfl)); intro gb171 hg w3 hbox hb; have n0_ := Aside0.mk (below_step (by repeat (first | (with_reducible first | exact HB.out | apply below_alloc | apply pw_below_drewN | apply below_drew1) | exact HB.out)) hb); have n1_ := Aside0.mk (hbox); have n2_ := Aside0.mk ((by rw [hg]; exact (below_size (by repeat (first | (with_reducible first | exact HB.out | apply below_alloc | apply pw_below_drewN | apply below_drew1) | exact HB.out))) : w.heap.size ≤ gb171)); have n3_ := Aside0.mk ((by rw [hg]; exact (below_size (by repeat (first | (with_reducible first | exact HB.out | apply below_alloc | apply pw_below_drewN | apply below_drew1) | exact HB.out))) : w.heap.size ≤ gb171)); clear HB; have HB := n0_; have BK171 := n1_; have GW171 := n2_; have GE171 := n3_; clear n0_ n1_ n2_ n3_; clear hb hbox hg) | ((with_reducible refine gate_callee (f := 32) rfl ?_); refine goesL_ (some 19) rfl rfl Tryd.func32 (by kernel_rfl) rfl #[.string a0] rfl (by (try simp only [List.map_toArray, List.map_cons, List.map_nil]); first | done | rfl | (simp only [List.length_drop, List.length_take]; rfl)) ?_; (with_reducible refine (impl_Parts.calls a0 t172 _ A2.out).mono ?_); rintro e w4 ⟨v173, rfl, ho0, hb⟩; refine ⟨_, rfl, ?_⟩; have n0_ := Aside0.mk (Kd.R_lower ho0 (below_size (by repeat (first | (with_reducible first | exact HB.out | apply below_alloc | apply pw_below_drewN | apply below_drew1 | refine below_set ?_ GE171.out) | exact HB.out)))); have n1_ := Aside0.mk (blk_below (g := gb171) (o := .cells #[.int .i64 0, .int .i64 0, .int .i64 0, .slice none 0 0] 27 (0, 0)) (by (with_reducible repeat (first | refine blk_drewN ?_ _ | refine blk_drew ?_ | refine blk_alloc ?_ _)); exact BK171.out) hb); have n2_ := Aside0.mk (below_step (by repeat (first | (with_reducible first | exact HB.out | apply below_alloc | apply pw_below_drewN | apply below_drew1 | refine below_set ?_ GE171.out) | exact HB.out)) hb); clear BK171; clear HB; have HO174 := n0_; have BK171 := n1_; have HB := n2_; clear n0_ n1_ n2_; (try clear hb); (try clear hb2); (try clear hk); (try clear hi); (try clear ho0)))
 go_loopg [5] k (fun kq v5 w' => ∃ (x5_1 : Int) (x172000_1 : Int) (x172001_1 : Int) (x172002_1 : Int), v5 = .int .i64 x5_1 ∧ Aside0 (impl_TextCmd.l0 kq t172 x5_1 = some (r1, r2, r3, r4, r5)) ∧ Aside0 (kq ≤ k) ∧ Aside0 (Kd.R Kd.string 9 w' w.heap.size (fun _ => True) v173 t172) ∧ Aside0 (w'.heap[gb171]? = some (.cells #[.int .i64 x172000_1, .int .i64 x172001_1, .int .i64 x172002_1, (.slice none 0 0)] 27 (0, 0))) ∧ Aside0 (Below w.heap.size w w'))
 case atStart => exact ⟨(1), (0), (0), (0), (by first | rfl | (simp; done) | (simp [*]; done)), H', ⟨Nat.le_refl _⟩, ⟨by (with_reducible repeat (first | apply Kd.R_alloc | apply Kd.R_drewN | apply Kd.R_drew)); exact HO174.out⟩, ⟨by (with_reducible repeat (first | refine blk_drewN ?_ _ | refine blk_drew ?_ | refine blk_alloc ?_ _)); exact BK171.out⟩, ⟨by repeat (first | (with_reducible first | exact HB.out | apply below_alloc | apply pw_below_drewN | apply below_drew1 | refine below_set ?_ GE171.out) | exact HB.out)⟩⟩
 case round =>
  clear H'
  try clear c1
  try clear p2
  try clear c3
  obtain ⟨x5_1, x172000_1, x172001_1, x172002_1, rfl, HA, HK1, HO_4, BK171, HB⟩ := hrel
  cases gk with
  | zero => exact absurd HA.out (by simp [impl_TextCmd.l0])
  | succ k1 =>
   have H := HA.out
   clear HA
   simp only [impl_TextCmd.l0] at H
   by_cases c5 : x5_1 ≤ 8
   ·rw [if_pos c5] at H
    have c5b0 : decide (x5_1 ≤ 8) = true := decide_eq_true c5
    clear c5
    replace H := Option.bind_eq_some_iff.mp H
    obtain ⟨⟨t175, t176, t177⟩, A60, H⟩ := H
    replace H : (if 0 < (t172.length : Int) then (if t175.toList = (rdOf ByteArray.empty t172 0).toList then (if t177 = true then (impl_TextCmd.j1 k1 t172 x5_1 t177 false) else (impl_TextCmd.j1 k1 t172 x5_1 t177 ((t172.length : Int) != (wrap64 (t176 + 1))))) else (impl_TextCmd.j1 k1 t172 x5_1 t177 true)) else (none)) = some (r1, r2, r3, r4, r5) := H
    have A6 := Aside0.mk A60
    clear A60
    have HC7 := Aside0.mk H
    clear H
    go_upto_region 6 with (first | ((with_reducible refine gate_callee (f := 21) rfl ?_); refine goesL_ (some 26) rfl rfl Tryd.func21 (by kernel_rfl) rfl #[.int .i64 x5_1] rfl (by (try simp only [List.map_toArray, List.map_cons, List.map_nil]); first | done | rfl | (simp only [List.length_drop, List.length_take]; rfl)) ?_; (with_reducible refine (impl_cmdForm.calls x5_1 t175 t176 t177 _ A6.out).mono ?_); rintro e w' ⟨rfl, ⟨nd, rfl⟩⟩; refine ⟨_, rfl, ?_⟩))
    (try simp only [Act.put, List.setIfInBounds_toArray, List.set_cons_zero, List.set_cons_succ])
    go_cut [45] (fun v45 wc => ∃ (kq : Nat) (x45_6 : Bool), v45 = .bool x45_6 ∧ Aside0 (impl_TextCmd.j1 kq t172 x5_1 t177 x45_6 = some (r1, r2, r3, r4, r5)) ∧ Aside0 (kq ≤ k1) ∧ Aside0 (Kd.R Kd.string 9 wc w.heap.size (fun _ => True) v173 t172) ∧ Aside0 (wc.heap[gb171]? = some (.cells #[.int .i64 x172000_1, .int .i64 x172001_1, .int .i64 x172002_1, (.slice none 0 0)] 27 (0, 0))) ∧ Aside0 (Below w.heap.size w wc))
    case first =>
     have H := HC7.out
     clear HC7
     by_cases c8 : 0 < (t172.length : Int)
     ·rw [if_pos c8] at H
      have c8b0 : decide (0 < (t172.length : Int)) = true := decide_eq_true c8
      have c8b1 : decide (0 < t172.length) = true := decide_eq_true (by omega)
      clear c8
      (first | rw [c8b0] | (simp only [i64_w, i32_w]; rw [c8b0]) | skip)
      by_cases c9 : t175.toList = (rdOf ByteArray.empty t172 0).toList
      ·rw [if_pos c9] at H
       have c9b0 : (t175.toList == (rdOf ByteArray.empty t172 0).toList) = true := beq_iff_eq.mpr c9
       have c9b1 : (t175.toList != (rdOf ByteArray.empty t172 0).toList) = false := bne_eq_false_iff_eq.mpr c9
       clear c9
       by_cases c10 : t177 = true
       ·subst c10
        have H1 : (impl_TextCmd.j1 k1 t172 x5_1 true false) = some (r1, r2, r3, r4, r5) := by rw [if_pos rfl] at H; exact H
        clear H
        have H := H1
        clear H1
        have H' := Aside0.mk H
        clear H
        obtain ⟨Ao11, co11, eo11⟩ := Kd.R_slice HO_4.out
        subst eo11
        have p178 : 0 ≤ (0 : Int) := (by omega)
        have q178 : 0 < (t172.length : Int) := of_decide_eq_true (by first | (with_reducible assumption) | assumption)
        obtain ⟨ad178, e178, hx178_0⟩ := Kd.at_string (Kd.R_reads' HO_4.out).2.2 0 p178 q178
        cases e178
        have qi178 : (0 < t172.length) = True := eq_true (by omega)
        (try rw [show ((0 : Int)).toNat = 0 from rfl] at hx178_0)
        (try rw [Addr.add_zero'] at hx178_0)
        replace p178 := eq_true p178
        replace q178 := eq_true q178
        go_wp2
        go_meet
        case rel => exact ⟨_, (false), (by first | rfl | (simp; done) | (simp [*]; done)), H', ⟨by have := HK1.out; first | omega | exact Nat.le_refl _⟩, ⟨by (with_reducible repeat (first | apply Kd.R_alloc | apply Kd.R_drewN | apply Kd.R_drew)); exact HO_4.out⟩, ⟨by (with_reducible repeat (first | refine blk_drewN ?_ _ | refine blk_drew ?_ | refine blk_alloc ?_ _)); exact BK171.out⟩, ⟨by repeat (first | (with_reducible first | exact HB.out | apply below_alloc | apply pw_below_drewN | apply below_drew1 | refine below_set ?_ GE171.out) | exact HB.out)⟩⟩
       ·replace c10 := Bool.eq_false_iff.mpr c10
        subst c10
        have H1 : (impl_TextCmd.j1 k1 t172 x5_1 false ((t172.length : Int) != (wrap64 (t176 + 1)))) = some (r1, r2, r3, r4, r5) := by rw [if_neg (show ¬ (false = true) by decide)] at H; exact H
        clear H
        have H := H1
        clear H1
        have H' := Aside0.mk H
        clear H
        obtain ⟨Ao12, co12, eo12⟩ := Kd.R_slice HO_4.out
        subst eo12
        have p178 : 0 ≤ (0 : Int) := (by omega)
        have q178 : 0 < (t172.length : Int) := of_decide_eq_true (by first | (with_reducible assumption) | assumption)
        obtain ⟨ad178, e178, hx178_0⟩ := Kd.at_string (Kd.R_reads' HO_4.out).2.2 0 p178 q178
        cases e178
        have qi178 : (0 < t172.length) = True := eq_true (by omega)
        (try rw [show ((0 : Int)).toNat = 0 from rfl] at hx178_0)
        (try rw [Addr.add_zero'] at hx178_0)
        replace p178 := eq_true p178
        replace q178 := eq_true q178
        go_wp2
        go_meet
        case rel => exact ⟨_, (((t172.length : Int) != (wrap64 (t176 + 1)))), (by first | rfl | (simp; done) | (simp [*]; done)), H', ⟨by have := HK1.out; first | omega | exact Nat.le_refl _⟩, ⟨by (with_reducible repeat (first | apply Kd.R_alloc | apply Kd.R_drewN | apply Kd.R_drew)); exact HO_4.out⟩, ⟨by (with_reducible repeat (first | refine blk_drewN ?_ _ | refine blk_drew ?_ | refine blk_alloc ?_ _)); exact BK171.out⟩, ⟨by repeat (first | (with_reducible first | exact HB.out | apply below_alloc | apply pw_below_drewN | apply below_drew1 | refine below_set ?_ GE171.out) | exact HB.out)⟩⟩
      ·rw [if_neg c9] at H
       have c9b0 : (t175.toList == (rdOf ByteArray.empty t172 0).toList) = false := beq_eq_false_iff_ne.mpr c9
       have c9b1 : (t175.toList != (rdOf ByteArray.empty t172 0).toList) = true := bne_iff_ne.mpr c9
       have H' := Aside0.mk H
       clear H
       obtain ⟨Ao13, co13, eo13⟩ := Kd.R_slice HO_4.out
       subst eo13
       have p178 : 0 ≤ (0 : Int) := (by omega)
       have q178 : 0 < (t172.length : Int) := of_decide_eq_true (by first | (with_reducible assumption) | assumption)
       obtain ⟨ad178, e178, hx178_0⟩ := Kd.at_string (Kd.R_reads' HO_4.out).2.2 0 p178 q178
       cases e178
       have qi178 : (0 < t172.length) = True := eq_true (by omega)
       (try rw [show ((0 : Int)).toNat = 0 from rfl] at hx178_0)
       (try rw [Addr.add_zero'] at hx178_0)
       replace p178 := eq_true p178
       replace q178 := eq_true q178
       go_wp2
       go_meet
       case rel => exact ⟨_, (true), (by first | rfl | (simp; done) | (simp [*]; done)), H', ⟨by have := HK1.out; first | omega | exact Nat.le_refl _⟩, ⟨by (with_reducible repeat (first | apply Kd.R_alloc | apply Kd.R_drewN | apply Kd.R_drew)); exact HO_4.out⟩, ⟨by (with_reducible repeat (first | refine blk_drewN ?_ _ | refine blk_drew ?_ | refine blk_alloc ?_ _)); exact BK171.out⟩, ⟨by repeat (first | (with_reducible first | exact HB.out | apply below_alloc | apply pw_below_drewN | apply below_drew1 | refine below_set ?_ GE171.out) | exact HB.out)⟩⟩
     ·rw [if_neg c8] at H
      exact absurd H (by simp)
    case rest =>
     clear HC7
     try clear c1
     try clear p1
     try clear q1
     try clear hx1
     try clear qi1
     try clear c2
     try clear p2
     try clear c3
     try clear c5
     try clear c5b0
     try clear p6
     try clear c8
     try clear c8b0
     try clear c8b1
     try clear c9
     try clear c9b0
     try clear c9b1
     try clear c10
     try clear hx178_0
     try clear p178
     try clear p2
     try clear q178
     obtain ⟨kq, x45_6, rfl, HA, HJ6, HO_4, BK171, HB⟩ := hcut
     cases kq with
     | zero => exact absurd HA.out (by simp [impl_TextCmd.j1])
     | succ kj6 =>
      have H := HA.out
      clear HA
      simp only [impl_TextCmd.j1] at H
      by_cases c14 : x45_6 = true
      ·subst c14
       have H1 : (impl_TextCmd.l0 kj6 t172 (wrap64 (x5_1 + 1))) = some (r1, r2, r3, r4, r5) := by rw [if_pos rfl] at H; exact H
       clear H
       have H := H1
       clear H1
       have H' := Aside0.mk H
       clear H
       go_wp2
       go_roundg kj6
       case measure => have := HK1.out; have := HJ6.out; omega
       case rel => exact ⟨(wrap64 (x5_1 + 1)), (x172000_1), (x172001_1), (x172002_1), (by first | rfl | (simp; done) | (simp [*]; done)), H', ⟨by have := HK1.out; have := HJ6.out; omega⟩, ⟨by (with_reducible repeat (first | apply Kd.R_alloc | apply Kd.R_drewN | apply Kd.R_drew)); exact HO_4.out⟩, ⟨by (with_reducible repeat (first | refine blk_drewN ?_ _ | refine blk_drew ?_ | refine blk_alloc ?_ _)); exact BK171.out⟩, ⟨by repeat (first | (with_reducible first | exact HB.out | apply below_alloc | apply pw_below_drewN | apply below_drew1 | refine below_set ?_ GE171.out) | exact HB.out)⟩⟩
      ·replace c14 := Bool.eq_false_iff.mpr c14
       subst c14
       have H1 : (if 1 ≤ (t172.length : Int) then ((some (t172.drop (1 : Int).toNat : List ByteArray)).bind fun y180 => (impl_TextCmd.l1 kj6 t177 y180 (y180.length : Int) 0 x5_1 0 0 ([] : List (S32)))) else (none)) = some (r1, r2, r3, r4, r5) := by rw [if_neg (show ¬ (false = true) by decide)] at H; exact H
       clear H
       have H := H1
       clear H1
       by_cases c15 : 1 ≤ (t172.length : Int)
       ·rw [if_pos c15] at H
        have c15b0 := eq_true c15
        have c15b1 : decide (1 ≤ (t172.length : Int)) = true := decide_eq_true c15
        clear c15
        obtain ⟨y180, hy180⟩ : ∃ y_ : List ByteArray, y_ = (t172.drop (1 : Int).toNat) := ⟨_, rfl⟩
        replace H : (impl_TextCmd.l1 kj6 t177 y180 (y180.length : Int) 0 x5_1 0 0 ([] : List (S32))) = some (r1, r2, r3, r4, r5) := by first | (rw [hy180]; with_reducible exact H) | (have H2_ := (Option.bind_some _ _).symm.trans H; rw [hy180]; with_reducible exact H2_) | (have H2_ := (Option.bind_some _ _).symm.trans H; with_reducible exact H2_) | with_reducible exact H | (rw [hy180]; exact H) | exact H
        have Ny180 := Aside0.mk hy180
        clear hy180
        have H' := Aside0.mk H
        clear H
        go_wp2_with (first | ((with_reducible refine gate_dst (N := 9) rfl ?_); (try (refine gate_guard (by rfl) ?_; dsimp only)); refine box_event ?hg (N := 9) ?hd (cs := #[.int .i64 0, .int .i64 0, .int .i64 0, .slice none 0 0]) (t := 27) ?hr ?_; (case hd => rfl); (case hg => rfl); (case hr => first | (go_simp; done) | (go_simp; rfl)); intro gb179 hg w16 hbox hb; have n0_ := Aside0.mk (Kd.R_below (by (with_reducible repeat (first | apply Kd.R_alloc | apply Kd.R_drewN | apply Kd.R_drew)); exact HO_4.out) hb); have n1_ := Aside0.mk (blk_below (g := gb171) (o := .cells #[.int .i64 x172000_1, .int .i64 x172001_1, .int .i64 x172002_1, .slice none 0 0] 27 (0, 0)) (by (with_reducible repeat (first | refine blk_drewN ?_ _ | refine blk_drew ?_ | refine blk_alloc ?_ _)); exact BK171.out) hb); have n2_ := Aside0.mk (below_step (by repeat (first | (with_reducible first | exact HB.out | apply below_alloc | apply pw_below_drewN | apply below_drew1 | refine below_set ?_ GE171.out) | exact HB.out)) hb); have n3_ := Aside0.mk (hbox); have n4_ := Aside0.mk ((by rw [hg]; exact (below_size (by repeat (first | (with_reducible first | exact HB.out | apply below_alloc | apply pw_below_drewN | apply below_drew1 | refine below_set ?_ GE171.out) | exact HB.out))) : w.heap.size ≤ gb179)); have n5_ := Aside0.mk ((by rw [hg]; exact (below_size (by repeat (first | (with_reducible first | exact HB.out | apply below_alloc | apply pw_below_drewN | apply below_drew1 | refine below_set ?_ GE171.out) | exact HB.out))) : w.heap.size ≤ gb179)); have n6_ := Aside0.mk ((by rw [hg]; exact Nat.ne_of_lt (blk_lt (g := gb171) (o := .cells #[.int .i64 x172000_1, .int .i64 x172001_1, .int .i64 x172002_1, .slice none 0 0] 27 (0, 0)) (by (with_reducible repeat (first | refine blk_drewN ?_ _ | refine blk_drew ?_ | refine blk_alloc ?_ _)); exact BK171.out)) : gb171 ≠ gb179)); have n7_ := Aside0.mk ((by rw [hg]; exact Nat.ne_of_gt (blk_lt (g := gb171) (o := .cells #[.int .i64 x172000_1, .int .i64 x172001_1, .int .i64 x172002_1, .slice none 0 0] 27 (0, 0)) (by (with_reducible repeat (first | refine blk_drewN ?_ _ | refine blk_drew ?_ | refine blk_alloc ?_ _)); exact BK171.out)) : gb179 ≠ gb171)); clear HO_4; clear BK171; clear HB; have HO_4 := n0_; have BK171 := n1_; have HB := n2_; have BK179 := n3_; have GW179 := n4_; have GE179 := n5_; have NB171_179 := n6_; have NB179_171 := n7_; clear n0_ n1_ n2_ n3_ n4_ n5_ n6_ n7_; clear hb hbox hg; have hnb17 := NB179_171.out; have hnc17 := NB171_179.out; have hcz18_0 : w16.cell? ⟨gb179, 0, none⟩ = some (.int .i64 0) := (blk_cell BK179.out 0).trans rfl; have hcz18_1 : w16.cell? ⟨gb179, 1, none⟩ = some (.int .i64 0) := (blk_cell BK179.out 1).trans rfl; have hcz18_2 : w16.cell? ⟨gb179, 2, none⟩ = some (.int .i64 0) := (blk_cell BK179.out 2).trans rfl; have hcz18_3 : w16.cell? ⟨gb179, 3, none⟩ = some (.slice none 0 0) := (blk_cell BK179.out 3).trans rfl; have hfz18_0 := blk_frozen BK179.out 0; have hfz18_1 := blk_frozen BK179.out 1; have hfz18_2 := blk_frozen BK179.out 2; have hfz18_3 := blk_frozen BK179.out 3) | ((with_reducible refine gate_store (t := 27) (p := 9) rfl ?_); refine store_event (t := 27) (p := 9) (v := ?vo_w19) (w1 := ((((w16.setCell ⟨gb179, 0, none⟩ (.int .i64 x5_1)).setCell ⟨gb179, 1, none⟩ (.int .i64 0)).setCell ⟨gb179, 2, none⟩ (.int .i64 0)).setCell ⟨gb179, 3, none⟩ (.slice none 0 0))) ?hg ?ho ?hn ?hr ?_; (case ho => rfl); (case hg => rfl); (case hn => rfl); (case hr => first | (go_simp; done) | (go_simp; rfl)); intro w19 hw; have n0_ : Aside0 (Kd.R Kd.string 9 w19 w.heap.size (fun _ => True) v173 t172) := ⟨(by rw [hw]; exact (by (with_reducible repeat (first | apply Kd.R_alloc | apply Kd.R_drewN | apply Kd.R_drew)); exact Kd.R_mono (Kd.R_far (p := ⟨gb179, 3, none⟩) (Kd.R_far (p := ⟨gb179, 2, none⟩) (Kd.R_far (p := ⟨gb179, 1, none⟩) (Kd.R_far (p := ⟨gb179, 0, none⟩) (Kd.R_types HO_4.out BK179.out (by decide)) (fun _ hk => hk.2) (.int .i64 x5_1)) (fun _ hk => hk.2) (.int .i64 0)) (fun _ hk => hk.2) (.int .i64 0)) (fun _ hk => hk.2) (.slice none 0 0)) (fun _ hk => trivial)))⟩; have n1_ : Aside0 (w19.heap[gb171]? = some (.cells #[.int .i64 x172000_1, .int .i64 x172001_1, .int .i64 x172002_1, .slice none 0 0] 27 (0, 0))) := ⟨(by rw [hw]; exact (by (with_reducible repeat (first | refine blk_drewN ?_ _ | refine blk_drew ?_ | refine blk_alloc ?_ _)); refine blk_far ?_ NB171_179.out _; (with_reducible repeat (first | refine blk_drewN ?_ _ | refine blk_drew ?_ | refine blk_alloc ?_ _)); refine blk_far ?_ NB171_179.out _; (with_reducible repeat (first | refine blk_drewN ?_ _ | refine blk_drew ?_ | refine blk_alloc ?_ _)); refine blk_far ?_ NB171_179.out _; (with_reducible repeat (first | refine blk_drewN ?_ _ | refine blk_drew ?_ | refine blk_alloc ?_ _)); refine blk_far ?_ NB171_179.out _; (with_reducible repeat (first | refine blk_drewN ?_ _ | refine blk_drew ?_ | refine blk_alloc ?_ _)); exact BK171.out))⟩; have n2_ : Aside0 (w19.heap[gb179]? = some (.cells #[.int .i64 x5_1, .int .i64 0, .int .i64 0, .slice none 0 0] 27 (0, 0))) := ⟨(by rw [hw]; exact (by (with_reducible repeat (first | refine blk_drewN ?_ _ | refine blk_drew ?_ | refine blk_alloc ?_ _)); refine blk_put (cs := #[.int .i64 x5_1, .int .i64 0, .int .i64 0, .slice none 0 0]) ?_ 3 _ rfl; (with_reducible repeat (first | refine blk_drewN ?_ _ | refine blk_drew ?_ | refine blk_alloc ?_ _)); refine blk_put (cs := #[.int .i64 x5_1, .int .i64 0, .int .i64 0, .slice none 0 0]) ?_ 2 _ rfl; (with_reducible repeat (first | refine blk_drewN ?_ _ | refine blk_drew ?_ | refine blk_alloc ?_ _)); refine blk_put (cs := #[.int .i64 x5_1, .int .i64 0, .int .i64 0, .slice none 0 0]) ?_ 1 _ rfl; (with_reducible repeat (first | refine blk_drewN ?_ _ | refine blk_drew ?_ | refine blk_alloc ?_ _)); refine blk_put (cs := #[.int .i64 0, .int .i64 0, .int .i64 0, .slice none 0 0]) ?_ 0 _ rfl; (with_reducible repeat (first | refine blk_drewN ?_ _ | refine blk_drew ?_ | refine blk_alloc ?_ _)); exact BK179.out))⟩; have n3_ : Aside0 (Below w.heap.size w w19) := ⟨(by rw [hw]; exact (by repeat (first | (with_reducible first | exact HB.out | apply below_alloc | apply pw_below_drewN | apply below_drew1 | refine below_set ?_ GE171.out | refine below_set ?_ GE179.out) | exact HB.out)))⟩; clear hw; clear HO_4; clear BK171; clear BK179; clear HB; have HO_4 := n0_; have BK171 := n1_; have BK179 := n2_; have HB := n3_; clear n0_ n1_ n2_ n3_; obtain ⟨Ao20, co20, eo20⟩ := Kd.R_slice HO_4.out; subst eo20; have q21 : (1 : Int) ≤ ((t172.length : Int) : Int) := of_decide_eq_true (by first | (with_reducible assumption) | assumption); obtain ⟨i021, hi021, _, hsz21, _⟩ := info_parts info9; have hcut21 := cut_from (P := Tryd.prog) 47 9 .i64 Tryd.underlying47 hi021 1 hsz21 Ao20 t172.length co20 1 (by omega) q21; have hr21 := Kd.Q_drop (k := (1 : Int).toNat) (Kd.Q_of_R HO_4.out) (by omega); obtain ⟨A21, hA21⟩ : ∃ A1, A1 = (if co20 = (1 : Int).toNat then Ao20 else (Ao20 : Option Addr).map (·.add ((1 : Int).toNat * 1))) := ⟨_, rfl⟩; obtain ⟨c21, hc21⟩ : ∃ c1, c1 = co20 - (1 : Int).toNat := ⟨_, rfl⟩; have hy21 : y180.length = t172.length - (1 : Int).toNat := (by rw [Ny180.out, List.length_drop]); rw [← Ny180.out] at hr21; rw [← hy21, ← hA21, ← hc21] at hcut21; replace hr21 : Kd.Q Kd.string 9 w19 w.heap.size (fun _ => True) (.slice A21 y180.length c21) y180 := (by rw [hA21, hc21, hy21]; exact hr21); have HE21 : Aside0 ((Value.slice A21 y180.length c21).ownBlock = (.slice Ao20 t172.length co20 : Value).ownBlock) := ⟨by rw [hA21]; split <;> (cases (Ao20 : Option Addr) <;> rfl)⟩; clear hy21 hi021 hsz21 HO_4 hA21 hc21; have HO182 := Aside0.mk hr21; clear hr21; replace q21 := eq_true q21))
        go_loopg [51] kj6 (fun kq v51 w' => ∃ (x51_3 : Int) (x172000_3 : Int) (x172001_3 : Int) (x172002_3 : Int) (x180001_3 : Int) (x180002_3 : Int) (x180003_3 : List (S32)) (u180003 : Value), v51 = .int .i64 x51_3 ∧ Aside0 (impl_TextCmd.l1 kq t177 y180 (y180.length : Int) x51_3 x5_1 x180001_3 x180002_3 x180003_3 = some (r1, r2, r3, r4, r5)) ∧ Aside0 (kq ≤ kj6) ∧ Aside0 (Kd.Q Kd.string 9 w' w.heap.size (fun _ => True) (.slice A21 y180.length c21) y180) ∧ Aside0 (Kd.R k32 32 w' w.heap.size (fun _ => True) u180003 x180003_3) ∧ Aside0 (w'.heap[gb171]? = some (.cells #[.int .i64 x172000_3, .int .i64 x172001_3, .int .i64 x172002_3, (.slice none 0 0)] 27 (0, 0))) ∧ Aside0 (w'.heap[gb179]? = some (.cells #[.int .i64 x5_1, .int .i64 x180001_3, .int .i64 x180002_3, u180003] 27 (0, 0))) ∧ Aside0 (Below w.heap.size w w'))
        case atStart => exact ⟨(0), (x172000_1), (x172001_1), (x172002_1), (0), (0), (([] : List (S32))), (.slice none 0 0), (by first | rfl | (simp; done) | (simp [*]; done)), H', ⟨Nat.le_refl _⟩, ⟨by (with_reducible repeat (first | apply Kd.Q_alloc | apply Kd.Q_drewN | apply Kd.Q_drew)); exact HO182.out⟩, ⟨by first | exact Kd.R_nil _ _ _ _ _ | exact Kd.N_nil _ _ _ _ _ | exact Kd.V_nil _ _ _ _ _ | exact Kd.Q_nil _ _ _ _ _ | exact Kd.S_nil _ _ _ _ _⟩, ⟨by (with_reducible repeat (first | refine blk_drewN ?_ _ | refine blk_drew ?_ | refine blk_alloc ?_ _)); exact BK171.out⟩, ⟨by (with_reducible repeat (first | refine blk_drewN ?_ _ | refine blk_drew ?_ | refine blk_alloc ?_ _)); exact BK179.out⟩, ⟨by repeat (first | (with_reducible first | exact HB.out | apply below_alloc | apply pw_below_drewN | apply below_drew1 | refine below_set ?_ GE171.out | refine below_set ?_ GE179.out) | exact HB.out)⟩⟩
        case round =>
         clear H'
         try clear c1
         try clear p1
         try clear q1
         try clear hx1
         try clear qi1
         try clear c2
         try clear p2
         try clear q2
         try clear c3
         try clear c5
         try clear c5b0
         try clear p6
         try clear c8
         try clear c8b0
         try clear c8b1
         try clear c9
         try clear c9b0
         try clear c9b1
         try clear c10
         try clear c14
         try clear c15
         try clear c15b0
         try clear c15b1
         try clear c17
         try clear p17
         try clear q17
         try clear hx17
         try clear qi17
         try clear c21
         try clear q21
         try clear hcz18_0
         try clear hcz18_1
         try clear hcz18_2
         try clear hcz18_3
         try clear hfz18_0
         try clear hfz18_1
         try clear hfz18_2
         try clear hfz18_3
         try clear hx178_0
         try clear p1
         try clear p178
         try clear p2
         try clear p6
         try clear q1
         try clear q178
         try clear q21
         obtain ⟨x51_3, x172000_3, x172001_3, x172002_3, x180001_3, x180002_3, x180003_3, u180003, rfl, HA, HK3, HO_49, HO_180003, BK171, BK179, HB⟩ := hrel
         cases gk with
         | zero => exact absurd HA.out (by simp [impl_TextCmd.l1])
         | succ k3 =>
          have H := HA.out
          clear HA
          simp only [impl_TextCmd.l1] at H
          by_cases c22 : x51_3 < (y180.length : Int)
          ·rw [if_pos c22] at H
           have c22b0 : decide (x51_3 < (y180.length : Int)) = true := decide_eq_true c22
           clear c22
           by_cases c23 : 0 ≤ x51_3
           ·rw [if_pos c23] at H
            have c23b0 : decide (0 ≤ x51_3) = true := decide_eq_true c23
            clear c23
            by_cases c24 : x51_3 < (y180.length : Int)
            ·rw [if_pos c24] at H
             have c24b0 : decide (x51_3 < (y180.length : Int)) = true := decide_eq_true c24
             clear c24
             replace H := Option.bind_eq_some_iff.mp H
             obtain ⟨⟨t184, t185, t186⟩, A250, H⟩ := H
             replace H : ((impl_TextNum.f k3 t184).bind fun bt187 => (if t186 = true then (impl_TextCmd.j3 k3 t177 x51_3 t185 t186 bt187.1 bt187.2 0 y180 (y180.length : Int) x51_3 bt187.2 x5_1 x180001_3 x180002_3 x180003_3) else (impl_TextCmd.j3 k3 t177 x51_3 t185 t186 bt187.1 bt187.2 0 y180 (y180.length : Int) x51_3 false x5_1 x180001_3 x180002_3 x180003_3))) = some (r1, r2, r3, r4, r5) := H
             have A25 := Aside0.mk A250
             clear A250
             replace H := Option.bind_eq_some_iff.mp H
             obtain ⟨⟨t187, t188⟩, A260, H⟩ := H
             replace H : (if t186 = true then (impl_TextCmd.j3 k3 t177 x51_3 t185 t186 t187 t188 0 y180 (y180.length : Int) x51_3 t188 x5_1 x180001_3 x180002_3 x180003_3) else (impl_TextCmd.j3 k3 t177 x51_3 t185 t186 t187 t188 0 y180 (y180.length : Int) x51_3 false x5_1 x180001_3 x180002_3 x180003_3)) = some (r1, r2, r3, r4, r5) := H
             have A26 := Aside0.mk A260
             clear A260
             have HC27 := Aside0.mk H
             clear H
             have p183 : 0 ≤ (x51_3 : Int) := of_decide_eq_true (by first | (with_reducible assumption) | assumption)
             have q183 : x51_3 < (y180.length : Int) := of_decide_eq_true (by first | (with_reducible assumption) | assumption)
             obtain ⟨ad183, e183, hx183_0⟩ := Kd.at_string (Kd.Q_reads' HO_49.out).2.2 x51_3 p183 q183
             cases e183
             replace p183 := eq_true p183
             replace q183 := eq_true q183
             go_upto_region 14 with (first | ((with_reducible refine gate_callee (f := 33) rfl ?_); refine goesL_ (some 58) rfl rfl Tryd.func33 (by kernel_rfl) rfl #[.string (rdOf ByteArray.empty y180 x51_3), .string (⟨#[58]⟩ : ByteArray)] rfl (by (try simp only [List.map_toArray, List.map_cons, List.map_nil]); first | done | rfl | (simp only [List.length_drop, List.length_take]; rfl)) ?_; (with_reducible refine (strings_Cut.calls (rdOf ByteArray.empty y180 x51_3) (⟨#[58]⟩ : ByteArray) t184 t185 t186 _ A25.out).mono ?_); rintro e w28 ⟨rfl, hb⟩; refine ⟨_, rfl, ?_⟩; have n0_ := Aside0.mk (Kd.Q_below (by (with_reducible repeat (first | apply Kd.Q_alloc | apply Kd.Q_drewN | apply Kd.Q_drew)); exact HO_49.out) hb); have n1_ := Aside0.mk (Kd.R_below (by (with_reducible repeat (first | apply Kd.R_alloc | apply Kd.R_drewN | apply Kd.R_drew)); exact HO_180003.out) hb); have n2_ := Aside0.mk (blk_below (g := gb171) (o := .cells #[.int .i64 x172000_3, .int .i64 x172001_3, .int .i64 x172002_3, .slice none 0 0] 27 (0, 0)) (by (with_reducible repeat (first | refine blk_drewN ?_ _ | refine blk_drew ?_ | refine blk_alloc ?_ _)); exact BK171.out) hb); have n3_ := Aside0.mk (blk_below (g := gb179) (o := .cells #[.int .i64 x5_1, .int .i64 x180001_3, .int .i64 x180002_3, u180003] 27 (0, 0)) (by (with_reducible repeat (first | refine blk_drewN ?_ _ | refine blk_drew ?_ | refine blk_alloc ?_ _)); exact BK179.out) hb); have n4_ := Aside0.mk (below_step (by repeat (first | (with_reducible first | exact HB.out | apply below_alloc | apply pw_below_drewN | apply below_drew1 | refine below_set ?_ GE171.out | refine below_set ?_ GE179.out) | exact HB.out)) hb); clear HO_49; clear HO_180003; clear BK171; clear BK179; clear HB; have HO_49 := n0_; have HO_180003 := n1_; have BK171 := n2_; have BK179 := n3_; have HB := n4_; clear n0_ n1_ n2_ n3_ n4_; (try clear hb); (try clear hb2); (try clear hk); (try clear hi)) | ((with_reducible refine gate_callee (f := 34) rfl ?_); refine goesL_ (some 64) rfl rfl Tryd.func34 (by kernel_rfl) rfl #[.string t184] rfl (by (try simp only [List.map_toArray, List.map_cons, List.map_nil]); first | done | rfl | (simp only [List.length_drop, List.length_take]; rfl)) ?_; (with_reducible refine (impl_TextNum.calls k3 t184 t187 t188 _ A26.out).mono ?_); rintro e w29 ⟨rfl, hb⟩; refine ⟨_, rfl, ?_⟩; have n0_ := Aside0.mk (Kd.Q_below (by (with_reducible repeat (first | apply Kd.Q_alloc | apply Kd.Q_drewN | apply Kd.Q_drew)); exact HO_49.out) hb); have n1_ := Aside0.mk (Kd.R_below (by (with_reducible repeat (first | apply Kd.R_alloc | apply Kd.R_drewN | apply Kd.R_drew)); exact HO_180003.out) hb); have n2_ := Aside0.mk (blk_below (g := gb171) (o := .cells #[.int .i64 x172000_3, .int .i64 x172001_3, .int .i64 x172002_3, .slice none 0 0] 27 (0, 0)) (by (with_reducible repeat (first | refine blk_drewN ?_ _ | refine blk_drew ?_ | refine blk_alloc ?_ _)); exact BK171.out) hb); have n3_ := Aside0.mk (blk_below (g := gb179) (o := .cells #[.int .i64 x5_1, .int .i64 x180001_3, .int .i64 x180002_3, u180003] 27 (0, 0)) (by (with_reducible repeat (first | refine blk_drewN ?_ _ | refine blk_drew ?_ | refine blk_alloc ?_ _)); exact BK179.out) hb); have n4_ := Aside0.mk (below_step (by repeat (first | (with_reducible first | exact HB.out | apply below_alloc | apply pw_below_drewN | apply below_drew1 | refine below_set ?_ GE171.out | refine below_set ?_ GE179.out) | exact HB.out)) hb); clear HO_49; clear HO_180003; clear BK171; clear BK179; clear HB; have HO_49 := n0_; have HO_180003 := n1_; have BK171 := n2_; have BK179 := n3_; have HB := n4_; clear n0_ n1_ n2_ n3_ n4_; (try clear hb); (try clear hb2); (try clear hk); (try clear hi)))
             (try simp only [Act.put, List.setIfInBounds_toArray, List.set_cons_zero, List.set_cons_succ])
             go_cut [70] (fun v70 wc => ∃ (kq : Nat) (x70_26 : Bool), v70 = .bool x70_26 ∧ Aside0 (impl_TextCmd.j3 kq t177 x51_3 t185 t186 t187 t188 0 y180 (y180.length : Int) x51_3 x70_26 x5_1 x180001_3 x180002_3 x180003_3 = some (r1, r2, r3, r4, r5)) ∧ Aside0 (kq ≤ k3) ∧ Aside0 (Kd.Q Kd.string 9 wc w.heap.size (fun _ => True) (.slice (some ad183) y180.length c21) y180) ∧ Aside0 (Kd.R k32 32 wc w.heap.size (fun _ => True) u180003 x180003_3) ∧ Aside0 (wc.heap[gb171]? = some (.cells #[.int .i64 x172000_3, .int .i64 x172001_3, .int .i64 x172002_3, (.slice none 0 0)] 27 (0, 0))) ∧ Aside0 (wc.heap[gb179]? = some (.cells #[.int .i64 x5_1, .int .i64 x180001_3, .int .i64 x180002_3, u180003] 27 (0, 0))) ∧ Aside0 (Below w.heap.size w wc))
             case first =>
              have H := HC27.out
              clear HC27
              by_cases c30 : t186 = true
              ·subst c30
               have H1 : (impl_TextCmd.j3 k3 t177 x51_3 t185 true t187 t188 0 y180 (y180.length : Int) x51_3 t188 x5_1 x180001_3 x180002_3 x180003_3) = some (r1, r2, r3, r4, r5) := by rw [if_pos rfl] at H; exact H
               clear H
               have H := H1
               clear H1
               have H' := Aside0.mk H
               clear H
               go_wp2
               go_meet
               case rel => exact ⟨_, (t188), (by first | rfl | (simp; done) | (simp [*]; done)), H', ⟨by have := HK1.out; have := HJ6.out; have := HK3.out; first | omega | exact Nat.le_refl _⟩, ⟨by (with_reducible repeat (first | apply Kd.Q_alloc | apply Kd.Q_drewN | apply Kd.Q_drew)); exact HO_49.out⟩, ⟨by (with_reducible repeat (first | apply Kd.R_alloc | apply Kd.R_drewN | apply Kd.R_drew)); exact HO_180003.out⟩, ⟨by (with_reducible repeat (first | refine blk_drewN ?_ _ | refine blk_drew ?_ | refine blk_alloc ?_ _)); exact BK171.out⟩, ⟨by (with_reducible repeat (first | refine blk_drewN ?_ _ | refine blk_drew ?_ | refine blk_alloc ?_ _)); exact BK179.out⟩, ⟨by repeat (first | (with_reducible first | exact HB.out | apply below_alloc | apply pw_below_drewN | apply below_drew1 | refine below_set ?_ GE171.out | refine below_set ?_ GE179.out) | exact HB.out)⟩⟩
              ·replace c30 := Bool.eq_false_iff.mpr c30
               subst c30
               have H1 : (impl_TextCmd.j3 k3 t177 x51_3 t185 false t187 t188 0 y180 (y180.length : Int) x51_3 false x5_1 x180001_3 x180002_3 x180003_3) = some (r1, r2, r3, r4, r5) := by rw [if_neg (show ¬ (false = true) by decide)] at H; exact H
               clear H
               have H := H1
               clear H1
               have H' := Aside0.mk H
               clear H
               go_wp2
               go_meet
               case rel => exact ⟨_, (false), (by first | rfl | (simp; done) | (simp [*]; done)), H', ⟨by have := HK1.out; have := HJ6.out; have := HK3.out; first | omega | exact Nat.le_refl _⟩, ⟨by (with_reducible repeat (first | apply Kd.Q_alloc | apply Kd.Q_drewN | apply Kd.Q_drew)); exact HO_49.out⟩, ⟨by (with_reducible repeat (first | apply Kd.R_alloc | apply Kd.R_drewN | apply Kd.R_drew)); exact HO_180003.out⟩, ⟨by (with_reducible repeat (first | refine blk_drewN ?_ _ | refine blk_drew ?_ | refine blk_alloc ?_ _)); exact BK171.out⟩, ⟨by (with_reducible repeat (first | refine blk_drewN ?_ _ | refine blk_drew ?_ | refine blk_alloc ?_ _)); exact BK179.out⟩, ⟨by repeat (first | (with_reducible first | exact HB.out | apply below_alloc | apply pw_below_drewN | apply below_drew1 | refine below_set ?_ GE171.out | refine below_set ?_ GE179.out) | exact HB.out)⟩⟩
             case rest =>
              clear HC27
              try clear c1
              try clear p1
              try clear q1
              try clear hx1
              try clear qi1
              try clear c2
              try clear p2
              try clear q2
              try clear c3
              try clear c5
              try clear c5b0
              try clear p6
              try clear c8
              try clear c8b0
              try clear c8b1
              try clear c9
              try clear c9b0
              try clear c9b1
              try clear c10
              try clear c14
              try clear c15
              try clear c15b0
              try clear c15b1
              try clear c17
              try clear p17
              try clear q17
              try clear hx17
              try clear qi17
              try clear p18
              try clear q18
              try clear hx18
              try clear c21
              try clear q21
              try clear c22
              try clear c22b0
              try clear c23
              try clear c23b0
              try clear c24
              try clear c24b0
              try clear c30
              try clear hcz18_0
              try clear hcz18_1
              try clear hcz18_2
              try clear hcz18_3
              try clear hfz18_0
              try clear hfz18_1
              try clear hfz18_2
              try clear hfz18_3
              try clear hx178_0
              try clear hx183_0
              try clear p1
              try clear p17
              try clear p178
              try clear p183
              try clear p2
              try clear p6
              try clear q1
              try clear q17
              try clear q178
              try clear q183
              try clear q2
              try clear q21
              obtain ⟨kq, x70_26, rfl, HA, HJ26, HO_49, HO_180003, BK171, BK179, HB⟩ := hcut
              cases kq with
              | zero => exact absurd HA.out (by simp [impl_TextCmd.j3])
              | succ kj26 =>
               have H := HA.out
               clear HA
               simp only [impl_TextCmd.j3] at H
               have HC31 := Aside0.mk H
               clear H
               go_upto_if 70 with (fail)
               go_cut [16, 17] (fun v16 v17 wc => ∃ (kq : Nat) (x16_30 : Bool) (x17_30 : Int), v16 = .bool x16_30 ∧ v17 = .int .i64 x17_30 ∧ Aside0 (impl_TextCmd.j4 kq t177 x51_3 t186 t187 x16_30 x17_30 y180 (y180.length : Int) x51_3 x5_1 x180001_3 x180002_3 x180003_3 = some (r1, r2, r3, r4, r5)) ∧ Aside0 (kq ≤ kj26) ∧ Aside0 (Kd.Q Kd.string 9 wc w.heap.size (fun _ => True) (.slice (some ad183) y180.length c21) y180) ∧ Aside0 (Kd.R k32 32 wc w.heap.size (fun _ => True) u180003 x180003_3) ∧ Aside0 (wc.heap[gb171]? = some (.cells #[.int .i64 x172000_3, .int .i64 x172001_3, .int .i64 x172002_3, (.slice none 0 0)] 27 (0, 0))) ∧ Aside0 (wc.heap[gb179]? = some (.cells #[.int .i64 x5_1, .int .i64 x180001_3, .int .i64 x180002_3, u180003] 27 (0, 0))) ∧ Aside0 (Below w.heap.size w wc))
               case first =>
                have H := HC31.out
                clear HC31
                by_cases c32 : x70_26 = true
                ·subst c32
                 have H1 : ((impl_TextNum.f kj26 t185).bind fun bt189 => (impl_TextCmd.j4 kj26 t177 x51_3 t186 t187 bt189.2 bt189.1 y180 (y180.length : Int) x51_3 x5_1 x180001_3 x180002_3 x180003_3)) = some (r1, r2, r3, r4, r5) := by rw [if_pos rfl] at H; exact H
                 clear H
                 have H := H1
                 clear H1
                 replace H := Option.bind_eq_some_iff.mp H
                 obtain ⟨⟨t189, t190⟩, A330, H⟩ := H
                 replace H : (impl_TextCmd.j4 kj26 t177 x51_3 t186 t187 t190 t189 y180 (y180.length : Int) x51_3 x5_1 x180001_3 x180002_3 x180003_3) = some (r1, r2, r3, r4, r5) := H
                 have A33 := Aside0.mk A330
                 clear A330
                 have H' := Aside0.mk H
                 clear H
                 go_wp2_with (first | ((with_reducible refine gate_callee (f := 34) rfl ?_); refine goesL_ (some 73) rfl rfl Tryd.func34 (by kernel_rfl) rfl #[.string t185] rfl (by (try simp only [List.map_toArray, List.map_cons, List.map_nil]); first | done | rfl | (simp only [List.length_drop, List.length_take]; rfl)) ?_; (with_reducible refine (impl_TextNum.calls kj26 t185 t189 t190 _ A33.out).mono ?_); rintro e w34 ⟨rfl, hb⟩; refine ⟨_, rfl, ?_⟩; have n0_ := Aside0.mk (Kd.Q_below (by (with_reducible repeat (first | apply Kd.Q_alloc | apply Kd.Q_drewN | apply Kd.Q_drew)); exact HO_49.out) hb); have n1_ := Aside0.mk (Kd.R_below (by (with_reducible repeat (first | apply Kd.R_alloc | apply Kd.R_drewN | apply Kd.R_drew)); exact HO_180003.out) hb); have n2_ := Aside0.mk (blk_below (g := gb171) (o := .cells #[.int .i64 x172000_3, .int .i64 x172001_3, .int .i64 x172002_3, .slice none 0 0] 27 (0, 0)) (by (with_reducible repeat (first | refine blk_drewN ?_ _ | refine blk_drew ?_ | refine blk_alloc ?_ _)); exact BK171.out) hb); have n3_ := Aside0.mk (blk_below (g := gb179) (o := .cells #[.int .i64 x5_1, .int .i64 x180001_3, .int .i64 x180002_3, u180003] 27 (0, 0)) (by (with_reducible repeat (first | refine blk_drewN ?_ _ | refine blk_drew ?_ | refine blk_alloc ?_ _)); exact BK179.out) hb); have n4_ := Aside0.mk (below_step (by repeat (first | (with_reducible first | exact HB.out | apply below_alloc | apply pw_below_drewN | apply below_drew1 | refine below_set ?_ GE171.out | refine below_set ?_ GE179.out) | exact HB.out)) hb); clear HO_49; clear HO_180003; clear BK171; clear BK179; clear HB; have HO_49 := n0_; have HO_180003 := n1_; have BK171 := n2_; have BK179 := n3_; have HB := n4_; clear n0_ n1_ n2_ n3_ n4_; (try clear hb); (try clear hb2); (try clear hk); (try clear hi)))
                 go_meet
                 case rel => exact ⟨_, (t190), (t189), (by first | rfl | (simp; done) | (simp [*]; done)), (by first | rfl | (simp; done) | (simp [*]; done)), H', ⟨by have := HK1.out; have := HJ6.out; have := HK3.out; have := HJ26.out; first | omega | exact Nat.le_refl _⟩, ⟨by (with_reducible repeat (first | apply Kd.Q_alloc | apply Kd.Q_drewN | apply Kd.Q_drew)); exact HO_49.out⟩, ⟨by (with_reducible repeat (first | apply Kd.R_alloc | apply Kd.R_drewN | apply Kd.R_drew)); exact HO_180003.out⟩, ⟨by (with_reducible repeat (first | refine blk_drewN ?_ _ | refine blk_drew ?_ | refine blk_alloc ?_ _)); exact BK171.out⟩, ⟨by (with_reducible repeat (first | refine blk_drewN ?_ _ | refine blk_drew ?_ | refine blk_alloc ?_ _)); exact BK179.out⟩, ⟨by repeat (first | (with_reducible first | exact HB.out | apply below_alloc | apply pw_below_drewN | apply below_drew1 | refine below_set ?_ GE171.out | refine below_set ?_ GE179.out) | exact HB.out)⟩⟩
                ·replace c32 := Bool.eq_false_iff.mpr c32
                 subst c32
                 have H1 : (impl_TextCmd.j4 kj26 t177 x51_3 t186 t187 t188 0 y180 (y180.length : Int) x51_3 x5_1 x180001_3 x180002_3 x180003_3) = some (r1, r2, r3, r4, r5) := by rw [if_neg (show ¬ (false = true) by decide)] at H; exact H
                 clear H
                 have H := H1
                 clear H1
                 have H' := Aside0.mk H
                 clear H
                 go_wp2
                 go_meet
                 case rel => exact ⟨_, (t188), (0), (by first | rfl | (simp; done) | (simp [*]; done)), (by first | rfl | (simp; done) | (simp [*]; done)), H', ⟨by have := HK1.out; have := HJ6.out; have := HK3.out; have := HJ26.out; first | omega | exact Nat.le_refl _⟩, ⟨by (with_reducible repeat (first | apply Kd.Q_alloc | apply Kd.Q_drewN | apply Kd.Q_drew)); exact HO_49.out⟩, ⟨by (with_reducible repeat (first | apply Kd.R_alloc | apply Kd.R_drewN | apply Kd.R_drew)); exact HO_180003.out⟩, ⟨by (with_reducible repeat (first | refine blk_drewN ?_ _ | refine blk_drew ?_ | refine blk_alloc ?_ _)); exact BK171.out⟩, ⟨by (with_reducible repeat (first | refine blk_drewN ?_ _ | refine blk_drew ?_ | refine blk_alloc ?_ _)); exact BK179.out⟩, ⟨by repeat (first | (with_reducible first | exact HB.out | apply below_alloc | apply pw_below_drewN | apply below_drew1 | refine below_set ?_ GE171.out | refine below_set ?_ GE179.out) | exact HB.out)⟩⟩
               case rest =>
                clear HC31
                try clear c1
                try clear p1
                try clear q1
                try clear hx1
                try clear qi1
                try clear c2
                try clear p2
                try clear q2
                try clear c3
                try clear c5
                try clear c5b0
                try clear p6
                try clear c8
                try clear c8b0
                try clear c8b1
                try clear c9
                try clear c9b0
                try clear c9b1
                try clear c10
                try clear c14
                try clear c15
                try clear c15b0
                try clear c15b1
                try clear c17
                try clear p17
                try clear q17
                try clear hx17
                try clear qi17
                try clear p18
                try clear q18
                try clear hx18
                try clear c21
                try clear q21
                try clear c22
                try clear c22b0
                try clear c23
                try clear c23b0
                try clear c24
                try clear c24b0
                try clear c30
                try clear c32
                try clear c33
                try clear c34
                try clear hcz18_0
                try clear hcz18_1
                try clear hcz18_2
                try clear hcz18_3
                try clear hfz18_0
                try clear hfz18_1
                try clear hfz18_2
                try clear hfz18_3
                try clear hx178_0
                try clear hx183_0
                try clear p1
                try clear p17
                try clear p178
                try clear p18
                try clear p183
                try clear p2
                try clear p6
                try clear q1
                try clear q17
                try clear q178
                try clear q18
                try clear q183
                try clear q2
                try clear q21
                obtain ⟨kq, x16_30, x17_30, rfl, rfl, HA, HJ30, HO_49, HO_180003, BK171, BK179, HB⟩ := hcut
                cases kq with
                | zero => exact absurd HA.out (by simp [impl_TextCmd.j4])
                | succ kj30 =>
                 have H := HA.out
                 clear HA
                 simp only [impl_TextCmd.j4] at H
                 have HC35 := Aside0.mk H
                 clear H
                 go_upto_region 16 with (fail)
                 go_cut [82] (fun v82 wc => ∃ (kq : Nat) (x82_34 : Bool), v82 = .bool x82_34 ∧ Aside0 (impl_TextCmd.j5 kq t177 x51_3 t187 x17_30 y180 (y180.length : Int) x51_3 x82_34 x5_1 x180001_3 x180002_3 x180003_3 = some (r1, r2, r3, r4, r5)) ∧ Aside0 (kq ≤ kj30) ∧ Aside0 (Kd.Q Kd.string 9 wc w.heap.size (fun _ => True) (.slice (some ad183) y180.length c21) y180) ∧ Aside0 (Kd.R k32 32 wc w.heap.size (fun _ => True) u180003 x180003_3) ∧ Aside0 (wc.heap[gb171]? = some (.cells #[.int .i64 x172000_3, .int .i64 x172001_3, .int .i64 x172002_3, (.slice none 0 0)] 27 (0, 0))) ∧ Aside0 (wc.heap[gb179]? = some (.cells #[.int .i64 x5_1, .int .i64 x180001_3, .int .i64 x180002_3, u180003] 27 (0, 0))) ∧ Aside0 (Below w.heap.size w wc))
                 case first =>
                  have H := HC35.out
                  clear HC35
                  by_cases c36 : x16_30 = true
                  ·subst c36
                   have H1 : (impl_TextCmd.j5 kj30 t177 x51_3 t187 x17_30 y180 (y180.length : Int) x51_3 (t186 != t177) x5_1 x180001_3 x180002_3 x180003_3) = some (r1, r2, r3, r4, r5) := by rw [if_pos rfl] at H; exact H
                   clear H
                   have H := H1
                   clear H1
                   have H' := Aside0.mk H
                   clear H
                   go_wp2
                   go_meet
                   case rel => exact ⟨_, ((t186 != t177)), (by first | rfl | (simp; done) | (simp [*]; done)), H', ⟨by have := HK1.out; have := HJ6.out; have := HK3.out; have := HJ26.out; have := HJ30.out; first | omega | exact Nat.le_refl _⟩, ⟨by (with_reducible repeat (first | apply Kd.Q_alloc | apply Kd.Q_drewN | apply Kd.Q_drew)); exact HO_49.out⟩, ⟨by (with_reducible repeat (first | apply Kd.R_alloc | apply Kd.R_drewN | apply Kd.R_drew)); exact HO_180003.out⟩, ⟨by (with_reducible repeat (first | refine blk_drewN ?_ _ | refine blk_drew ?_ | refine blk_alloc ?_ _)); exact BK171.out⟩, ⟨by (with_reducible repeat (first | refine blk_drewN ?_ _ | refine blk_drew ?_ | refine blk_alloc ?_ _)); exact BK179.out⟩, ⟨by repeat (first | (with_reducible first | exact HB.out | apply below_alloc | apply pw_below_drewN | apply below_drew1 | refine below_set ?_ GE171.out | refine below_set ?_ GE179.out) | exact HB.out)⟩⟩
                  ·replace c36 := Bool.eq_false_iff.mpr c36
                   subst c36
                   have H1 : (impl_TextCmd.j5 kj30 t177 x51_3 t187 x17_30 y180 (y180.length : Int) x51_3 true x5_1 x180001_3 x180002_3 x180003_3) = some (r1, r2, r3, r4, r5) := by rw [if_neg (show ¬ (false = true) by decide)] at H; exact H
                   clear H
                   have H := H1
                   clear H1
                   have H' := Aside0.mk H
                   clear H
                   go_wp2
                   go_meet
                   case rel => exact ⟨_, (true), (by first | rfl | (simp; done) | (simp [*]; done)), H', ⟨by have := HK1.out; have := HJ6.out; have := HK3.out; have := HJ26.out; have := HJ30.out; first | omega | exact Nat.le_refl _⟩, ⟨by (with_reducible repeat (first | apply Kd.Q_alloc | apply Kd.Q_drewN | apply Kd.Q_drew)); exact HO_49.out⟩, ⟨by (with_reducible repeat (first | apply Kd.R_alloc | apply Kd.R_drewN | apply Kd.R_drew)); exact HO_180003.out⟩, ⟨by (with_reducible repeat (first | refine blk_drewN ?_ _ | refine blk_drew ?_ | refine blk_alloc ?_ _)); exact BK171.out⟩, ⟨by (with_reducible repeat (first | refine blk_drewN ?_ _ | refine blk_drew ?_ | refine blk_alloc ?_ _)); exact BK179.out⟩, ⟨by repeat (first | (with_reducible first | exact HB.out | apply below_alloc | apply pw_below_drewN | apply below_drew1 | refine below_set ?_ GE171.out | refine below_set ?_ GE179.out) | exact HB.out)⟩⟩
                 case rest =>
                  clear HC35
                  try clear c1
                  try clear p1
                  try clear q1
                  try clear hx1
                  try clear qi1
                  try clear c2
                  try clear p2
                  try clear q2
                  try clear c3
                  try clear c5
                  try clear c5b0
                  try clear p6
                  try clear c8
                  try clear c8b0
                  try clear c8b1
                  try clear c9
                  try clear c9b0
                  try clear c9b1
                  try clear c10
                  try clear c14
                  try clear c15
                  try clear c15b0
                  try clear c15b1
                  try clear c17
                  try clear p17
                  try clear q17
                  try clear hx17
                  try clear qi17
                  try clear p18
                  try clear q18
                  try clear hx18
                  try clear c21
                  try clear q21
                  try clear c22
                  try clear c22b0
                  try clear c23
                  try clear c23b0
                  try clear c24
                  try clear c24b0
                  try clear c30
                  try clear c32
                  try clear c33
                  try clear c34
                  try clear c36
                  try clear hcz18_0
                  try clear hcz18_1
                  try clear hcz18_2
                  try clear hcz18_3
                  try clear hfz18_0
                  try clear hfz18_1
                  try clear hfz18_2
                  try clear hfz18_3
                  try clear hx178_0
                  try clear hx183_0
                  try clear p1
                  try clear p17
                  try clear p178
                  try clear p18
                  try clear p183
                  try clear p2
                  try clear p6
                  try clear q1
                  try clear q17
                  try clear q178
                  try clear q18
                  try clear q183
                  try clear q2
                  try clear q21
                  obtain ⟨kq, x82_34, rfl, HA, HJ34, HO_49, HO_180003, BK171, BK179, HB⟩ := hcut
                  cases kq with
                  | zero => exact absurd HA.out (by simp [impl_TextCmd.j5])
                  | succ kj34 =>
                   have H := HA.out
                   clear HA
                   simp only [impl_TextCmd.j5] at H
                   by_cases c37 : x82_34 = true
                   ·subst c37
                    have H1 : (some (0, 0, 0, ([] : List (S32)), false)) = some (r1, r2, r3, r4, r5) := by rw [if_pos rfl] at H; exact H
                    clear H
                    have H := H1
                    clear H1
                    simp only [Option.some.injEq, Prod.mk.injEq] at H
                    obtain ⟨rfl, rfl, rfl, rfl, rfl⟩ := H
                    have hnb38 := NB171_179.out
                    have hnc38 := NB179_171.out
                    have hcz39_0 : wc.cell? ⟨gb171, 0, none⟩ = some (.int .i64 x172000_3) := (blk_cell BK171.out 0).trans rfl
                    have hcz39_1 : wc.cell? ⟨gb171, 1, none⟩ = some (.int .i64 x172001_3) := (blk_cell BK171.out 1).trans rfl
                    have hcz39_2 : wc.cell? ⟨gb171, 2, none⟩ = some (.int .i64 x172002_3) := (blk_cell BK171.out 2).trans rfl
                    have hcz39_3 : wc.cell? ⟨gb171, 3, none⟩ = some (.slice none 0 0) := (blk_cell BK171.out 3).trans rfl
                    have hfz39_0 := blk_frozen BK171.out 0
                    have hfz39_1 := blk_frozen BK171.out 1
                    have hfz39_2 := blk_frozen BK171.out 2
                    have hfz39_3 := blk_frozen BK171.out 3
                    go_wp2
                    refine bodyPost_ret (results_ct rfl _ _ gb171 27 #[.int .i64 0, .int .i64 0, .int .i64 0, .slice none 0 0] (0, 0) _ rfl (by (with_reducible repeat (first | refine blk_drewN ?_ _ | refine blk_drew ?_ | refine blk_alloc ?_ _)); refine blk_put (cs := #[.int .i64 0, .int .i64 0, .int .i64 0, .slice none 0 0]) ?_ 3 _ rfl; (with_reducible repeat (first | refine blk_drewN ?_ _ | refine blk_drew ?_ | refine blk_alloc ?_ _)); refine blk_put (cs := #[.int .i64 0, .int .i64 0, .int .i64 x172002_3, .slice none 0 0]) ?_ 2 _ rfl; (with_reducible repeat (first | refine blk_drewN ?_ _ | refine blk_drew ?_ | refine blk_alloc ?_ _)); refine blk_put (cs := #[.int .i64 0, .int .i64 x172001_3, .int .i64 x172002_3, .slice none 0 0]) ?_ 1 _ rfl; (with_reducible repeat (first | refine blk_drewN ?_ _ | refine blk_drew ?_ | refine blk_alloc ?_ _)); refine blk_put (cs := #[.int .i64 x172000_3, .int .i64 x172001_3, .int .i64 x172002_3, .slice none 0 0]) ?_ 0 _ rfl; (with_reducible repeat (first | refine blk_drewN ?_ _ | refine blk_drew ?_ | refine blk_alloc ?_ _)); exact BK171.out) Tryd.underlying27 rfl (by kernel_rfl)) rfl ?_
                    exact ⟨_, by first | rfl | (simp [errW_none, errW_some] <;> rfl) | (simp [*, errW_none, errW_some] <;> rfl), by first | exact Kd.R_nil _ _ _ _ _ | exact Kd.N_nil _ _ _ _ _ | exact Kd.V_nil _ _ _ _ _ | exact Kd.Q_nil _ _ _ _ _ | exact Kd.S_nil _ _ _ _ _, by repeat (first | (with_reducible first | exact HB.out | apply below_alloc | apply pw_below_drewN | apply below_drew1 | refine below_set ?_ GE171.out | refine below_set ?_ GE179.out) | exact HB.out)⟩
                   ·replace c37 := Bool.eq_false_iff.mpr c37
                    subst c37
                    have H1 : (if t177 = true then (if x180003_3.length < 8796093022208 then (impl_TextCmd.l1 kj34 t177 y180 (y180.length : Int) (wrap64 (x51_3 + 1)) x5_1 x180001_3 x180002_3 (x180003_3 ++ [(⟨t187, x17_30⟩ : S32)])) else (none)) else (if x51_3 = 0 then (impl_TextCmd.l1 kj34 t177 y180 (y180.length : Int) (wrap64 (x51_3 + 1)) x5_1 t187 x180002_3 x180003_3) else (impl_TextCmd.l1 kj34 t177 y180 (y180.length : Int) (wrap64 (x51_3 + 1)) x5_1 x180001_3 t187 x180003_3))) = some (r1, r2, r3, r4, r5) := by rw [if_neg (show ¬ (false = true) by decide)] at H; exact H
                    clear H
                    have H := H1
                    clear H1
                    by_cases c40 : t177 = true
                    ·subst c40
                     have H1 : (if x180003_3.length < 8796093022208 then (impl_TextCmd.l1 kj34 true y180 (y180.length : Int) (wrap64 (x51_3 + 1)) x5_1 x180001_3 x180002_3 (x180003_3 ++ [(⟨t187, x17_30⟩ : S32)])) else (none)) = some (r1, r2, r3, r4, r5) := by rw [if_pos rfl] at H; exact H
                     clear H
                     have H := H1
                     clear H1
                     by_cases c41 : x180003_3.length < 8796093022208
                     ·rw [if_pos c41] at H
                      have LMc41 := Aside0.mk c41
                      clear c41
                      obtain ⟨y191, hy191⟩ : ∃ y_ : List (S32), y_ = (x180003_3 ++ [(⟨t187, x17_30⟩ : S32)]) := ⟨_, rfl⟩
                      replace H : (impl_TextCmd.l1 kj34 true y180 (y180.length : Int) (wrap64 (x51_3 + 1)) x5_1 x180001_3 x180002_3 y191) = some (r1, r2, r3, r4, r5) := by first | (rw [hy191]; with_reducible exact H) | (have H2_ := (Option.bind_some _ _).symm.trans H; rw [hy191]; with_reducible exact H2_) | (have H2_ := (Option.bind_some _ _).symm.trans H; with_reducible exact H2_) | with_reducible exact H | (rw [hy191]; exact H) | exact H
                      have Ny191 := Aside0.mk hy191
                      clear hy191
                      have H' := Aside0.mk H
                      clear H
                      have hnb42 := NB179_171.out
                      have hnc42 := NB171_179.out
                      have hcz43_0 : wc.cell? ⟨gb179, 0, none⟩ = some (.int .i64 x5_1) := (blk_cell BK179.out 0).trans rfl
                      have hcz43_1 : wc.cell? ⟨gb179, 1, none⟩ = some (.int .i64 x180001_3) := (blk_cell BK179.out 1).trans rfl
                      have hcz43_2 : wc.cell? ⟨gb179, 2, none⟩ = some (.int .i64 x180002_3) := (blk_cell BK179.out 2).trans rfl
                      have hcz43_3 : wc.cell? ⟨gb179, 3, none⟩ = some (u180003) := (blk_cell BK179.out 3).trans rfl
                      have hfz43_0 := blk_frozen BK179.out 0
                      have hfz43_1 := blk_frozen BK179.out 1
                      have hfz43_2 := blk_frozen BK179.out 2
                      have hfz43_3 := blk_frozen BK179.out 3
                      go_wp2_with (first | ((with_reducible refine gate_builtin (b := .append) (xs := #[.tmp 89, .tmp 93]) rfl ?_); (try (refine gate_guard (by rfl) ?_; dsimp only)); at_builtin; refine Kd.R_append k32 (w0 := w) w.heap.size rfl (.tmp 89) (.tmp 93) 25 32 (.agg #[(.int .i64 0), (.int .i64 0)]) 16 rfl Tryd.underlying25 info32 rfl (by decide) (by omega) u180003 x180003_3 (⟨t187, x17_30⟩ : S32) [.int .i64 t187, .int .i64 x17_30] (fun _ => True) (fun _ => False) rfl rfl ?aP (fun _ hk => hk.elim) ?aF ?aO ?aB ?aS ?aL ?_; (case aP => exact k32_mkM _ _ _ (⟨t187, x17_30⟩ : S32)); (case aB => exact (by repeat (first | (with_reducible first | exact HB.out | apply below_alloc | apply pw_below_drewN | apply below_drew1 | refine below_set ?_ GE171.out | refine below_set ?_ GE179.out) | exact HB.out))); (case aF => exact (fun _ _ => trivial)); (case aO => exact (by (with_reducible repeat (first | apply Kd.R_alloc | apply Kd.R_drewN | apply Kd.R_drew)); exact HO_180003.out)); (case aS => exact (below_size (by repeat (first | (with_reducible first | exact HB.out | apply below_alloc | apply pw_below_drewN | apply below_drew1 | refine below_set ?_ GE171.out | refine below_set ?_ GE179.out) | exact HB.out)))); (case aL => have := LMc41.out; omega); intro v192 w44 ho hb hg hat; rw [← Ny191.out] at ho; have n0_ := Aside0.mk (Kd.Q_over' (by (with_reducible repeat (first | apply Kd.Q_alloc | apply Kd.Q_drewN | apply Kd.Q_drew)); exact HO_49.out) (Kd.R_typed (by (with_reducible repeat (first | apply Kd.R_alloc | apply Kd.R_drewN | apply Kd.R_drew)); exact HO_180003.out)) (by decide) hg); have n1_ := Aside0.mk (blk_grown (g := gb171) (o := .cells #[.int .i64 x172000_3, .int .i64 x172001_3, .int .i64 x172002_3, .slice none 0 0] 27 (0, 0)) (by (with_reducible repeat (first | refine blk_drewN ?_ _ | refine blk_drew ?_ | refine blk_alloc ?_ _)); exact BK171.out) hg (Kd.R_ne HO_180003.out BK171.out (by decide))); have n2_ := Aside0.mk (blk_grown (g := gb179) (o := .cells #[.int .i64 x5_1, .int .i64 x180001_3, .int .i64 x180002_3, u180003] 27 (0, 0)) (by (with_reducible repeat (first | refine blk_drewN ?_ _ | refine blk_drew ?_ | refine blk_alloc ?_ _)); exact BK179.out) hg (Kd.R_ne HO_180003.out BK179.out (by decide))); have n3_ := Aside0.mk (hb); have n4_ := Aside0.mk (ho); clear HO_49; clear BK171; clear BK179; clear HB; clear HO_180003; have HO_49 := n0_; have BK171 := n1_; have BK179 := n2_; have HB := n3_; have HO193 := n4_; clear n0_ n1_ n2_ n3_ n4_; clear ho hb hg hat; obtain ⟨Ao45, co45, eo45⟩ := Kd.R_slice HO193.out; subst eo45; have hcz46_0 : w44.cell? ⟨gb179, 0, none⟩ = some (.int .i64 x5_1) := (blk_cell BK179.out 0).trans rfl; have hcz46_1 : w44.cell? ⟨gb179, 1, none⟩ = some (.int .i64 x180001_3) := (blk_cell BK179.out 1).trans rfl; have hcz46_2 : w44.cell? ⟨gb179, 2, none⟩ = some (.int .i64 x180002_3) := (blk_cell BK179.out 2).trans rfl; have hcz46_3 : w44.cell? ⟨gb179, 3, none⟩ = some (u180003) := (blk_cell BK179.out 3).trans rfl; have hfz46_0 := blk_frozen BK179.out 0; have hfz46_1 := blk_frozen BK179.out 1; have hfz46_2 := blk_frozen BK179.out 2; have hfz46_3 := blk_frozen BK179.out 3))
                      go_roundg kj34
                      case measure => have := HK1.out; have := HJ6.out; have := HK3.out; have := HJ26.out; have := HJ30.out; have := HJ34.out; omega
                      case rel => exact ⟨(wrap64 (x51_3 + 1)), (x172000_3), (x172001_3), (x172002_3), (x180001_3), (x180002_3), (y191), (.slice Ao45 y191.length co45), (by first | rfl | (simp; done) | (simp [*]; done)), H', ⟨by have := HK1.out; have := HJ6.out; have := HK3.out; have := HJ26.out; have := HJ30.out; have := HJ34.out; omega⟩, ⟨by (with_reducible repeat (first | apply Kd.Q_alloc | apply Kd.Q_drewN | apply Kd.Q_drew)); exact Kd.Q_mono (Kd.Q_far (p := ⟨gb179, 3, none⟩) (Kd.Q_types HO_49.out BK179.out (by decide)) (fun _ hk => hk.2) (.slice Ao45 y191.length co45)) (fun _ hk => trivial)⟩, ⟨by (with_reducible repeat (first | apply Kd.R_alloc | apply Kd.R_drewN | apply Kd.R_drew)); exact Kd.R_mono (Kd.R_far (p := ⟨gb179, 3, none⟩) (Kd.R_types HO193.out BK179.out (by decide)) (fun _ hk => hk.2) (.slice Ao45 y191.length co45)) (fun _ hk => trivial)⟩, ⟨by (with_reducible repeat (first | refine blk_drewN ?_ _ | refine blk_drew ?_ | refine blk_alloc ?_ _)); refine blk_far ?_ NB171_179.out _; (with_reducible repeat (first | refine blk_drewN ?_ _ | refine blk_drew ?_ | refine blk_alloc ?_ _)); exact BK171.out⟩, ⟨by (with_reducible repeat (first | refine blk_drewN ?_ _ | refine blk_drew ?_ | refine blk_alloc ?_ _)); refine blk_put (cs := #[.int .i64 x5_1, .int .i64 x180001_3, .int .i64 x180002_3, u180003]) ?_ 3 _ rfl; (with_reducible repeat (first | refine blk_drewN ?_ _ | refine blk_drew ?_ | refine blk_alloc ?_ _)); exact BK179.out⟩, ⟨by repeat (first | (with_reducible first | exact HB.out | apply below_alloc | apply pw_below_drewN | apply below_drew1 | refine below_set ?_ GE171.out | refine below_set ?_ GE179.out) | exact HB.out)⟩⟩
                     ·rw [if_neg c41] at H
                      exact absurd H (by simp)
                    ·replace c40 := Bool.eq_false_iff.mpr c40
                     subst c40
                     have H1 : (if x51_3 = 0 then (impl_TextCmd.l1 kj34 false y180 (y180.length : Int) (wrap64 (x51_3 + 1)) x5_1 t187 x180002_3 x180003_3) else (impl_TextCmd.l1 kj34 false y180 (y180.length : Int) (wrap64 (x51_3 + 1)) x5_1 x180001_3 t187 x180003_3)) = some (r1, r2, r3, r4, r5) := by rw [if_neg (show ¬ (false = true) by decide)] at H; exact H
                     clear H
                     have H := H1
                     clear H1
                     by_cases c47 : x51_3 = 0
                     ·rw [if_pos c47] at H
                      have c47b0 : (x51_3 == 0) = true := beq_iff_eq.mpr c47
                      have c47b1 : (x51_3 != 0) = false := bne_eq_false_iff_eq.mpr c47
                      clear c47
                      have H' := Aside0.mk H
                      clear H
                      have hnb48 := NB179_171.out
                      have hnc48 := NB171_179.out
                      have hcz49_0 : wc.cell? ⟨gb179, 0, none⟩ = some (.int .i64 x5_1) := (blk_cell BK179.out 0).trans rfl
                      have hcz49_1 : wc.cell? ⟨gb179, 1, none⟩ = some (.int .i64 x180001_3) := (blk_cell BK179.out 1).trans rfl
                      have hcz49_2 : wc.cell? ⟨gb179, 2, none⟩ = some (.int .i64 x180002_3) := (blk_cell BK179.out 2).trans rfl
                      have hcz49_3 : wc.cell? ⟨gb179, 3, none⟩ = some (u180003) := (blk_cell BK179.out 3).trans rfl
                      have hfz49_0 := blk_frozen BK179.out 0
                      have hfz49_1 := blk_frozen BK179.out 1
                      have hfz49_2 := blk_frozen BK179.out 2
                      have hfz49_3 := blk_frozen BK179.out 3
                      go_wp2
                      go_roundg kj34
                      case measure => have := HK1.out; have := HJ6.out; have := HK3.out; have := HJ26.out; have := HJ30.out; have := HJ34.out; omega
                      case rel => exact ⟨(wrap64 (x51_3 + 1)), (x172000_3), (x172001_3), (x172002_3), (t187), (x180002_3), (x180003_3), (u180003), (by first | rfl | (simp; done) | (simp [*]; done)), H', ⟨by have := HK1.out; have := HJ6.out; have := HK3.out; have := HJ26.out; have := HJ30.out; have := HJ34.out; omega⟩, ⟨by (with_reducible repeat (first | apply Kd.Q_alloc | apply Kd.Q_drewN | apply Kd.Q_drew)); exact Kd.Q_mono (Kd.Q_far (p := ⟨gb179, 1, none⟩) (Kd.Q_types HO_49.out BK179.out (by decide)) (fun _ hk => hk.2) (.int .i64 t187)) (fun _ hk => trivial)⟩, ⟨by (with_reducible repeat (first | apply Kd.R_alloc | apply Kd.R_drewN | apply Kd.R_drew)); exact Kd.R_mono (Kd.R_far (p := ⟨gb179, 1, none⟩) (Kd.R_types HO_180003.out BK179.out (by decide)) (fun _ hk => hk.2) (.int .i64 t187)) (fun _ hk => trivial)⟩, ⟨by (with_reducible repeat (first | refine blk_drewN ?_ _ | refine blk_drew ?_ | refine blk_alloc ?_ _)); refine blk_far ?_ NB171_179.out _; (with_reducible repeat (first | refine blk_drewN ?_ _ | refine blk_drew ?_ | refine blk_alloc ?_ _)); exact BK171.out⟩, ⟨by (with_reducible repeat (first | refine blk_drewN ?_ _ | refine blk_drew ?_ | refine blk_alloc ?_ _)); refine blk_put (cs := #[.int .i64 x5_1, .int .i64 x180001_3, .int .i64 x180002_3, u180003]) ?_ 1 _ rfl; (with_reducible repeat (first | refine blk_drewN ?_ _ | refine blk_drew ?_ | refine blk_alloc ?_ _)); exact BK179.out⟩, ⟨by repeat (first | (with_reducible first | exact HB.out | apply below_alloc | apply pw_below_drewN | apply below_drew1 | refine below_set ?_ GE171.out | refine below_set ?_ GE179.out) | exact HB.out)⟩⟩
                     ·rw [if_neg c47] at H
                      have c47b0 : (x51_3 == 0) = false := beq_eq_false_iff_ne.mpr c47
                      have c47b1 : (x51_3 != 0) = true := bne_iff_ne.mpr c47
                      have H' := Aside0.mk H
                      clear H
                      have hnb50 := NB179_171.out
                      have hnc50 := NB171_179.out
                      have hcz51_0 : wc.cell? ⟨gb179, 0, none⟩ = some (.int .i64 x5_1) := (blk_cell BK179.out 0).trans rfl
                      have hcz51_1 : wc.cell? ⟨gb179, 1, none⟩ = some (.int .i64 x180001_3) := (blk_cell BK179.out 1).trans rfl
                      have hcz51_2 : wc.cell? ⟨gb179, 2, none⟩ = some (.int .i64 x180002_3) := (blk_cell BK179.out 2).trans rfl
                      have hcz51_3 : wc.cell? ⟨gb179, 3, none⟩ = some (u180003) := (blk_cell BK179.out 3).trans rfl
                      have hfz51_0 := blk_frozen BK179.out 0
                      have hfz51_1 := blk_frozen BK179.out 1
                      have hfz51_2 := blk_frozen BK179.out 2
                      have hfz51_3 := blk_frozen BK179.out 3
                      go_wp2
                      go_roundg kj34
                      case measure => have := HK1.out; have := HJ6.out; have := HK3.out; have := HJ26.out; have := HJ30.out; have := HJ34.out; omega
                      case rel => exact ⟨(wrap64 (x51_3 + 1)), (x172000_3), (x172001_3), (x172002_3), (x180001_3), (t187), (x180003_3), (u180003), (by first | rfl | (simp; done) | (simp [*]; done)), H', ⟨by have := HK1.out; have := HJ6.out; have := HK3.out; have := HJ26.out; have := HJ30.out; have := HJ34.out; omega⟩, ⟨by (with_reducible repeat (first | apply Kd.Q_alloc | apply Kd.Q_drewN | apply Kd.Q_drew)); exact Kd.Q_mono (Kd.Q_far (p := ⟨gb179, 2, none⟩) (Kd.Q_types HO_49.out BK179.out (by decide)) (fun _ hk => hk.2) (.int .i64 t187)) (fun _ hk => trivial)⟩, ⟨by (with_reducible repeat (first | apply Kd.R_alloc | apply Kd.R_drewN | apply Kd.R_drew)); exact Kd.R_mono (Kd.R_far (p := ⟨gb179, 2, none⟩) (Kd.R_types HO_180003.out BK179.out (by decide)) (fun _ hk => hk.2) (.int .i64 t187)) (fun _ hk => trivial)⟩, ⟨by (with_reducible repeat (first | refine blk_drewN ?_ _ | refine blk_drew ?_ | refine blk_alloc ?_ _)); refine blk_far ?_ NB171_179.out _; (with_reducible repeat (first | refine blk_drewN ?_ _ | refine blk_drew ?_ | refine blk_alloc ?_ _)); exact BK171.out⟩, ⟨by (with_reducible repeat (first | refine blk_drewN ?_ _ | refine blk_drew ?_ | refine blk_alloc ?_ _)); refine blk_put (cs := #[.int .i64 x5_1, .int .i64 x180001_3, .int .i64 x180002_3, u180003]) ?_ 2 _ rfl; (with_reducible repeat (first | refine blk_drewN ?_ _ | refine blk_drew ?_ | refine blk_alloc ?_ _)); exact BK179.out⟩, ⟨by repeat (first | (with_reducible first | exact HB.out | apply below_alloc | apply pw_below_drewN | apply below_drew1 | refine below_set ?_ GE171.out | refine below_set ?_ GE179.out) | exact HB.out)⟩⟩
            ·rw [if_neg c24] at H
             exact absurd H (by simp)
           ·rw [if_neg c23] at H
            exact absurd H (by simp)
          ·rw [if_neg c22] at H
           have c22b0 : decide (x51_3 < (y180.length : Int)) = false := decide_eq_false c22
           clear c22
           simp only [Option.some.injEq, Prod.mk.injEq] at H
           obtain ⟨rfl, rfl, rfl, rfl, rfl⟩ := H
           have hnb52 := NB179_171.out
           have hnc52 := NB171_179.out
           have hcz53_0 : wr.cell? ⟨gb179, 0, none⟩ = some (.int .i64 x5_1) := (blk_cell BK179.out 0).trans rfl
           have hcz53_1 : wr.cell? ⟨gb179, 1, none⟩ = some (.int .i64 x180001_3) := (blk_cell BK179.out 1).trans rfl
           have hcz53_2 : wr.cell? ⟨gb179, 2, none⟩ = some (.int .i64 x180002_3) := (blk_cell BK179.out 2).trans rfl
           have hcz53_3 : wr.cell? ⟨gb179, 3, none⟩ = some (u180003) := (blk_cell BK179.out 3).trans rfl
           have hfz53_0 := blk_frozen BK179.out 0
           have hfz53_1 := blk_frozen BK179.out 1
           have hfz53_2 := blk_frozen BK179.out 2
           have hfz53_3 := blk_frozen BK179.out 3
           have hcz54_0 : wr.cell? ⟨gb171, 0, none⟩ = some (.int .i64 x172000_3) := (blk_cell BK171.out 0).trans rfl
           have hcz54_1 : wr.cell? ⟨gb171, 1, none⟩ = some (.int .i64 x172001_3) := (blk_cell BK171.out 1).trans rfl
           have hcz54_2 : wr.cell? ⟨gb171, 2, none⟩ = some (.int .i64 x172002_3) := (blk_cell BK171.out 2).trans rfl
           have hcz54_3 : wr.cell? ⟨gb171, 3, none⟩ = some (.slice none 0 0) := (blk_cell BK171.out 3).trans rfl
           have hfz54_0 := blk_frozen BK171.out 0
           have hfz54_1 := blk_frozen BK171.out 1
           have hfz54_2 := blk_frozen BK171.out 2
           have hfz54_3 := blk_frozen BK171.out 3
           obtain ⟨Ao55, co55, eo55⟩ := Kd.R_slice HO_180003.out
           subst eo55
           go_wp2
           refine bodyPost_ret (results_ct rfl _ _ gb171 27 #[.int .i64 x5_1, .int .i64 x180001_3, .int .i64 x180002_3, .slice Ao55 x180003_3.length co55] (0, 0) _ rfl (by (with_reducible repeat (first | refine blk_drewN ?_ _ | refine blk_drew ?_ | refine blk_alloc ?_ _)); refine blk_put (cs := #[.int .i64 x5_1, .int .i64 x180001_3, .int .i64 x180002_3, .slice none 0 0]) ?_ 3 _ rfl; (with_reducible repeat (first | refine blk_drewN ?_ _ | refine blk_drew ?_ | refine blk_alloc ?_ _)); refine blk_put (cs := #[.int .i64 x5_1, .int .i64 x180001_3, .int .i64 x172002_3, .slice none 0 0]) ?_ 2 _ rfl; (with_reducible repeat (first | refine blk_drewN ?_ _ | refine blk_drew ?_ | refine blk_alloc ?_ _)); refine blk_put (cs := #[.int .i64 x5_1, .int .i64 x172001_3, .int .i64 x172002_3, .slice none 0 0]) ?_ 1 _ rfl; (with_reducible repeat (first | refine blk_drewN ?_ _ | refine blk_drew ?_ | refine blk_alloc ?_ _)); refine blk_put (cs := #[.int .i64 x172000_3, .int .i64 x172001_3, .int .i64 x172002_3, .slice none 0 0]) ?_ 0 _ rfl; (with_reducible repeat (first | refine blk_drewN ?_ _ | refine blk_drew ?_ | refine blk_alloc ?_ _)); exact BK171.out) Tryd.underlying27 rfl (by kernel_rfl)) rfl ?_
           exact ⟨_, by first | rfl | (simp [errW_none, errW_some] <;> rfl) | (simp [*, errW_none, errW_some] <;> rfl), by (with_reducible repeat (first | apply Kd.R_alloc | apply Kd.R_drewN | apply Kd.R_drew)); exact Kd.R_mono (Kd.R_far (p := ⟨gb171, 3, none⟩) (Kd.R_far (p := ⟨gb171, 2, none⟩) (Kd.R_far (p := ⟨gb171, 1, none⟩) (Kd.R_far (p := ⟨gb171, 0, none⟩) (Kd.R_types HO_180003.out BK171.out (by decide)) (fun _ hk => hk.2) (.int .i64 x5_1)) (fun _ hk => hk.2) (.int .i64 x180001_3)) (fun _ hk => hk.2) (.int .i64 x180002_3)) (fun _ hk => hk.2) (.slice Ao55 x180003_3.length co55)) (fun _ hk => trivial), by repeat (first | (with_reducible first | exact HB.out | apply below_alloc | apply pw_below_drewN | apply below_drew1 | refine below_set ?_ GE171.out | refine below_set ?_ GE179.out) | exact HB.out)⟩
       ·rw [if_neg c15] at H
        exact absurd H (by simp)
   ·rw [if_neg c5] at H
    have c5b0 : decide (x5_1 ≤ 8) = false := decide_eq_false c5
    clear c5
    simp only [Option.some.injEq, Prod.mk.injEq] at H
    obtain ⟨rfl, rfl, rfl, rfl, rfl⟩ := H
    have hcz56_0 : wr.cell? ⟨gb171, 0, none⟩ = some (.int .i64 x172000_1) := (blk_cell BK171.out 0).trans rfl
    have hcz56_1 : wr.cell? ⟨gb171, 1, none⟩ = some (.int .i64 x172001_1) := (blk_cell BK171.out 1).trans rfl
    have hcz56_2 : wr.cell? ⟨gb171, 2, none⟩ = some (.int .i64 x172002_1) := (blk_cell BK171.out 2).trans rfl
    have hcz56_3 : wr.cell? ⟨gb171, 3, none⟩ = some (.slice none 0 0) := (blk_cell BK171.out 3).trans rfl
    have hfz56_0 := blk_frozen BK171.out 0
    have hfz56_1 := blk_frozen BK171.out 1
    have hfz56_2 := blk_frozen BK171.out 2
    have hfz56_3 := blk_frozen BK171.out 3
    go_wp2
    refine bodyPost_ret (results_ct rfl _ _ gb171 27 #[.int .i64 0, .int .i64 0, .int .i64 0, .slice none 0 0] (0, 0) _ rfl (by (with_reducible repeat (first | refine blk_drewN ?_ _ | refine blk_drew ?_ | refine blk_alloc ?_ _)); refine blk_put (cs := #[.int .i64 0, .int .i64 0, .int .i64 0, .slice none 0 0]) ?_ 3 _ rfl; (with_reducible repeat (first | refine blk_drewN ?_ _ | refine blk_drew ?_ | refine blk_alloc ?_ _)); refine blk_put (cs := #[.int .i64 0, .int .i64 0, .int .i64 x172002_1, .slice none 0 0]) ?_ 2 _ rfl; (with_reducible repeat (first | refine blk_drewN ?_ _ | refine blk_drew ?_ | refine blk_alloc ?_ _)); refine blk_put (cs := #[.int .i64 0, .int .i64 x172001_1, .int .i64 x172002_1, .slice none 0 0]) ?_ 1 _ rfl; (with_reducible repeat (first | refine blk_drewN ?_ _ | refine blk_drew ?_ | refine blk_alloc ?_ _)); refine blk_put (cs := #[.int .i64 x172000_1, .int .i64 x172001_1, .int .i64 x172002_1, .slice none 0 0]) ?_ 0 _ rfl; (with_reducible repeat (first | refine blk_drewN ?_ _ | refine blk_drew ?_ | refine blk_alloc ?_ _)); exact BK171.out) Tryd.underlying27 rfl (by kernel_rfl)) rfl ?_
    exact ⟨_, by first | rfl | (simp [errW_none, errW_some] <;> rfl) | (simp [*, errW_none, errW_some] <;> rfl), by first | exact Kd.R_nil _ _ _ _ _ | exact Kd.N_nil _ _ _ _ _ | exact Kd.V_nil _ _ _ _ _ | exact Kd.Q_nil _ _ _ _ _ | exact Kd.S_nil _ _ _ _ _, by repeat (first | (with_reducible first | exact HB.out | apply below_alloc | apply pw_below_drewN | apply below_drew1 | refine below_set ?_ GE171.out) | exact HB.out)⟩

end Go.Proofs.YtcidbencoebfaaaDoor.PT


/- Items and differences as Lean structures, and how they lie in memory. Conditions: none. -/
import Derived.Test.YtplkfpjcfalifaaDoorWd
import Derived.Test.YtplkfpjcfalifaaDoorProg
namespace Go.Proofs.YtplkfpjcfalifaaDoor.Wd
open Go.RowKit
set_option linter.unusedVariables false
set_option linter.unusedSimpArgs false
set_option maxHeartbeats 2000000
set_option maxRecDepth 100000
@[ext] structure MItem where
  kind : Int
  obj : Int
  val : Int
  ok : Bool
  deriving DecidableEq
@[ext] structure MDiff where
  g : Int
  at_ : Int
  here : MItem
  there : MItem
  deriving DecidableEq
theorem int_at {w : World} {A : Option Addr} {xs : List Int} (h : Rp.int.Row w A xs) {i : Nat} (hi : i < xs.length) :
    ∃ b o, A = some ⟨b, o, none⟩ ∧ w.cell? ⟨b, o + i, none⟩ = some (.int .i64 xs[i]) := by
  obtain ⟨b, o, rfl, hc⟩ := h.2 (by rintro rfl; simp at hi)
  obtain ⟨cx, hk, hcc⟩ := hc i _ (List.getElem?_eq_getElem hi)
  obtain rfl : cx = _ := hk
  have := hcc 0 _ rfl
  simp only [Rp.int, Rp.scalar, Nat.mul_one, Nat.add_zero] at this
  exact ⟨b, o, rfl, this⟩
theorem str_at {w : World} {A : Option Addr} {xs : List ByteArray} (h : Rp.str.Row w A xs) {i : Nat} (hi : i < xs.length) :
    ∃ b o, A = some ⟨b, o, none⟩ ∧ w.cell? ⟨b, o + i, none⟩ = some (.string xs[i]) := by
  obtain ⟨b, o, rfl, hc⟩ := h.2 (by rintro rfl; simp at hi)
  obtain ⟨cx, hk, hcc⟩ := hc i _ (List.getElem?_eq_getElem hi)
  obtain rfl : cx = _ := hk
  have := hcc 0 _ rfl
  simp only [Rp.str, Rp.scalar, Nat.mul_one, Nat.add_zero] at this
  exact ⟨b, o, rfl, this⟩
def kItem : Rp MItem := Rp.iso (Rp.pair Rp.int (Rp.pair Rp.int (Rp.pair Rp.int Rp.bool))) (fun x => (x.kind, x.obj, x.val, x.ok))
theorem kItem_K {w : World} {x : MItem} {cs : List Value} (h : kItem.K w x cs) : cs = [.int .i64 x.kind, .int .i64 x.obj, .int .i64 x.val, .bool x.ok] := by
  obtain ⟨_, _, rfl, rfl, ⟨_, _, rfl, rfl, ⟨_, _, rfl, rfl, rfl⟩⟩⟩ := h
  exact rfl
theorem kItem_mk (w : World) (x : MItem) : kItem.K w x [.int .i64 x.kind, .int .i64 x.obj, .int .i64 x.val, .bool x.ok] := ⟨_, _, rfl, rfl, ⟨_, _, rfl, rfl, ⟨_, _, rfl, rfl, rfl⟩⟩⟩
theorem kItem_O {w : World} {bs : List Nat} {x : MItem} {cs : List Value} (h : kItem.O w bs x cs) : cs = [.int .i64 x.kind, .int .i64 x.obj, .int .i64 x.val, .bool x.ok] ∧ bs = [] := by
  obtain ⟨_, _, _, _, rfl, rfl, ⟨rfl, rfl⟩, ⟨_, _, _, _, rfl, rfl, ⟨rfl, rfl⟩, ⟨_, _, _, _, rfl, rfl, ⟨rfl, rfl⟩, ⟨rfl, rfl⟩⟩⟩⟩ := h
  exact ⟨rfl, rfl⟩
theorem kItem_mkO (w : World) (x : MItem) : kItem.O w [] x [.int .i64 x.kind, .int .i64 x.obj, .int .i64 x.val, .bool x.ok] := ⟨_, _, [], _, rfl, rfl, ⟨rfl, rfl⟩, ⟨_, _, [], _, rfl, rfl, ⟨rfl, rfl⟩, ⟨_, _, [], _, rfl, rfl, ⟨rfl, rfl⟩, ⟨rfl, rfl⟩⟩⟩⟩
theorem kItem_at {w : World} {A : Option Addr} {xs : List MItem} (h : kItem.Row w A xs) {i : Nat} (hi : i < xs.length) :
    ∃ b o, A = some ⟨b, o, none⟩ ∧ w.cell? ⟨b, o + i * 4, none⟩ = some (.int .i64 xs[i].kind) ∧ w.cell? ⟨b, o + i * 4 + 1, none⟩ = some (.int .i64 xs[i].obj) ∧ w.cell? ⟨b, o + i * 4 + 2, none⟩ = some (.int .i64 xs[i].val) ∧ w.cell? ⟨b, o + i * 4 + 3, none⟩ = some (.bool xs[i].ok) := by
  obtain ⟨b, o, rfl, hc⟩ := h.2 (by rintro rfl; simp at hi)
  obtain ⟨cx, hk, hcc⟩ := hc i _ (List.getElem?_eq_getElem hi)
  obtain rfl := kItem_K hk
  exact ⟨b, o, rfl, hcc 0 _ rfl, hcc 1 _ rfl, hcc 2 _ rfl, hcc 3 _ rfl⟩
def kDiff : Rp MDiff := Rp.iso (Rp.pair Rp.int (Rp.pair Rp.int (Rp.pair kItem kItem))) (fun x => (x.g, x.at_, x.here, x.there))
theorem kDiff_K {w : World} {x : MDiff} {cs : List Value} (h : kDiff.K w x cs) : cs = [.int .i64 x.g, .int .i64 x.at_, .int .i64 x.here.kind, .int .i64 x.here.obj, .int .i64 x.here.val, .bool x.here.ok, .int .i64 x.there.kind, .int .i64 x.there.obj, .int .i64 x.there.val, .bool x.there.ok] := by
  obtain ⟨_, _, rfl, rfl, ⟨_, _, rfl, rfl, ⟨_, _, rfl, nhere, nthere⟩⟩⟩ := h
  obtain rfl := kItem_K nhere
  obtain rfl := kItem_K nthere
  exact rfl
theorem kDiff_mk (w : World) (x : MDiff) : kDiff.K w x [.int .i64 x.g, .int .i64 x.at_, .int .i64 x.here.kind, .int .i64 x.here.obj, .int .i64 x.here.val, .bool x.here.ok, .int .i64 x.there.kind, .int .i64 x.there.obj, .int .i64 x.there.val, .bool x.there.ok] := ⟨_, _, rfl, rfl, ⟨_, _, rfl, rfl, ⟨_, _, rfl, (kItem_mk w _), (kItem_mk w _)⟩⟩⟩
theorem kDiff_O {w : World} {bs : List Nat} {x : MDiff} {cs : List Value} (h : kDiff.O w bs x cs) : cs = [.int .i64 x.g, .int .i64 x.at_, .int .i64 x.here.kind, .int .i64 x.here.obj, .int .i64 x.here.val, .bool x.here.ok, .int .i64 x.there.kind, .int .i64 x.there.obj, .int .i64 x.there.val, .bool x.there.ok] ∧ bs = [] := by
  obtain ⟨_, _, _, _, rfl, rfl, ⟨rfl, rfl⟩, ⟨_, _, _, _, rfl, rfl, ⟨rfl, rfl⟩, ⟨_, _, _, _, rfl, rfl, nhere, nthere⟩⟩⟩ := h
  obtain ⟨rfl, rfl⟩ := kItem_O nhere
  obtain ⟨rfl, rfl⟩ := kItem_O nthere
  exact ⟨rfl, rfl⟩
theorem kDiff_mkO (w : World) (x : MDiff) : kDiff.O w [] x [.int .i64 x.g, .int .i64 x.at_, .int .i64 x.here.kind, .int .i64 x.here.obj, .int .i64 x.here.val, .bool x.here.ok, .int .i64 x.there.kind, .int .i64 x.there.obj, .int .i64 x.there.val, .bool x.there.ok] := ⟨_, _, [], _, rfl, rfl, ⟨rfl, rfl⟩, ⟨_, _, [], _, rfl, rfl, ⟨rfl, rfl⟩, ⟨_, _, ([]), _, rfl, rfl, (kItem_mkO w _), (kItem_mkO w _)⟩⟩⟩
theorem kDiff_at {w : World} {A : Option Addr} {xs : List MDiff} (h : kDiff.Row w A xs) {i : Nat} (hi : i < xs.length) :
    ∃ b o, A = some ⟨b, o, none⟩ ∧ w.cell? ⟨b, o + i * 10, none⟩ = some (.int .i64 xs[i].g) ∧ w.cell? ⟨b, o + i * 10 + 1, none⟩ = some (.int .i64 xs[i].at_) ∧ w.cell? ⟨b, o + i * 10 + 2, none⟩ = some (.int .i64 xs[i].here.kind) ∧ w.cell? ⟨b, o + i * 10 + 3, none⟩ = some (.int .i64 xs[i].here.obj) ∧ w.cell? ⟨b, o + i * 10 + 4, none⟩ = some (.int .i64 xs[i].here.val) ∧ w.cell? ⟨b, o + i * 10 + 5, none⟩ = some (.bool xs[i].here.ok) ∧ w.cell? ⟨b, o + i * 10 + 6, none⟩ = some (.int .i64 xs[i].there.kind) ∧ w.cell? ⟨b, o + i * 10 + 7, none⟩ = some (.int .i64 xs[i].there.obj) ∧ w.cell? ⟨b, o + i * 10 + 8, none⟩ = some (.int .i64 xs[i].there.val) ∧ w.cell? ⟨b, o + i * 10 + 9, none⟩ = some (.bool xs[i].there.ok) := by
  obtain ⟨b, o, rfl, hc⟩ := h.2 (by rintro rfl; simp at hi)
  obtain ⟨cx, hk, hcc⟩ := hc i _ (List.getElem?_eq_getElem hi)
  obtain rfl := kDiff_K hk
  exact ⟨b, o, rfl, hcc 0 _ rfl, hcc 1 _ rfl, hcc 2 _ rfl, hcc 3 _ rfl, hcc 4 _ rfl, hcc 5 _ rfl, hcc 6 _ rfl, hcc 7 _ rfl, hcc 8 _ rfl, hcc 9 _ rfl⟩
end Go.Proofs.YtplkfpjcfalifaaDoor.Wd

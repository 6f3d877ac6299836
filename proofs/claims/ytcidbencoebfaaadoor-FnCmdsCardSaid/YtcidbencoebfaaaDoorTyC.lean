/- Commands as Lean structures, and how they lie in memory. Conditions: none. -/
import Derived.Test.YtcidbencoebfaaaDoorWd
import Derived.Test.YtcidbencoebfaaaDoorProg
namespace Go.Proofs.YtcidbencoebfaaaDoor.Wd
open Go.RowKit
set_option linter.unusedVariables false
set_option linter.unusedSimpArgs false
set_option maxHeartbeats 2000000
set_option maxRecDepth 100000
@[ext] structure MPick where
  g : Int
  c : Int
  deriving DecidableEq
@[ext] structure MCmd where
  kind : Int
  a : Int
  b : Int
  picks : List MPick
  deriving DecidableEq
theorem int_at {w : World} {A : Option Addr} {xs : List Int} (h : Rp.int.Row w A xs) {i : Nat} (hi : i < xs.length) :
    ∃ b o, A = some ⟨b, o, none⟩ ∧ w.cell? ⟨b, o + i, none⟩ = some (.int .i64 xs[i]) := by
  obtain ⟨b, o, rfl, hc⟩ := h.2 (by rintro rfl; simp at hi)
  obtain ⟨cx, hk, hcc⟩ := hc i _ (List.getElem?_eq_getElem hi)
  obtain rfl : cx = _ := hk
  have := hcc 0 _ rfl
  simp only [Rp.int, Rp.scalar, Nat.mul_one, Nat.add_zero] at this
  exact ⟨b, o, rfl, this⟩
theorem str_at {w : World} {A : Option Addr} {xs : List ByteArray} (h : Rp.str.Row w A xs) {i : Nat} (hi : i < xs.length) :
    ∃ b o, A = some ⟨b, o, none⟩ ∧ w.cell? ⟨b, o + i, none⟩ = some (.string xs[i]) := by
  obtain ⟨b, o, rfl, hc⟩ := h.2 (by rintro rfl; simp at hi)
  obtain ⟨cx, hk, hcc⟩ := hc i _ (List.getElem?_eq_getElem hi)
  obtain rfl : cx = _ := hk
  have := hcc 0 _ rfl
  simp only [Rp.str, Rp.scalar, Nat.mul_one, Nat.add_zero] at this
  exact ⟨b, o, rfl, this⟩
def kPick : Rp MPick := Rp.iso (Rp.pair Rp.int Rp.int) (fun x => (x.g, x.c))
theorem kPick_K {w : World} {x : MPick} {cs : List Value} (h : kPick.K w x cs) : cs = [.int .i64 x.g, .int .i64 x.c] := by
  obtain ⟨_, _, rfl, rfl, rfl⟩ := h
  exact rfl
theorem kPick_mk (w : World) (x : MPick) : kPick.K w x [.int .i64 x.g, .int .i64 x.c] := ⟨_, _, rfl, rfl, rfl⟩
theorem kPick_mkO (w : World) (x : MPick) : kPick.O w [] x [.int .i64 x.g, .int .i64 x.c] := ⟨_, _, [], _, rfl, rfl, ⟨rfl, rfl⟩, ⟨rfl, rfl⟩⟩
theorem kPick_at {w : World} {A : Option Addr} {xs : List MPick} (h : kPick.Row w A xs) {i : Nat} (hi : i < xs.length) :
    ∃ b o, A = some ⟨b, o, none⟩ ∧ w.cell? ⟨b, o + i * 2, none⟩ = some (.int .i64 xs[i].g) ∧ w.cell? ⟨b, o + i * 2 + 1, none⟩ = some (.int .i64 xs[i].c) := by
  obtain ⟨b, o, rfl, hc⟩ := h.2 (by rintro rfl; simp at hi)
  obtain ⟨cx, hk, hcc⟩ := hc i _ (List.getElem?_eq_getElem hi)
  obtain rfl := kPick_K hk
  exact ⟨b, o, rfl, hcc 0 _ rfl, hcc 1 _ rfl⟩
def kCmd : Rp MCmd := Rp.iso (Rp.pair Rp.int (Rp.pair Rp.int (Rp.pair Rp.int (Rp.slice 32 kPick)))) (fun x => (x.kind, x.a, x.b, x.picks))
theorem kCmd_K {w : World} {x : MCmd} {cs : List Value} (h : kCmd.K w x cs) : ∃ A0 c0, cs = [.int .i64 x.kind, .int .i64 x.a, .int .i64 x.b, .slice A0 (x.picks).length c0] ∧ x.picks.length ≤ c0 ∧ kPick.Row w A0 x.picks := by
  obtain ⟨_, _, rfl, rfl, ⟨_, _, rfl, rfl, ⟨_, _, rfl, rfl, ⟨A0, c0, rfl, l0, r0⟩⟩⟩⟩ := h
  exact ⟨A0, c0, rfl, l0, r0⟩
theorem kCmd_mk (w : World) (x : MCmd) {A0 : Option Addr} {c0 : Nat} (l0 : x.picks.length ≤ c0) (r0 : kPick.Row w A0 x.picks) : kCmd.K w x [.int .i64 x.kind, .int .i64 x.a, .int .i64 x.b, .slice A0 (x.picks).length c0] := ⟨_, _, rfl, rfl, ⟨_, _, rfl, rfl, ⟨_, _, rfl, rfl, ⟨_, _, rfl, l0, r0⟩⟩⟩⟩
theorem kCmd_mkO (w : World) (x : MCmd) {v0 : Value} {b0 : List Nat} (o0 : kPick.Own 32 w b0 v0 x.picks) : kCmd.O w (b0) x [.int .i64 x.kind, .int .i64 x.a, .int .i64 x.b, v0] := by
  have h : kCmd.O w ([] ++ ([] ++ ([] ++ (b0)))) x [.int .i64 x.kind, .int .i64 x.a, .int .i64 x.b, v0] := ⟨_, _, [], _, rfl, rfl, ⟨rfl, rfl⟩, ⟨_, _, [], _, rfl, rfl, ⟨rfl, rfl⟩, ⟨_, _, [], _, rfl, rfl, ⟨rfl, rfl⟩, ⟨_, rfl, o0⟩⟩⟩⟩
  simpa using h
theorem kCmd_at {w : World} {A : Option Addr} {xs : List MCmd} (h : kCmd.Row w A xs) {i : Nat} (hi : i < xs.length) :
    ∃ b o A0 c0, A = some ⟨b, o, none⟩ ∧ w.cell? ⟨b, o + i * 4, none⟩ = some (.int .i64 xs[i].kind) ∧ w.cell? ⟨b, o + i * 4 + 1, none⟩ = some (.int .i64 xs[i].a) ∧ w.cell? ⟨b, o + i * 4 + 2, none⟩ = some (.int .i64 xs[i].b) ∧ w.cell? ⟨b, o + i * 4 + 3, none⟩ = some (.slice A0 (xs[i].picks).length c0) ∧ xs[i].picks.length ≤ c0 ∧ kPick.Row w A0 xs[i].picks := by
  obtain ⟨b, o, rfl, hc⟩ := h.2 (by rintro rfl; simp at hi)
  obtain ⟨cx, hk, hcc⟩ := hc i _ (List.getElem?_eq_getElem hi)
  obtain ⟨A0, c0, rfl, l0, r0⟩ := kCmd_K hk
  exact ⟨b, o, A0, c0, rfl, hcc 0 _ rfl, hcc 1 _ rfl, hcc 2 _ rfl, hcc 3 _ rfl, l0, r0⟩
def cntCmd (x : MCmd) : Nat := (x.picks.length)
end Go.Proofs.YtcidbencoebfaaaDoor.Wd


/- The values of the program as Lean structures, and how they lie in memory. Conditions: none. -/
import Derived.Test.YtebflbenchomoaaWd
import Derived.Test.YtebflbenchomoaaProg
namespace Go.Proofs.Ytebflbenchomoaa.Wd
open Go.RowKit
set_option linter.unusedVariables false
set_option linter.unusedSimpArgs false
set_option maxHeartbeats 2000000
set_option maxRecDepth 100000
@[ext] structure MWaiter where
  g : Int
  cas : Int
  val : Int
  deriving DecidableEq
@[ext] structure MChan where
  cap : Int
  buf : List Int
  sends : List MWaiter
  recvs : List MWaiter
  closed : Bool
  deriving DecidableEq
@[ext] structure MMutex where
  owner : Int
  wait : List Int
  deriving DecidableEq
@[ext] structure MItem where
  kind : Int
  obj : Int
  val : Int
  ok : Bool
  deriving DecidableEq
@[ext] structure MGor where
  proc : Int
  pc : Int
  regs : List Int
  state : Int
  trace : List MItem
  deriving DecidableEq
@[ext] structure MEng where
  gs : List MGor
  chans : List MChan
  mus : List MMutex
  deriving DecidableEq
theorem int_at {w : World} {A : Option Addr} {xs : List Int} (h : Rp.int.Row w A xs) {i : Nat} (hi : i < xs.length) :
    ∃ b o, A = some ⟨b, o, none⟩ ∧ w.cell? ⟨b, o + i, none⟩ = some (.int .i64 xs[i]) := by
  obtain ⟨b, o, rfl, hc⟩ := h.2 (by rintro rfl; simp at hi)
  obtain ⟨cx, hk, hcc⟩ := hc i _ (List.getElem?_eq_getElem hi)
  obtain rfl : cx = _ := hk
  have := hcc 0 _ rfl
  simp only [Rp.int, Rp.scalar, Nat.mul_one, Nat.add_zero] at this
  exact ⟨b, o, rfl, this⟩
def kWaiter : Rp MWaiter := Rp.iso (Rp.pair Rp.int (Rp.pair Rp.int Rp.int)) (fun x => (x.g, x.cas, x.val))
theorem kWaiter_K {w : World} {x : MWaiter} {cs : List Value} (h : kWaiter.K w x cs) : cs = [.int .i64 x.g, .int .i64 x.cas, .int .i64 x.val] := by
  obtain ⟨_, _, rfl, rfl, ⟨_, _, rfl, rfl, rfl⟩⟩ := h
  exact rfl
theorem kWaiter_mk (w : World) (x : MWaiter) : kWaiter.K w x [.int .i64 x.g, .int .i64 x.cas, .int .i64 x.val] := ⟨_, _, rfl, rfl, ⟨_, _, rfl, rfl, rfl⟩⟩
theorem kWaiter_O {w : World} {bs : List Nat} {x : MWaiter} {cs : List Value} (h : kWaiter.O w bs x cs) : cs = [.int .i64 x.g, .int .i64 x.cas, .int .i64 x.val] ∧ bs = [] := by
  obtain ⟨_, _, _, _, rfl, rfl, ⟨rfl, rfl⟩, ⟨_, _, _, _, rfl, rfl, ⟨rfl, rfl⟩, ⟨rfl, rfl⟩⟩⟩ := h
  exact ⟨rfl, rfl⟩
theorem kWaiter_mkO (w : World) (x : MWaiter) : kWaiter.O w [] x [.int .i64 x.g, .int .i64 x.cas, .int .i64 x.val] := ⟨_, _, [], _, rfl, rfl, ⟨rfl, rfl⟩, ⟨_, _, [], _, rfl, rfl, ⟨rfl, rfl⟩, ⟨rfl, rfl⟩⟩⟩
theorem kWaiter_at {w : World} {A : Option Addr} {xs : List MWaiter} (h : kWaiter.Row w A xs) {i : Nat} (hi : i < xs.length) :
    ∃ b o, A = some ⟨b, o, none⟩ ∧ w.cell? ⟨b, o + i * 3, none⟩ = some (.int .i64 xs[i].g) ∧ w.cell? ⟨b, o + i * 3 + 1, none⟩ = some (.int .i64 xs[i].cas) ∧ w.cell? ⟨b, o + i * 3 + 2, none⟩ = some (.int .i64 xs[i].val) := by
  obtain ⟨b, o, rfl, hc⟩ := h.2 (by rintro rfl; simp at hi)
  obtain ⟨cx, hk, hcc⟩ := hc i _ (List.getElem?_eq_getElem hi)
  obtain rfl := kWaiter_K hk
  exact ⟨b, o, rfl, hcc 0 _ rfl, hcc 1 _ rfl, hcc 2 _ rfl⟩
def kChan : Rp MChan := Rp.iso (Rp.pair Rp.int (Rp.pair (Rp.slice 3 Rp.int) (Rp.pair (Rp.slice 120 kWaiter) (Rp.pair (Rp.slice 120 kWaiter) Rp.bool)))) (fun x => (x.cap, x.buf, x.sends, x.recvs, x.closed))
theorem kChan_K {w : World} {x : MChan} {cs : List Value} (h : kChan.K w x cs) : ∃ A0 c0 A1 c1 A2 c2, cs = [.int .i64 x.cap, .slice A0 (x.buf).length c0, .slice A1 (x.sends).length c1, .slice A2 (x.recvs).length c2, .bool x.closed] ∧ x.buf.length ≤ c0 ∧ Rp.int.Row w A0 x.buf ∧ x.sends.length ≤ c1 ∧ kWaiter.Row w A1 x.sends ∧ x.recvs.length ≤ c2 ∧ kWaiter.Row w A2 x.recvs := by
  obtain ⟨_, _, rfl, rfl, ⟨_, _, rfl, ⟨A0, c0, rfl, l0, r0⟩, ⟨_, _, rfl, ⟨A1, c1, rfl, l1, r1⟩, ⟨_, _, rfl, ⟨A2, c2, rfl, l2, r2⟩, rfl⟩⟩⟩⟩ := h
  exact ⟨A0, c0, A1, c1, A2, c2, rfl, l0, r0, l1, r1, l2, r2⟩
theorem kChan_mk (w : World) (x : MChan) {A0 : Option Addr} {c0 : Nat} (l0 : x.buf.length ≤ c0) (r0 : Rp.int.Row w A0 x.buf) {A1 : Option Addr} {c1 : Nat} (l1 : x.sends.length ≤ c1) (r1 : kWaiter.Row w A1 x.sends) {A2 : Option Addr} {c2 : Nat} (l2 : x.recvs.length ≤ c2) (r2 : kWaiter.Row w A2 x.recvs) : kChan.K w x [.int .i64 x.cap, .slice A0 (x.buf).length c0, .slice A1 (x.sends).length c1, .slice A2 (x.recvs).length c2, .bool x.closed] := ⟨_, _, rfl, rfl, ⟨_, _, rfl, ⟨_, _, rfl, l0, r0⟩, ⟨_, _, rfl, ⟨_, _, rfl, l1, r1⟩, ⟨_, _, rfl, ⟨_, _, rfl, l2, r2⟩, rfl⟩⟩⟩⟩
theorem kChan_O {w : World} {bs : List Nat} {x : MChan} {cs : List Value} (h : kChan.O w bs x cs) : ∃ B0 d0 b0 B1 d1 b1 B2 d2 b2, cs = [.int .i64 x.cap, .slice B0 x.buf.length d0, .slice B1 x.sends.length d1, .slice B2 x.recvs.length d2, .bool x.closed] ∧ bs = b0 ++ b1 ++ b2 ∧ Rp.int.Own 3 w b0 (.slice B0 x.buf.length d0) x.buf ∧ kWaiter.Own 120 w b1 (.slice B1 x.sends.length d1) x.sends ∧ kWaiter.Own 120 w b2 (.slice B2 x.recvs.length d2) x.recvs := by
  obtain ⟨_, _, _, _, rfl, rfl, ⟨rfl, rfl⟩, ⟨_, _, _, _, rfl, rfl, ⟨v0, rfl, o0⟩, ⟨_, _, _, _, rfl, rfl, ⟨v1, rfl, o1⟩, ⟨_, _, _, _, rfl, rfl, ⟨v2, rfl, o2⟩, ⟨rfl, rfl⟩⟩⟩⟩⟩ := h
  obtain ⟨B0, d0, rfl, _, _⟩ := o0.row
  obtain ⟨B1, d1, rfl, _, _⟩ := o1.row
  obtain ⟨B2, d2, rfl, _, _⟩ := o2.row
  exact ⟨_, _, _, _, _, _, _, _, _, rfl, by simp, o0, o1, o2⟩
theorem kChan_mkO (w : World) (x : MChan) {v0 : Value} {b0 : List Nat} (o0 : Rp.int.Own 3 w b0 v0 x.buf) {v1 : Value} {b1 : List Nat} (o1 : kWaiter.Own 120 w b1 v1 x.sends) {v2 : Value} {b2 : List Nat} (o2 : kWaiter.Own 120 w b2 v2 x.recvs) : kChan.O w (b0 ++ b1 ++ b2) x [.int .i64 x.cap, v0, v1, v2, .bool x.closed] := by
  have h : kChan.O w ([] ++ (b0 ++ (b1 ++ (b2 ++ ([]))))) x [.int .i64 x.cap, v0, v1, v2, .bool x.closed] := ⟨_, _, [], _, rfl, rfl, ⟨rfl, rfl⟩, ⟨_, _, b0, _, rfl, rfl, ⟨_, rfl, o0⟩, ⟨_, _, b1, _, rfl, rfl, ⟨_, rfl, o1⟩, ⟨_, _, b2, _, rfl, rfl, ⟨_, rfl, o2⟩, ⟨rfl, rfl⟩⟩⟩⟩⟩
  simpa using h
theorem kChan_at {w : World} {A : Option Addr} {xs : List MChan} (h : kChan.Row w A xs) {i : Nat} (hi : i < xs.length) :
    ∃ b o A0 c0 A1 c1 A2 c2, A = some ⟨b, o, none⟩ ∧ w.cell? ⟨b, o + i * 5, none⟩ = some (.int .i64 xs[i].cap) ∧ w.cell? ⟨b, o + i * 5 + 1, none⟩ = some (.slice A0 (xs[i].buf).length c0) ∧ w.cell? ⟨b, o + i * 5 + 2, none⟩ = some (.slice A1 (xs[i].sends).length c1) ∧ w.cell? ⟨b, o + i * 5 + 3, none⟩ = some (.slice A2 (xs[i].recvs).length c2) ∧ w.cell? ⟨b, o + i * 5 + 4, none⟩ = some (.bool xs[i].closed) ∧ xs[i].buf.length ≤ c0 ∧ Rp.int.Row w A0 xs[i].buf ∧ xs[i].sends.length ≤ c1 ∧ kWaiter.Row w A1 xs[i].sends ∧ xs[i].recvs.length ≤ c2 ∧ kWaiter.Row w A2 xs[i].recvs := by
  obtain ⟨b, o, rfl, hc⟩ := h.2 (by rintro rfl; simp at hi)
  obtain ⟨cx, hk, hcc⟩ := hc i _ (List.getElem?_eq_getElem hi)
  obtain ⟨A0, c0, A1, c1, A2, c2, rfl, l0, r0, l1, r1, l2, r2⟩ := kChan_K hk
  exact ⟨b, o, A0, c0, A1, c1, A2, c2, rfl, hcc 0 _ rfl, hcc 1 _ rfl, hcc 2 _ rfl, hcc 3 _ rfl, hcc 4 _ rfl, l0, r0, l1, r1, l2, r2⟩
def kMutex : Rp MMutex := Rp.iso (Rp.pair Rp.int (Rp.slice 3 Rp.int)) (fun x => (x.owner, x.wait))
theorem kMutex_K {w : World} {x : MMutex} {cs : List Value} (h : kMutex.K w x cs) : ∃ A0 c0, cs = [.int .i64 x.owner, .slice A0 (x.wait).length c0] ∧ x.wait.length ≤ c0 ∧ Rp.int.Row w A0 x.wait := by
  obtain ⟨_, _, rfl, rfl, ⟨A0, c0, rfl, l0, r0⟩⟩ := h
  exact ⟨A0, c0, rfl, l0, r0⟩
theorem kMutex_mk (w : World) (x : MMutex) {A0 : Option Addr} {c0 : Nat} (l0 : x.wait.length ≤ c0) (r0 : Rp.int.Row w A0 x.wait) : kMutex.K w x [.int .i64 x.owner, .slice A0 (x.wait).length c0] := ⟨_, _, rfl, rfl, ⟨_, _, rfl, l0, r0⟩⟩
theorem kMutex_O {w : World} {bs : List Nat} {x : MMutex} {cs : List Value} (h : kMutex.O w bs x cs) : ∃ B0 d0 b0, cs = [.int .i64 x.owner, .slice B0 x.wait.length d0] ∧ bs = b0 ∧ Rp.int.Own 3 w b0 (.slice B0 x.wait.length d0) x.wait := by
  obtain ⟨_, _, _, _, rfl, rfl, ⟨rfl, rfl⟩, ⟨v0, rfl, o0⟩⟩ := h
  obtain ⟨B0, d0, rfl, _, _⟩ := o0.row
  exact ⟨_, _, _, rfl, by simp, o0⟩
theorem kMutex_mkO (w : World) (x : MMutex) {v0 : Value} {b0 : List Nat} (o0 : Rp.int.Own 3 w b0 v0 x.wait) : kMutex.O w (b0) x [.int .i64 x.owner, v0] := by
  have h : kMutex.O w ([] ++ (b0)) x [.int .i64 x.owner, v0] := ⟨_, _, [], _, rfl, rfl, ⟨rfl, rfl⟩, ⟨_, rfl, o0⟩⟩
  simpa using h
theorem kMutex_at {w : World} {A : Option Addr} {xs : List MMutex} (h : kMutex.Row w A xs) {i : Nat} (hi : i < xs.length) :
    ∃ b o A0 c0, A = some ⟨b, o, none⟩ ∧ w.cell? ⟨b, o + i * 2, none⟩ = some (.int .i64 xs[i].owner) ∧ w.cell? ⟨b, o + i * 2 + 1, none⟩ = some (.slice A0 (xs[i].wait).length c0) ∧ xs[i].wait.length ≤ c0 ∧ Rp.int.Row w A0 xs[i].wait := by
  obtain ⟨b, o, rfl, hc⟩ := h.2 (by rintro rfl; simp at hi)
  obtain ⟨cx, hk, hcc⟩ := hc i _ (List.getElem?_eq_getElem hi)
  obtain ⟨A0, c0, rfl, l0, r0⟩ := kMutex_K hk
  exact ⟨b, o, A0, c0, rfl, hcc 0 _ rfl, hcc 1 _ rfl, l0, r0⟩
def kItem : Rp MItem := Rp.iso (Rp.pair Rp.int (Rp.pair Rp.int (Rp.pair Rp.int Rp.bool))) (fun x => (x.kind, x.obj, x.val, x.ok))
theorem kItem_K {w : World} {x : MItem} {cs : List Value} (h : kItem.K w x cs) : cs = [.int .i64 x.kind, .int .i64 x.obj, .int .i64 x.val, .bool x.ok] := by
  obtain ⟨_, _, rfl, rfl, ⟨_, _, rfl, rfl, ⟨_, _, rfl, rfl, rfl⟩⟩⟩ := h
  exact rfl
theorem kItem_mk (w : World) (x : MItem) : kItem.K w x [.int .i64 x.kind, .int .i64 x.obj, .int .i64 x.val, .bool x.ok] := ⟨_, _, rfl, rfl, ⟨_, _, rfl, rfl, ⟨_, _, rfl, rfl, rfl⟩⟩⟩
theorem kItem_O {w : World} {bs : List Nat} {x : MItem} {cs : List Value} (h : kItem.O w bs x cs) : cs = [.int .i64 x.kind, .int .i64 x.obj, .int .i64 x.val, .bool x.ok] ∧ bs = [] := by
  obtain ⟨_, _, _, _, rfl, rfl, ⟨rfl, rfl⟩, ⟨_, _, _, _, rfl, rfl, ⟨rfl, rfl⟩, ⟨_, _, _, _, rfl, rfl, ⟨rfl, rfl⟩, ⟨rfl, rfl⟩⟩⟩⟩ := h
  exact ⟨rfl, rfl⟩
theorem kItem_mkO (w : World) (x : MItem) : kItem.O w [] x [.int .i64 x.kind, .int .i64 x.obj, .int .i64 x.val, .bool x.ok] := ⟨_, _, [], _, rfl, rfl, ⟨rfl, rfl⟩, ⟨_, _, [], _, rfl, rfl, ⟨rfl, rfl⟩, ⟨_, _, [], _, rfl, rfl, ⟨rfl, rfl⟩, ⟨rfl, rfl⟩⟩⟩⟩
theorem kItem_at {w : World} {A : Option Addr} {xs : List MItem} (h : kItem.Row w A xs) {i : Nat} (hi : i < xs.length) :
    ∃ b o, A = some ⟨b, o, none⟩ ∧ w.cell? ⟨b, o + i * 4, none⟩ = some (.int .i64 xs[i].kind) ∧ w.cell? ⟨b, o + i * 4 + 1, none⟩ = some (.int .i64 xs[i].obj) ∧ w.cell? ⟨b, o + i * 4 + 2, none⟩ = some (.int .i64 xs[i].val) ∧ w.cell? ⟨b, o + i * 4 + 3, none⟩ = some (.bool xs[i].ok) := by
  obtain ⟨b, o, rfl, hc⟩ := h.2 (by rintro rfl; simp at hi)
  obtain ⟨cx, hk, hcc⟩ := hc i _ (List.getElem?_eq_getElem hi)
  obtain rfl := kItem_K hk
  exact ⟨b, o, rfl, hcc 0 _ rfl, hcc 1 _ rfl, hcc 2 _ rfl, hcc 3 _ rfl⟩
def kGor : Rp MGor := Rp.iso (Rp.pair Rp.int (Rp.pair Rp.int (Rp.pair (Rp.slice 3 Rp.int) (Rp.pair Rp.int (Rp.slice 43 kItem))))) (fun x => (x.proc, x.pc, x.regs, x.state, x.trace))
theorem kGor_K {w : World} {x : MGor} {cs : List Value} (h : kGor.K w x cs) : ∃ A0 c0 A1 c1, cs = [.int .i64 x.proc, .int .i64 x.pc, .slice A0 (x.regs).length c0, .int .i64 x.state, .slice A1 (x.trace).length c1] ∧ x.regs.length ≤ c0 ∧ Rp.int.Row w A0 x.regs ∧ x.trace.length ≤ c1 ∧ kItem.Row w A1 x.trace := by
  obtain ⟨_, _, rfl, rfl, ⟨_, _, rfl, rfl, ⟨_, _, rfl, ⟨A0, c0, rfl, l0, r0⟩, ⟨_, _, rfl, rfl, ⟨A1, c1, rfl, l1, r1⟩⟩⟩⟩⟩ := h
  exact ⟨A0, c0, A1, c1, rfl, l0, r0, l1, r1⟩
theorem kGor_mk (w : World) (x : MGor) {A0 : Option Addr} {c0 : Nat} (l0 : x.regs.length ≤ c0) (r0 : Rp.int.Row w A0 x.regs) {A1 : Option Addr} {c1 : Nat} (l1 : x.trace.length ≤ c1) (r1 : kItem.Row w A1 x.trace) : kGor.K w x [.int .i64 x.proc, .int .i64 x.pc, .slice A0 (x.regs).length c0, .int .i64 x.state, .slice A1 (x.trace).length c1] := ⟨_, _, rfl, rfl, ⟨_, _, rfl, rfl, ⟨_, _, rfl, ⟨_, _, rfl, l0, r0⟩, ⟨_, _, rfl, rfl, ⟨_, _, rfl, l1, r1⟩⟩⟩⟩⟩
theorem kGor_O {w : World} {bs : List Nat} {x : MGor} {cs : List Value} (h : kGor.O w bs x cs) : ∃ B0 d0 b0 B1 d1 b1, cs = [.int .i64 x.proc, .int .i64 x.pc, .slice B0 x.regs.length d0, .int .i64 x.state, .slice B1 x.trace.length d1] ∧ bs = b0 ++ b1 ∧ Rp.int.Own 3 w b0 (.slice B0 x.regs.length d0) x.regs ∧ kItem.Own 43 w b1 (.slice B1 x.trace.length d1) x.trace := by
  obtain ⟨_, _, _, _, rfl, rfl, ⟨rfl, rfl⟩, ⟨_, _, _, _, rfl, rfl, ⟨rfl, rfl⟩, ⟨_, _, _, _, rfl, rfl, ⟨v0, rfl, o0⟩, ⟨_, _, _, _, rfl, rfl, ⟨rfl, rfl⟩, ⟨v1, rfl, o1⟩⟩⟩⟩⟩ := h
  obtain ⟨B0, d0, rfl, _, _⟩ := o0.row
  obtain ⟨B1, d1, rfl, _, _⟩ := o1.row
  exact ⟨_, _, _, _, _, _, rfl, by simp, o0, o1⟩
theorem kGor_mkO (w : World) (x : MGor) {v0 : Value} {b0 : List Nat} (o0 : Rp.int.Own 3 w b0 v0 x.regs) {v1 : Value} {b1 : List Nat} (o1 : kItem.Own 43 w b1 v1 x.trace) : kGor.O w (b0 ++ b1) x [.int .i64 x.proc, .int .i64 x.pc, v0, .int .i64 x.state, v1] := by
  have h : kGor.O w ([] ++ ([] ++ (b0 ++ ([] ++ (b1))))) x [.int .i64 x.proc, .int .i64 x.pc, v0, .int .i64 x.state, v1] := ⟨_, _, [], _, rfl, rfl, ⟨rfl, rfl⟩, ⟨_, _, [], _, rfl, rfl, ⟨rfl, rfl⟩, ⟨_, _, b0, _, rfl, rfl, ⟨_, rfl, o0⟩, ⟨_, _, [], _, rfl, rfl, ⟨rfl, rfl⟩, ⟨_, rfl, o1⟩⟩⟩⟩⟩
  simpa using h
theorem kGor_at {w : World} {A : Option Addr} {xs : List MGor} (h : kGor.Row w A xs) {i : Nat} (hi : i < xs.length) :
    ∃ b o A0 c0 A1 c1, A = some ⟨b, o, none⟩ ∧ w.cell? ⟨b, o + i * 5, none⟩ = some (.int .i64 xs[i].proc) ∧ w.cell? ⟨b, o + i * 5 + 1, none⟩ = some (.int .i64 xs[i].pc) ∧ w.cell? ⟨b, o + i * 5 + 2, none⟩ = some (.slice A0 (xs[i].regs).length c0) ∧ w.cell? ⟨b, o + i * 5 + 3, none⟩ = some (.int .i64 xs[i].state) ∧ w.cell? ⟨b, o + i * 5 + 4, none⟩ = some (.slice A1 (xs[i].trace).length c1) ∧ xs[i].regs.length ≤ c0 ∧ Rp.int.Row w A0 xs[i].regs ∧ xs[i].trace.length ≤ c1 ∧ kItem.Row w A1 xs[i].trace := by
  obtain ⟨b, o, rfl, hc⟩ := h.2 (by rintro rfl; simp at hi)
  obtain ⟨cx, hk, hcc⟩ := hc i _ (List.getElem?_eq_getElem hi)
  obtain ⟨A0, c0, A1, c1, rfl, l0, r0, l1, r1⟩ := kGor_K hk
  exact ⟨b, o, A0, c0, A1, c1, rfl, hcc 0 _ rfl, hcc 1 _ rfl, hcc 2 _ rfl, hcc 3 _ rfl, hcc 4 _ rfl, l0, r0, l1, r1⟩
def kEng : Rp MEng := Rp.iso (Rp.pair (Rp.slice 82 kGor) (Rp.pair (Rp.slice 85 kChan) (Rp.slice 76 kMutex))) (fun x => (x.gs, x.chans, x.mus))
theorem kEng_K {w : World} {x : MEng} {cs : List Value} (h : kEng.K w x cs) : ∃ A0 c0 A1 c1 A2 c2, cs = [.slice A0 (x.gs).length c0, .slice A1 (x.chans).length c1, .slice A2 (x.mus).length c2] ∧ x.gs.length ≤ c0 ∧ kGor.Row w A0 x.gs ∧ x.chans.length ≤ c1 ∧ kChan.Row w A1 x.chans ∧ x.mus.length ≤ c2 ∧ kMutex.Row w A2 x.mus := by
  obtain ⟨_, _, rfl, ⟨A0, c0, rfl, l0, r0⟩, ⟨_, _, rfl, ⟨A1, c1, rfl, l1, r1⟩, ⟨A2, c2, rfl, l2, r2⟩⟩⟩ := h
  exact ⟨A0, c0, A1, c1, A2, c2, rfl, l0, r0, l1, r1, l2, r2⟩
theorem kEng_mk (w : World) (x : MEng) {A0 : Option Addr} {c0 : Nat} (l0 : x.gs.length ≤ c0) (r0 : kGor.Row w A0 x.gs) {A1 : Option Addr} {c1 : Nat} (l1 : x.chans.length ≤ c1) (r1 : kChan.Row w A1 x.chans) {A2 : Option Addr} {c2 : Nat} (l2 : x.mus.length ≤ c2) (r2 : kMutex.Row w A2 x.mus) : kEng.K w x [.slice A0 (x.gs).length c0, .slice A1 (x.chans).length c1, .slice A2 (x.mus).length c2] := ⟨_, _, rfl, ⟨_, _, rfl, l0, r0⟩, ⟨_, _, rfl, ⟨_, _, rfl, l1, r1⟩, ⟨_, _, rfl, l2, r2⟩⟩⟩
theorem kEng_O {w : World} {bs : List Nat} {x : MEng} {cs : List Value} (h : kEng.O w bs x cs) : ∃ B0 d0 b0 B1 d1 b1 B2 d2 b2, cs = [.slice B0 x.gs.length d0, .slice B1 x.chans.length d1, .slice B2 x.mus.length d2] ∧ bs = b0 ++ b1 ++ b2 ∧ kGor.Own 82 w b0 (.slice B0 x.gs.length d0) x.gs ∧ kChan.Own 85 w b1 (.slice B1 x.chans.length d1) x.chans ∧ kMutex.Own 76 w b2 (.slice B2 x.mus.length d2) x.mus := by
  obtain ⟨_, _, _, _, rfl, rfl, ⟨v0, rfl, o0⟩, ⟨_, _, _, _, rfl, rfl, ⟨v1, rfl, o1⟩, ⟨v2, rfl, o2⟩⟩⟩ := h
  obtain ⟨B0, d0, rfl, _, _⟩ := o0.row
  obtain ⟨B1, d1, rfl, _, _⟩ := o1.row
  obtain ⟨B2, d2, rfl, _, _⟩ := o2.row
  exact ⟨_, _, _, _, _, _, _, _, _, rfl, by simp, o0, o1, o2⟩
theorem kEng_mkO (w : World) (x : MEng) {v0 : Value} {b0 : List Nat} (o0 : kGor.Own 82 w b0 v0 x.gs) {v1 : Value} {b1 : List Nat} (o1 : kChan.Own 85 w b1 v1 x.chans) {v2 : Value} {b2 : List Nat} (o2 : kMutex.Own 76 w b2 v2 x.mus) : kEng.O w (b0 ++ b1 ++ b2) x [v0, v1, v2] := by
  have h : kEng.O w (b0 ++ (b1 ++ (b2))) x [v0, v1, v2] := ⟨_, _, b0, _, rfl, rfl, ⟨_, rfl, o0⟩, ⟨_, _, b1, _, rfl, rfl, ⟨_, rfl, o1⟩, ⟨_, rfl, o2⟩⟩⟩
  simpa using h
theorem kEng_at {w : World} {A : Option Addr} {xs : List MEng} (h : kEng.Row w A xs) {i : Nat} (hi : i < xs.length) :
    ∃ b o A0 c0 A1 c1 A2 c2, A = some ⟨b, o, none⟩ ∧ w.cell? ⟨b, o + i * 3, none⟩ = some (.slice A0 (xs[i].gs).length c0) ∧ w.cell? ⟨b, o + i * 3 + 1, none⟩ = some (.slice A1 (xs[i].chans).length c1) ∧ w.cell? ⟨b, o + i * 3 + 2, none⟩ = some (.slice A2 (xs[i].mus).length c2) ∧ xs[i].gs.length ≤ c0 ∧ kGor.Row w A0 xs[i].gs ∧ xs[i].chans.length ≤ c1 ∧ kChan.Row w A1 xs[i].chans ∧ xs[i].mus.length ≤ c2 ∧ kMutex.Row w A2 xs[i].mus := by
  obtain ⟨b, o, rfl, hc⟩ := h.2 (by rintro rfl; simp at hi)
  obtain ⟨cx, hk, hcc⟩ := hc i _ (List.getElem?_eq_getElem hi)
  obtain ⟨A0, c0, A1, c1, A2, c2, rfl, l0, r0, l1, r1, l2, r2⟩ := kEng_K hk
  exact ⟨b, o, A0, c0, A1, c1, A2, c2, rfl, hcc 0 _ rfl, hcc 1 _ rfl, hcc 2 _ rfl, l0, r0, l1, r1, l2, r2⟩
def cntChan (x : MChan) : Nat := (x.buf.length + x.sends.length + x.recvs.length)
def cntChanS : List MChan → Nat
  | [] => 0
  | x :: xs => cntChan x + cntChanS xs
theorem cntChanS_at : ∀ {xs : List MChan} {i : Nat} (h : i < xs.length), cntChan xs[i] ≤ cntChanS xs
  | x :: xs, 0, _ => Nat.le_add_right _ _
  | x :: xs, i + 1, h => Nat.le_trans (cntChanS_at (xs := xs) (Nat.lt_of_succ_lt_succ h)) (Nat.le_add_left _ _)
theorem cntChanS_take : ∀ {xs : List MChan} {i : Nat} (h : i < xs.length), cntChanS (xs.take (i + 1)) = cntChanS (xs.take i) + cntChan xs[i]
  | x :: xs, 0, _ => by simp [cntChanS]
  | x :: xs, i + 1, h => by
    have := cntChanS_take (xs := xs) (i := i) (Nat.lt_of_succ_lt_succ h)
    simp only [List.take_succ_cons, cntChanS, List.getElem_cons_succ] at this ⊢
    omega
theorem cntChanS_le : ∀ {xs : List MChan} {i : Nat}, cntChanS (xs.take i) ≤ cntChanS xs
  | [], i => by simp
  | x :: xs, 0 => Nat.zero_le _
  | x :: xs, i + 1 => Nat.add_le_add_left (cntChanS_le (xs := xs)) _
def cntMutex (x : MMutex) : Nat := (x.wait.length)
def cntMutexS : List MMutex → Nat
  | [] => 0
  | x :: xs => cntMutex x + cntMutexS xs
theorem cntMutexS_at : ∀ {xs : List MMutex} {i : Nat} (h : i < xs.length), cntMutex xs[i] ≤ cntMutexS xs
  | x :: xs, 0, _ => Nat.le_add_right _ _
  | x :: xs, i + 1, h => Nat.le_trans (cntMutexS_at (xs := xs) (Nat.lt_of_succ_lt_succ h)) (Nat.le_add_left _ _)
theorem cntMutexS_take : ∀ {xs : List MMutex} {i : Nat} (h : i < xs.length), cntMutexS (xs.take (i + 1)) = cntMutexS (xs.take i) + cntMutex xs[i]
  | x :: xs, 0, _ => by simp [cntMutexS]
  | x :: xs, i + 1, h => by
    have := cntMutexS_take (xs := xs) (i := i) (Nat.lt_of_succ_lt_succ h)
    simp only [List.take_succ_cons, cntMutexS, List.getElem_cons_succ] at this ⊢
    omega
theorem cntMutexS_le : ∀ {xs : List MMutex} {i : Nat}, cntMutexS (xs.take i) ≤ cntMutexS xs
  | [], i => by simp
  | x :: xs, 0 => Nat.zero_le _
  | x :: xs, i + 1 => Nat.add_le_add_left (cntMutexS_le (xs := xs)) _
def cntGor (x : MGor) : Nat := (x.regs.length + x.trace.length)
def cntGorS : List MGor → Nat
  | [] => 0
  | x :: xs => cntGor x + cntGorS xs
theorem cntGorS_at : ∀ {xs : List MGor} {i : Nat} (h : i < xs.length), cntGor xs[i] ≤ cntGorS xs
  | x :: xs, 0, _ => Nat.le_add_right _ _
  | x :: xs, i + 1, h => Nat.le_trans (cntGorS_at (xs := xs) (Nat.lt_of_succ_lt_succ h)) (Nat.le_add_left _ _)
theorem cntGorS_take : ∀ {xs : List MGor} {i : Nat} (h : i < xs.length), cntGorS (xs.take (i + 1)) = cntGorS (xs.take i) + cntGor xs[i]
  | x :: xs, 0, _ => by simp [cntGorS]
  | x :: xs, i + 1, h => by
    have := cntGorS_take (xs := xs) (i := i) (Nat.lt_of_succ_lt_succ h)
    simp only [List.take_succ_cons, cntGorS, List.getElem_cons_succ] at this ⊢
    omega
theorem cntGorS_le : ∀ {xs : List MGor} {i : Nat}, cntGorS (xs.take i) ≤ cntGorS xs
  | [], i => by simp
  | x :: xs, 0 => Nat.zero_le _
  | x :: xs, i + 1 => Nat.add_le_add_left (cntGorS_le (xs := xs)) _
def cntEng (x : MEng) : Nat := ((x.gs.length + cntGorS x.gs) + (x.chans.length + cntChanS x.chans) + (x.mus.length + cntMutexS x.mus))
def cntEngS : List MEng → Nat
  | [] => 0
  | x :: xs => cntEng x + cntEngS xs
theorem cntEngS_at : ∀ {xs : List MEng} {i : Nat} (h : i < xs.length), cntEng xs[i] ≤ cntEngS xs
  | x :: xs, 0, _ => Nat.le_add_right _ _
  | x :: xs, i + 1, h => Nat.le_trans (cntEngS_at (xs := xs) (Nat.lt_of_succ_lt_succ h)) (Nat.le_add_left _ _)
theorem cntEngS_take : ∀ {xs : List MEng} {i : Nat} (h : i < xs.length), cntEngS (xs.take (i + 1)) = cntEngS (xs.take i) + cntEng xs[i]
  | x :: xs, 0, _ => by simp [cntEngS]
  | x :: xs, i + 1, h => by
    have := cntEngS_take (xs := xs) (i := i) (Nat.lt_of_succ_lt_succ h)
    simp only [List.take_succ_cons, cntEngS, List.getElem_cons_succ] at this ⊢
    omega
theorem cntEngS_le : ∀ {xs : List MEng} {i : Nat}, cntEngS (xs.take i) ≤ cntEngS xs
  | [], i => by simp
  | x :: xs, 0 => Nat.zero_le _
  | x :: xs, i + 1 => Nat.add_le_add_left (cntEngS_le (xs := xs)) _
theorem info_int : (Try.prog.info? 3).map (fun i => (i.zero, i.size, i.bytes)) = some (some (.int .i64 0), 1, 8) := by kernel_rfl
theorem info_Waiter : (Try.prog.info? 120).map (fun i => (i.zero, i.size, i.bytes)) = some (some (.agg #[.int .i64 0, .int .i64 0, .int .i64 0]), 3, 24) := by kernel_rfl
theorem info_Chan : (Try.prog.info? 85).map (fun i => (i.zero, i.size, i.bytes)) = some (some (.agg #[.int .i64 0, .slice none 0 0, .slice none 0 0, .slice none 0 0, .bool false]), 5, 88) := by kernel_rfl
theorem info_Mutex : (Try.prog.info? 76).map (fun i => (i.zero, i.size, i.bytes)) = some (some (.agg #[.int .i64 0, .slice none 0 0]), 2, 32) := by kernel_rfl
theorem info_Item : (Try.prog.info? 43).map (fun i => (i.zero, i.size, i.bytes)) = some (some (.agg #[.int .i64 0, .int .i64 0, .int .i64 0, .bool false]), 4, 32) := by kernel_rfl
theorem info_Gor : (Try.prog.info? 82).map (fun i => (i.zero, i.size, i.bytes)) = some (some (.agg #[.int .i64 0, .int .i64 0, .slice none 0 0, .int .i64 0, .slice none 0 0]), 5, 72) := by kernel_rfl
end Go.Proofs.Ytebflbenchomoaa.Wd

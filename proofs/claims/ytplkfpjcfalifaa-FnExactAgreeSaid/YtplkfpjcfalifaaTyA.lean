/- Programs and logs as Lean structures, and how they lie in memory. Conditions: none. -/
import Derived.Test.YtplkfpjcfalifaaWd
import Derived.Test.YtplkfpjcfalifaaProg
namespace Go.Proofs.Ytplkfpjcfalifaa.Wd
open Go.RowKit
set_option linter.unusedVariables false
set_option linter.unusedSimpArgs false
set_option maxHeartbeats 2000000
set_option maxRecDepth 100000
@[ext] structure MCase where
  send : Bool
  chan : Int
  reg : Int
  ok : Int
  to : Int
  deriving DecidableEq
@[ext] structure MSelect where
  cases : List MCase
  els : Int
  deriving DecidableEq
@[ext] structure MInstr where
  op : Int
  a : Int
  b : Int
  c : Int
  deriving DecidableEq
@[ext] structure MProc where
  code : List MInstr
  deriving DecidableEq
@[ext] structure MProg where
  caps : List Int
  mus : Int
  sels : List MSelect
  procs : List MProc
  deriving DecidableEq
@[ext] structure MDeed where
  g : Int
  op : Int
  obj : Int
  cas : Int
  deriving DecidableEq
@[ext] structure MLog where
  prn : Int
  events : List MDeed
  deriving DecidableEq
theorem int_at {w : World} {A : Option Addr} {xs : List Int} (h : Rp.int.Row w A xs) {i : Nat} (hi : i < xs.length) :
    ∃ b o, A = some ⟨b, o, none⟩ ∧ w.cell? ⟨b, o + i, none⟩ = some (.int .i64 xs[i]) := by
  obtain ⟨b, o, rfl, hc⟩ := h.2 (by rintro rfl; simp at hi)
  obtain ⟨cx, hk, hcc⟩ := hc i _ (List.getElem?_eq_getElem hi)
  obtain rfl : cx = _ := hk
  have := hcc 0 _ rfl
  simp only [Rp.int, Rp.scalar, Nat.mul_one, Nat.add_zero] at this
  exact ⟨b, o, rfl, this⟩
def kCase : Rp MCase := Rp.iso (Rp.pair Rp.bool (Rp.pair Rp.int (Rp.pair Rp.int (Rp.pair Rp.int Rp.int)))) (fun x => (x.send, x.chan, x.reg, x.ok, x.to))
theorem kCase_K {w : World} {x : MCase} {cs : List Value} (h : kCase.K w x cs) : cs = [.bool x.send, .int .i64 x.chan, .int .i64 x.reg, .int .i64 x.ok, .int .i64 x.to] := by
  obtain ⟨_, _, rfl, rfl, ⟨_, _, rfl, rfl, ⟨_, _, rfl, rfl, ⟨_, _, rfl, rfl, rfl⟩⟩⟩⟩ := h
  exact rfl
theorem kCase_mk (w : World) (x : MCase) : kCase.K w x [.bool x.send, .int .i64 x.chan, .int .i64 x.reg, .int .i64 x.ok, .int .i64 x.to] := ⟨_, _, rfl, rfl, ⟨_, _, rfl, rfl, ⟨_, _, rfl, rfl, ⟨_, _, rfl, rfl, rfl⟩⟩⟩⟩
theorem kCase_O {w : World} {bs : List Nat} {x : MCase} {cs : List Value} (h : kCase.O w bs x cs) : cs = [.bool x.send, .int .i64 x.chan, .int .i64 x.reg, .int .i64 x.ok, .int .i64 x.to] ∧ bs = [] := by
  obtain ⟨_, _, _, _, rfl, rfl, ⟨rfl, rfl⟩, ⟨_, _, _, _, rfl, rfl, ⟨rfl, rfl⟩, ⟨_, _, _, _, rfl, rfl, ⟨rfl, rfl⟩, ⟨_, _, _, _, rfl, rfl, ⟨rfl, rfl⟩, ⟨rfl, rfl⟩⟩⟩⟩⟩ := h
  exact ⟨rfl, rfl⟩
theorem kCase_mkO (w : World) (x : MCase) : kCase.O w [] x [.bool x.send, .int .i64 x.chan, .int .i64 x.reg, .int .i64 x.ok, .int .i64 x.to] := ⟨_, _, [], _, rfl, rfl, ⟨rfl, rfl⟩, ⟨_, _, [], _, rfl, rfl, ⟨rfl, rfl⟩, ⟨_, _, [], _, rfl, rfl, ⟨rfl, rfl⟩, ⟨_, _, [], _, rfl, rfl, ⟨rfl, rfl⟩, ⟨rfl, rfl⟩⟩⟩⟩⟩
theorem kCase_at {w : World} {A : Option Addr} {xs : List MCase} (h : kCase.Row w A xs) {i : Nat} (hi : i < xs.length) :
    ∃ b o, A = some ⟨b, o, none⟩ ∧ w.cell? ⟨b, o + i * 5, none⟩ = some (.bool xs[i].send) ∧ w.cell? ⟨b, o + i * 5 + 1, none⟩ = some (.int .i64 xs[i].chan) ∧ w.cell? ⟨b, o + i * 5 + 2, none⟩ = some (.int .i64 xs[i].reg) ∧ w.cell? ⟨b, o + i * 5 + 3, none⟩ = some (.int .i64 xs[i].ok) ∧ w.cell? ⟨b, o + i * 5 + 4, none⟩ = some (.int .i64 xs[i].to) := by
  obtain ⟨b, o, rfl, hc⟩ := h.2 (by rintro rfl; simp at hi)
  obtain ⟨cx, hk, hcc⟩ := hc i _ (List.getElem?_eq_getElem hi)
  obtain rfl := kCase_K hk
  exact ⟨b, o, rfl, hcc 0 _ rfl, hcc 1 _ rfl, hcc 2 _ rfl, hcc 3 _ rfl, hcc 4 _ rfl⟩
def kSelect : Rp MSelect := Rp.iso (Rp.pair (Rp.slice 189 kCase) Rp.int) (fun x => (x.cases, x.els))
theorem kSelect_K {w : World} {x : MSelect} {cs : List Value} (h : kSelect.K w x cs) : ∃ A0 c0, cs = [.slice A0 (x.cases).length c0, .int .i64 x.els] ∧ x.cases.length ≤ c0 ∧ kCase.Row w A0 x.cases := by
  obtain ⟨_, _, rfl, ⟨A0, c0, rfl, l0, r0⟩, rfl⟩ := h
  exact ⟨A0, c0, rfl, l0, r0⟩
theorem kSelect_mk (w : World) (x : MSelect) {A0 : Option Addr} {c0 : Nat} (l0 : x.cases.length ≤ c0) (r0 : kCase.Row w A0 x.cases) : kSelect.K w x [.slice A0 (x.cases).length c0, .int .i64 x.els] := ⟨_, _, rfl, ⟨_, _, rfl, l0, r0⟩, rfl⟩
theorem kSelect_O {w : World} {bs : List Nat} {x : MSelect} {cs : List Value} (h : kSelect.O w bs x cs) : ∃ B0 d0 b0, cs = [.slice B0 x.cases.length d0, .int .i64 x.els] ∧ bs = b0 ∧ kCase.Own 189 w b0 (.slice B0 x.cases.length d0) x.cases := by
  obtain ⟨_, _, _, _, rfl, rfl, ⟨v0, rfl, o0⟩, ⟨rfl, rfl⟩⟩ := h
  obtain ⟨B0, d0, rfl, _, _⟩ := o0.row
  exact ⟨_, _, _, rfl, by simp, o0⟩
theorem kSelect_mkO (w : World) (x : MSelect) {v0 : Value} {b0 : List Nat} (o0 : kCase.Own 189 w b0 v0 x.cases) : kSelect.O w (b0) x [v0, .int .i64 x.els] := by
  have h : kSelect.O w (b0 ++ ([])) x [v0, .int .i64 x.els] := ⟨_, _, b0, _, rfl, rfl, ⟨_, rfl, o0⟩, ⟨rfl, rfl⟩⟩
  simpa using h
theorem kSelect_at {w : World} {A : Option Addr} {xs : List MSelect} (h : kSelect.Row w A xs) {i : Nat} (hi : i < xs.length) :
    ∃ b o A0 c0, A = some ⟨b, o, none⟩ ∧ w.cell? ⟨b, o + i * 2, none⟩ = some (.slice A0 (xs[i].cases).length c0) ∧ w.cell? ⟨b, o + i * 2 + 1, none⟩ = some (.int .i64 xs[i].els) ∧ xs[i].cases.length ≤ c0 ∧ kCase.Row w A0 xs[i].cases := by
  obtain ⟨b, o, rfl, hc⟩ := h.2 (by rintro rfl; simp at hi)
  obtain ⟨cx, hk, hcc⟩ := hc i _ (List.getElem?_eq_getElem hi)
  obtain ⟨A0, c0, rfl, l0, r0⟩ := kSelect_K hk
  exact ⟨b, o, A0, c0, rfl, hcc 0 _ rfl, hcc 1 _ rfl, l0, r0⟩
def kInstr : Rp MInstr := Rp.iso (Rp.pair Rp.int (Rp.pair Rp.int (Rp.pair Rp.int Rp.int))) (fun x => (x.op, x.a, x.b, x.c))
theorem kInstr_K {w : World} {x : MInstr} {cs : List Value} (h : kInstr.K w x cs) : cs = [.int .i64 x.op, .int .i64 x.a, .int .i64 x.b, .int .i64 x.c] := by
  obtain ⟨_, _, rfl, rfl, ⟨_, _, rfl, rfl, ⟨_, _, rfl, rfl, rfl⟩⟩⟩ := h
  exact rfl
theorem kInstr_mk (w : World) (x : MInstr) : kInstr.K w x [.int .i64 x.op, .int .i64 x.a, .int .i64 x.b, .int .i64 x.c] := ⟨_, _, rfl, rfl, ⟨_, _, rfl, rfl, ⟨_, _, rfl, rfl, rfl⟩⟩⟩
theorem kInstr_O {w : World} {bs : List Nat} {x : MInstr} {cs : List Value} (h : kInstr.O w bs x cs) : cs = [.int .i64 x.op, .int .i64 x.a, .int .i64 x.b, .int .i64 x.c] ∧ bs = [] := by
  obtain ⟨_, _, _, _, rfl, rfl, ⟨rfl, rfl⟩, ⟨_, _, _, _, rfl, rfl, ⟨rfl, rfl⟩, ⟨_, _, _, _, rfl, rfl, ⟨rfl, rfl⟩, ⟨rfl, rfl⟩⟩⟩⟩ := h
  exact ⟨rfl, rfl⟩
theorem kInstr_mkO (w : World) (x : MInstr) : kInstr.O w [] x [.int .i64 x.op, .int .i64 x.a, .int .i64 x.b, .int .i64 x.c] := ⟨_, _, [], _, rfl, rfl, ⟨rfl, rfl⟩, ⟨_, _, [], _, rfl, rfl, ⟨rfl, rfl⟩, ⟨_, _, [], _, rfl, rfl, ⟨rfl, rfl⟩, ⟨rfl, rfl⟩⟩⟩⟩
theorem kInstr_at {w : World} {A : Option Addr} {xs : List MInstr} (h : kInstr.Row w A xs) {i : Nat} (hi : i < xs.length) :
    ∃ b o, A = some ⟨b, o, none⟩ ∧ w.cell? ⟨b, o + i * 4, none⟩ = some (.int .i64 xs[i].op) ∧ w.cell? ⟨b, o + i * 4 + 1, none⟩ = some (.int .i64 xs[i].a) ∧ w.cell? ⟨b, o + i * 4 + 2, none⟩ = some (.int .i64 xs[i].b) ∧ w.cell? ⟨b, o + i * 4 + 3, none⟩ = some (.int .i64 xs[i].c) := by
  obtain ⟨b, o, rfl, hc⟩ := h.2 (by rintro rfl; simp at hi)
  obtain ⟨cx, hk, hcc⟩ := hc i _ (List.getElem?_eq_getElem hi)
  obtain rfl := kInstr_K hk
  exact ⟨b, o, rfl, hcc 0 _ rfl, hcc 1 _ rfl, hcc 2 _ rfl, hcc 3 _ rfl⟩
def kProc : Rp MProc := Rp.iso (Rp.slice 193 kInstr) (fun x => x.code)
theorem kProc_K {w : World} {x : MProc} {cs : List Value} (h : kProc.K w x cs) : ∃ A0 c0, cs = [.slice A0 (x.code).length c0] ∧ x.code.length ≤ c0 ∧ kInstr.Row w A0 x.code := by
  obtain ⟨A0, c0, rfl, l0, r0⟩ := h
  exact ⟨A0, c0, rfl, l0, r0⟩
theorem kProc_mk (w : World) (x : MProc) {A0 : Option Addr} {c0 : Nat} (l0 : x.code.length ≤ c0) (r0 : kInstr.Row w A0 x.code) : kProc.K w x [.slice A0 (x.code).length c0] := ⟨_, _, rfl, l0, r0⟩
theorem kProc_O {w : World} {bs : List Nat} {x : MProc} {cs : List Value} (h : kProc.O w bs x cs) : ∃ B0 d0 b0, cs = [.slice B0 x.code.length d0] ∧ bs = b0 ∧ kInstr.Own 193 w b0 (.slice B0 x.code.length d0) x.code := by
  obtain ⟨v0, rfl, o0⟩ := h
  obtain ⟨B0, d0, rfl, _, _⟩ := o0.row
  exact ⟨_, _, _, rfl, by simp, o0⟩
theorem kProc_mkO (w : World) (x : MProc) {v0 : Value} {b0 : List Nat} (o0 : kInstr.Own 193 w b0 v0 x.code) : kProc.O w (b0) x [v0] := by
  have h : kProc.O w (b0) x [v0] := ⟨_, rfl, o0⟩
  simpa using h
theorem kProc_at {w : World} {A : Option Addr} {xs : List MProc} (h : kProc.Row w A xs) {i : Nat} (hi : i < xs.length) :
    ∃ b o A0 c0, A = some ⟨b, o, none⟩ ∧ w.cell? ⟨b, o + i, none⟩ = some (.slice A0 (xs[i].code).length c0) ∧ xs[i].code.length ≤ c0 ∧ kInstr.Row w A0 xs[i].code := by
  obtain ⟨b, o, rfl, hc⟩ := h.2 (by rintro rfl; simp at hi)
  obtain ⟨cx, hk, hcc⟩ := hc i _ (List.getElem?_eq_getElem hi)
  obtain ⟨A0, c0, rfl, l0, r0⟩ := kProc_K hk
  have := hcc 0 _ rfl
  simp only [show kProc.sz = 1 from rfl, Nat.mul_one, Nat.add_zero] at this
  exact ⟨b, o, A0, c0, rfl, this, l0, r0⟩
def kProg : Rp MProg := Rp.iso (Rp.pair (Rp.slice 3 Rp.int) (Rp.pair Rp.int (Rp.pair (Rp.slice 130 kSelect) (Rp.slice 134 kProc)))) (fun x => (x.caps, x.mus, x.sels, x.procs))
theorem kProg_K {w : World} {x : MProg} {cs : List Value} (h : kProg.K w x cs) : ∃ A0 c0 A1 c1 A2 c2, cs = [.slice A0 (x.caps).length c0, .int .i64 x.mus, .slice A1 (x.sels).length c1, .slice A2 (x.procs).length c2] ∧ x.caps.length ≤ c0 ∧ Rp.int.Row w A0 x.caps ∧ x.sels.length ≤ c1 ∧ kSelect.Row w A1 x.sels ∧ x.procs.length ≤ c2 ∧ kProc.Row w A2 x.procs := by
  obtain ⟨_, _, rfl, ⟨A0, c0, rfl, l0, r0⟩, ⟨_, _, rfl, rfl, ⟨_, _, rfl, ⟨A1, c1, rfl, l1, r1⟩, ⟨A2, c2, rfl, l2, r2⟩⟩⟩⟩ := h
  exact ⟨A0, c0, A1, c1, A2, c2, rfl, l0, r0, l1, r1, l2, r2⟩
theorem kProg_mk (w : World) (x : MProg) {A0 : Option Addr} {c0 : Nat} (l0 : x.caps.length ≤ c0) (r0 : Rp.int.Row w A0 x.caps) {A1 : Option Addr} {c1 : Nat} (l1 : x.sels.length ≤ c1) (r1 : kSelect.Row w A1 x.sels) {A2 : Option Addr} {c2 : Nat} (l2 : x.procs.length ≤ c2) (r2 : kProc.Row w A2 x.procs) : kProg.K w x [.slice A0 (x.caps).length c0, .int .i64 x.mus, .slice A1 (x.sels).length c1, .slice A2 (x.procs).length c2] := ⟨_, _, rfl, ⟨_, _, rfl, l0, r0⟩, ⟨_, _, rfl, rfl, ⟨_, _, rfl, ⟨_, _, rfl, l1, r1⟩, ⟨_, _, rfl, l2, r2⟩⟩⟩⟩
theorem kProg_O {w : World} {bs : List Nat} {x : MProg} {cs : List Value} (h : kProg.O w bs x cs) : ∃ B0 d0 b0 B1 d1 b1 B2 d2 b2, cs = [.slice B0 x.caps.length d0, .int .i64 x.mus, .slice B1 x.sels.length d1, .slice B2 x.procs.length d2] ∧ bs = b0 ++ b1 ++ b2 ∧ Rp.int.Own 3 w b0 (.slice B0 x.caps.length d0) x.caps ∧ kSelect.Own 130 w b1 (.slice B1 x.sels.length d1) x.sels ∧ kProc.Own 134 w b2 (.slice B2 x.procs.length d2) x.procs := by
  obtain ⟨_, _, _, _, rfl, rfl, ⟨v0, rfl, o0⟩, ⟨_, _, _, _, rfl, rfl, ⟨rfl, rfl⟩, ⟨_, _, _, _, rfl, rfl, ⟨v1, rfl, o1⟩, ⟨v2, rfl, o2⟩⟩⟩⟩ := h
  obtain ⟨B0, d0, rfl, _, _⟩ := o0.row
  obtain ⟨B1, d1, rfl, _, _⟩ := o1.row
  obtain ⟨B2, d2, rfl, _, _⟩ := o2.row
  exact ⟨_, _, _, _, _, _, _, _, _, rfl, by simp, o0, o1, o2⟩
theorem kProg_mkO (w : World) (x : MProg) {v0 : Value} {b0 : List Nat} (o0 : Rp.int.Own 3 w b0 v0 x.caps) {v1 : Value} {b1 : List Nat} (o1 : kSelect.Own 130 w b1 v1 x.sels) {v2 : Value} {b2 : List Nat} (o2 : kProc.Own 134 w b2 v2 x.procs) : kProg.O w (b0 ++ b1 ++ b2) x [v0, .int .i64 x.mus, v1, v2] := by
  have h : kProg.O w (b0 ++ ([] ++ (b1 ++ (b2)))) x [v0, .int .i64 x.mus, v1, v2] := ⟨_, _, b0, _, rfl, rfl, ⟨_, rfl, o0⟩, ⟨_, _, [], _, rfl, rfl, ⟨rfl, rfl⟩, ⟨_, _, b1, _, rfl, rfl, ⟨_, rfl, o1⟩, ⟨_, rfl, o2⟩⟩⟩⟩
  simpa using h
theorem kProg_at {w : World} {A : Option Addr} {xs : List MProg} (h : kProg.Row w A xs) {i : Nat} (hi : i < xs.length) :
    ∃ b o A0 c0 A1 c1 A2 c2, A = some ⟨b, o, none⟩ ∧ w.cell? ⟨b, o + i * 4, none⟩ = some (.slice A0 (xs[i].caps).length c0) ∧ w.cell? ⟨b, o + i * 4 + 1, none⟩ = some (.int .i64 xs[i].mus) ∧ w.cell? ⟨b, o + i * 4 + 2, none⟩ = some (.slice A1 (xs[i].sels).length c1) ∧ w.cell? ⟨b, o + i * 4 + 3, none⟩ = some (.slice A2 (xs[i].procs).length c2) ∧ xs[i].caps.length ≤ c0 ∧ Rp.int.Row w A0 xs[i].caps ∧ xs[i].sels.length ≤ c1 ∧ kSelect.Row w A1 xs[i].sels ∧ xs[i].procs.length ≤ c2 ∧ kProc.Row w A2 xs[i].procs := by
  obtain ⟨b, o, rfl, hc⟩ := h.2 (by rintro rfl; simp at hi)
  obtain ⟨cx, hk, hcc⟩ := hc i _ (List.getElem?_eq_getElem hi)
  obtain ⟨A0, c0, A1, c1, A2, c2, rfl, l0, r0, l1, r1, l2, r2⟩ := kProg_K hk
  exact ⟨b, o, A0, c0, A1, c1, A2, c2, rfl, hcc 0 _ rfl, hcc 1 _ rfl, hcc 2 _ rfl, hcc 3 _ rfl, l0, r0, l1, r1, l2, r2⟩
def kDeed : Rp MDeed := Rp.iso (Rp.pair Rp.int (Rp.pair Rp.int (Rp.pair Rp.int Rp.int))) (fun x => (x.g, x.op, x.obj, x.cas))
theorem kDeed_K {w : World} {x : MDeed} {cs : List Value} (h : kDeed.K w x cs) : cs = [.int .i64 x.g, .int .i64 x.op, .int .i64 x.obj, .int .i64 x.cas] := by
  obtain ⟨_, _, rfl, rfl, ⟨_, _, rfl, rfl, ⟨_, _, rfl, rfl, rfl⟩⟩⟩ := h
  exact rfl
theorem kDeed_mk (w : World) (x : MDeed) : kDeed.K w x [.int .i64 x.g, .int .i64 x.op, .int .i64 x.obj, .int .i64 x.cas] := ⟨_, _, rfl, rfl, ⟨_, _, rfl, rfl, ⟨_, _, rfl, rfl, rfl⟩⟩⟩
theorem kDeed_O {w : World} {bs : List Nat} {x : MDeed} {cs : List Value} (h : kDeed.O w bs x cs) : cs = [.int .i64 x.g, .int .i64 x.op, .int .i64 x.obj, .int .i64 x.cas] ∧ bs = [] := by
  obtain ⟨_, _, _, _, rfl, rfl, ⟨rfl, rfl⟩, ⟨_, _, _, _, rfl, rfl, ⟨rfl, rfl⟩, ⟨_, _, _, _, rfl, rfl, ⟨rfl, rfl⟩, ⟨rfl, rfl⟩⟩⟩⟩ := h
  exact ⟨rfl, rfl⟩
theorem kDeed_mkO (w : World) (x : MDeed) : kDeed.O w [] x [.int .i64 x.g, .int .i64 x.op, .int .i64 x.obj, .int .i64 x.cas] := ⟨_, _, [], _, rfl, rfl, ⟨rfl, rfl⟩, ⟨_, _, [], _, rfl, rfl, ⟨rfl, rfl⟩, ⟨_, _, [], _, rfl, rfl, ⟨rfl, rfl⟩, ⟨rfl, rfl⟩⟩⟩⟩
theorem kDeed_at {w : World} {A : Option Addr} {xs : List MDeed} (h : kDeed.Row w A xs) {i : Nat} (hi : i < xs.length) :
    ∃ b o, A = some ⟨b, o, none⟩ ∧ w.cell? ⟨b, o + i * 4, none⟩ = some (.int .i64 xs[i].g) ∧ w.cell? ⟨b, o + i * 4 + 1, none⟩ = some (.int .i64 xs[i].op) ∧ w.cell? ⟨b, o + i * 4 + 2, none⟩ = some (.int .i64 xs[i].obj) ∧ w.cell? ⟨b, o + i * 4 + 3, none⟩ = some (.int .i64 xs[i].cas) := by
  obtain ⟨b, o, rfl, hc⟩ := h.2 (by rintro rfl; simp at hi)
  obtain ⟨cx, hk, hcc⟩ := hc i _ (List.getElem?_eq_getElem hi)
  obtain rfl := kDeed_K hk
  exact ⟨b, o, rfl, hcc 0 _ rfl, hcc 1 _ rfl, hcc 2 _ rfl, hcc 3 _ rfl⟩
def kLog : Rp MLog := Rp.iso (Rp.pair Rp.int (Rp.slice 93 kDeed)) (fun x => (x.prn, x.events))
theorem kLog_K {w : World} {x : MLog} {cs : List Value} (h : kLog.K w x cs) : ∃ A0 c0, cs = [.int .i64 x.prn, .slice A0 (x.events).length c0] ∧ x.events.length ≤ c0 ∧ kDeed.Row w A0 x.events := by
  obtain ⟨_, _, rfl, rfl, ⟨A0, c0, rfl, l0, r0⟩⟩ := h
  exact ⟨A0, c0, rfl, l0, r0⟩
theorem kLog_mk (w : World) (x : MLog) {A0 : Option Addr} {c0 : Nat} (l0 : x.events.length ≤ c0) (r0 : kDeed.Row w A0 x.events) : kLog.K w x [.int .i64 x.prn, .slice A0 (x.events).length c0] := ⟨_, _, rfl, rfl, ⟨_, _, rfl, l0, r0⟩⟩
theorem kLog_O {w : World} {bs : List Nat} {x : MLog} {cs : List Value} (h : kLog.O w bs x cs) : ∃ B0 d0 b0, cs = [.int .i64 x.prn, .slice B0 x.events.length d0] ∧ bs = b0 ∧ kDeed.Own 93 w b0 (.slice B0 x.events.length d0) x.events := by
  obtain ⟨_, _, _, _, rfl, rfl, ⟨rfl, rfl⟩, ⟨v0, rfl, o0⟩⟩ := h
  obtain ⟨B0, d0, rfl, _, _⟩ := o0.row
  exact ⟨_, _, _, rfl, by simp, o0⟩
theorem kLog_mkO (w : World) (x : MLog) {v0 : Value} {b0 : List Nat} (o0 : kDeed.Own 93 w b0 v0 x.events) : kLog.O w (b0) x [.int .i64 x.prn, v0] := by
  have h : kLog.O w ([] ++ (b0)) x [.int .i64 x.prn, v0] := ⟨_, _, [], _, rfl, rfl, ⟨rfl, rfl⟩, ⟨_, rfl, o0⟩⟩
  simpa using h
theorem kLog_at {w : World} {A : Option Addr} {xs : List MLog} (h : kLog.Row w A xs) {i : Nat} (hi : i < xs.length) :
    ∃ b o A0 c0, A = some ⟨b, o, none⟩ ∧ w.cell? ⟨b, o + i * 2, none⟩ = some (.int .i64 xs[i].prn) ∧ w.cell? ⟨b, o + i * 2 + 1, none⟩ = some (.slice A0 (xs[i].events).length c0) ∧ xs[i].events.length ≤ c0 ∧ kDeed.Row w A0 xs[i].events := by
  obtain ⟨b, o, rfl, hc⟩ := h.2 (by rintro rfl; simp at hi)
  obtain ⟨cx, hk, hcc⟩ := hc i _ (List.getElem?_eq_getElem hi)
  obtain ⟨A0, c0, rfl, l0, r0⟩ := kLog_K hk
  exact ⟨b, o, A0, c0, rfl, hcc 0 _ rfl, hcc 1 _ rfl, l0, r0⟩
def cntSelect (x : MSelect) : Nat := (x.cases.length)
def cntSelectS : List MSelect → Nat
  | [] => 0
  | x :: xs => cntSelect x + cntSelectS xs
theorem cntSelectS_at : ∀ {xs : List MSelect} {i : Nat} (h : i < xs.length), cntSelect xs[i] ≤ cntSelectS xs
  | x :: xs, 0, _ => Nat.le_add_right _ _
  | x :: xs, i + 1, h => Nat.le_trans (cntSelectS_at (xs := xs) (Nat.lt_of_succ_lt_succ h)) (Nat.le_add_left _ _)
theorem cntSelectS_take : ∀ {xs : List MSelect} {i : Nat} (h : i < xs.length), cntSelectS (xs.take (i + 1)) = cntSelectS (xs.take i) + cntSelect xs[i]
  | x :: xs, 0, _ => by simp [cntSelectS]
  | x :: xs, i + 1, h => by
    have := cntSelectS_take (xs := xs) (i := i) (Nat.lt_of_succ_lt_succ h)
    simp only [List.take_succ_cons, cntSelectS, List.getElem_cons_succ] at this ⊢
    omega
theorem cntSelectS_le : ∀ {xs : List MSelect} {i : Nat}, cntSelectS (xs.take i) ≤ cntSelectS xs
  | [], i => by simp
  | x :: xs, 0 => Nat.zero_le _
  | x :: xs, i + 1 => Nat.add_le_add_left (cntSelectS_le (xs := xs)) _
def cntProc (x : MProc) : Nat := (x.code.length)
def cntProcS : List MProc → Nat
  | [] => 0
  | x :: xs => cntProc x + cntProcS xs
theorem cntProcS_at : ∀ {xs : List MProc} {i : Nat} (h : i < xs.length), cntProc xs[i] ≤ cntProcS xs
  | x :: xs, 0, _ => Nat.le_add_right _ _
  | x :: xs, i + 1, h => Nat.le_trans (cntProcS_at (xs := xs) (Nat.lt_of_succ_lt_succ h)) (Nat.le_add_left _ _)
theorem cntProcS_take : ∀ {xs : List MProc} {i : Nat} (h : i < xs.length), cntProcS (xs.take (i + 1)) = cntProcS (xs.take i) + cntProc xs[i]
  | x :: xs, 0, _ => by simp [cntProcS]
  | x :: xs, i + 1, h => by
    have := cntProcS_take (xs := xs) (i := i) (Nat.lt_of_succ_lt_succ h)
    simp only [List.take_succ_cons, cntProcS, List.getElem_cons_succ] at this ⊢
    omega
theorem cntProcS_le : ∀ {xs : List MProc} {i : Nat}, cntProcS (xs.take i) ≤ cntProcS xs
  | [], i => by simp
  | x :: xs, 0 => Nat.zero_le _
  | x :: xs, i + 1 => Nat.add_le_add_left (cntProcS_le (xs := xs)) _
def cntProg (x : MProg) : Nat := (x.caps.length + (x.sels.length + cntSelectS x.sels) + (x.procs.length + cntProcS x.procs))
def cntProgS : List MProg → Nat
  | [] => 0
  | x :: xs => cntProg x + cntProgS xs
theorem cntProgS_at : ∀ {xs : List MProg} {i : Nat} (h : i < xs.length), cntProg xs[i] ≤ cntProgS xs
  | x :: xs, 0, _ => Nat.le_add_right _ _
  | x :: xs, i + 1, h => Nat.le_trans (cntProgS_at (xs := xs) (Nat.lt_of_succ_lt_succ h)) (Nat.le_add_left _ _)
theorem cntProgS_take : ∀ {xs : List MProg} {i : Nat} (h : i < xs.length), cntProgS (xs.take (i + 1)) = cntProgS (xs.take i) + cntProg xs[i]
  | x :: xs, 0, _ => by simp [cntProgS]
  | x :: xs, i + 1, h => by
    have := cntProgS_take (xs := xs) (i := i) (Nat.lt_of_succ_lt_succ h)
    simp only [List.take_succ_cons, cntProgS, List.getElem_cons_succ] at this ⊢
    omega
theorem cntProgS_le : ∀ {xs : List MProg} {i : Nat}, cntProgS (xs.take i) ≤ cntProgS xs
  | [], i => by simp
  | x :: xs, 0 => Nat.zero_le _
  | x :: xs, i + 1 => Nat.add_le_add_left (cntProgS_le (xs := xs)) _
def cntLog (x : MLog) : Nat := (x.events.length)
def cntLogS : List MLog → Nat
  | [] => 0
  | x :: xs => cntLog x + cntLogS xs
theorem cntLogS_at : ∀ {xs : List MLog} {i : Nat} (h : i < xs.length), cntLog xs[i] ≤ cntLogS xs
  | x :: xs, 0, _ => Nat.le_add_right _ _
  | x :: xs, i + 1, h => Nat.le_trans (cntLogS_at (xs := xs) (Nat.lt_of_succ_lt_succ h)) (Nat.le_add_left _ _)
theorem cntLogS_take : ∀ {xs : List MLog} {i : Nat} (h : i < xs.length), cntLogS (xs.take (i + 1)) = cntLogS (xs.take i) + cntLog xs[i]
  | x :: xs, 0, _ => by simp [cntLogS]
  | x :: xs, i + 1, h => by
    have := cntLogS_take (xs := xs) (i := i) (Nat.lt_of_succ_lt_succ h)
    simp only [List.take_succ_cons, cntLogS, List.getElem_cons_succ] at this ⊢
    omega
theorem cntLogS_le : ∀ {xs : List MLog} {i : Nat}, cntLogS (xs.take i) ≤ cntLogS xs
  | [], i => by simp
  | x :: xs, 0 => Nat.zero_le _
  | x :: xs, i + 1 => Nat.add_le_add_left (cntLogS_le (xs := xs)) _
theorem info_int : (Try.prog.info? 3).map (fun i => (i.zero, i.size, i.bytes)) = some (some (.int .i64 0), 1, 8) := by kernel_rfl
theorem info_Case : (Try.prog.info? 189).map (fun i => (i.zero, i.size, i.bytes)) = some (some (.agg #[.bool false, .int .i64 0, .int .i64 0, .int .i64 0, .int .i64 0]), 5, 40) := by kernel_rfl
theorem info_Select : (Try.prog.info? 130).map (fun i => (i.zero, i.size, i.bytes)) = some (some (.agg #[.slice none 0 0, .int .i64 0]), 2, 32) := by kernel_rfl
theorem info_Instr : (Try.prog.info? 193).map (fun i => (i.zero, i.size, i.bytes)) = some (some (.agg #[.int .i64 0, .int .i64 0, .int .i64 0, .int .i64 0]), 4, 32) := by kernel_rfl
theorem info_Proc : (Try.prog.info? 134).map (fun i => (i.zero, i.size, i.bytes)) = some (some (.agg #[.slice none 0 0]), 1, 24) := by kernel_rfl
theorem info_Deed : (Try.prog.info? 93).map (fun i => (i.zero, i.size, i.bytes)) = some (some (.agg #[.int .i64 0, .int .i64 0, .int .i64 0, .int .i64 0]), 4, 32) := by kernel_rfl
end Go.Proofs.Ytplkfpjcfalifaa.Wd

/- Replays: their kinds. Conditions: none. -/
import Derived.Test.YtebflbenchomoaaTy
namespace Go.Proofs.Ytebflbenchomoaa.Wd
open Go.RowKit
set_option linter.unusedVariables false
set_option linter.unusedSimpArgs false
set_option maxHeartbeats 2000000
set_option maxRecDepth 100000
@[ext] structure MDeed where
  g : Int
  op : Int
  obj : Int
  cas : Int
  deriving DecidableEq
@[ext] structure MRep where
  eng : MEng
  events : List MDeed
  done : List Bool
  deriving DecidableEq
theorem bool_at {w : World} {A : Option Addr} {xs : List Bool} (h : Rp.bool.Row w A xs) {i : Nat} (hi : i < xs.length) :
    ∃ b o, A = some ⟨b, o, none⟩ ∧ w.cell? ⟨b, o + i, none⟩ = some (.bool xs[i]) := by
  obtain ⟨b, o, rfl, hc⟩ := h.2 (by rintro rfl; simp at hi)
  obtain ⟨cx, hk, hcc⟩ := hc i _ (List.getElem?_eq_getElem hi)
  obtain rfl : cx = _ := hk
  have := hcc 0 _ rfl
  simp only [Rp.bool, Rp.scalar, Nat.mul_one, Nat.add_zero] at this
  exact ⟨b, o, rfl, this⟩
def kDeed : Rp MDeed := Rp.iso (Rp.pair Rp.int (Rp.pair Rp.int (Rp.pair Rp.int Rp.int))) (fun x => (x.g, x.op, x.obj, x.cas))
theorem kDeed_K {w : World} {x : MDeed} {cs : List Value} (h : kDeed.K w x cs) : cs = [.int .i64 x.g, .int .i64 x.op, .int .i64 x.obj, .int .i64 x.cas] := by
  obtain ⟨_, _, rfl, rfl, ⟨_, _, rfl, rfl, ⟨_, _, rfl, rfl, rfl⟩⟩⟩ := h
  exact rfl
theorem kDeed_mk (w : World) (x : MDeed) : kDeed.K w x [.int .i64 x.g, .int .i64 x.op, .int .i64 x.obj, .int .i64 x.cas] := ⟨_, _, rfl, rfl, ⟨_, _, rfl, rfl, ⟨_, _, rfl, rfl, rfl⟩⟩⟩
theorem kDeed_O {w : World} {bs : List Nat} {x : MDeed} {cs : List Value} (h : kDeed.O w bs x cs) : cs = [.int .i64 x.g, .int .i64 x.op, .int .i64 x.obj, .int .i64 x.cas] ∧ bs = [] := by
  obtain ⟨_, _, _, _, rfl, rfl, ⟨rfl, rfl⟩, ⟨_, _, _, _, rfl, rfl, ⟨rfl, rfl⟩, ⟨_, _, _, _, rfl, rfl, ⟨rfl, rfl⟩, ⟨rfl, rfl⟩⟩⟩⟩ := h
  exact ⟨rfl, rfl⟩
theorem kDeed_mkO (w : World) (x : MDeed) : kDeed.O w [] x [.int .i64 x.g, .int .i64 x.op, .int .i64 x.obj, .int .i64 x.cas] := ⟨_, _, [], _, rfl, rfl, ⟨rfl, rfl⟩, ⟨_, _, [], _, rfl, rfl, ⟨rfl, rfl⟩, ⟨_, _, [], _, rfl, rfl, ⟨rfl, rfl⟩, ⟨rfl, rfl⟩⟩⟩⟩
theorem kDeed_at {w : World} {A : Option Addr} {xs : List MDeed} (h : kDeed.Row w A xs) {i : Nat} (hi : i < xs.length) :
    ∃ b o, A = some ⟨b, o, none⟩ ∧ w.cell? ⟨b, o + i * 4, none⟩ = some (.int .i64 xs[i].g) ∧ w.cell? ⟨b, o + i * 4 + 1, none⟩ = some (.int .i64 xs[i].op) ∧ w.cell? ⟨b, o + i * 4 + 2, none⟩ = some (.int .i64 xs[i].obj) ∧ w.cell? ⟨b, o + i * 4 + 3, none⟩ = some (.int .i64 xs[i].cas) := by
  obtain ⟨b, o, rfl, hc⟩ := h.2 (by rintro rfl; simp at hi)
  obtain ⟨cx, hk, hcc⟩ := hc i _ (List.getElem?_eq_getElem hi)
  obtain rfl := kDeed_K hk
  exact ⟨b, o, rfl, hcc 0 _ rfl, hcc 1 _ rfl, hcc 2 _ rfl, hcc 3 _ rfl⟩
def kRep : Rp MRep := Rp.iso (Rp.pair kEng (Rp.pair (Rp.slice 122 kDeed) (Rp.slice 4 Rp.bool))) (fun x => (x.eng, x.events, x.done))
theorem kRep_K {w : World} {x : MRep} {cs : List Value} (h : kRep.K w x cs) : ∃ A0 c0 A1 c1 A2 c2 A3 c3 A4 c4, cs = [.slice A0 (x.eng.gs).length c0, .slice A1 (x.eng.chans).length c1, .slice A2 (x.eng.mus).length c2, .slice A3 (x.events).length c3, .slice A4 (x.done).length c4] ∧ x.eng.gs.length ≤ c0 ∧ kGor.Row w A0 x.eng.gs ∧ x.eng.chans.length ≤ c1 ∧ kChan.Row w A1 x.eng.chans ∧ x.eng.mus.length ≤ c2 ∧ kMutex.Row w A2 x.eng.mus ∧ x.events.length ≤ c3 ∧ kDeed.Row w A3 x.events ∧ x.done.length ≤ c4 ∧ Rp.bool.Row w A4 x.done := by
  obtain ⟨_, _, rfl, neng, ⟨_, _, rfl, ⟨A3, c3, rfl, l3, r3⟩, ⟨A4, c4, rfl, l4, r4⟩⟩⟩ := h
  obtain ⟨A0, c0, A1, c1, A2, c2, rfl, l0, r0, l1, r1, l2, r2⟩ := kEng_K neng
  exact ⟨A0, c0, A1, c1, A2, c2, A3, c3, A4, c4, rfl, l0, r0, l1, r1, l2, r2, l3, r3, l4, r4⟩
theorem kRep_mk (w : World) (x : MRep) {A0 : Option Addr} {c0 : Nat} (l0 : x.eng.gs.length ≤ c0) (r0 : kGor.Row w A0 x.eng.gs) {A1 : Option Addr} {c1 : Nat} (l1 : x.eng.chans.length ≤ c1) (r1 : kChan.Row w A1 x.eng.chans) {A2 : Option Addr} {c2 : Nat} (l2 : x.eng.mus.length ≤ c2) (r2 : kMutex.Row w A2 x.eng.mus) {A3 : Option Addr} {c3 : Nat} (l3 : x.events.length ≤ c3) (r3 : kDeed.Row w A3 x.events) {A4 : Option Addr} {c4 : Nat} (l4 : x.done.length ≤ c4) (r4 : Rp.bool.Row w A4 x.done) : kRep.K w x [.slice A0 (x.eng.gs).length c0, .slice A1 (x.eng.chans).length c1, .slice A2 (x.eng.mus).length c2, .slice A3 (x.events).length c3, .slice A4 (x.done).length c4] := ⟨_, _, rfl, (kEng_mk w _ l0 r0 l1 r1 l2 r2), ⟨_, _, rfl, ⟨_, _, rfl, l3, r3⟩, ⟨_, _, rfl, l4, r4⟩⟩⟩
theorem kRep_O {w : World} {bs : List Nat} {x : MRep} {cs : List Value} (h : kRep.O w bs x cs) : ∃ B0 d0 b0 B1 d1 b1 B2 d2 b2 B3 d3 b3 B4 d4 b4, cs = [.slice B0 x.eng.gs.length d0, .slice B1 x.eng.chans.length d1, .slice B2 x.eng.mus.length d2, .slice B3 x.events.length d3, .slice B4 x.done.length d4] ∧ bs = b0 ++ b1 ++ b2 ++ b3 ++ b4 ∧ kGor.Own 82 w b0 (.slice B0 x.eng.gs.length d0) x.eng.gs ∧ kChan.Own 85 w b1 (.slice B1 x.eng.chans.length d1) x.eng.chans ∧ kMutex.Own 76 w b2 (.slice B2 x.eng.mus.length d2) x.eng.mus ∧ kDeed.Own 122 w b3 (.slice B3 x.events.length d3) x.events ∧ Rp.bool.Own 4 w b4 (.slice B4 x.done.length d4) x.done := by
  obtain ⟨_, _, _, _, rfl, rfl, neng, ⟨_, _, _, _, rfl, rfl, ⟨v3, rfl, o3⟩, ⟨v4, rfl, o4⟩⟩⟩ := h
  obtain ⟨B0, d0, b0, B1, d1, b1, B2, d2, b2, rfl, rfl, o0, o1, o2⟩ := kEng_O neng
  obtain ⟨B3, d3, rfl, _, _⟩ := o3.row
  obtain ⟨B4, d4, rfl, _, _⟩ := o4.row
  exact ⟨_, _, _, _, _, _, _, _, _, _, _, _, _, _, _, rfl, by simp, o0, o1, o2, o3, o4⟩
theorem kRep_mkO (w : World) (x : MRep) {v0 : Value} {b0 : List Nat} (o0 : kGor.Own 82 w b0 v0 x.eng.gs) {v1 : Value} {b1 : List Nat} (o1 : kChan.Own 85 w b1 v1 x.eng.chans) {v2 : Value} {b2 : List Nat} (o2 : kMutex.Own 76 w b2 v2 x.eng.mus) {v3 : Value} {b3 : List Nat} (o3 : kDeed.Own 122 w b3 v3 x.events) {v4 : Value} {b4 : List Nat} (o4 : Rp.bool.Own 4 w b4 v4 x.done) : kRep.O w (b0 ++ b1 ++ b2 ++ b3 ++ b4) x [v0, v1, v2, v3, v4] := by
  have h : kRep.O w ((b0 ++ b1 ++ b2) ++ (b3 ++ (b4))) x [v0, v1, v2, v3, v4] := ⟨_, _, (b0 ++ b1 ++ b2), _, rfl, rfl, (kEng_mkO w _ o0 o1 o2), ⟨_, _, b3, _, rfl, rfl, ⟨_, rfl, o3⟩, ⟨_, rfl, o4⟩⟩⟩
  simpa using h
theorem kRep_at {w : World} {A : Option Addr} {xs : List MRep} (h : kRep.Row w A xs) {i : Nat} (hi : i < xs.length) :
    ∃ b o A0 c0 A1 c1 A2 c2 A3 c3 A4 c4, A = some ⟨b, o, none⟩ ∧ w.cell? ⟨b, o + i * 5, none⟩ = some (.slice A0 (xs[i].eng.gs).length c0) ∧ w.cell? ⟨b, o + i * 5 + 1, none⟩ = some (.slice A1 (xs[i].eng.chans).length c1) ∧ w.cell? ⟨b, o + i * 5 + 2, none⟩ = some (.slice A2 (xs[i].eng.mus).length c2) ∧ w.cell? ⟨b, o + i * 5 + 3, none⟩ = some (.slice A3 (xs[i].events).length c3) ∧ w.cell? ⟨b, o + i * 5 + 4, none⟩ = some (.slice A4 (xs[i].done).length c4) ∧ xs[i].eng.gs.length ≤ c0 ∧ kGor.Row w A0 xs[i].eng.gs ∧ xs[i].eng.chans.length ≤ c1 ∧ kChan.Row w A1 xs[i].eng.chans ∧ xs[i].eng.mus.length ≤ c2 ∧ kMutex.Row w A2 xs[i].eng.mus ∧ xs[i].events.length ≤ c3 ∧ kDeed.Row w A3 xs[i].events ∧ xs[i].done.length ≤ c4 ∧ Rp.bool.Row w A4 xs[i].done := by
  obtain ⟨b, o, rfl, hc⟩ := h.2 (by rintro rfl; simp at hi)
  obtain ⟨cx, hk, hcc⟩ := hc i _ (List.getElem?_eq_getElem hi)
  obtain ⟨A0, c0, A1, c1, A2, c2, A3, c3, A4, c4, rfl, l0, r0, l1, r1, l2, r2, l3, r3, l4, r4⟩ := kRep_K hk
  exact ⟨b, o, A0, c0, A1, c1, A2, c2, A3, c3, A4, c4, rfl, hcc 0 _ rfl, hcc 1 _ rfl, hcc 2 _ rfl, hcc 3 _ rfl, hcc 4 _ rfl, l0, r0, l1, r1, l2, r2, l3, r3, l4, r4⟩
def cntRep (x : MRep) : Nat := (cntEng x.eng + x.events.length + x.done.length)
def cntRepS : List MRep → Nat
  | [] => 0
  | x :: xs => cntRep x + cntRepS xs
theorem cntRepS_at : ∀ {xs : List MRep} {i : Nat} (h : i < xs.length), cntRep xs[i] ≤ cntRepS xs
  | x :: xs, 0, _ => Nat.le_add_right _ _
  | x :: xs, i + 1, h => Nat.le_trans (cntRepS_at (xs := xs) (Nat.lt_of_succ_lt_succ h)) (Nat.le_add_left _ _)
theorem cntRepS_take : ∀ {xs : List MRep} {i : Nat} (h : i < xs.length), cntRepS (xs.take (i + 1)) = cntRepS (xs.take i) + cntRep xs[i]
  | x :: xs, 0, _ => by simp [cntRepS]
  | x :: xs, i + 1, h => by
    have := cntRepS_take (xs := xs) (i := i) (Nat.lt_of_succ_lt_succ h)
    simp only [List.take_succ_cons, cntRepS, List.getElem_cons_succ] at this ⊢
    omega
theorem cntRepS_le : ∀ {xs : List MRep} {i : Nat}, cntRepS (xs.take i) ≤ cntRepS xs
  | [], i => by simp
  | x :: xs, 0 => Nat.zero_le _
  | x :: xs, i + 1 => Nat.add_le_add_left (cntRepS_le (xs := xs)) _
theorem info_bool : (Try.prog.info? 4).map (fun i => (i.zero, i.size, i.bytes)) = some (some (.bool false), 1, 1) := by kernel_rfl
theorem info_Deed : (Try.prog.info? 122).map (fun i => (i.zero, i.size, i.bytes)) = some (some (.agg #[.int .i64 0, .int .i64 0, .int .i64 0, .int .i64 0]), 4, 32) := by kernel_rfl
end Go.Proofs.Ytebflbenchomoaa.Wd

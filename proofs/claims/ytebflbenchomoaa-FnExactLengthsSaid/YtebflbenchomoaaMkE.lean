/- Marks: what a row holds behind a mark, and how it is told. Conditions: bounds on the sizes. -/
import Derived.Test.YtebflbenchomoaaMkG
import Derived.Test.YtebflbenchomoaaMkM
import Derived.Test.YtebflbenchomoaaMkC
namespace Go.Proofs.Ytebflbenchomoaa.Wd
open Go.RowKit
set_option linter.unusedVariables false
set_option linter.unusedSimpArgs false
set_option maxHeartbeats 2000000
set_option maxRecDepth 100000
theorem markEng_calls (x : MEng) (k : Int) (w : World) {B0 : Option Addr} {d0 : Nat} {b0 : List Nat} (o0 : kGor.Own 82 w b0 (.slice B0 x.gs.length d0) x.gs) {B1 : Option Addr} {d1 : Nat} {b1 : List Nat} (o1 : kChan.Own 85 w b1 (.slice B1 x.chans.length d1) x.chans) {B2 : Option Addr} {d2 : Nat} {b2 : List Nat} (o2 : kMutex.Own 76 w b2 (.slice B2 x.mus.length d2) x.mus) (hnd : (b0 ++ b1 ++ b2).Nodup) (hl : cntEng x ≤ 67108864) (hk0 : 0 ≤ k) (hk : k ≤ 274877906944) :
    Calls Try.prog 18 #[.agg #[.slice B0 x.gs.length d0, .slice B1 x.chans.length d1, .slice B2 x.mus.length d2], .int .i64 k] w fun e w' => ∃ (y0 : List MGor) (y1 : List MChan) (y2 : List MMutex), e = .returned (.int .i64 (k + ((mcGorS x.gs : Nat) : Int) + ((mcChanS x.chans : Nat) : Int) + ((mcMutexS x.mus : Nat) : Int))) ∧ y0.length = x.gs.length ∧ kGor.Own 82 w' b0 (.slice B0 x.gs.length d0) y0 ∧ MkS MkGor y0 (k) (k + ((mcGorS x.gs : Nat) : Int)) ∧ y1.length = x.chans.length ∧ kChan.Own 85 w' b1 (.slice B1 x.chans.length d1) y1 ∧ MkS MkChan y1 (k + ((mcGorS x.gs : Nat) : Int)) (k + ((mcGorS x.gs : Nat) : Int) + ((mcChanS x.chans : Nat) : Int)) ∧ y2.length = x.mus.length ∧ kMutex.Own 76 w' b2 (.slice B2 x.mus.length d2) y2 ∧ MkS MkMutex y2 (k + ((mcGorS x.gs : Nat) : Int) + ((mcChanS x.chans : Nat) : Int)) (k + ((mcGorS x.gs : Nat) : Int) + ((mcChanS x.chans : Nat) : Int) + ((mcMutexS x.mus : Nat) : Int)) ∧ Chg (b0 ++ b1 ++ b2) w w' := by
  unfold cntEng at hl
  have hmc0 := mcGorS_le x.gs
  have hmc1 := mcChanS_le x.chans
  have hmc2 := mcMutexS_le x.mus
  have hnn := hnd
  obtain ⟨hw2, hn2, ea2, eb2⟩ := nd2 hnn
  have DJ0_2 : Hid (∀ k ∈ b0, k ∉ b2) := Lib.hid fun k h => ea2 k (List.mem_append_left _ h)
  have DJ2_0 : Hid (∀ k ∈ b2, k ∉ b0) := Lib.hid fun k h h2 => eb2 k h (List.mem_append_left _ h2)
  have DJ1_2 : Hid (∀ k ∈ b1, k ∉ b2) := Lib.hid fun k h => ea2 k (List.mem_append_right _ h)
  have DJ2_1 : Hid (∀ k ∈ b2, k ∉ b1) := Lib.hid fun k h h2 => eb2 k h (List.mem_append_right _ h2)
  obtain ⟨hn0, hn1, ea1, eb1⟩ := nd2 hw2
  have DJ0_1 : Hid (∀ k ∈ b0, k ∉ b1) := Lib.hid fun k h => ea1 k h
  have DJ1_0 : Hid (∀ k ∈ b1, k ∉ b0) := Lib.hid fun k h h2 => eb1 k h h2
  clear ea1 eb1 ea2 eb2
  have U0 := Lib.hid o0.lt; have Q0 := Lib.hid o0; clear o0
  have U1 := Lib.hid o1.lt; have Q1 := Lib.hid o1; clear o1
  have U2 := Lib.hid o2.lt; have Q2 := Lib.hid o2; clear o2
  clear hnd hnn
  go_enter Try.func18, Try.ntmps18
  go_wp2_with fail
  refine settleC ?_
  intro V hV
  have hbV : Below w.heap.size w V := by rw [hV]; exact bel
  have g0 : V.cell? ⟨w.heap.size, 0, none⟩ = some (.slice B0 x.gs.length d0) := by rw [hV]; go_simp
  have g1 : V.cell? ⟨w.heap.size, 1, none⟩ = some (.slice B1 x.chans.length d1) := by rw [hV]; go_simp
  have g2 : V.cell? ⟨w.heap.size, 2, none⟩ = some (.slice B2 x.mus.length d2) := by rw [hV]; go_simp
  clear hV
  have zV : w.heap.size < V.heap.size := World.block_lt_of_cell? _ _ g0
  have P0_0 := Lib.hid (Q0.out.below hbV)
  have P1_0 := Lib.hid (Q1.out.below hbV)
  have P2_0 := Lib.hid (Q2.out.below hbV)
  refine (markGorS_calls x.gs B0 d0 (k) V b0 P0_0.out hn0 (by omega) (by omega) (by omega)).mono ?_
  rintro e w0 ⟨y0, rfl, hl0, p0, hm0, hc0⟩
  have nb0 : w.heap.size ∉ (b0) := fun h => by have := U0.out _ h; omega
  have g0 := hc0.cell nb0 g0
  have g1 := hc0.cell nb0 g1
  have g2 := hc0.cell nb0 g2
  have zw0 : w.heap.size < w0.heap.size := World.block_lt_of_cell? _ _ g0
  have P0_1 := Lib.hid p0; clear p0
  have P1_1 := Lib.hid (hc0.own DJ1_0.out P1_0.out)
  have P2_1 := Lib.hid (hc0.own DJ2_0.out P2_0.out)
  go_wp2_with fail
  refine (markChanS_calls x.chans B1 d1 (k + ((mcGorS x.gs : Nat) : Int)) w0 b1 P1_1.out hn1 (by omega) (by omega) (by omega)).mono ?_
  rintro e w1 ⟨y1, rfl, hl1, p1, hm1, hc1⟩
  have nb1 : w.heap.size ∉ (b1) := fun h => by have := U1.out _ h; omega
  have g0 := hc1.cell nb1 g0
  have g1 := hc1.cell nb1 g1
  have g2 := hc1.cell nb1 g2
  have zw1 : w.heap.size < w1.heap.size := World.block_lt_of_cell? _ _ g0
  have P0_2 := Lib.hid (hc1.own DJ0_1.out P0_1.out)
  have P1_2 := Lib.hid p1; clear p1
  have P2_2 := Lib.hid (hc1.own DJ2_1.out P2_1.out)
  go_wp2_with fail
  refine (markMutexS_calls x.mus B2 d2 (k + ((mcGorS x.gs : Nat) : Int) + ((mcChanS x.chans : Nat) : Int)) w1 b2 P2_2.out hn2 (by omega) (by omega) (by omega)).mono ?_
  rintro e w2 ⟨y2, rfl, hl2, p2, hm2, hc2⟩
  have nb2 : w.heap.size ∉ (b2) := fun h => by have := U2.out _ h; omega
  have g0 := hc2.cell nb2 g0
  have g1 := hc2.cell nb2 g1
  have g2 := hc2.cell nb2 g2
  have zw2 : w.heap.size < w2.heap.size := World.block_lt_of_cell? _ _ g0
  have P0_3 := Lib.hid (hc2.own DJ0_2.out P0_2.out)
  have P1_3 := Lib.hid (hc2.own DJ1_2.out P1_2.out)
  have P2_3 := Lib.hid p2; clear p2
  go_wp2
  go_ret
  exact ⟨y0, y1, y2, rfl, hl0, P0_3.out, hm0, hl1, P1_3.out, hm1, hl2, P2_3.out, hm2, (((Chg.of_below hbV).trans (hc0.mono fun b h _ => by simp [h])).trans (hc1.mono fun b h _ => by simp [h])).trans (hc2.mono fun b h _ => by simp [h])⟩
end Go.Proofs.Ytebflbenchomoaa.Wd

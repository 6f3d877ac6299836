/- The reference's SameState: whether two engines are equal. Conditions: none. -/
import Derived.Test.YtebflbenchomoaaSameI
import Derived.Test.YtebflbenchomoaaApw
import Derived.Deep.RegionHeld3
namespace Go.Proofs.Ytebflbenchomoaa.Wd
open Go.RowKit
set_option linter.unusedVariables false
set_option linter.unusedSimpArgs false
set_option maxHeartbeats 4000000
set_option maxRecDepth 100000
theorem impl_SameState_calls (x y : MEng) (cs ds : List Value) (w : World) (hx : kEng.K w x cs) (hy : kEng.K w y ds) (_ : cntEng x ≤ 1048576) (_ : cntEng y ≤ 1048576) :
    Calls Try.prog 22 #[.agg cs.toArray, .agg ds.toArray] w fun e w' => e = .returned (.bool (decide (x = y))) ∧ Below w.heap.size w w' := sameState_calls x y cs ds w hx hy
theorem l21Objects_calls (x y : MEng) (cs ds : List Value) (w : World) (hx : kEng.K w x cs) (hy : kEng.K w y ds) (hl1 : x.chans.length = y.chans.length) (hl2 : x.mus.length = y.mus.length) (hcap : ∀ k, k < x.chans.length → (x.chans[k]?).map MChan.cap = (y.chans[k]?).map MChan.cap) :
    Calls Try.prog 52 #[.agg cs.toArray, .agg ds.toArray] w fun e w' => e = .returned (.bool (decide (x.chans = y.chans ∧ x.mus = y.mus))) ∧ Below w.heap.size w w' := by
  obtain ⟨A0, c0, A1, c1, A2, c2, rfl, l0, r0, l1, r1, l2, r2⟩ := kEng_K hx
  obtain ⟨B0, d0, B1, d1, B2, d2, rfl, m0, s0, m1, s1, m2, s2⟩ := kEng_K hy
  have HX := Lib.hid (And.intro r0 (And.intro r1 r2)); have HY := Lib.hid (And.intro s0 (And.intro s1 s2))
  have hb1 := r1.1; have hb2 := r2.1
  clear hx hy r0 r1 r2 s0 s1 s2
  have HL1 := Lib.hid hl1; have HL2 := Lib.hid hl2; have HC := Lib.hid hcap; clear hl1 hl2 hcap
  go_enter Try.func52, Try.ntmps52
  go_wp2
  go_loopg [13] (x.chans.length + 1) (fun kq v13 w' => ∃ i : Nat, v13 = .int .i64 i ∧ i + kq = x.chans.length + 1 ∧ i ≤ x.chans.length ∧ Hid (∀ j, j < i → x.chans[j]? = y.chans[j]?) ∧ Below w.heap.size w w' ∧ w'.cell? ⟨w.heap.size, 0, none⟩ = some (.slice A0 x.gs.length c0) ∧ w'.cell? ⟨w.heap.size, 1, none⟩ = some (.slice A1 x.chans.length c1) ∧ w'.cell? ⟨w.heap.size, 2, none⟩ = some (.slice A2 x.mus.length c2) ∧ w'.cell? ⟨w.heap.size + 1, 0, none⟩ = some (.slice B0 y.gs.length d0) ∧ w'.cell? ⟨w.heap.size + 1, 1, none⟩ = some (.slice B1 y.chans.length d1) ∧ w'.cell? ⟨w.heap.size + 1, 2, none⟩ = some (.slice B2 y.mus.length d2))
  case atStart => exact ⟨0, rfl, by omega, by omega, Lib.hid fun j hj => absurd hj (by omega), bel, by go_simp, by go_simp, by go_simp, by go_simp, by go_simp, by go_simp⟩
  case round =>
    obtain ⟨i, rfl, hi, hi2, HP, hb, q0, q1, q2, q3, q4, q5⟩ := hrel
    obtain ⟨gk, rfl⟩ : ∃ m, gk = m + 1 := ⟨gk - 1, by omega⟩
    have z0 : w.heap.size < wr.heap.size := World.block_lt_of_cell? wr _ q0
    have z1 : w.heap.size + 1 < wr.heap.size := World.block_lt_of_cell? wr _ q3
    by_cases hlt : i < x.chans.length
    · have hlt' : i < y.chans.length := by have := HL1.out; omega
      obtain ⟨b, o, P0, p0, P1, p1, P2, p2, rfl, g0, g1, g2, g3, g4, u0, t0, u1, t1, u2, t2⟩ := kChan_at (HX.out.2.1.below hb) hlt
      obtain ⟨b', o', Q0, e0, Q1, e1, Q2, e2, rfl, k0, k1, k2, k3, k4, u0', t0', u1', t1', u2', t2'⟩ := kChan_at (HY.out.2.1.below hb) hlt'
      have HT := Lib.hid (And.intro t0 (And.intro t1 t2)); have HT' := Lib.hid (And.intro t0' (And.intro t1' t2')); clear t0 t1 t2 t0' t1' t2'
      have zb : b < wr.heap.size := World.block_lt_of_cell? wr _ g0
      have zb' : b' < wr.heap.size := World.block_lt_of_cell? wr _ k0
      have hne : x.chans[i] ≠ y.chans[i] → ¬ (x.chans = y.chans ∧ x.mus = y.mus) := fun h h2 => h (by simp only [h2.1])
      have heq : x.chans[i].closed = y.chans[i].closed → x.chans[i].buf = y.chans[i].buf → x.chans[i].sends = y.chans[i].sends → x.chans[i].recvs = y.chans[i].recvs → x.chans[i] = y.chans[i] := fun h1 h2 h3 h4 =>
        MChan.ext (by have := HC.out i hlt; rw [List.getElem?_eq_getElem hlt, List.getElem?_eq_getElem hlt'] at this; simpa using this) h2 h3 h4 h1
      have HNE := Lib.hid hne; have HEQ := Lib.hid heq; clear hne heq
      generalize hcx : x.chans[i] = cx at *
      generalize hcy : y.chans[i] = cy at *
      have HCX := Lib.hid hcx; have HCY := Lib.hid hcy; clear hcx hcy
      by_cases h0 : cx.closed = cy.closed
      rotate_left
      · have e0 : (cx.closed != cy.closed) = true := by simpa using h0
        have H0 := Lib.hid h0; clear h0
        go_wp2
        go_ret
        exact ⟨retF (HNE.out (fun h => H0.out (by rw [h]))), bel⟩
      by_cases h1 : cx.buf = cy.buf
      rotate_left
      · have e0 : (cx.closed != cy.closed) = false := by simpa using h0
        have H0 := Lib.hid h0; clear h0
        have e1 : decide (cx.buf = cy.buf) = false := decide_eq_false h1
        have H1 := Lib.hid h1; clear h1
        go_wp2_with fail
        refine (l21Ints_calls _ (HT.out.1.below bel) (HT'.out.1.below bel)).mono ?_
        rintro e w1 ⟨rfl, hb1⟩
        obtain ⟨C1, D1⟩ := bcell hb1
        obtain ⟨za1, zb1⟩ : wr.heap.size < w1.heap.size ∧ wr.heap.size + 1 < w1.heap.size := (by have := hb1.size; (try simp at this); omega)
        go_wp2
        go_ret
        exact ⟨retF (HNE.out (fun h => H1.out (by rw [h]))), bel⟩
      by_cases h2 : cx.sends = cy.sends
      rotate_left
      · have e0 : (cx.closed != cy.closed) = false := by simpa using h0
        have H0 := Lib.hid h0; clear h0
        have e1 : decide (cx.buf = cy.buf) = true := decide_eq_true h1
        have H1 := Lib.hid h1; clear h1
        have e2 : decide (cx.sends = cy.sends) = false := decide_eq_false h2
        have H2 := Lib.hid h2; clear h2
        go_wp2_with fail
        refine (l21Ints_calls _ (HT.out.1.below bel) (HT'.out.1.below bel)).mono ?_
        rintro e w1 ⟨rfl, hb1⟩
        obtain ⟨C1, D1⟩ := bcell hb1
        obtain ⟨za1, zb1⟩ : wr.heap.size < w1.heap.size ∧ wr.heap.size + 1 < w1.heap.size := (by have := hb1.size; (try simp at this); omega)
        go_wp2_with fail
        refine (l21Waiters_calls _ (HT.out.2.1.below bel) (HT'.out.2.1.below bel)).mono ?_
        rintro e w2 ⟨rfl, hb2⟩
        obtain ⟨C2, D2⟩ := bcell hb2
        obtain ⟨za2, zb2⟩ : wr.heap.size < w2.heap.size ∧ wr.heap.size + 1 < w2.heap.size := (by have := hb2.size; (try simp at this); omega)
        go_wp2
        go_ret
        exact ⟨retF (HNE.out (fun h => H2.out (by rw [h]))), bel⟩
      by_cases h3 : cx.recvs = cy.recvs
      rotate_left
      · have e0 : (cx.closed != cy.closed) = false := by simpa using h0
        have H0 := Lib.hid h0; clear h0
        have e1 : decide (cx.buf = cy.buf) = true := decide_eq_true h1
        have H1 := Lib.hid h1; clear h1
        have e2 : decide (cx.sends = cy.sends) = true := decide_eq_true h2
        have H2 := Lib.hid h2; clear h2
        have e3 : decide (cx.recvs = cy.recvs) = false := decide_eq_false h3
        have H3 := Lib.hid h3; clear h3
        go_wp2_with fail
        refine (l21Ints_calls _ (HT.out.1.below bel) (HT'.out.1.below bel)).mono ?_
        rintro e w1 ⟨rfl, hb1⟩
        obtain ⟨C1, D1⟩ := bcell hb1
        obtain ⟨za1, zb1⟩ : wr.heap.size < w1.heap.size ∧ wr.heap.size + 1 < w1.heap.size := (by have := hb1.size; (try simp at this); omega)
        go_wp2_with fail
        refine (l21Waiters_calls _ (HT.out.2.1.below bel) (HT'.out.2.1.below bel)).mono ?_
        rintro e w2 ⟨rfl, hb2⟩
        obtain ⟨C2, D2⟩ := bcell hb2
        obtain ⟨za2, zb2⟩ : wr.heap.size < w2.heap.size ∧ wr.heap.size + 1 < w2.heap.size := (by have := hb2.size; (try simp at this); omega)
        go_wp2_with fail
        refine (l21Waiters_calls _ (HT.out.2.2.below bel) (HT'.out.2.2.below bel)).mono ?_
        rintro e w3 ⟨rfl, hb3⟩
        obtain ⟨C3, D3⟩ := bcell hb3
        obtain ⟨za3, zb3⟩ : wr.heap.size < w3.heap.size ∧ wr.heap.size + 1 < w3.heap.size := (by have := hb3.size; (try simp at this); omega)
        go_wp2
        go_ret
        exact ⟨retF (HNE.out (fun h => H3.out (by rw [h]))), bel⟩
      have e0 : (cx.closed != cy.closed) = false := by simpa using h0
      have H0 := Lib.hid h0; clear h0
      have e1 : decide (cx.buf = cy.buf) = true := decide_eq_true h1
      have H1 := Lib.hid h1; clear h1
      have e2 : decide (cx.sends = cy.sends) = true := decide_eq_true h2
      have H2 := Lib.hid h2; clear h2
      have e3 : decide (cx.recvs = cy.recvs) = true := decide_eq_true h3
      have H3 := Lib.hid h3; clear h3
      go_wp2_with fail
      refine (l21Ints_calls _ (HT.out.1.below bel) (HT'.out.1.below bel)).mono ?_
      rintro e w1 ⟨rfl, hb1⟩
      obtain ⟨C1, D1⟩ := bcell hb1
      obtain ⟨za1, zb1⟩ : wr.heap.size < w1.heap.size ∧ wr.heap.size + 1 < w1.heap.size := (by have := hb1.size; (try simp at this); omega)
      go_wp2_with fail
      refine (l21Waiters_calls _ (HT.out.2.1.below bel) (HT'.out.2.1.below bel)).mono ?_
      rintro e w2 ⟨rfl, hb2⟩
      obtain ⟨C2, D2⟩ := bcell hb2
      obtain ⟨za2, zb2⟩ : wr.heap.size < w2.heap.size ∧ wr.heap.size + 1 < w2.heap.size := (by have := hb2.size; (try simp at this); omega)
      go_wp2_with fail
      refine (l21Waiters_calls _ (HT.out.2.2.below bel) (HT'.out.2.2.below bel)).mono ?_
      rintro e w3 ⟨rfl, hb3⟩
      obtain ⟨C3, D3⟩ := bcell hb3
      obtain ⟨za3, zb3⟩ : wr.heap.size < w3.heap.size ∧ wr.heap.size + 1 < w3.heap.size := (by have := hb3.size; (try simp at this); omega)
      go_wp2
      have hk : Below wr.heap.size wr w3 := bel
      go_roundg gk
      case measure => omega
      case rel => exact ⟨i + 1, by go_num, by omega, by omega, Lib.hid fun j hj => (by
        rcases Nat.lt_succ_iff_lt_or_eq.1 hj with h | rfl
        · exact HP.out j h
        · rw [List.getElem?_eq_getElem hlt, List.getElem?_eq_getElem hlt', HCX.out, HCY.out, HEQ.out H0.out H1.out H2.out H3.out]), bel, keepc hk q0, keepc hk q1, keepc hk q2, keepc hk q3, keepc hk q4, keepc hk q5⟩
    · have hi' : i = x.chans.length := by omega
      have hch : x.chans = y.chans := take_eq HL1.out (fun j hj => HP.out j (by omega))
      have HCH := Lib.hid hch; clear hch HP
      subst hi'
      obtain ⟨wo, rfl⟩ : ∃ wo : World, wo = wr := ⟨_, rfl⟩
      go_wp2
      go_loopg [56] (x.mus.length + 1) (fun kq v56 w' => ∃ i : Nat, v56 = .int .i64 i ∧ i + kq = x.mus.length + 1 ∧ i ≤ x.mus.length ∧ Hid (∀ j, j < i → x.mus[j]? = y.mus[j]?) ∧ Below wo.heap.size wo w' ∧ w'.cell? ⟨w.heap.size + 1, 2, none⟩ = some (.slice B2 y.mus.length d2))
      case atStart => exact ⟨0, rfl, by omega, by omega, Lib.hid fun j hj => absurd hj (by omega), bel, by go_simp⟩
      case round =>
        obtain ⟨i, rfl, hi3, hi4, HP, hb3, q6⟩ := hrel
        obtain ⟨gk, rfl⟩ : ∃ m, gk = m + 1 := ⟨gk - 1, by omega⟩
        have z2 : w.heap.size + 1 < wr.heap.size := World.block_lt_of_cell? wr _ q6
        have hbw : Below w.heap.size w wr := bvia hb3 hb
        by_cases hlt : i < x.mus.length
        · have hlt' : i < y.mus.length := by have := HL2.out; omega
          obtain ⟨b, o, P0, p0, rfl, g0, g1, u0, t0⟩ := kMutex_at (HX.out.2.2.below hbw) hlt
          obtain ⟨b', o', Q0, s0, rfl, k0, k1, u0', t0'⟩ := kMutex_at (HY.out.2.2.below hbw) hlt'
          have HT := Lib.hid t0; have HT' := Lib.hid t0'; clear t0 t0'
          have zb : b < wr.heap.size := World.block_lt_of_cell? wr _ g0
          have zb' : b' < wr.heap.size := World.block_lt_of_cell? wr _ k0
          have hne : x.mus[i] ≠ y.mus[i] → ¬ (x.chans = y.chans ∧ x.mus = y.mus) := fun h h2 => h (by simp only [h2.2])
          have HNE := Lib.hid hne; clear hne
          generalize hcx : x.mus[i] = cx at *
          generalize hcy : y.mus[i] = cy at *
          have HCX := Lib.hid hcx; have HCY := Lib.hid hcy; clear hcx hcy
          by_cases h0 : cx.owner = cy.owner
          · have e0 : (cx.owner != cy.owner) = false := by simpa using h0
            have H0 := Lib.hid h0; clear h0
            by_cases h1 : cx.wait = cy.wait
            · have e1 : decide (cx.wait = cy.wait) = true := decide_eq_true h1
              have H1 := Lib.hid h1; clear h1
              go_wp2_with fail
              refine settleR ?_
              intro W hW
              have hbW : Below wr.heap.size wr W := by rw [hW]; exact bel
              have f0 : W.cell? ⟨wr.heap.size, 0, none⟩ = some (.int .i64 cx.owner) := by rw [hW]; go_simp
              have f1 : W.cell? ⟨wr.heap.size, 1, none⟩ = some (.slice P0 cx.wait.length p0) := by rw [hW]; go_simp
              have f2 := keepc hbW q6
              have f3 := keepc hbW k0
              have f4 := keepc hbW k1
              clear hW
              have y0 : wr.heap.size < W.heap.size := World.block_lt_of_cell? _ _ f0
              go_region_held3 (fun w' => w'.cell? ⟨wr.heap.size, 0, none⟩ = some (.int .i64 cx.owner) ∧ w'.cell? ⟨wr.heap.size, 1, none⟩ = some (.slice P0 cx.wait.length p0) ∧ w'.cell? ⟨w.heap.size + 1, 2, none⟩ = some (.slice (some ⟨b', o', none⟩) y.mus.length d2) ∧ w'.cell? ⟨b', o' + i * 2, none⟩ = some (.int .i64 cy.owner) ∧ w'.cell? ⟨b', o' + i * 2 + 1, none⟩ = some (.slice Q0 cy.wait.length s0)) (exact ⟨keepc bel f0, keepc bel f1, keepc bel f2, keepc bel f3, keepc bel f4⟩)
                (first
                  | (go_at_call 83; (with_reducible refine (l21Ints_calls _ (HT.out.below bel) (HT'.out.below bel)).mono ?_); rintro e w1 ⟨rfl, hb1⟩))
              go_wp2
              have hk : Below wr.heap.size wr w1 := bel
              go_roundg gk
              case measure => omega
              case rel => exact ⟨i + 1, by go_num, by omega, by omega, Lib.hid fun j hj => (by
                rcases Nat.lt_succ_iff_lt_or_eq.1 hj with h | rfl
                · exact HP.out j h
                · rw [List.getElem?_eq_getElem hlt, List.getElem?_eq_getElem hlt', HCX.out, HCY.out, MMutex.ext H0.out H1.out]), bvia (hk) hb3, keepc hk q6⟩
            · have e1 : decide (cx.wait = cy.wait) = false := decide_eq_false h1
              have H1 := Lib.hid h1; clear h1
              go_wp2_with fail
              refine settleR ?_
              intro W hW
              have hbW : Below wr.heap.size wr W := by rw [hW]; exact bel
              have f0 : W.cell? ⟨wr.heap.size, 0, none⟩ = some (.int .i64 cx.owner) := by rw [hW]; go_simp
              have f1 : W.cell? ⟨wr.heap.size, 1, none⟩ = some (.slice P0 cx.wait.length p0) := by rw [hW]; go_simp
              have f2 := keepc hbW q6
              have f3 := keepc hbW k0
              have f4 := keepc hbW k1
              clear hW
              have y0 : wr.heap.size < W.heap.size := World.block_lt_of_cell? _ _ f0
              go_region_held3 (fun w' => w'.cell? ⟨wr.heap.size, 0, none⟩ = some (.int .i64 cx.owner) ∧ w'.cell? ⟨wr.heap.size, 1, none⟩ = some (.slice P0 cx.wait.length p0) ∧ w'.cell? ⟨w.heap.size + 1, 2, none⟩ = some (.slice (some ⟨b', o', none⟩) y.mus.length d2) ∧ w'.cell? ⟨b', o' + i * 2, none⟩ = some (.int .i64 cy.owner) ∧ w'.cell? ⟨b', o' + i * 2 + 1, none⟩ = some (.slice Q0 cy.wait.length s0)) (exact ⟨keepc bel f0, keepc bel f1, keepc bel f2, keepc bel f3, keepc bel f4⟩)
                (first
                  | (go_at_call 83; (with_reducible refine (l21Ints_calls _ (HT.out.below bel) (HT'.out.below bel)).mono ?_); rintro e w1 ⟨rfl, hb1⟩))
              go_wp2
              have hk : Below wr.heap.size wr w1 := bel
              go_ret
              exact ⟨retF (HNE.out (fun h => H1.out (by rw [h]))), bvia hk hbw⟩
          · have e0 : (cx.owner != cy.owner) = true := by simpa using h0
            have H0 := Lib.hid h0; clear h0
            go_wp2_with fail
            go_quiet (fail)
            go_wp2
            go_ret
            exact ⟨retF (HNE.out (fun h => H0.out (by rw [h]))), bel⟩
        · have hi' : i = x.mus.length := by omega
          have hm : x.mus = y.mus := take_eq HL2.out (fun j hj => HP.out j (by omega))
          have HM := Lib.hid hm; clear hm
          go_wp2
          go_ret
          exact ⟨retT ⟨HCH.out, HM.out⟩, bvia hb3 hb⟩
end Go.Proofs.Ytebflbenchomoaa.Wd

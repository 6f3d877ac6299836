/- The law FnCmds returns true at every argument. Conditions: none. -/
import Derived.Test.YtcidbencoebfaaaDoorTxE
import Derived.Test.YtcidbencoebfaaaDoorTyC
import Derived.Deep.QuietTactic
import Derived.BigQuiet
namespace Go.Proofs.YtcidbencoebfaaaDoor.Wd
open Go.RowKit Go.Proofs.YtcidbencoebfaaaDoor.PT Go.Proofs.YtcidbencoebfaaaDoorW.PrintWords
set_option linter.unusedVariables false
set_option linter.unusedSimpArgs false
set_option maxHeartbeats 2000000
set_option maxRecDepth 100000
def samePick (a0 : Int) (a1 : Int) (b0 : Int) (b1 : Int) : Bool := a0 == b0 && a1 == b1
theorem eqIn_Pick (a0 : Int) (a1 : Int) (b0 : Int) (b1 : Int) (w : World) : (Op.equalIn 10000 32 (.agg #[.int .i64 a0, .int .i64 a1]) (.agg #[.int .i64 b0, .int .i64 b1])).run Tryd.prog w = .ok (samePick a0 a1 b0 b1) w := by
  have hS0 : Tryd.prog.underlying 32 = some (.struct (Tryd.prog.fieldsOf 32)) := by kernel_rfl
  have hp0 : Tryd.prog.stoodInHeld 32 = false := by kernel_rfl
  rw [show (10000 : Nat) = 9999 + 1 from rfl, run_equalIn_agg w 9999 32 _ _ hS0 hp0]
  simp only [Program.fieldsOf, Tryd.underlying32]
  go_simp
  unfold samePick
  by_cases h0 : a0 = b0 <;> by_cases h1 : a1 = b1 <;> simp_all
@[go_sem high] theorem eql_Pick (a0 : Int) (a1 : Int) (b0 : Int) (b1 : Int) (w : World) : (binOp .eql 32 (.agg #[.int .i64 a0, .int .i64 a1]) (.agg #[.int .i64 b0, .int .i64 b1])).run Tryd.prog w = .ok (.bool (samePick a0 a1 b0 b1)) w := by
  rw [run_eql_struct, eqIn_Pick]; rfl
@[go_sem high] theorem neq_Pick (a0 : Int) (a1 : Int) (b0 : Int) (b1 : Int) (w : World) : (binOp .neq 32 (.agg #[.int .i64 a0, .int .i64 a1]) (.agg #[.int .i64 b0, .int .i64 b1])).run Tryd.prog w = .ok (.bool (!samePick a0 a1 b0 b1)) w := by
  rw [run_neq_struct, eqIn_Pick]; rfl

theorem byte_C {w : World} {A : Option Addr} {b : List Int} (h : Rp.byte.Row w A b) : Kd.C (Kd.int .u8) w A b.length b := by
  have := C_of_row (d := Kd.int .u8) (d' := Rp.byte) (f := id) rfl (fun x cs hk => (Kd.int .u8).K_len hk) (fun x cs hk => hk) h
  rwa [List.map_id] at this
theorem make_calls {b : List Int} (hb : b.length ≤ 1048576) : ∃ L : List MCmd, (∀ x ∈ L, okM x) ∧ L.length ≤ 6 ∧ ∀ (A : Option Addr) (c : Nat) (w : World), Rp.byte.Row w A b → b.length ≤ c →
    Calls Tryd.prog 6 #[.slice A b.length c] w fun e w' => ∃ E d, e = .returned (.slice E L.length d) ∧ kCmd.Row w' E L ∧ L.length ≤ d ∧ Below w.heap.size w w' := by
  obtain ⟨l, hev, hok, hln⟩ := make_d hb
  obtain ⟨k, hk⟩ := Ev.rounds hev
  refine ⟨l.map fromC, fun x hx => ?_, by rw [List.length_map]; exact hln, fun A c w hr hc => ?_⟩
  · obtain ⟨y, hy, rfl⟩ := List.mem_map.1 hx; exact okM_of (hok y hy)
  · refine (spec_MakeCmds.calls k A c b l w (byte_C hr) hc hk).mono ?_
    rintro e w' ⟨v, rfl, hS, hbel⟩
    obtain ⟨bs, ho, hn, hm⟩ := own_of_S (d' := kCmd) (f := fromC) rfl k_Cmd_O hS
    obtain ⟨E, d, rfl, h1, h2⟩ := ho.row
    exact ⟨E, d, rfl, (row_of ho).2, (row_of ho).1, hbel⟩
theorem txt_bnd {L : List MCmd} (h : ∀ x ∈ L, okM x) (hl : L.length ≤ 6) (i : Nat) : (txt (L.take i)).size ≤ 10000 := by
  have h1 := txt_size (L.take i) (fun x hx => h x (List.mem_of_mem_take hx))
  have : (L.take i).length ≤ 6 := by rw [List.length_take]; omega
  omega
theorem law_Cmds (b : List Int) (A : Option Addr) (c : Nat) (w : World) (hr : Rp.byte.Row w A b) (hlc : b.length ≤ c) :
    Calls Tryd.prog 3 #[.slice A b.length c] w fun e w' => e = .returned (.bool true) ∧ Below w.heap.size w w' := by
  by_cases hs0 : b.length ≤ 1048576
  rotate_left
  · have e0 : decide (1048576 < b.length) = true := by simp; omega
    go_enter Tryd.func3, Tryd.ntmps3
    go_wp2
    go_ret
    exact ⟨rfl, bel⟩
  have e0 : decide (1048576 < b.length) = false := by simp; omega
  obtain ⟨L, hok, hln, hmk⟩ := make_calls hs0
  have HR := Lib.hid hr; clear hr
  have HM := Lib.hid hmk; clear hmk
  have HOK := Lib.hid hok; clear hok
  have t0 : txt (L.take 0) = ⟨#[35, 32, 99, 111, 109, 109, 97, 110, 100, 115, 10, 10]⟩ := by rw [List.take_zero]; rfl
  have T0 := Lib.hid t0; clear t0
  go_enter Tryd.func3, Tryd.ntmps3
  go_wp2_with fail
  refine (HM.out _ _ _ (HR.out.below bel) hlc).mono ?_
  rintro e w1 ⟨E, d, rfl, hrow, hLd, hb1⟩
  have HL := Lib.hid hrow; clear hrow HM HR
  go_wp2
  go_loopg [4, 21] (L.length + 1) (fun kq v4 v21 w' => ∃ i : Nat, v21 = .int .i64 i ∧ v4 = .string (txt (L.take i)) ∧ i + kq = L.length + 1 ∧ i ≤ L.length ∧ Below w1.heap.size w1 w')
  case atStart => exact ⟨0, rfl, by rw [T0.out], by omega, by omega, Below.refl _ _⟩
  case round =>
    obtain ⟨i, rfl, rfl, hi, hi2, hb⟩ := hrel
    obtain ⟨gk, rfl⟩ : ∃ m, gk = m + 1 := ⟨gk - 1, by omega⟩
    have hts := txt_bnd HOK.out hln i
    by_cases hlt : i < L.length
    · have hox := HOK.out _ (List.getElem_mem hlt)
      have htc := cmdText_ok hox
      have htx : txt (L.take i) ++ cmdText L[i] ++ ⟨#[10]⟩ = txt (L.take (i + 1)) := by
        rw [List.take_succ_eq_append_getElem hlt, txt_snoc]; rfl
      have HTX := Lib.hid htx; clear htx
      have hcb : cntCmd L[i] ≤ 1048576 := by have := hox.2.2.2.2.2.2.2.2.2.2; unfold cntCmd; omega
      have hcs := htc.2.1
      clear hox htc
      obtain ⟨T, hT⟩ : ∃ T, txt (L.take i) = T := ⟨_, rfl⟩
      obtain ⟨U, hU⟩ : ∃ U, cmdText L[i] = U := ⟨_, rfl⟩
      rw [hT] at hts ⊢
      rw [hU] at hcs
      have HT := Lib.hid hT; have HU := Lib.hid hU; clear hT hU
      obtain ⟨g, o, A0, c0, rfl, g0, g1, g2, g3, l0, r0⟩ := kCmd_at (HL.out.below hb) hlt
      have R0 := Lib.hid r0; clear r0
      have zb : g < wr.heap.size := World.block_lt_of_cell? wr _ g0
      have hg1 : ¬ (9223372036854775807 < T.size + U.size) := by omega
      have hg2 : ¬ (9223372036854775807 < T.size + U.size + 1) := by omega
      go_wp2_with fail
      refine (impl_CmdText_calls L[i] [_, _, _, _] _ (kCmd_mk _ _ l0 (R0.out.below bel)) hcb).mono ?_
      rintro e w2 ⟨he, hb2⟩
      rw [HU.out] at he
      subst he
      go_wp2
      go_roundg gk
      case measure => omega
      case rel => exact ⟨i + 1, by go_num, by rw [← HTX.out, HT.out, HU.out], by omega, by omega, bel⟩
    · have hi' : i = L.length := by omega
      have hti : txt (L.take i) = txt L := by rw [List.take_of_length_le (by omega)]
      obtain ⟨X, hX⟩ : ∃ X, txt (L.take i) = X := ⟨_, rfl⟩
      rw [hX] at hts ⊢
      have hrd : readCmds X = (L, 0) := by rw [← hX, hti]; exact readCmds_txt HOK.out hln
      have hst : readCmds (X ++ ⟨#[115, 116, 111, 112]⟩) = ([], (L.length : Int) + 3) := by rw [← hX, hti]; exact readCmds_stop HOK.out hln
      have HRD := Lib.hid hrd; have HST := Lib.hid hst; have hlf : decide (i < L.length) = false := decide_eq_false hlt
      clear hrd hst hti hX hlt hi'
      go_wp2_with fail
      refine (impl_ReadCmds_calls X _ (by omega)).mono ?_
      rintro e w2 ⟨E2, d2, bs2, he, ho2, _, hb2⟩
      rw [HRD.out] at he ho2
      subst he
      have HM := Lib.hid (row_of ho2).2; clear ho2
      have hb12 : Below w1.heap.size w1 w2 := bel
      go_wp2
      go_loopg [47] (L.length + 1) (fun kq v47 w' => ∃ j : Nat, v47 = .int .i64 j ∧ j + kq = L.length + 1 ∧ j ≤ L.length ∧ Below w2.heap.size w2 w')
      case atStart => exact ⟨0, rfl, by omega, by omega, Below.refl _ _⟩
      case round =>
        obtain ⟨j, rfl, hj, hj2, hb3⟩ := hrel
        obtain ⟨gk, rfl⟩ : ∃ m, gk = m + 1 := ⟨gk - 1, by omega⟩
        by_cases hlt : j < L.length
        · obtain ⟨g, o, A0, c0, rfl, g0, g1, g2, g3, l0, r0⟩ := kCmd_at (HL.out.below bel : kCmd.Row wr E L) hlt
          obtain ⟨g', o', A0', c0', rfl, g0', g1', g2', g3', l0', r0'⟩ := kCmd_at (HM.out.below bel : kCmd.Row wr E2 L) hlt
          have R0 := Lib.hid r0; have R0' := Lib.hid r0'; clear r0 r0'
          have zb : g < wr.heap.size := World.block_lt_of_cell? wr _ g0
          have zb' : g' < wr.heap.size := World.block_lt_of_cell? wr _ g0'
          have hpl : L[j].picks.length ≤ 16 := (HOK.out _ (List.getElem_mem hlt)).2.2.2.2.2.2.2.2.2.2
          go_wp2_with fail
          go_quiet (fail)
          go_wp2
          obtain ⟨W3, rfl⟩ : ∃ W3 : World, W3 = wr := ⟨_, rfl⟩
          obtain ⟨gk0, rfl⟩ : ∃ g : Nat, g = gk := ⟨_, rfl⟩
          go_loopg [95] (L[j].picks.length + 1) (fun kq v95 w' => ∃ q : Nat, v95 = .int .i64 q ∧ q + kq = L[j].picks.length + 1 ∧ q ≤ L[j].picks.length ∧ Below W3.heap.size W3 w' ∧ w'.cell? ⟨W3.heap.size, 3, none⟩ = some (.slice A0 L[j].picks.length c0))
          case atStart => exact ⟨0, rfl, by omega, by omega, bel, by go_simp⟩
          case round =>
            obtain ⟨q, rfl, hq, hq2, hb4, f3⟩ := hrel
            obtain ⟨gk2, rfl⟩ : ∃ m, gk = m + 1 := ⟨gk - 1, by omega⟩
            have zf : W3.heap.size < wr.heap.size := World.block_lt_of_cell? wr _ f3
            have k3' : wr.cell? ⟨g', o' + j * 4 + 3, none⟩ = some (.slice A0' L[j].picks.length c0') := keepc hb4 g3'
            by_cases hq3 : q < L[j].picks.length
            · obtain ⟨gp, op, rfl, p0, p1⟩ := kPick_at (R0.out.below bel : kPick.Row wr A0 L[j].picks) hq3
              obtain ⟨gp', op', rfl, p0', p1'⟩ := kPick_at (R0'.out.below bel : kPick.Row wr A0' L[j].picks) hq3
              have zp : gp < wr.heap.size := World.block_lt_of_cell? wr _ p0
              have zp' : gp' < wr.heap.size := World.block_lt_of_cell? wr _ p0'
              have e3 : samePick L[j].picks[q].g L[j].picks[q].c L[j].picks[q].g L[j].picks[q].c = true := by simp [samePick]
              go_wp2_with fail
              go_quiet (fail)
              go_wp2
              go_roundg gk2
              case measure => omega
              case rel => exact ⟨q + 1, by go_num, by omega, by omega, bel, by go_simp⟩
            · have hqf : decide (q < L[j].picks.length) = false := decide_eq_false hq3
              go_wp2
              go_roundg gk0
              case measure => omega
              case rel => exact ⟨j + 1, by go_num, by omega, by omega, bel⟩
        · have hjf : decide (j < L.length) = false := decide_eq_false hlt
          have hg1 : ¬ (9223372036854775807 < X.size + 4) := by omega
          have hys : (X ++ ⟨#[115, 116, 111, 112]⟩).size ≤ 1048576 := by
            rw [ByteArray.size_append]; have : (ByteArray.mk #[115, 116, 111, 112]).size = 4 := rfl; omega
          obtain ⟨Y, hY⟩ : ∃ Y, X ++ ⟨#[115, 116, 111, 112]⟩ = Y := ⟨_, rfl⟩
          rw [hY] at hys
          have hst := HST.out
          rw [hY] at hst
          have HST' := Lib.hid hst; have HY := Lib.hid hY; clear hst hY HST
          go_wp2_with fail
          rw [HY.out]
          refine (impl_ReadCmds_calls Y _ hys).mono ?_
          rintro e w4 ⟨E4, d4, bs4, he, ho4, _, hb4⟩
          rw [HST'.out] at he
          subst he
          go_wp2
          go_ret
          exact ⟨by simp, bel⟩
theorem law_CmdsV (b : List Int) (v : Value) (w : World) (k : (Rp.slice 5 Rp.byte).K w b [v]) : Calls Tryd.prog 3 #[v] w fun e w' => e = .returned (.bool true) ∧ Below w.heap.size w w' := by
  obtain ⟨A, c, h, hl, hr⟩ := k
  cases h
  exact law_Cmds b A c w hr hl
end Go.Proofs.YtcidbencoebfaaaDoor.Wd


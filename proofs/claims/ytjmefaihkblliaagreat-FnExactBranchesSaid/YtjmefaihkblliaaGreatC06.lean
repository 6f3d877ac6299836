/- Texts of one claim, joined: E27, E28, E29, BrP, BrBranches, Mk, MkF, MkG, MkM, MkC, MkS, MkP, MkE, EqE, EqP. Conditions: as each says. -/
import Derived.Test.YtjmefaihkblliaaGreatC02
import Derived.Test.YtjmefaihkblliaaGreatC04
import Derived.Test.YtjmefaihkblliaaGreatC05
/- Who is asked, and how many ways there are: walked by the abstract machine. Conditions: none. -/
namespace Go.Proofs.YtjmefaihkblliaaGreat.Ab
set_option linter.unusedVariables false
set_option linter.unusedSimpArgs false
set_option maxRecDepth 100000
theorem eng_prog {p : MProg} {e : MEng} (h : engOk p e = true) : progOk p = true := by
  rw [engOk, engHead, Bool.and_eq_true, Bool.and_eq_true] at h; exact h.1.1
theorem eng_fit {p : MProg} {e : MEng} (h : engOk p e = true) {k : Nat} (hk : k < e.gs.length) : gorFit p e k = true := by
  rw [engOk, Bool.and_eq_true, Bool.and_eq_true, List.all_eq_true] at h
  exact h.2.1 k (List.mem_range.2 hk)
theorem eng_gor {p : MProg} {e : MEng} (h : engOk p e = true) {k : Nat} (hk : k < e.gs.length) : gorHead p (e.gs.getD k dGor) = true := by
  have := eng_fit h hk
  rw [gorFit, gorOk0, Bool.and_eq_true, Bool.and_eq_true] at this
  exact this.1.1
theorem eng_len {p : MProg} {e : MEng} (h : engOk p e = true) : 1 ≤ e.gs.length ∧ e.gs.length ≤ 10 := by
  rw [engOk, engHead, Bool.and_eq_true, Bool.and_eq_true, Bool.and_eq_true, decide_eq_true_iff] at h; exact h.1.2.1
def askedB (p : MProg) (e : MEng) (n : Int) : Bool := engOk p e && decide (0 ≤ n ∧ n < e.gs.length ∧ (e.gs.getD n.toNat dGor).state = 1)
theorem con_spec_l11Asked (p : MProg) (e : MEng) (n : Int) (hs : (allPl e).length ≤ 1048576) : Con Tryz.prog 125 [.dagg (cProg p), .dagg (cEng e), .dat (.int .i64 n)] (.dat (.bool (askedB p e n))) := by
  refine con_body (rs := [(.tmp 6, 4)]) tb_ok Tryz.func125 rfl rfl rfl (Nat.le_of_ble_eq_true rfl) fun ho x hn => ?_
  obtain ⟨hb1, hb2, hb3⟩ := okEng (ho (.dagg (cEng e)) (by simp))
  have hk := con_spec_EngOk p e hs
  (repeat' (first
  | (refine go_cond hn tb_ok rfl ?_ (fun hc => ?_) (fun hc => ?_); ((first | exact trivial | (simp only [i64ok, true_and, and_true, Int.toNat_natCast]; omega) | (simp only [i64ok, true_and, and_true, Int.toNat_natCast] at *; omega))); all_goals (try (((try simp only [decide_eq_true_eq, decide_eq_false_iff_not, Bool.not_eq_true', Bool.not_eq_false', Bool.not_eq_eq_eq_not, Bool.not_true, Bool.not_false, Int.not_lt, Int.not_le, Int.toNat_natCast, beq_iff_eq, beq_eq_false_iff_ne, ne_eq] at hc); (try (first | simp only [rest_iff, rest_iff', isReg_iff, isReg_iff', isVal_iff, isVal_iff', isIn_iff, isIn_iff', isChan_iff, isChan_iff'] at hc | simp only [(fields_iff _).1, (fields_iff _).2.1, (fields_iff _).2.2, isReg_iff, isReg_iff', isVal_iff, isVal_iff', isIn_iff, isIn_iff', isChan_iff, isChan_iff'] at hc | skip)); try (exfalso; omega)))))
  | (refine go_ret hn tb_ok rfl ?_ ⟨_, rfl, ?_⟩; ((first | exact trivial | (simp only [i64ok, true_and, and_true, Int.toNat_natCast]; omega) | (simp only [i64ok, true_and, and_true, Int.toNat_natCast] at *; omega))))
  | ((refine go_con hn tb_ok rfl ?_ rfl [] ⟨_, ?_, rfl, ?_, ?_, ?_, ?_⟩; ((first | exact trivial | (simp only [i64ok, true_and, and_true, Int.toNat_natCast]; omega) | (simp only [i64ok, true_and, and_true, Int.toNat_natCast] at *; omega))); rotate_left; (assumption); (rfl); (first | exact .inl rfl | exact .inr (fun id hi => lk3_ok hi))))))
  all_goals (refine congrArg (fun b => LV.dat (.bool b)) (Eq.symm ?_); rw [askedB])
  all_goals first
    | (rw [hc, Bool.false_and])
    | (rw [decide_eq_false (by omega), Bool.and_false])
    | (rw [show engOk p e = true by assumption, Bool.true_and]; exact decide_eq_decide.2 (by omega))
def insOf (p : MProg) (e : MEng) (n : Int) : MInstr := instrAt p (e.gs.getD n.toNat dGor)
def selReady (p : MProg) (e : MEng) (n : Int) : List Int := if (insOf p e n).op = 11 then readyCs e (p.sels.getD (insOf p e n).a.toNat dSelect).cases else []
def readyOf (p : MProg) (e : MEng) (n : Int) : List Int := if askedB p e n = true then selReady p e n else []
theorem asked_in {p : MProg} {e : MEng} {n : Int} (h : askedB p e n = true) : engOk p e = true ∧ 0 ≤ n ∧ n < e.gs.length ∧ (e.gs.getD n.toNat dGor).state = 1 := by
  rw [askedB, Bool.and_eq_true, decide_eq_true_iff] at h; exact h
theorem con_spec_ReadyCases (p : MProg) (e : MEng) (n : Int) (hs : (allPl e).length ≤ 1048576) : Con Tryz.prog 126 [.dagg (cProg p), .dagg (cEng e), .dat (.int .i64 n)] (.dat (ints (readyOf p e n))) := by
  refine con_body (rs := [(.tmp 6, 22)]) tb_ok Tryz.func126 rfl rfl rfl (Nat.le_of_ble_eq_true rfl) fun ho x hn => ?_
  have hk := con_spec_l11Asked p e n hs
  ((refine go_con hn tb_ok rfl ?_ rfl [] ⟨_, ?_, rfl, ?_, ?_, ?_, ?_⟩; ((first | exact trivial | (simp only [i64ok, true_and, and_true, Int.toNat_natCast]; omega) | (simp only [i64ok, true_and, and_true, Int.toNat_natCast] at *; omega))); rotate_left; ((first | exact con_at_spec.l09At _ _ (by assumption) | assumption)); (rfl); (first | exact .inl rfl | exact .inr (fun id hi => lk3_ok hi))))
  ((refine go_cond hn tb_ok rfl ?_ (fun hc => ?_) (fun hc => ?_); ((first | exact trivial | (simp only [i64ok, true_and, and_true, Int.toNat_natCast]; omega) | (simp only [i64ok, true_and, and_true, Int.toNat_natCast] at *; omega))); all_goals (try (((try simp only [decide_eq_true_eq, decide_eq_false_iff_not, Bool.not_eq_true', Bool.not_eq_false', Bool.not_eq_eq_eq_not, Bool.not_true, Bool.not_false, Int.not_lt, Int.not_le, Int.toNat_natCast, beq_iff_eq, beq_eq_false_iff_ne, ne_eq] at hc); (try (first | simp only [rest_iff, rest_iff', isReg_iff, isReg_iff', isVal_iff, isVal_iff', isIn_iff, isIn_iff', isChan_iff, isChan_iff'] at hc | simp only [(fields_iff _).1, (fields_iff _).2.1, (fields_iff _).2.2, isReg_iff, isReg_iff', isVal_iff, isVal_iff', isIn_iff, isIn_iff', isChan_iff, isChan_iff'] at hc | skip)); try (exfalso; omega))))))
  · (repeat' (first
  | (refine go_cond hn tb_ok rfl ?_ (fun hc => ?_) (fun hc => ?_); ((first | exact trivial | (simp only [i64ok, true_and, and_true, Int.toNat_natCast]; omega) | (simp only [i64ok, true_and, and_true, Int.toNat_natCast] at *; omega))); all_goals (try (((try simp only [decide_eq_true_eq, decide_eq_false_iff_not, Bool.not_eq_true', Bool.not_eq_false', Bool.not_eq_eq_eq_not, Bool.not_true, Bool.not_false, Int.not_lt, Int.not_le, Int.toNat_natCast, beq_iff_eq, beq_eq_false_iff_ne, ne_eq] at hc); (try (first | simp only [rest_iff, rest_iff', isReg_iff, isReg_iff', isVal_iff, isVal_iff', isIn_iff, isIn_iff', isChan_iff, isChan_iff'] at hc | simp only [(fields_iff _).1, (fields_iff _).2.1, (fields_iff _).2.2, isReg_iff, isReg_iff', isVal_iff, isVal_iff', isIn_iff, isIn_iff', isChan_iff, isChan_iff'] at hc | skip)); try (exfalso; omega)))))
  | (refine go_ret hn tb_ok rfl ?_ ⟨_, rfl, ?_⟩; ((first | exact trivial | (simp only [i64ok, true_and, and_true, Int.toNat_natCast]; omega) | (simp only [i64ok, true_and, and_true, Int.toNat_natCast] at *; omega))))
  | ((refine go_con hn tb_ok rfl ?_ rfl [] ⟨_, ?_, rfl, ?_, ?_, ?_, ?_⟩; ((first | exact trivial | (simp only [i64ok, true_and, and_true, Int.toNat_natCast]; omega) | (simp only [i64ok, true_and, and_true, Int.toNat_natCast] at *; omega))); rotate_left; ((first | exact con_at_spec.l09At _ _ (by assumption) | assumption)); (rfl); (first | exact .inl rfl | exact .inr (fun id hi => lk3_ok hi))))))
    rw [readyOf, if_neg (by rw [hc]; exact Bool.false_ne_true)]; rfl
  obtain ⟨heng, h0, hlt, hst⟩ := asked_in hc
  have hg := eng_gor heng (k := n.toNat) (by omega)
  have hp := eng_prog heng
  have hra := instr_a hp hg
  have hro : readyOf p e n = selReady p e n := if_pos hc
  have hat := con_at_spec.l09At p (e.gs.getD n.toNat dGor) hg
  clear hc
  ((refine go_draw hn tb_ok mix_ok [.r (.dagg (cInstr (instrAt p (e.gs.getD n.toNat dGor))))] rfl ?_ rfl ?_ ?_ ?_ ?_; ((first | exact trivial | (simp only [i64ok, true_and, and_true, Int.toNat_natCast]; omega) | (simp only [i64ok, true_and, and_true, Int.toNat_natCast] at *; omega))); rotate_left; (kernel_rfl); (kernel_rfl); rotate_left))
  · (((try simp only [andO, true_and, and_true, Int.toNat_natCast, i64ok, decide_eq_true_eq, decide_eq_false_iff_not, Bool.not_eq_true', Bool.not_eq_false']); (repeat' (first | exact trivial | (first | exact con_at_spec.l09At _ _ (by assumption) | assumption) | assumption | omega | exact does_litz _ _ hn tb_ok rfl rfl rfl rfl rfl rfl rfl rfl rfl rfl rfl | exact does_app _ hn tb_ok rfl ⟨rfl, _, _, _, rfl, rfl, rfl, rfl, rfl, rfl⟩ rfl rfl rfl rfl rfl rfl rfl (by simp only [List.length_cons, List.length_nil]; omega) | refine And.intro ?_ ?_))))
  ((refine go_cond hn tb_ok rfl ?_ (fun hc => ?_) (fun hc => ?_); ((first | exact trivial | (simp only [i64ok, true_and, and_true, Int.toNat_natCast]; omega) | (simp only [i64ok, true_and, and_true, Int.toNat_natCast] at *; omega))); all_goals (try (((try simp only [decide_eq_true_eq, decide_eq_false_iff_not, Bool.not_eq_true', Bool.not_eq_false', Bool.not_eq_eq_eq_not, Bool.not_true, Bool.not_false, Int.not_lt, Int.not_le, Int.toNat_natCast, beq_iff_eq, beq_eq_false_iff_ne, ne_eq] at hc); (try (first | simp only [rest_iff, rest_iff', isReg_iff, isReg_iff', isVal_iff, isVal_iff', isIn_iff, isIn_iff', isChan_iff, isChan_iff'] at hc | simp only [(fields_iff _).1, (fields_iff _).2.1, (fields_iff _).2.2, isReg_iff, isReg_iff', isVal_iff, isVal_iff', isIn_iff, isIn_iff', isChan_iff, isChan_iff'] at hc | skip)); try (exfalso; omega))))))
  · (repeat' (first
  | (refine go_cond hn tb_ok rfl ?_ (fun hc => ?_) (fun hc => ?_); ((first | exact trivial | (simp only [i64ok, true_and, and_true, Int.toNat_natCast]; omega) | (simp only [i64ok, true_and, and_true, Int.toNat_natCast] at *; omega))); all_goals (try (((try simp only [decide_eq_true_eq, decide_eq_false_iff_not, Bool.not_eq_true', Bool.not_eq_false', Bool.not_eq_eq_eq_not, Bool.not_true, Bool.not_false, Int.not_lt, Int.not_le, Int.toNat_natCast, beq_iff_eq, beq_eq_false_iff_ne, ne_eq] at hc); (try (first | simp only [rest_iff, rest_iff', isReg_iff, isReg_iff', isVal_iff, isVal_iff', isIn_iff, isIn_iff', isChan_iff, isChan_iff'] at hc | simp only [(fields_iff _).1, (fields_iff _).2.1, (fields_iff _).2.2, isReg_iff, isReg_iff', isVal_iff, isVal_iff', isIn_iff, isIn_iff', isChan_iff, isChan_iff'] at hc | skip)); try (exfalso; omega)))))
  | (refine go_ret hn tb_ok rfl ?_ ⟨_, rfl, ?_⟩; ((first | exact trivial | (simp only [i64ok, true_and, and_true, Int.toNat_natCast]; omega) | (simp only [i64ok, true_and, and_true, Int.toNat_natCast] at *; omega))))
  | ((refine go_con hn tb_ok rfl ?_ rfl [] ⟨_, ?_, rfl, ?_, ?_, ?_, ?_⟩; ((first | exact trivial | (simp only [i64ok, true_and, and_true, Int.toNat_natCast]; omega) | (simp only [i64ok, true_and, and_true, Int.toNat_natCast] at *; omega))); rotate_left; ((first | exact con_at_spec.l09At _ _ (by assumption) | assumption)); (rfl); (first | exact .inl rfl | exact .inr (fun id hi => lk3_ok hi))))))
    rw [hro, selReady, insOf, if_neg (by omega)]; rfl
  have h11 : (instrAt p (e.gs.getD n.toNat dGor)).op = 11 := by omega
  have hr := hra h11
  have hl := (prog_sel hp (k := (instrAt p (e.gs.getD n.toNat dGor)).a.toNat) (by omega)).1
  have hcr := con_spec_l11Ready p e (instrAt p (e.gs.getD n.toNat dGor)).a hr (by omega)
  (repeat' (first
  | (refine go_cond hn tb_ok rfl ?_ (fun hc => ?_) (fun hc => ?_); ((first | exact trivial | (simp only [i64ok, true_and, and_true, Int.toNat_natCast]; omega) | (simp only [i64ok, true_and, and_true, Int.toNat_natCast] at *; omega))); all_goals (try (((try simp only [decide_eq_true_eq, decide_eq_false_iff_not, Bool.not_eq_true', Bool.not_eq_false', Bool.not_eq_eq_eq_not, Bool.not_true, Bool.not_false, Int.not_lt, Int.not_le, Int.toNat_natCast, beq_iff_eq, beq_eq_false_iff_ne, ne_eq] at hc); (try (first | simp only [rest_iff, rest_iff', isReg_iff, isReg_iff', isVal_iff, isVal_iff', isIn_iff, isIn_iff', isChan_iff, isChan_iff'] at hc | simp only [(fields_iff _).1, (fields_iff _).2.1, (fields_iff _).2.2, isReg_iff, isReg_iff', isVal_iff, isVal_iff', isIn_iff, isIn_iff', isChan_iff, isChan_iff'] at hc | skip)); try (exfalso; omega)))))
  | (refine go_ret hn tb_ok rfl ?_ ⟨_, rfl, ?_⟩; ((first | exact trivial | (simp only [i64ok, true_and, and_true, Int.toNat_natCast]; omega) | (simp only [i64ok, true_and, and_true, Int.toNat_natCast] at *; omega))))
  | ((refine go_con hn tb_ok rfl ?_ rfl [] ⟨_, ?_, rfl, ?_, ?_, ?_, ?_⟩; ((first | exact trivial | (simp only [i64ok, true_and, and_true, Int.toNat_natCast]; omega) | (simp only [i64ok, true_and, and_true, Int.toNat_natCast] at *; omega))); rotate_left; ((first | exact con_at_spec.l09At _ _ (by assumption) | assumption)); (rfl); (first | exact .inl rfl | exact .inr (fun id hi => lk3_ok hi))))))
  rw [hro, selReady, insOf, if_pos h11]; rfl
theorem selReady_len {p : MProg} {e : MEng} {n : Int} (h : askedB p e n = true) : (selReady p e n).length ≤ 4 := by
  obtain ⟨heng, h0, hlt, hst⟩ := asked_in h
  have hg := eng_gor heng (k := n.toNat) (by omega)
  have hp := eng_prog heng
  unfold selReady
  split
  · rename_i h11
    have hr := instr_a hp hg h11
    have hl := (prog_sel hp (k := (instrAt p (e.gs.getD n.toNat dGor)).a.toNat) (by omega)).1
    have := gather_len (readyAt_len e (p.sels.getD (insOf p e n).a.toNat dSelect).cases) (p.sels.getD (insOf p e n).a.toNat dSelect).cases.length
    unfold readyCs
    have hl : (p.sels.getD (insOf p e n).a.toNat dSelect).cases.length ≤ 4 := hl
    omega
  · simp
def ways (p : MProg) (e : MEng) (n : Int) : Nat := max 1 (selReady p e n).length
theorem con_spec_Choices (p : MProg) (e : MEng) (n : Int) (hs : (allPl e).length ≤ 1048576) : Con Tryz.prog 62 [.dagg (cProg p), .dagg (cEng e), .dat (.int .i64 n)] (.dat (.int .i64 (if askedB p e n = true then (ways p e n : Int) else 0))) := by
  refine con_body (rs := [(.tmp 6, 3)]) tb_ok Tryz.func62 rfl rfl rfl (Nat.le_of_ble_eq_true rfl) fun ho x hn => ?_
  have hk := con_spec_l11Asked p e n hs
  have hk2 := con_spec_ReadyCases p e n hs
  ((refine go_con hn tb_ok rfl ?_ rfl [] ⟨_, ?_, rfl, ?_, ?_, ?_, ?_⟩; ((first | exact trivial | (simp only [i64ok, true_and, and_true, Int.toNat_natCast]; omega) | (simp only [i64ok, true_and, and_true, Int.toNat_natCast] at *; omega))); rotate_left; (assumption); (rfl); (first | exact .inl rfl | exact .inr (fun id hi => lk3_ok hi))))
  ((refine go_cond hn tb_ok rfl ?_ (fun hc => ?_) (fun hc => ?_); ((first | exact trivial | (simp only [i64ok, true_and, and_true, Int.toNat_natCast]; omega) | (simp only [i64ok, true_and, and_true, Int.toNat_natCast] at *; omega))); all_goals (try (((try simp only [decide_eq_true_eq, decide_eq_false_iff_not, Bool.not_eq_true', Bool.not_eq_false', Bool.not_eq_eq_eq_not, Bool.not_true, Bool.not_false, Int.not_lt, Int.not_le, Int.toNat_natCast, beq_iff_eq, beq_eq_false_iff_ne, ne_eq] at hc); (try (first | simp only [rest_iff, rest_iff', isReg_iff, isReg_iff', isVal_iff, isVal_iff', isIn_iff, isIn_iff', isChan_iff, isChan_iff'] at hc | simp only [(fields_iff _).1, (fields_iff _).2.1, (fields_iff _).2.2, isReg_iff, isReg_iff', isVal_iff, isVal_iff', isIn_iff, isIn_iff', isChan_iff, isChan_iff'] at hc | skip)); try (exfalso; omega))))))
  · (repeat' (first
  | (refine go_cond hn tb_ok rfl ?_ (fun hc => ?_) (fun hc => ?_); ((first | exact trivial | (simp only [i64ok, true_and, and_true, Int.toNat_natCast]; omega) | (simp only [i64ok, true_and, and_true, Int.toNat_natCast] at *; omega))); all_goals (try (((try simp only [decide_eq_true_eq, decide_eq_false_iff_not, Bool.not_eq_true', Bool.not_eq_false', Bool.not_eq_eq_eq_not, Bool.not_true, Bool.not_false, Int.not_lt, Int.not_le, Int.toNat_natCast, beq_iff_eq, beq_eq_false_iff_ne, ne_eq] at hc); (try (first | simp only [rest_iff, rest_iff', isReg_iff, isReg_iff', isVal_iff, isVal_iff', isIn_iff, isIn_iff', isChan_iff, isChan_iff'] at hc | simp only [(fields_iff _).1, (fields_iff _).2.1, (fields_iff _).2.2, isReg_iff, isReg_iff', isVal_iff, isVal_iff', isIn_iff, isIn_iff', isChan_iff, isChan_iff'] at hc | skip)); try (exfalso; omega)))))
  | (refine go_ret hn tb_ok rfl ?_ ⟨_, rfl, ?_⟩; ((first | exact trivial | (simp only [i64ok, true_and, and_true, Int.toNat_natCast]; omega) | (simp only [i64ok, true_and, and_true, Int.toNat_natCast] at *; omega))))
  | ((refine go_con hn tb_ok rfl ?_ rfl [] ⟨_, ?_, rfl, ?_, ?_, ?_, ?_⟩; ((first | exact trivial | (simp only [i64ok, true_and, and_true, Int.toNat_natCast]; omega) | (simp only [i64ok, true_and, and_true, Int.toNat_natCast] at *; omega))); rotate_left; (assumption); (rfl); (first | exact .inl rfl | exact .inr (fun id hi => lk3_ok hi))))))
    rw [if_neg (by rw [hc]; exact Bool.false_ne_true)]; rfl
  have hro : readyOf p e n = selReady p e n := if_pos hc
  have hl4 := selReady_len hc
  rw [hro] at hk2
  have hyes := hc
  clear hc
  (repeat' (first
  | (refine go_cond hn tb_ok rfl ?_ (fun hc => ?_) (fun hc => ?_); ((first | exact trivial | (simp only [i64ok, true_and, and_true, Int.toNat_natCast]; omega) | (simp only [i64ok, true_and, and_true, Int.toNat_natCast] at *; omega))); all_goals (try (((try simp only [decide_eq_true_eq, decide_eq_false_iff_not, Bool.not_eq_true', Bool.not_eq_false', Bool.not_eq_eq_eq_not, Bool.not_true, Bool.not_false, Int.not_lt, Int.not_le, Int.toNat_natCast, beq_iff_eq, beq_eq_false_iff_ne, ne_eq] at hc); (try (first | simp only [rest_iff, rest_iff', isReg_iff, isReg_iff', isVal_iff, isVal_iff', isIn_iff, isIn_iff', isChan_iff, isChan_iff'] at hc | simp only [(fields_iff _).1, (fields_iff _).2.1, (fields_iff _).2.2, isReg_iff, isReg_iff', isVal_iff, isVal_iff', isIn_iff, isIn_iff', isChan_iff, isChan_iff'] at hc | skip)); try (exfalso; omega)))))
  | (refine go_ret hn tb_ok rfl ?_ ⟨_, rfl, ?_⟩; ((first | exact trivial | (simp only [i64ok, true_and, and_true, Int.toNat_natCast]; omega) | (simp only [i64ok, true_and, and_true, Int.toNat_natCast] at *; omega))))
  | ((refine go_con hn tb_ok rfl ?_ rfl [] ⟨_, ?_, rfl, ?_, ?_, ?_, ?_⟩; ((first | exact trivial | (simp only [i64ok, true_and, and_true, Int.toNat_natCast]; omega) | (simp only [i64ok, true_and, and_true, Int.toNat_natCast] at *; omega))); rotate_left; (assumption); (rfl); (first | exact .inl rfl | exact .inr (fun id hi => lk3_ok hi))))))
  · rw [if_pos hyes, ways, show max 1 (selReady p e n).length = 1 by omega]; rfl
  · rw [if_pos hyes, ways, show max 1 (selReady p e n).length = (selReady p e n).length by omega]; rfl
end Go.Proofs.YtjmefaihkblliaaGreat.Ab
/- All picks that can be made: both programs' Branches, walked by the abstract machine. Conditions: none. -/
namespace Go.Proofs.YtjmefaihkblliaaGreat.Ab
set_option linter.unusedVariables false
set_option linter.unusedSimpArgs false
set_option maxRecDepth 100000
theorem in_mem {e : MEng} {s n : Int} (h : n ∈ inState e s) : 0 ≤ n ∧ n < e.gs.length ∧ (e.gs.getD n.toNat dGor).state = s := by
  unfold inState gatherN at h
  rw [List.mem_flatMap] at h
  obtain ⟨k, hk, hn⟩ := h
  rw [List.mem_range] at hk
  unfold stateAt at hn
  split at hn
  · rename_i hs
    rw [List.mem_singleton] at hn
    subst hn
    exact ⟨by omega, by omega, by simpa using hs⟩
  · cases hn
theorem in_get {e : MEng} {s : Int} {k : Nat} (h : k < (inState e s).length) : 0 ≤ (inState e s).getD k 0 ∧ (inState e s).getD k 0 < e.gs.length ∧ (e.gs.getD ((inState e s).getD k 0).toNat dGor).state = s := by
  have := in_mem (e := e) (s := s) (n := (inState e s).getD k 0) (by
    rw [List.getD_eq_getElem?_getD, List.getElem?_eq_getElem h]; exact List.getElem_mem h)
  exact this
theorem in_len (e : MEng) (s : Int) : (inState e s).length ≤ e.gs.length := by
  have := gather_len (stateAt_len e.gs s) e.gs.length
  unfold inState; omega
theorem in_asked {p : MProg} {e : MEng} {k : Nat} (he : engOk p e = true) (h : k < (inState e 1).length) : askedB p e ((inState e 1).getD k 0) = true := by
  rw [askedB, he, decide_eq_true (in_get h)]; rfl
def brAt (p : MProg) (e : MEng) (k : Nat) : List MPick := (List.range (ways p e ((inState e 1).getD k 0))).map (fun (c : Nat) => (⟨k, c⟩ : MPick))
def branchesM (p : MProg) (e : MEng) : List MPick := gatherN (brAt p e) (inState e 1).length
theorem range_map_next {α : Type} (f : Nat → α) (n : Nat) : (List.range (n + 1)).map f = (List.range n).map f ++ [f n] := by rw [List.range_succ, List.map_append]; rfl
theorem br_len {p : MProg} {e : MEng} (he : engOk p e = true) {k : Nat} (hk : k < (inState e 1).length) : (brAt p e k).length ≤ 4 := by
  unfold brAt
  rw [List.length_map, List.length_range, ways]
  have := selReady_len (in_asked he hk)
  omega
set_option maxHeartbeats 1000000 in
theorem ct_spec_Branches (p : MProg) (e : MEng) (hs : (allPl e).length ≤ 1048576) : Ct Tryz.prog 13 [.dagg (cProg p), .dagg (cEng e)] [] (FreshPost 1 101 2 dPick cPick (if engOk p e = true then branchesM p e else [])) := by
  refine ct_bodyO (rs := [(.tmp 4, 34)]) tb_ok Tryz.func13 rfl rfl rfl (Nat.le_of_ble_eq_true rfl) rfl fun ho hm x hn hlent => ?_
  obtain ⟨hb1, hb2, hb3⟩ := okEng (ho (.dagg (cEng e)) (by simp))
  have hk := con_spec_EngOk p e hs
  ((refine go_lit hn tb_ok dPick cPick ([] : List MPick) rfl ?_ rfl rfl rfl rfl rfl rfl rfl rfl rfl ?_; ((first | exact trivial | (simp only [i64ok, true_and, and_true, Int.toNat_natCast]; omega) | (simp only [i64ok, true_and, and_true, Int.toNat_natCast] at *; omega)))))
  ((refine go_con hn tb_ok rfl ?_ rfl [] ⟨_, ?_, rfl, ?_, ?_, ?_, ?_⟩; ((first | exact trivial | (simp only [i64ok, true_and, and_true, Int.toNat_natCast]; omega) | (simp only [i64ok, true_and, and_true, Int.toNat_natCast] at *; omega))); rotate_left; (assumption); (rfl); (first | exact .inl rfl | exact .inr (fun id hi => lk3_ok hi))))
  ((refine go_cond hn tb_ok rfl ?_ (fun hc => ?_) (fun hc => ?_); ((first | exact trivial | (simp only [i64ok, true_and, and_true, Int.toNat_natCast]; omega) | (simp only [i64ok, true_and, and_true, Int.toNat_natCast] at *; omega))); all_goals (try (((try simp only [decide_eq_true_eq, decide_eq_false_iff_not, Bool.not_eq_true', Bool.not_eq_false', Bool.not_eq_eq_eq_not, Bool.not_true, Bool.not_false, Int.not_lt, Int.not_le, Int.toNat_natCast, beq_iff_eq, beq_eq_false_iff_ne, ne_eq] at hc); (try (first | simp only [rest_iff, rest_iff', isReg_iff, isReg_iff', isVal_iff, isVal_iff', isIn_iff, isIn_iff', isChan_iff, isChan_iff'] at hc | simp only [(fields_iff _).1, (fields_iff _).2.1, (fields_iff _).2.2, isReg_iff, isReg_iff', isVal_iff, isVal_iff', isIn_iff, isIn_iff', isChan_iff, isChan_iff'] at hc | skip)); try (exfalso; omega))))))
  · ((refine go_ret hn tb_ok rfl ?_ ⟨_, .own 1, [(1, some (.row 101 2 dPick cPick (if engOk p e = true then branchesM p e else [])))], [(1, 9)], rfl, rfl, ⟨?_, trivial⟩, rfl, rfl, rfl, .inl ⟨rfl, rfl⟩⟩; ((first | exact trivial | (simp only [i64ok, true_and, and_true, Int.toNat_natCast]; omega) | (simp only [i64ok, true_and, and_true, Int.toNat_natCast] at *; omega)))))
    rw [if_neg (by rw [hc]; exact Bool.false_ne_true)]; rfl
  have heng := hc
  clear hc
  obtain ⟨hg1, hg2⟩ := eng_len heng
  have hrd := con_spec_Ready e (by omega)
  have hil := in_len e 1
  ((refine go_con hn tb_ok rfl ?_ rfl [] ⟨_, ?_, rfl, ?_, ?_, ?_, ?_⟩; ((first | exact trivial | (simp only [i64ok, true_and, and_true, Int.toNat_natCast]; omega) | (simp only [i64ok, true_and, and_true, Int.toNat_natCast] at *; omega))); rotate_left; (assumption); (rfl); (first | exact .inl rfl | exact .inr (fun id hi => lk3_ok hi))))
  ((refine go_loop hn tb_ok rfl ?_ (fun (wI : Nat) wT wM => ((18, .dat (.int .i64 wI)) :: (5, .own 100) :: ([(9, .no)] ++ wT), (100, some ((fun i => .row 101 2 dPick cPick (gatherN (brAt p e) i)) wI)) :: ([(9, none)] ++ wM))) (fun wI => wI ≤ ((inState e 1).length) ∧ (fun i => (gatherN (brAt p e) i).length ≤ 4 * i) wI) (fun wI => ((inState e 1).length) - wI) 0 ⟨Nat.zero_le _, ?_⟩ (le_of [(100, 9), (9, 999)] ?_ ?_ rfl) ?_; ((first | exact trivial | (simp only [i64ok, true_and, and_true, Int.toNat_natCast]; omega) | (simp only [i64ok, true_and, and_true, Int.toNat_natCast] at *; omega)))))
  · simp [gatherN]
  · (repeat' (first | exact trivial | refine And.intro rfl ?_))
  · (repeat' (first | exact trivial | refine And.intro rfl ?_))
  rintro i ⟨hi, hln⟩
  ((refine go_cond hn tb_ok rfl ?_ (fun hc => ?_) (fun hc => ?_); ((first | exact trivial | (simp only [i64ok, true_and, and_true, Int.toNat_natCast]; omega) | (simp only [i64ok, true_and, and_true, Int.toNat_natCast] at *; omega))); all_goals (try (((try simp only [decide_eq_true_eq, decide_eq_false_iff_not, Bool.not_eq_true', Bool.not_eq_false', Bool.not_eq_eq_eq_not, Bool.not_true, Bool.not_false, Int.not_lt, Int.not_le, Int.toNat_natCast, beq_iff_eq, beq_eq_false_iff_ne, ne_eq] at hc); (try (first | simp only [rest_iff, rest_iff', isReg_iff, isReg_iff', isVal_iff, isVal_iff', isIn_iff, isIn_iff', isChan_iff, isChan_iff'] at hc | simp only [(fields_iff _).1, (fields_iff _).2.1, (fields_iff _).2.2, isReg_iff, isReg_iff', isVal_iff, isVal_iff', isIn_iff, isIn_iff', isChan_iff, isChan_iff'] at hc | skip)); try (exfalso; omega))))))
  · have hlt : i < (inState e 1).length := by omega
    have hnx := gather_next (brAt p e) i
    have hbl := br_len heng hlt
    have hch := con_spec_Choices p e ((inState e 1).getD i 0) hs
    rw [if_pos (in_asked heng hlt)] at hch
    have hway : (brAt p e i).length = ways p e ((inState e 1).getD i 0) := by unfold brAt; rw [List.length_map, List.length_range]
    ((refine go_loop hn tb_ok rfl ?_ (fun (wI : Nat) wT wM => ((8, .dat (.int .i64 wI)) :: (5, .own 101) :: ([] ++ wT), (101, some ((fun j => .row 101 2 dPick cPick (gatherN (brAt p e) i ++ (List.range j).map (fun (c : Nat) => (⟨i, c⟩ : MPick)))) wI)) :: ([(100, none)] ++ wM))) (fun wI => wI ≤ (ways p e ((inState e 1).getD i 0)) ∧ (fun _ => True) wI) (fun wI => (ways p e ((inState e 1).getD i 0)) - wI) 0 ⟨Nat.zero_le _, ?_⟩ (le_of [(101, 100), (100, 999)] ?_ ?_ rfl) ?_; ((first | exact trivial | (simp only [i64ok, true_and, and_true, Int.toNat_natCast]; omega) | (simp only [i64ok, true_and, and_true, Int.toNat_natCast] at *; omega)))))
    · trivial
    · (repeat' (first | exact trivial | refine And.intro rfl ?_))
    · refine And.intro (congrArg (fun q => some (Blk.row 101 2 dPick cPick q)) ?_) ?_
      · simp
      · (repeat' (first | exact trivial | refine And.intro rfl ?_))
    rintro j ⟨hj, _⟩
    ((refine go_con hn tb_ok rfl ?_ rfl [] ⟨_, ?_, rfl, ?_, ?_, ?_, ?_⟩; ((first | exact trivial | (simp only [i64ok, true_and, and_true, Int.toNat_natCast]; omega) | (simp only [i64ok, true_and, and_true, Int.toNat_natCast] at *; omega))); rotate_left; (assumption); (rfl); (first | exact .inl rfl | exact .inr (fun id hi => lk3_ok hi))))
    ((refine go_cond hn tb_ok rfl ?_ (fun hc => ?_) (fun hc => ?_); ((first | exact trivial | (simp only [i64ok, true_and, and_true, Int.toNat_natCast]; omega) | (simp only [i64ok, true_and, and_true, Int.toNat_natCast] at *; omega))); all_goals (try (((try simp only [decide_eq_true_eq, decide_eq_false_iff_not, Bool.not_eq_true', Bool.not_eq_false', Bool.not_eq_eq_eq_not, Bool.not_true, Bool.not_false, Int.not_lt, Int.not_le, Int.toNat_natCast, beq_iff_eq, beq_eq_false_iff_ne, ne_eq] at hc); (try (first | simp only [rest_iff, rest_iff', isReg_iff, isReg_iff', isVal_iff, isVal_iff', isIn_iff, isIn_iff', isChan_iff, isChan_iff'] at hc | simp only [(fields_iff _).1, (fields_iff _).2.1, (fields_iff _).2.2, isReg_iff, isReg_iff', isVal_iff, isVal_iff', isIn_iff, isIn_iff', isChan_iff, isChan_iff'] at hc | skip)); try (exfalso; omega))))))
    · ((refine go_lit hn tb_ok dPick cPick [(⟨i, j⟩ : MPick)] rfl ?_ rfl rfl rfl rfl rfl rfl rfl rfl rfl ?_; ((first | exact trivial | (simp only [i64ok, true_and, and_true, Int.toNat_natCast]; omega) | (simp only [i64ok, true_and, and_true, Int.toNat_natCast] at *; omega)))))
      ((refine go_app hn tb_ok [(⟨i, j⟩ : MPick)] rfl ?_ rfl rfl rfl rfl rfl rfl rfl rfl ?_ ?_; ((first | exact trivial | (simp only [i64ok, true_and, and_true, Int.toNat_natCast]; omega) | (simp only [i64ok, true_and, and_true, Int.toNat_natCast] at *; omega)))))
      · show (_ + 1) * 16 ≤ _
        rw [List.length_append, List.length_map, List.length_range]; omega
      ((refine go_stop hn tb_ok rfl ?_ ⟨j + 1, ⟨?_, ?_⟩, ?_, ?_⟩; ((first | exact trivial | (simp only [i64ok, true_and, and_true, Int.toNat_natCast]; omega) | (simp only [i64ok, true_and, and_true, Int.toNat_natCast] at *; omega)))))
      · omega
      · trivial
      · show ways p e ((inState e 1).getD i 0) - (j + 1) < ways p e ((inState e 1).getD i 0) - j; omega
      · ((refine le_of [(101, 36), (100, 999)] ?_ ?_ rfl; ((repeat' (first | exact trivial | refine And.intro rfl ?_))); ((repeat' (first | exact trivial | refine And.intro rfl ?_)))))
        refine And.intro (congrArg (fun q => some (Blk.row 101 2 dPick cPick q)) ?_) ?_
        · rw [range_map_next, List.append_assoc]
        · (repeat' (first | exact trivial | refine And.intro rfl ?_))
    · have hje : j = ways p e ((inState e 1).getD i 0) := by omega
      subst hje
      ((refine go_stop hn tb_ok rfl ?_ ⟨i + 1, ⟨?_, ?_⟩, ?_, ?_⟩; ((first | exact trivial | (simp only [i64ok, true_and, and_true, Int.toNat_natCast]; omega) | (simp only [i64ok, true_and, and_true, Int.toNat_natCast] at *; omega)))))
      · omega
      · show (gatherN (brAt p e) (i + 1)).length ≤ 4 * (i + 1)
        rw [hnx, List.length_append]; omega
      · show (inState e 1).length - (i + 1) < (inState e 1).length - i; omega
      · ((refine le_of [(100, 101), (9, 999)] ?_ ?_ rfl; ((repeat' (first | exact trivial | refine And.intro rfl ?_))); ((repeat' (first | exact trivial | refine And.intro rfl ?_)))))
        refine And.intro (congrArg (fun q => some (Blk.row 101 2 dPick cPick q)) ?_) ?_
        · rw [hnx]; rfl
        · (repeat' (first | exact trivial | refine And.intro rfl ?_))
  · have hie : i = (inState e 1).length := by omega
    subst hie
    ((refine go_ret hn tb_ok rfl ?_ ⟨_, .own 1, [(1, some (.row 101 2 dPick cPick (if engOk p e = true then branchesM p e else [])))], [(1, 100)], rfl, rfl, ⟨?_, trivial⟩, rfl, rfl, rfl, .inl ⟨rfl, rfl⟩⟩; ((first | exact trivial | (simp only [i64ok, true_and, and_true, Int.toNat_natCast]; omega) | (simp only [i64ok, true_and, and_true, Int.toNat_natCast] at *; omega)))))
    rw [if_pos heng]; rfl
end Go.Proofs.YtjmefaihkblliaaGreat.Ab
/- All picks that can be made, by the program: walked by the abstract machine. Conditions: none. -/
namespace Go.Proofs.YtjmefaihkblliaaGreat.Ab
set_option linter.unusedVariables false
set_option linter.unusedSimpArgs false
set_option maxRecDepth 100000
set_option maxHeartbeats 1000000 in
theorem ct_impl_branches (p : MProg) (e : MEng) (heng : engOk p e = true) : Ct Tryz.prog 70 [.dagg (cProg p), .dagg (cEng e)] [] (FreshPost 1 101 2 dPick cPick (branchesM p e)) := by
  refine ct_bodyO (rs := [(.tmp 4, 34)]) tb_ok Tryz.func70 rfl rfl rfl (Nat.le_of_ble_eq_true rfl) rfl fun ho hm x hn hlent => ?_
  obtain ⟨hb1, hb2, hb3⟩ := okEng (ho (.dagg (cEng e)) (by simp))
  have hp := eng_prog heng
  obtain ⟨hg1, hg2⟩ := eng_len heng
  have hrd := con_impl_Ready e (by omega)
  have hil := in_len e 1
  ((refine go_lit hn tb_ok dPick cPick ([] : List MPick) rfl ?_ rfl rfl rfl rfl rfl rfl rfl rfl rfl ?_; ((first | exact trivial | (simp only [i64ok, true_and, and_true, Int.toNat_natCast]; omega) | (simp only [i64ok, true_and, and_true, Int.toNat_natCast] at *; omega)))))
  ((refine go_con hn tb_ok rfl ?_ rfl [] ⟨_, ?_, rfl, ?_, ?_, ?_, ?_⟩; ((first | exact trivial | (simp only [i64ok, true_and, and_true, Int.toNat_natCast]; omega) | (simp only [i64ok, true_and, and_true, Int.toNat_natCast] at *; omega))); rotate_left; ((first | exact con_at_impl.instr _ _ (by assumption) | assumption)); (rfl); (first | exact .inl rfl | exact .inr (fun id hi => lk3_ok hi))))
  ((refine go_loop hn tb_ok rfl ?_ (fun (wI : Nat) wT wM => ((15, .dat (.int .i64 wI)) :: (5, .own 100) :: ([(11, .no)] ++ wT), (100, some ((fun i => .row 101 2 dPick cPick (gatherN (brAt p e) i)) wI)) :: ([(11, none)] ++ wM))) (fun wI => wI ≤ ((inState e 1).length) ∧ (fun i => (gatherN (brAt p e) i).length ≤ 4 * i) wI) (fun wI => ((inState e 1).length) - wI) 0 ⟨Nat.zero_le _, ?_⟩ (le_of [(100, 11), (11, 999)] ?_ ?_ rfl) ?_; ((first | exact trivial | (simp only [i64ok, true_and, and_true, Int.toNat_natCast]; omega) | (simp only [i64ok, true_and, and_true, Int.toNat_natCast] at *; omega)))))
  · simp [gatherN]
  · (repeat' (first | exact trivial | refine And.intro rfl ?_))
  · (repeat' (first | exact trivial | refine And.intro rfl ?_))
  rintro i ⟨hi, hln⟩
  ((refine go_cond hn tb_ok rfl ?_ (fun hc => ?_) (fun hc => ?_); ((first | exact trivial | (simp only [i64ok, true_and, and_true, Int.toNat_natCast]; omega) | (simp only [i64ok, true_and, and_true, Int.toNat_natCast] at *; omega))); all_goals (try (((try simp only [decide_eq_true_eq, decide_eq_false_iff_not, Bool.not_eq_true', Bool.not_eq_false', Bool.not_eq_eq_eq_not, Bool.not_true, Bool.not_false, Int.not_lt, Int.not_le, Int.toNat_natCast, beq_iff_eq, beq_eq_false_iff_ne, ne_eq] at hc); (try (first | simp only [rest_iff, rest_iff', isReg_iff, isReg_iff', isVal_iff, isVal_iff', isIn_iff, isIn_iff', isChan_iff, isChan_iff'] at hc | simp only [(fields_iff _).1, (fields_iff _).2.1, (fields_iff _).2.2, isReg_iff, isReg_iff', isVal_iff, isVal_iff', isIn_iff, isIn_iff', isChan_iff, isChan_iff'] at hc | skip)); try (exfalso; omega))))))
  · have hlt : i < (inState e 1).length := by omega
    have hnx := gather_next (brAt p e) i
    have hbl := br_len heng hlt
    have hway : (brAt p e i).length = ways p e ((inState e 1).getD i 0) := by unfold brAt; rw [List.length_map, List.length_range]
    obtain ⟨hn0, hn1, hn2⟩ := in_get hlt
    have hg := eng_gor heng (k := ((inState e 1).getD i 0).toNat) (by omega)
    have hat := con_at_impl.instr p (e.gs.getD ((inState e 1).getD i 0).toNat dGor) hg
    ((refine go_draw hn tb_ok mix_ok [.r (.dagg (cInstr (instrAt p (e.gs.getD ((inState e 1).getD i 0).toNat dGor))))] rfl ?_ rfl ?_ ?_ ?_ ?_; ((first | exact trivial | (simp only [i64ok, true_and, and_true, Int.toNat_natCast]; omega) | (simp only [i64ok, true_and, and_true, Int.toNat_natCast] at *; omega))); rotate_left; (kernel_rfl); (kernel_rfl); rotate_left))
    · (((try simp only [andO, true_and, and_true, Int.toNat_natCast, i64ok, decide_eq_true_eq, decide_eq_false_iff_not, Bool.not_eq_true', Bool.not_eq_false']); (repeat' (first | exact trivial | (first | exact con_at_impl.instr _ _ (by assumption) | assumption) | assumption | omega | exact does_litz _ _ hn tb_ok rfl rfl rfl rfl rfl rfl rfl rfl rfl rfl rfl | exact does_app _ hn tb_ok rfl ⟨rfl, _, _, _, rfl, rfl, rfl, rfl, rfl, rfl⟩ rfl rfl rfl rfl rfl rfl rfl (by simp only [List.length_cons, List.length_nil]; omega) | refine And.intro ?_ ?_))))
    ((refine go_cond hn tb_ok rfl ?_ (fun hc => ?_) (fun hc => ?_); ((first | exact trivial | (simp only [i64ok, true_and, and_true, Int.toNat_natCast]; omega) | (simp only [i64ok, true_and, and_true, Int.toNat_natCast] at *; omega))); all_goals (try (((try simp only [decide_eq_true_eq, decide_eq_false_iff_not, Bool.not_eq_true', Bool.not_eq_false', Bool.not_eq_eq_eq_not, Bool.not_true, Bool.not_false, Int.not_lt, Int.not_le, Int.toNat_natCast, beq_iff_eq, beq_eq_false_iff_ne, ne_eq] at hc); (try (first | simp only [rest_iff, rest_iff', isReg_iff, isReg_iff', isVal_iff, isVal_iff', isIn_iff, isIn_iff', isChan_iff, isChan_iff'] at hc | simp only [(fields_iff _).1, (fields_iff _).2.1, (fields_iff _).2.2, isReg_iff, isReg_iff', isVal_iff, isVal_iff', isIn_iff, isIn_iff', isChan_iff, isChan_iff'] at hc | skip)); try (exfalso; omega))))))
    · have h11 : (insOf p e ((inState e 1).getD i 0)).op = 11 := hc
      have hra := instr_a hp hg hc
      have hl := (prog_sel hp (k := (instrAt p (e.gs.getD ((inState e 1).getD i 0).toNat dGor)).a.toNat) (by omega)).1
      have hrc := con_impl_readyCases e (p.sels.getD (instrAt p (e.gs.getD ((inState e 1).getD i 0).toNat dGor)).a.toNat dSelect) (by omega)
      have hw : ways p e ((inState e 1).getD i 0) = max 1 (readyCs e (p.sels.getD (instrAt p (e.gs.getD ((inState e 1).getD i 0).toNat dGor)).a.toNat dSelect).cases).length := by
        rw [ways, selReady, if_pos h11]; rfl
      ((refine go_draw hn tb_ok mix_ok [.r (.dat (ints (readyCs e (p.sels.getD (instrAt p (e.gs.getD ((inState e 1).getD i 0).toNat dGor)).a.toNat dSelect).cases)))] rfl ?_ rfl ?_ ?_ ?_ ?_; ((first | exact trivial | (simp only [i64ok, true_and, and_true, Int.toNat_natCast]; omega) | (simp only [i64ok, true_and, and_true, Int.toNat_natCast] at *; omega))); rotate_left; (kernel_rfl); (kernel_rfl); rotate_left))
      · (((try simp only [andO, true_and, and_true, Int.toNat_natCast, i64ok, decide_eq_true_eq, decide_eq_false_iff_not, Bool.not_eq_true', Bool.not_eq_false']); (repeat' (first | exact trivial | (first | exact con_at_impl.instr _ _ (by assumption) | assumption) | assumption | omega | exact does_litz _ _ hn tb_ok rfl rfl rfl rfl rfl rfl rfl rfl rfl rfl rfl | exact does_app _ hn tb_ok rfl ⟨rfl, _, _, _, rfl, rfl, rfl, rfl, rfl, rfl⟩ rfl rfl rfl rfl rfl rfl rfl (by simp only [List.length_cons, List.length_nil]; omega) | refine And.intro ?_ ?_))))
      rw [show (max (1 : Int) ((readyCs e (p.sels.getD (instrAt p (e.gs.getD ((inState e 1).getD i 0).toNat dGor)).a.toNat dSelect).cases).length : Int)) = ((ways p e ((inState e 1).getD i 0) : Nat) : Int) by rw [hw]; omega]
      clear hc
      ((refine go_loop hn tb_ok rfl ?_ (fun (wI : Nat) wT wM => ((41, .dat (.int .i64 wI)) :: (5, .own 101) :: ([] ++ wT), (101, some ((fun j => .row 101 2 dPick cPick (gatherN (brAt p e) i ++ (List.range j).map (fun (c : Nat) => (⟨i, c⟩ : MPick)))) wI)) :: ([(100, none)] ++ wM))) (fun wI => wI ≤ (ways p e ((inState e 1).getD i 0)) ∧ (fun _ => True) wI) (fun wI => (ways p e ((inState e 1).getD i 0)) - wI) 0 ⟨Nat.zero_le _, ?_⟩ (le_of [(101, 100), (100, 999)] ?_ ?_ rfl) ?_; ((first | exact trivial | (simp only [i64ok, true_and, and_true, Int.toNat_natCast]; omega) | (simp only [i64ok, true_and, and_true, Int.toNat_natCast] at *; omega)))))
      · trivial
      · (repeat' (first | exact trivial | refine And.intro rfl ?_))
      · refine And.intro (congrArg (fun q => some (Blk.row 101 2 dPick cPick q)) ?_) ?_
        · simp
        · (repeat' (first | exact trivial | refine And.intro rfl ?_))
      rintro j ⟨hj, _⟩
      ((refine go_cond hn tb_ok rfl ?_ (fun hc => ?_) (fun hc => ?_); ((first | exact trivial | (simp only [i64ok, true_and, and_true, Int.toNat_natCast]; omega) | (simp only [i64ok, true_and, and_true, Int.toNat_natCast] at *; omega))); all_goals (try (((try simp only [decide_eq_true_eq, decide_eq_false_iff_not, Bool.not_eq_true', Bool.not_eq_false', Bool.not_eq_eq_eq_not, Bool.not_true, Bool.not_false, Int.not_lt, Int.not_le, Int.toNat_natCast, beq_iff_eq, beq_eq_false_iff_ne, ne_eq] at hc); (try (first | simp only [rest_iff, rest_iff', isReg_iff, isReg_iff', isVal_iff, isVal_iff', isIn_iff, isIn_iff', isChan_iff, isChan_iff'] at hc | simp only [(fields_iff _).1, (fields_iff _).2.1, (fields_iff _).2.2, isReg_iff, isReg_iff', isVal_iff, isVal_iff', isIn_iff, isIn_iff', isChan_iff, isChan_iff'] at hc | skip)); try (exfalso; omega))))))
      · ((refine go_lit hn tb_ok dPick cPick [(⟨i, j⟩ : MPick)] rfl ?_ rfl rfl rfl rfl rfl rfl rfl rfl rfl ?_; ((first | exact trivial | (simp only [i64ok, true_and, and_true, Int.toNat_natCast]; omega) | (simp only [i64ok, true_and, and_true, Int.toNat_natCast] at *; omega)))))
        ((refine go_app hn tb_ok [(⟨i, j⟩ : MPick)] rfl ?_ rfl rfl rfl rfl rfl rfl rfl rfl ?_ ?_; ((first | exact trivial | (simp only [i64ok, true_and, and_true, Int.toNat_natCast]; omega) | (simp only [i64ok, true_and, and_true, Int.toNat_natCast] at *; omega)))))
        · show (_ + 1) * 16 ≤ _
          rw [List.length_append, List.length_map, List.length_range]; omega
        ((refine go_stop hn tb_ok rfl ?_ ⟨j + 1, ⟨?_, ?_⟩, ?_, ?_⟩; ((first | exact trivial | (simp only [i64ok, true_and, and_true, Int.toNat_natCast]; omega) | (simp only [i64ok, true_and, and_true, Int.toNat_natCast] at *; omega)))))
        · omega
        · trivial
        · show ways p e ((inState e 1).getD i 0) - (j + 1) < ways p e ((inState e 1).getD i 0) - j; omega
        · ((refine le_of [(101, 49), (100, 999)] ?_ ?_ rfl; ((repeat' (first | exact trivial | refine And.intro rfl ?_))); ((repeat' (first | exact trivial | refine And.intro rfl ?_)))))
          refine And.intro (congrArg (fun q => some (Blk.row 101 2 dPick cPick q)) ?_) ?_
          · rw [range_map_next, List.append_assoc]
          · (repeat' (first | exact trivial | refine And.intro rfl ?_))
      have hje : j = ways p e ((inState e 1).getD i 0) := by omega
      subst hje
      ((refine go_stop hn tb_ok rfl ?_ ⟨i + 1, ⟨?_, ?_⟩, ?_, ?_⟩; ((first | exact trivial | (simp only [i64ok, true_and, and_true, Int.toNat_natCast]; omega) | (simp only [i64ok, true_and, and_true, Int.toNat_natCast] at *; omega)))))
      · omega
      · show (gatherN (brAt p e) (i + 1)).length ≤ 4 * (i + 1)
        rw [hnx, List.length_append]; omega
      · show (inState e 1).length - (i + 1) < (inState e 1).length - i; omega
      · ((refine le_of [(100, 101), (11, 999)] ?_ ?_ rfl; ((repeat' (first | exact trivial | refine And.intro rfl ?_))); ((repeat' (first | exact trivial | refine And.intro rfl ?_)))))
        refine And.intro (congrArg (fun q => some (Blk.row 101 2 dPick cPick q)) ?_) ?_
        · rw [hnx]; rfl
        · (repeat' (first | exact trivial | refine And.intro rfl ?_))
    · have hw : ways p e ((inState e 1).getD i 0) = 1 := by
        rw [ways, selReady, if_neg (show ¬ (insOf p e ((inState e 1).getD i 0)).op = 11 from hc)]; rfl
      clear hc
      ((refine go_loop hn tb_ok rfl ?_ (fun (wI : Nat) wT wM => ((41, .dat (.int .i64 wI)) :: (5, .own 101) :: ([] ++ wT), (101, some ((fun j => .row 101 2 dPick cPick (gatherN (brAt p e) i ++ (List.range j).map (fun (c : Nat) => (⟨i, c⟩ : MPick)))) wI)) :: ([(100, none)] ++ wM))) (fun wI => wI ≤ (ways p e ((inState e 1).getD i 0)) ∧ (fun _ => True) wI) (fun wI => (ways p e ((inState e 1).getD i 0)) - wI) 0 ⟨Nat.zero_le _, ?_⟩ (le_of [(101, 100), (100, 999)] ?_ ?_ rfl) ?_; ((first | exact trivial | (simp only [i64ok, true_and, and_true, Int.toNat_natCast]; omega) | (simp only [i64ok, true_and, and_true, Int.toNat_natCast] at *; omega)))))
      · trivial
      · (repeat' (first | exact trivial | refine And.intro rfl ?_))
      · refine And.intro (congrArg (fun q => some (Blk.row 101 2 dPick cPick q)) ?_) ?_
        · simp
        · (repeat' (first | exact trivial | refine And.intro rfl ?_))
      rintro j ⟨hj, _⟩
      ((refine go_cond hn tb_ok rfl ?_ (fun hc => ?_) (fun hc => ?_); ((first | exact trivial | (simp only [i64ok, true_and, and_true, Int.toNat_natCast]; omega) | (simp only [i64ok, true_and, and_true, Int.toNat_natCast] at *; omega))); all_goals (try (((try simp only [decide_eq_true_eq, decide_eq_false_iff_not, Bool.not_eq_true', Bool.not_eq_false', Bool.not_eq_eq_eq_not, Bool.not_true, Bool.not_false, Int.not_lt, Int.not_le, Int.toNat_natCast, beq_iff_eq, beq_eq_false_iff_ne, ne_eq] at hc); (try (first | simp only [rest_iff, rest_iff', isReg_iff, isReg_iff', isVal_iff, isVal_iff', isIn_iff, isIn_iff', isChan_iff, isChan_iff'] at hc | simp only [(fields_iff _).1, (fields_iff _).2.1, (fields_iff _).2.2, isReg_iff, isReg_iff', isVal_iff, isVal_iff', isIn_iff, isIn_iff', isChan_iff, isChan_iff'] at hc | skip)); try (exfalso; omega))))))
      · ((refine go_lit hn tb_ok dPick cPick [(⟨i, j⟩ : MPick)] rfl ?_ rfl rfl rfl rfl rfl rfl rfl rfl rfl ?_; ((first | exact trivial | (simp only [i64ok, true_and, and_true, Int.toNat_natCast]; omega) | (simp only [i64ok, true_and, and_true, Int.toNat_natCast] at *; omega)))))
        ((refine go_app hn tb_ok [(⟨i, j⟩ : MPick)] rfl ?_ rfl rfl rfl rfl rfl rfl rfl rfl ?_ ?_; ((first | exact trivial | (simp only [i64ok, true_and, and_true, Int.toNat_natCast]; omega) | (simp only [i64ok, true_and, and_true, Int.toNat_natCast] at *; omega)))))
        · show (_ + 1) * 16 ≤ _
          rw [List.length_append, List.length_map, List.length_range]; omega
        ((refine go_stop hn tb_ok rfl ?_ ⟨j + 1, ⟨?_, ?_⟩, ?_, ?_⟩; ((first | exact trivial | (simp only [i64ok, true_and, and_true, Int.toNat_natCast]; omega) | (simp only [i64ok, true_and, and_true, Int.toNat_natCast] at *; omega)))))
        · omega
        · trivial
        · show ways p e ((inState e 1).getD i 0) - (j + 1) < ways p e ((inState e 1).getD i 0) - j; omega
        · ((refine le_of [(101, 49), (100, 999)] ?_ ?_ rfl; ((repeat' (first | exact trivial | refine And.intro rfl ?_))); ((repeat' (first | exact trivial | refine And.intro rfl ?_)))))
          refine And.intro (congrArg (fun q => some (Blk.row 101 2 dPick cPick q)) ?_) ?_
          · rw [range_map_next, List.append_assoc]
          · (repeat' (first | exact trivial | refine And.intro rfl ?_))
      have hje : j = ways p e ((inState e 1).getD i 0) := by omega
      subst hje
      ((refine go_stop hn tb_ok rfl ?_ ⟨i + 1, ⟨?_, ?_⟩, ?_, ?_⟩; ((first | exact trivial | (simp only [i64ok, true_and, and_true, Int.toNat_natCast]; omega) | (simp only [i64ok, true_and, and_true, Int.toNat_natCast] at *; omega)))))
      · omega
      · show (gatherN (brAt p e) (i + 1)).length ≤ 4 * (i + 1)
        rw [hnx, List.length_append]; omega
      · show (inState e 1).length - (i + 1) < (inState e 1).length - i; omega
      · ((refine le_of [(100, 101), (11, 999)] ?_ ?_ rfl; ((repeat' (first | exact trivial | refine And.intro rfl ?_))); ((repeat' (first | exact trivial | refine And.intro rfl ?_)))))
        refine And.intro (congrArg (fun q => some (Blk.row 101 2 dPick cPick q)) ?_) ?_
        · rw [hnx]; rfl
        · (repeat' (first | exact trivial | refine And.intro rfl ?_))
  · have hie : i = (inState e 1).length := by omega
    subst hie
    ((refine go_ret hn tb_ok rfl ?_ ⟨_, .own 1, [(1, some (.row 101 2 dPick cPick (branchesM p e)))], [(1, 100)], rfl, rfl, ⟨?_, trivial⟩, rfl, rfl, rfl, .inl ⟨rfl, rfl⟩⟩; ((first | exact trivial | (simp only [i64ok, true_and, and_true, Int.toNat_natCast]; omega) | (simp only [i64ok, true_and, and_true, Int.toNat_natCast] at *; omega)))))
    rfl
def brAll (p : MProg) (e : MEng) : List MPick := if engOk p e = true then branchesM p e else []
theorem ct_impl_Branches (p : MProg) (e : MEng) (hs : (allPl e).length ≤ 1048576) : Ct Tryz.prog 16 [.dagg (cProg p), .dagg (cEng e)] [] (FreshPost 1 101 2 dPick cPick (brAll p e)) := by
  refine ct_bodyO (rs := [(.tmp 4, 34)]) tb_ok Tryz.func16 rfl rfl rfl (Nat.le_of_ble_eq_true rfl) rfl fun ho hm x hn hlent => ?_
  have hk := con_impl_EngOk p e hs
  ((refine go_con hn tb_ok rfl ?_ rfl [] ⟨_, ?_, rfl, ?_, ?_, ?_, ?_⟩; ((first | exact trivial | (simp only [i64ok, true_and, and_true, Int.toNat_natCast]; omega) | (simp only [i64ok, true_and, and_true, Int.toNat_natCast] at *; omega))); rotate_left; (assumption); (rfl); (first | exact .inl rfl | exact .inr (fun id hi => lk3_ok hi))))
  ((refine go_cond hn tb_ok rfl ?_ (fun hc => ?_) (fun hc => ?_); ((first | exact trivial | (simp only [i64ok, true_and, and_true, Int.toNat_natCast]; omega) | (simp only [i64ok, true_and, and_true, Int.toNat_natCast] at *; omega))); all_goals (try (((try simp only [decide_eq_true_eq, decide_eq_false_iff_not, Bool.not_eq_true', Bool.not_eq_false', Bool.not_eq_eq_eq_not, Bool.not_true, Bool.not_false, Int.not_lt, Int.not_le, Int.toNat_natCast, beq_iff_eq, beq_eq_false_iff_ne, ne_eq] at hc); (try (first | simp only [rest_iff, rest_iff', isReg_iff, isReg_iff', isVal_iff, isVal_iff', isIn_iff, isIn_iff', isChan_iff, isChan_iff'] at hc | simp only [(fields_iff _).1, (fields_iff _).2.1, (fields_iff _).2.2, isReg_iff, isReg_iff', isVal_iff, isVal_iff', isIn_iff, isIn_iff', isChan_iff, isChan_iff'] at hc | skip)); try (exfalso; omega))))))
  · ((refine go_ret hn tb_ok rfl ?_ ⟨_, _, [], [], rfl, rfl, trivial, rfl, rfl, rfl, .inr ⟨?_, rfl, rfl⟩⟩; ((first | exact trivial | (simp only [i64ok, true_and, and_true, Int.toNat_natCast]; omega) | (simp only [i64ok, true_and, and_true, Int.toNat_natCast] at *; omega)))))
    rw [brAll, if_neg (by rw [hc]; exact Bool.false_ne_true)]
  have hbr := ct_impl_branches p e hc
  have hyes : brAll p e = branchesM p e := if_pos hc
  rw [hyes]
  refine go_fresh hn tb_ok 200 [false, false] hbr rfl ?_ rfl rfl rfl rfl rfl ?_ ?_
  · (first | exact trivial | (simp only [i64ok, true_and, and_true, Int.toNat_natCast]; omega) | (simp only [i64ok, true_and, and_true, Int.toNat_natCast] at *; omega))
  · ((refine go_ret hn tb_ok rfl ?_ ⟨_, .own 1, [(1, some (.row 101 2 dPick cPick (branchesM p e)))], [(1, 200)], rfl, rfl, ⟨?_, trivial⟩, rfl, rfl, rfl, .inl ⟨rfl, rfl⟩⟩; ((first | exact trivial | (simp only [i64ok, true_and, and_true, Int.toNat_natCast]; omega) | (simp only [i64ok, true_and, and_true, Int.toNat_natCast] at *; omega)))))
    rfl
  · intro hnil
    ((refine go_ret hn tb_ok rfl ?_ ⟨_, _, [], [], rfl, rfl, trivial, rfl, rfl, rfl, .inr ⟨?_, rfl, rfl⟩⟩; ((first | exact trivial | (simp only [i64ok, true_and, and_true, Int.toNat_natCast]; omega) | (simp only [i64ok, true_and, and_true, Int.toNat_natCast] at *; omega)))))
    exact hnil
theorem brAll_le (p : MProg) (e : MEng) : (brAll p e).length ≤ 40 := by
  unfold brAll
  split
  · rename_i h
    have h1 := in_len e 1
    have h2 := (eng_len h).2
    have : ∀ i, i ≤ (inState e 1).length → (gatherN (brAt p e) i).length ≤ 4 * i := fun i => by
      induction i with
      | zero => intro _; simp [gatherN]
      | succ i ih =>
        intro hi
        rw [gather_next, List.length_append]
        have := br_len h (show i < (inState e 1).length by omega)
        have := ih (by omega)
        omega
    have := this _ (Nat.le_refl _)
    unfold branchesM
    omega
  · simp
end Go.Proofs.YtjmefaihkblliaaGreat.Ab
/- Programs and engines: from owned cells to data. Conditions: none. -/
namespace Go.Proofs.YtjmefaihkblliaaGreat.Wd
open Go.RowKit
open Go.Proofs.YtjmefaihkblliaaGreat.Ab (MCase MSelect MInstr MProc MProg MWaiter MChan MMutex MItem MGor MEng MPick)
set_option linter.unusedVariables false
set_option linter.unusedSimpArgs false
theorem bri_Case : Bri kCase Ab.cCase := bri_iso (bri_pair bri_bool (bri_pair bri_int (bri_pair bri_int (bri_pair bri_int bri_int)))) _
theorem bri_Select : Bri kSelect Ab.cSelect := bri_iso (bri_pair (bri_slice bri_Case (by decide) _ 5 rfl Ab.dCase) bri_int) _
theorem bri_Instr : Bri kInstr Ab.cInstr := bri_iso (bri_pair bri_int (bri_pair bri_int (bri_pair bri_int bri_int))) _
theorem bri_Proc : Bri kProc Ab.cProc := bri_iso (bri_slice bri_Instr (by decide) _ 4 rfl Ab.dInstr) _
theorem bri_Prog : Bri kProg Ab.cProg := bri_iso (bri_pair (bri_slice bri_int (by decide) _ 1 rfl 0) (bri_pair bri_int (bri_pair (bri_slice bri_Select (by decide) _ 2 rfl Ab.dSelect) (bri_slice bri_Proc (by decide) _ 1 rfl Ab.dProc)))) _
theorem bri_Waiter : Bri kWaiter Ab.cWaiter := bri_iso (bri_pair bri_int (bri_pair bri_int bri_int)) _
theorem bri_Chan : Bri kChan Ab.cChan := bri_iso (bri_pair bri_int (bri_pair (bri_slice bri_int (by decide) _ 1 rfl 0) (bri_pair (bri_slice bri_Waiter (by decide) _ 3 rfl Ab.dWaiter) (bri_pair (bri_slice bri_Waiter (by decide) _ 3 rfl Ab.dWaiter) bri_bool)))) _
theorem bri_Mutex : Bri kMutex Ab.cMutex := bri_iso (bri_pair bri_int (bri_slice bri_int (by decide) _ 1 rfl 0)) _
theorem bri_Item : Bri kItem Ab.cItem := bri_iso (bri_pair bri_int (bri_pair bri_int (bri_pair bri_int bri_bool))) _
theorem bri_Gor : Bri kGor Ab.cGor := bri_iso (bri_pair bri_int (bri_pair bri_int (bri_pair (bri_slice bri_int (by decide) _ 1 rfl 0) (bri_pair bri_int (bri_slice bri_Item (by decide) _ 4 rfl Ab.dItem))))) _
theorem bri_Eng : Bri kEng Ab.cEng := bri_iso (bri_pair (bri_slice bri_Gor (by decide) _ 5 rfl Ab.dGor) (bri_pair (bri_slice bri_Chan (by decide) _ 5 rfl Ab.dChan) (bri_slice bri_Mutex (by decide) _ 2 rfl Ab.dMutex))) _
theorem O_bel {α : Type} {d : Rp α} {w w1 : World} {bs : List Nat} {x : α} {cs : List Value} (hb : Below w.heap.size w w1) (ho : d.O w bs x cs) : d.O w1 bs x cs := d.O_keep (fun b hm => hb.block b (d.O_lt ho b hm)) ho
theorem rf_int' {S : Nat → Prop} {w : World} {v : Value} {k : IntKind} {n : Int} (h : Ab.Rf S w v (.int k n)) : v = .int k n := by cases h; rfl
theorem ibr_Pick : Ibr kPick Ab.cPick := by
  refine ⟨fun {S w x cs} h => ?_, fun x => rfl⟩
  obtain ⟨hl, h⟩ := h
  match cs, hl with
  | [u, v], _ =>
    have h0 := rf_int' (h 0 u _ rfl rfl)
    have h1 := rf_int' (h 1 v _ rfl rfl)
    subst h0; subst h1
    exact kPick_mkO w x
theorem all_le (e : MEng) : (Ab.allPl e).length ≤ cntEng e := by
  have h1 : ∀ i, i ≤ e.chans.length → (Ab.gatherN (Ab.chPl e) i).length ≤ cntChanS (e.chans.take i) := fun i => by
    induction i with
    | zero => intro _; simp [Ab.gatherN]
    | succ i ih =>
      intro hi
      have hlt : i < e.chans.length := by omega
      rw [Ab.gather_next, List.length_append, cntChanS_take hlt]
      have := ih (by omega)
      have hg : e.chans.getD i Ab.dChan = e.chans[i] := by rw [List.getD_eq_getElem?_getD, List.getElem?_eq_getElem hlt]; rfl
      have : (Ab.chPl e i).length ≤ cntChan e.chans[i] := by
        unfold Ab.chPl
        rw [hg, List.length_append, List.length_map, List.length_map, cntChan]
        omega
      omega
  have h2 : ∀ i, i ≤ e.mus.length → (Ab.gatherN (Ab.muPl e) i).length ≤ cntMutexS (e.mus.take i) := fun i => by
    induction i with
    | zero => intro _; simp [Ab.gatherN]
    | succ i ih =>
      intro hi
      have hlt : i < e.mus.length := by omega
      rw [Ab.gather_next, List.length_append, cntMutexS_take hlt]
      have := ih (by omega)
      have hg : e.mus.getD i Ab.dMutex = e.mus[i] := by rw [List.getD_eq_getElem?_getD, List.getElem?_eq_getElem hlt]; rfl
      have : (Ab.muPl e i).length ≤ cntMutex e.mus[i] := by
        unfold Ab.muPl
        rw [hg, List.length_map, cntMutex]
        omega
      omega
  have h3 := h1 _ (Nat.le_refl _)
  have h4 := h2 _ (Nat.le_refl _)
  rw [List.take_of_length_le (Nat.le_refl _)] at h3 h4
  unfold Ab.allPl cntEng
  rw [List.length_append]
  omega
end Go.Proofs.YtjmefaihkblliaaGreat.Wd
/- Branches, by both programs, as the law uses them. Conditions: bounds on the sizes. -/
namespace Go.Proofs.YtjmefaihkblliaaGreat.Wd
open Go.RowKit
open Go.Proofs.YtjmefaihkblliaaGreat.Ab (MCase MSelect MInstr MProc MProg MWaiter MChan MMutex MItem MGor MEng MPick)
set_option linter.unusedVariables false
set_option linter.unusedSimpArgs false
theorem spec_Branches_calls (a0 : MProg) (a1 : MEng) (cs0 cs1 : List Value) (w : World) {b0 b1 : List Nat} (h0 : kProg.O w b0 a0 cs0) (h1 : kEng.O w b1 a1 cs1) (hc0 : cntProg a0 ≤ 1048576) (hc1 : cntEng a1 ≤ 1048576) :
    Calls Tryz.prog 13 #[.agg cs0.toArray, .agg cs1.toArray] w fun e w' => Copied kPick 101 (Ab.brAll a0 a1) w e w' := by
  refine fresh_copied (Ab.ct_spec_Branches a0 a1 (Nat.le_trans (all_le a1) hc1)) ibr_Pick rfl (vs := [.agg cs0.toArray, .agg cs1.toArray]) rfl (fun j v l hv hl => ?_)
  match j with
  | 0 => cases hv; cases hl; exact bri_r2 bri_Prog h0 _
  | 1 => cases hv; cases hl; exact bri_r2 bri_Eng h1 _
  | j + 2 => cases hv
theorem impl_Branches_calls (a0 : MProg) (a1 : MEng) (cs0 cs1 : List Value) (w : World) {b0 b1 : List Nat} (h0 : kProg.O w b0 a0 cs0) (h1 : kEng.O w b1 a1 cs1) (hc0 : cntProg a0 ≤ 1048576) (hc1 : cntEng a1 ≤ 1048576) :
    Calls Tryz.prog 16 #[.agg cs0.toArray, .agg cs1.toArray] w fun e w' => Copied kPick 101 (Ab.brAll a0 a1) w e w' := by
  refine fresh_copied (Ab.ct_impl_Branches a0 a1 (Nat.le_trans (all_le a1) hc1)) ibr_Pick rfl (vs := [.agg cs0.toArray, .agg cs1.toArray]) rfl (fun j v l hv hl => ?_)
  match j with
  | 0 => cases hv; cases hl; exact bri_r2 bri_Prog h0 _
  | 1 => cases hv; cases hl; exact bri_r2 bri_Eng h1 _
  | j + 2 => cases hv
end Go.Proofs.YtjmefaihkblliaaGreat.Wd
/- Rows of one's own, written in place: what else stays. Marks: what a row holds behind a mark. Conditions: none. -/
namespace Go.Proofs.YtjmefaihkblliaaGreat.Wd
open Go.RowKit
set_option linter.unusedVariables false
set_option linter.unusedSimpArgs false
structure Chg (bs : List Nat) (w w' : World) : Prop where
  os : w'.os = w.os
  tape : w'.tape = w.tape
  output : w'.output = w.output
  size : w.heap.size ≤ w'.heap.size
  block : ∀ k, k < w.heap.size → k ∉ bs → w'.heap[k]? = w.heap[k]?
theorem Chg.refl (bs : List Nat) (w : World) : Chg bs w w := ⟨rfl, rfl, rfl, Nat.le_refl _, fun _ _ _ => rfl⟩
theorem Chg.of_below {bs : List Nat} {w w' : World} (h : Below w.heap.size w w') : Chg bs w w' := ⟨h.os, h.tape, h.output, h.size, fun k hk _ => h.block k hk⟩
theorem Chg.trans {bs : List Nat} {a b c : World} (h : Chg bs a b) (k : Chg bs b c) : Chg bs a c :=
  ⟨k.os.trans h.os, k.tape.trans h.tape, k.output.trans h.output, Nat.le_trans h.size k.size, fun j hj hn => (k.block j (Nat.lt_of_lt_of_le hj h.size) hn).trans (h.block j hj hn)⟩
theorem Chg.mono {bs bs' : List Nat} {a b : World} (h : Chg bs a b) (hs : ∀ k ∈ bs, k < a.heap.size → k ∈ bs') : Chg bs' a b := ⟨h.os, h.tape, h.output, h.size, fun k hk hn => h.block k hk (fun hm => hn (hs k hm hk))⟩
theorem Chg.below {bs : List Nat} {w0 w w' : World} (h : Chg bs w w') (hb : ∀ b ∈ bs, w0.heap.size ≤ b) (h0 : Below w0.heap.size w0 w) : Below w0.heap.size w0 w' :=
  ⟨h.os.trans h0.os, h.tape.trans h0.tape, h.output.trans h0.output, Nat.le_trans h0.size h.size, fun k hk => (h.block k (Nat.lt_of_lt_of_le hk h0.size) (fun hm => by have := hb k hm; omega)).trans (h0.block k hk)⟩
theorem Chg.cell {bs : List Nat} {w w' : World} (h : Chg bs w w') {b o : Nat} {v : Value} (ha : b ∉ bs) (hc : w.cell? ⟨b, o, none⟩ = some v) : w'.cell? ⟨b, o, none⟩ = some v := by
  have hb := World.block_lt_of_cell? w _ hc
  have := h.block b hb ha
  simp only [World.cell?, this] at hc ⊢
  exact hc
theorem Chg.O {α : Type} {d : Rp α} {bs b' : List Nat} {w w' : World} {x : α} {cs : List Value} (h : Chg bs w w') (hd : ∀ b ∈ b', b ∉ bs) (ho : d.O w b' x cs) : d.O w' b' x cs := d.O_keep (fun b hb => h.block b (d.O_lt ho b hb) (hd b hb)) ho
theorem Chg.own {α : Type} {d : Rp α} {e : Nat} {bs b' : List Nat} {w w' : World} {xs : List α} {v : Value} (h : Chg bs w w') (hd : ∀ b ∈ b', b ∉ bs) (ho : d.Own e w b' v xs) : d.Own e w' b' v xs := ho.keep (fun b hb => h.block b (ho.lt b hb) (hd b hb))
structure OwnX {α : Type} (d : Rp α) (e : Nat) (w : World) (g o c : Nat) (cur : Array Value) (bss : List (List Nat)) (xs : List α) : Prop where
  len : bss.length = xs.length
  blk : w.heap[g]? = some (.cells cur e (0, 0))
  size : o + c * d.sz ≤ cur.size
  le : xs.length ≤ c
  max : c ≤ 9223372036854775807
  el : ∀ i x b, xs[i]? = some x → bss[i]? = some b → d.O w b x (Rp.seg cur.toList (o + i * d.sz) d.sz)
theorem OwnX.own {α : Type} {d : Rp α} {e : Nat} {w : World} {g o c : Nat} {cur : Array Value} {bss : List (List Nat)} {xs : List α} (h : OwnX d e w g o c cur bss xs) : d.Own e w (g :: bss.flatten) (.slice (some ⟨g, o, none⟩) xs.length c) xs :=
  .inr ⟨g, o, c, cur, bss, rfl, rfl, h.len, h.blk, h.size, h.le, h.max, h.el⟩
theorem own_x {α : Type} {d : Rp α} {e : Nat} {w : World} {bs : List Nat} {v : Value} {xs : List α} (h : d.Own e w bs v xs) (hn : 0 < xs.length) : ∃ g o c cur bss, v = .slice (some ⟨g, o, none⟩) xs.length c ∧ bs = g :: List.flatten bss ∧ OwnX d e w g o c cur bss xs := by
  rcases h with ⟨rfl, _⟩ | ⟨g, o, c, cur, bss, h1, h2, h3, h4, h5, h6, h7, h8⟩
  · exact absurd hn (by simp)
  · exact ⟨g, o, c, cur, bss, h1, h2, h3, h4, h5, h6, h7, h8⟩
structure Hol (g lo hi e n : Nat) (bi : List Nat) (w w' : World) : Prop where
  os : w'.os = w.os
  tape : w'.tape = w.tape
  output : w'.output = w.output
  size : w.heap.size ≤ w'.heap.size
  shape : ∃ cur', w'.heap[g]? = some (.cells cur' e (0, 0)) ∧ cur'.size = n
  out : ∀ j, (j < lo ∨ hi ≤ j) → w'.cell? ⟨g, j, none⟩ = w.cell? ⟨g, j, none⟩
  block : ∀ k, k < w.heap.size → k ≠ g → k ∉ bi → w'.heap[k]? = w.heap[k]?
theorem Hol.refl {g lo hi e : Nat} {bi : List Nat} {w : World} {cur : Array Value} (h : w.heap[g]? = some (.cells cur e (0, 0))) : Hol g lo hi e cur.size bi w w := ⟨rfl, rfl, rfl, Nat.le_refl _, ⟨cur, h, rfl⟩, fun _ _ => rfl, fun _ _ _ _ => rfl⟩
theorem Hol.set {g lo hi e n : Nat} {bi : List Nat} {w w' : World} {j : Nat} (h1 : lo ≤ j) (h2 : j < hi) (u : Value) (h : Hol g lo hi e n bi w w') : Hol g lo hi e n bi w (w'.setCell ⟨g, j, none⟩ u) := by
  obtain ⟨cur, hc, hs⟩ := h.shape
  have hblk : (w'.setCell ⟨g, j, none⟩ u).heap[g]? = some (.cells (cur.setIfInBounds j u) e (0, 0)) := putCells_blk hc j [u]
  refine ⟨h.os, h.tape, h.output, Nat.le_trans h.size (by simp), ⟨_, hblk, by simpa using hs⟩, fun k hk => ?_, fun k hk hg hb => (Below.heap_setCell _ _ _ _ hg).trans (h.block k hk hg hb)⟩
  rw [← h.out k hk]
  simp only [World.cell?, hblk, hc]
  rw [Array.getElem?_setIfInBounds_ne (by omega)]
theorem Hol.chg {g lo hi e n : Nat} {bi bs : List Nat} {w w1 w2 : World} (hc : Chg bs w1 w2) (hg : g ∉ bs) (hb : ∀ b ∈ bs, b ∈ bi ∨ w.heap.size ≤ b) (h : Hol g lo hi e n bi w w1) : Hol g lo hi e n bi w w2 := by
  obtain ⟨cur, hcu, hs⟩ := h.shape
  have hlt : g < w1.heap.size := (Array.getElem?_eq_some_iff.1 hcu).1
  have hblk := hc.block g hlt hg
  refine ⟨hc.os.trans h.os, hc.tape.trans h.tape, hc.output.trans h.output, Nat.le_trans h.size hc.size, ⟨cur, hblk.trans hcu, hs⟩, fun k hk => ?_, fun k hk hkg hkb => (hc.block k (Nat.lt_of_lt_of_le hk h.size) (fun hm => ?_)).trans (h.block k hk hkg hkb)⟩
  · rw [← h.out k hk]; simp only [World.cell?, hblk]
  · rcases hb k hm with h1 | h1
    · exact hkb h1
    · omega
theorem Hol.alloc {g lo hi e n : Nat} {bi : List Nat} {w w1 : World} (o : Obj) (h : Hol g lo hi e n bi w w1) : Hol g lo hi e n bi w (w1.alloc o) := by
  have hc : Chg [] w1 (w1.alloc o) := ⟨rfl, rfl, rfl, by simp, fun k hk _ => Below.heap_alloc _ _ _ hk⟩
  exact h.chg hc (by simp) (fun b hb => by cases hb)
theorem Hol.drew {g lo hi e n : Nat} {bi : List Nat} {w w1 : World} (h : Hol g lo hi e n bi w w1) : Hol g lo hi e n bi w w1.drew := ⟨h.os, h.tape, h.output, h.size, h.shape, h.out, h.block⟩
theorem flat_disj : ∀ {bss : List (List Nat)}, bss.flatten.Nodup → ∀ {i j : Nat} (hi : i < bss.length) (hj : j < bss.length), i ≠ j → ∀ {q : Nat}, q ∈ bss[i] → q ∈ bss[j] → False
  | [], _, i, j, hi, _, _, _, _, _ => by simp at hi
  | b :: bss, h, i, j, hi, hj, hij, q, h1, h2 => by
    rw [List.flatten_cons, List.nodup_append] at h
    obtain ⟨_, hn, hd⟩ := h
    rcases i with _ | i <;> rcases j with _ | j
    · exact hij rfl
    · exact hd q h1 q (List.mem_flatten.2 ⟨_, List.getElem_mem _, by simpa using h2⟩) rfl
    · exact hd q h2 q (List.mem_flatten.2 ⟨_, List.getElem_mem _, by simpa using h1⟩) rfl
    · exact flat_disj hn (i := i) (j := j) (by simpa using hi) (by simpa using hj) (by omega) (by simpa using h1) (by simpa using h2)
theorem own_set {α : Type} {d : Rp α} {e : Nat} {w w' : World} {g o c : Nat} {cur : Array Value} {bss : List (List Nat)} {xs : List α} (h : OwnX d e w g o c cur bss xs) (hnd : (g :: bss.flatten).Nodup) {i : Nat} (hi : i < xs.length) (hi' : i < bss.length)
    (hol : Hol g (o + i * d.sz) (o + i * d.sz + d.sz) e cur.size bss[i] w w') {y : α} {cs : List Value} (hy : d.O w' bss[i] y cs) (hcs : ∀ j u, cs[j]? = some u → w'.cell? ⟨g, o + i * d.sz + j, none⟩ = some u) :
    ∃ cur', OwnX d e w' g o c cur' bss (xs.set i y) ∧ cur'.size = cur.size := by
  obtain ⟨cur', hblk, hsz⟩ := hol.shape
  have hge : ∀ j, w'.cell? ⟨g, j, none⟩ = cur'[j]? := fun j => by simp [World.cell?, hblk]
  have hge0 : ∀ j, w.cell? ⟨g, j, none⟩ = cur[j]? := fun j => by simp [World.cell?, h.blk]
  refine ⟨cur', ⟨by rw [List.length_set]; exact h.len, hblk, by rw [hsz]; exact h.size, by rw [List.length_set]; exact h.le, h.max, fun k x b hk hb => ?_⟩, hsz⟩
  by_cases hki : k = i
  · subst hki
    rw [List.getElem?_set_self hi] at hk
    rw [List.getElem?_eq_getElem hi'] at hb
    cases hk; cases hb
    have hl := d.K_len (d.O_K hy)
    have : Rp.seg cur'.toList (o + k * d.sz) d.sz = cs := by
      apply List.ext_getElem?
      intro j
      by_cases hj : j < d.sz
      · unfold Rp.seg
        rw [List.getElem?_take_of_lt hj, List.getElem?_drop, Array.getElem?_toList, ← hge]
        rw [hcs j _ (List.getElem?_eq_getElem (by omega)), List.getElem?_eq_getElem (by omega)]
      · rw [List.getElem?_eq_none (by omega : cs.length ≤ j)]
        unfold Rp.seg
        rw [List.getElem?_eq_none (by rw [List.length_take]; omega)]
    rw [this]; exact hy
  · rw [List.getElem?_set_ne (by omega)] at hk
    have hold := h.el k x b hk hb
    have hkl := (List.getElem?_eq_some_iff.1 hk).1
    have hkb := (List.getElem?_eq_some_iff.1 hb).1
    have hseg : Rp.seg cur'.toList (o + k * d.sz) d.sz = Rp.seg cur.toList (o + k * d.sz) d.sz := seg_ext fun j hj => by
      rw [Array.getElem?_toList, Array.getElem?_toList, ← hge, ← hge0]
      apply hol.out
      rcases Nat.lt_or_gt_of_ne hki with hlt | hgt
      · left; have := Nat.mul_le_mul_right d.sz (Nat.succ_le_of_lt hlt); rw [Nat.succ_mul] at this; omega
      · right; have := Nat.mul_le_mul_right d.sz (Nat.succ_le_of_lt hgt); rw [Nat.succ_mul] at this; omega
    rw [hseg]
    refine d.O_keep (fun q hq => hol.block q (d.O_lt hold q hq) ?_ ?_) hold
    · rintro rfl
      exact (List.nodup_cons.1 hnd).1 (List.mem_flatten.2 ⟨b, List.mem_of_getElem? hb, hq⟩)
    · intro hqi
      have hfl := (List.nodup_cons.1 hnd).2
      obtain ⟨hbl, hbe⟩ := List.getElem?_eq_some_iff.1 hb
      rw [← hbe] at hq
      exact flat_disj hfl hkb hi' hki hq hqi
theorem own_set_chg {w w' : World} {g lo hi e n : Nat} {bss : List (List Nat)} {i : Nat} (hi' : i < bss.length) (hol : Hol g lo hi e n bss[i] w w') : Chg (g :: bss.flatten) w w' :=
  ⟨hol.os, hol.tape, hol.output, hol.size, fun k hk hn => hol.block k hk (fun h => hn (by rw [h]; exact List.mem_cons_self)) (fun h => hn (List.mem_cons_of_mem _ (List.mem_flatten.2 ⟨_, List.getElem_mem hi', h⟩)))⟩
theorem own_set2 {α : Type} {d : Rp α} {e : Nat} {w w' : World} {g o c : Nat} {cur : Array Value} {bss : List (List Nat)} {xs : List α} (h : OwnX d e w g o c cur bss xs) (hnd : (g :: bss.flatten).Nodup) {i : Nat} (hi : i < xs.length) (hi' : i < bss.length) {lo hi2 : Nat}
    (hol : Hol g lo hi2 e cur.size bss[i] w w') (hlo : o + i * d.sz = lo) (hhi : lo + d.sz = hi2) {y : α} {cs : List Value} (hy : d.O w' bss[i] y cs) (hcs : ∀ j u, cs[j]? = some u → w'.cell? ⟨g, lo + j, none⟩ = some u) :
    ∃ cur', OwnX d e w' g o c cur' bss (xs.set i y) ∧ cur'.size = cur.size := by
  subst hlo; subst hhi
  exact own_set h hnd hi hi' hol hy hcs
theorem Chg.setc {S : List Nat} {w W : World} {g j : Nat} (hg : g ∈ S) (u : Value) (h : Chg S w W) : Chg S w (W.setCell ⟨g, j, none⟩ u) :=
  ⟨h.os, h.tape, h.output, Nat.le_trans h.size (by simp), fun k hk hn => (Below.heap_setCell _ _ _ _ (fun he => hn (by rw [he]; exact hg))).trans (h.block k hk hn)⟩
theorem Chg.via {S bs : List Nat} {w W W2 : World} (hc : Chg bs W W2) (hs : ∀ b ∈ bs, b ∈ S) (h : Chg S w W) : Chg S w W2 := h.trans (hc.mono fun k hk _ => hs k hk)
theorem Chg.alloc {S : List Nat} {w W : World} (o : Obj) (h : Chg S w W) : Chg S w (W.alloc o) := h.trans ⟨rfl, rfl, rfl, by simp, fun k hk _ => Below.heap_alloc _ _ _ hk⟩
theorem seg_cell {w : World} {g e a n : Nat} {cur : Array Value} {cs : List Value} (h : w.heap[g]? = some (.cells cur e (0, 0))) (hs : Rp.seg cur.toList a n = cs) {j : Nat} {u : Value} (hj : cs[j]? = some u) : w.cell? ⟨g, a + j, none⟩ = some u := by
  rw [← hs] at hj
  have := Rp.seg_get hj
  simp only [World.cell?, h]
  simpa using this
theorem drop_at {α : Type} {xs ys : List α} {i : Nat} (h : ys.drop i = xs.drop i) (hi : i < xs.length) (hi2 : i < ys.length) : ys[i] = xs[i] := by
  rw [List.drop_eq_getElem_cons hi, List.drop_eq_getElem_cons hi2] at h
  exact (List.cons.inj h).1
theorem drop_next {α : Type} {xs ys : List α} {i : Nat} (h : ys.drop i = xs.drop i) : ys.drop (i + 1) = xs.drop (i + 1) := by
  have := congrArg (List.drop 1) h
  simpa [List.drop_drop, Nat.add_comm] using this
theorem sub_flat : ∀ {bss : List (List Nat)} {i : Nat} (h : i < bss.length), (bss[i]).Sublist bss.flatten
  | b :: bss, 0, _ => by simp
  | b :: bss, i + 1, h => by
    rw [List.flatten_cons]
    exact (sub_flat (bss := bss) (i := i) (by simpa using h)).trans (List.sublist_append_right _ _)
theorem nd2 {a b : List Nat} (h : (a ++ b).Nodup) : a.Nodup ∧ b.Nodup ∧ (∀ k ∈ a, k ∉ b) ∧ ∀ k ∈ b, k ∉ a := by
  rw [List.nodup_append] at h
  exact ⟨h.1, h.2.1, fun k h1 h2 => h.2.2 k h1 k h2 rfl, fun k h1 h2 => h.2.2 k h2 k h1 rfl⟩
theorem Rp.Own.below {α : Type} {d : Rp α} {e : Nat} {w w1 : World} {bs : List Nat} {v : Value} {xs : List α} (h : d.Own e w bs v xs) (hb : Below w.heap.size w w1) : d.Own e w1 bs v xs := h.keep fun b hm => hb.block b (h.lt b hm)
theorem AppRes.chg {α : Type} {d : Rp α} {e : Nat} {w w' : World} {bs bl bs' : List Nat} {v v' : Value} {zs : List α} (h : AppRes d e w bs bl v zs v' w' bs') : Chg bs w w' := ⟨h.os, h.tape, h.output, h.size, h.block⟩
theorem settleC {P : Program} {f : Nat} {a : Array Value} {w : World} {Q : Ending → World → Prop} (h : ∀ W, W = w → Calls P f a W Q) : Calls P f a w Q := h w rfl
def FlatB {α : Type} (d : Rp α) : Prop := ∀ w bs x cs, d.O w bs x cs → bs = []
theorem flatb_scalar {α : Type} (enc : α → Value) (h1 : ∀ x, (enc x).oneCell' = true) : FlatB (Rp.scalar enc h1) := fun _ _ _ _ h => h.1
theorem flatb_int : FlatB Rp.int := flatb_scalar _ _
theorem flatb_bool : FlatB Rp.bool := flatb_scalar _ _
theorem flatb_pair {α β : Type} {a : Rp α} {b : Rp β} (ha : FlatB a) (hb : FlatB b) : FlatB (Rp.pair a b) := by
  rintro w bs x cs ⟨c0, c1, b0, b1, rfl, rfl, h0, h1⟩
  rw [ha _ _ _ _ h0, hb _ _ _ _ h1]; rfl
theorem flatb_iso {α β : Type} {d : Rp α} (f : β → α) (hd : FlatB d) : FlatB (Rp.iso d f) := fun w bs x cs h => hd w bs (f x) cs h
theorem cells_nil {P : Nat → Value → Prop} : ∀ j u, ([] : List Value)[j]? = some u → P j u := fun j u h => by simp at h
theorem cells_cons {P : Nat → Value → Prop} {u : Value} {us : List Value} (h : P 0 u) (hs : ∀ j v, us[j]? = some v → P (j + 1) v) : ∀ j v, (u :: us)[j]? = some v → P j v
  | 0, v, hj => by simp at hj; subst hj; exact h
  | j + 1, v, hj => hs j v (by simpa using hj)
/-! ### marks -/
def MkS {α : Type} (M : α → Int → Int → Prop) : List α → Int → Int → Prop
  | [], k, k' => k' = k
  | x :: xs, k, k' => ∃ k1, M x k k1 ∧ MkS M xs k1 k'
theorem MkS_snoc {α : Type} {M : α → Int → Int → Prop} : ∀ {xs : List α} {x : α} {k k1 k2 : Int}, MkS M xs k k1 → M x k1 k2 → MkS M (xs ++ [x]) k k2
  | [], x, k, k1, k2, h, h2 => by cases h; exact ⟨k2, h2, rfl⟩
  | y :: xs, x, k, k1, k2, ⟨k0, h0, h⟩, h2 => ⟨k0, h0, MkS_snoc h h2⟩
theorem MkS_drop {α : Type} {M : α → Int → Int → Prop} {xs : List α} {i : Nat} (hi : i < xs.length) {k k' : Int} (h : MkS M (xs.drop i) k k') : ∃ k1, M xs[i] k k1 ∧ MkS M (xs.drop (i + 1)) k1 k' := by
  rw [List.drop_eq_getElem_cons hi] at h
  exact h
theorem take_set {α : Type} {ys : List α} {i : Nat} {y : α} (hi : i < ys.length) : (ys.set i y).take (i + 1) = ys.take i ++ [y] := by
  rw [List.take_succ_eq_append_getElem (by simpa using hi), List.take_set_of_le (Nat.le_refl i), List.getElem_set_self]
theorem drop_set {α : Type} {ys : List α} {i : Nat} {y : α} : (ys.set i y).drop (i + 1) = ys.drop (i + 1) := by
  rw [List.drop_set_of_lt (by omega)]
def MkInt (x k k' : Int) : Prop := x = k ∧ k' = k + 1
end Go.Proofs.YtjmefaihkblliaaGreat.Wd
/- Marks: what a row holds behind a mark, and how it is told. Conditions: bounds on the sizes. -/
namespace Go.Proofs.YtjmefaihkblliaaGreat.Wd
open Go.RowKit
open Go.Proofs.YtjmefaihkblliaaGreat.Ab (MCase MSelect MInstr MProc MProg MWaiter MChan MMutex MItem MGor MEng MPick)
set_option linter.unusedVariables false
set_option linter.unusedSimpArgs false
set_option maxHeartbeats 4000000
set_option maxRecDepth 100000
theorem flat_Item : Flat kItem := flat_iso _ (flat_pair flat_int (flat_pair flat_int (flat_pair flat_int flat_bool)))
theorem flat_Waiter : Flat kWaiter := flat_iso _ (flat_pair flat_int (flat_pair flat_int flat_int))
theorem flat_Case : Flat kCase := flat_iso _ (flat_pair flat_bool (flat_pair flat_int (flat_pair flat_int (flat_pair flat_int flat_int))))
theorem flat_Instr : Flat kInstr := flat_iso _ (flat_pair flat_int (flat_pair flat_int (flat_pair flat_int flat_int)))
theorem flat_Pick : Flat kPick := flat_iso _ (flat_pair flat_int flat_int)
theorem flatb_Item : FlatB kItem := flatb_iso _ (flatb_pair flatb_int (flatb_pair flatb_int (flatb_pair flatb_int flatb_bool)))
theorem flatb_Waiter : FlatB kWaiter := flatb_iso _ (flatb_pair flatb_int (flatb_pair flatb_int flatb_int))
theorem flatb_Case : FlatB kCase := flatb_iso _ (flatb_pair flatb_bool (flatb_pair flatb_int (flatb_pair flatb_int (flatb_pair flatb_int flatb_int))))
theorem flatb_Instr : FlatB kInstr := flatb_iso _ (flatb_pair flatb_int (flatb_pair flatb_int (flatb_pair flatb_int flatb_int)))
theorem flatb_Pick : FlatB kPick := flatb_iso _ (flatb_pair flatb_int flatb_int)
def MkItem (x : MItem) (k k' : Int) : Prop := x.kind = k ∧ x.obj = k + 1 ∧ x.val = k + 1 + 1 ∧ x.ok = ((k + 1 + 1 + 1) % 3 == 0) ∧ k' = k + 1 + 1 + 1 + 1
def MkWaiter (x : MWaiter) (k k' : Int) : Prop := x.g = k ∧ x.cas = k + 1 ∧ x.val = k + 1 + 1 ∧ k' = k + 1 + 1 + 1
def MkGor (x : MGor) (k k' : Int) : Prop := ∃ m0, ∃ m1, x.proc = k ∧ x.pc = k + 1 ∧ MkS MkInt x.regs (k + 1 + 1) m0 ∧ x.state = m0 ∧ MkS MkItem x.trace (m0 + 1) m1 ∧ k' = m1
def MkChan (x : MChan) (k k' : Int) : Prop := ∃ m0, ∃ m1, ∃ m2, x.cap = k ∧ MkS MkInt x.buf (k + 1) m0 ∧ MkS MkWaiter x.sends (m0) m1 ∧ MkS MkWaiter x.recvs (m1) m2 ∧ x.closed = ((m2) % 3 == 0) ∧ k' = m2 + 1
def MkMutex (x : MMutex) (k k' : Int) : Prop := ∃ m0, x.owner = k ∧ MkS MkInt x.wait (k + 1) m0 ∧ k' = m0
def MkCase (x : MCase) (k k' : Int) : Prop := x.send = ((k) % 3 == 0) ∧ x.chan = k + 1 ∧ x.reg = k + 1 + 1 ∧ x.ok = k + 1 + 1 + 1 ∧ x.to = k + 1 + 1 + 1 + 1 ∧ k' = k + 1 + 1 + 1 + 1 + 1
def MkInstr (x : MInstr) (k k' : Int) : Prop := x.op = k ∧ x.a = k + 1 ∧ x.b = k + 1 + 1 ∧ x.c = k + 1 + 1 + 1 ∧ k' = k + 1 + 1 + 1 + 1
def MkSelect (x : MSelect) (k k' : Int) : Prop := ∃ m0, MkS MkCase x.cases (k) m0 ∧ x.els = m0 ∧ k' = m0 + 1
def MkProc (x : MProc) (k k' : Int) : Prop := ∃ m0, MkS MkInstr x.code (k) m0 ∧ k' = m0
def MkPick (x : MPick) (k k' : Int) : Prop := x.g = k ∧ x.c = k + 1 ∧ k' = k + 1 + 1
def mcGor (x : MGor) : Nat := 3 + x.regs.length + x.trace.length * 4
def mcGorS : List MGor → Nat
  | [] => 0
  | x :: xs => mcGor x + mcGorS xs
theorem mcGorS_take : ∀ {xs : List MGor} {i : Nat} (h : i < xs.length), mcGorS (xs.take (i + 1)) = mcGorS (xs.take i) + mcGor xs[i]
  | x :: xs, 0, _ => by simp [mcGorS]
  | x :: xs, i + 1, h => by
    have := mcGorS_take (xs := xs) (i := i) (Nat.lt_of_succ_lt_succ h)
    simp only [List.take_succ_cons, mcGorS, List.getElem_cons_succ] at this ⊢
    omega
theorem mcGorS_le : ∀ (xs : List MGor), mcGorS xs ≤ 4 * (xs.length + cntGorS xs)
  | [] => Nat.zero_le _
  | x :: xs => by
    have := mcGorS_le xs
    simp only [mcGorS, mcGor, cntGorS, cntGor, List.length_cons]
    omega
theorem mcGorS_takele : ∀ {xs : List MGor} {i : Nat}, mcGorS (xs.take i) ≤ mcGorS xs
  | [], i => by simp
  | x :: xs, 0 => Nat.zero_le _
  | x :: xs, i + 1 => Nat.add_le_add_left (mcGorS_takele (xs := xs)) _
def mcChan (x : MChan) : Nat := 2 + x.buf.length + x.sends.length * 3 + x.recvs.length * 3
def mcChanS : List MChan → Nat
  | [] => 0
  | x :: xs => mcChan x + mcChanS xs
theorem mcChanS_take : ∀ {xs : List MChan} {i : Nat} (h : i < xs.length), mcChanS (xs.take (i + 1)) = mcChanS (xs.take i) + mcChan xs[i]
  | x :: xs, 0, _ => by simp [mcChanS]
  | x :: xs, i + 1, h => by
    have := mcChanS_take (xs := xs) (i := i) (Nat.lt_of_succ_lt_succ h)
    simp only [List.take_succ_cons, mcChanS, List.getElem_cons_succ] at this ⊢
    omega
theorem mcChanS_le : ∀ (xs : List MChan), mcChanS xs ≤ 3 * (xs.length + cntChanS xs)
  | [] => Nat.zero_le _
  | x :: xs => by
    have := mcChanS_le xs
    simp only [mcChanS, mcChan, cntChanS, cntChan, List.length_cons]
    omega
theorem mcChanS_takele : ∀ {xs : List MChan} {i : Nat}, mcChanS (xs.take i) ≤ mcChanS xs
  | [], i => by simp
  | x :: xs, 0 => Nat.zero_le _
  | x :: xs, i + 1 => Nat.add_le_add_left (mcChanS_takele (xs := xs)) _
def mcMutex (x : MMutex) : Nat := 1 + x.wait.length
def mcMutexS : List MMutex → Nat
  | [] => 0
  | x :: xs => mcMutex x + mcMutexS xs
theorem mcMutexS_take : ∀ {xs : List MMutex} {i : Nat} (h : i < xs.length), mcMutexS (xs.take (i + 1)) = mcMutexS (xs.take i) + mcMutex xs[i]
  | x :: xs, 0, _ => by simp [mcMutexS]
  | x :: xs, i + 1, h => by
    have := mcMutexS_take (xs := xs) (i := i) (Nat.lt_of_succ_lt_succ h)
    simp only [List.take_succ_cons, mcMutexS, List.getElem_cons_succ] at this ⊢
    omega
theorem mcMutexS_le : ∀ (xs : List MMutex), mcMutexS xs ≤ 1 * (xs.length + cntMutexS xs)
  | [] => Nat.zero_le _
  | x :: xs => by
    have := mcMutexS_le xs
    simp only [mcMutexS, mcMutex, cntMutexS, cntMutex, List.length_cons]
    omega
theorem mcMutexS_takele : ∀ {xs : List MMutex} {i : Nat}, mcMutexS (xs.take i) ≤ mcMutexS xs
  | [], i => by simp
  | x :: xs, 0 => Nat.zero_le _
  | x :: xs, i + 1 => Nat.add_le_add_left (mcMutexS_takele (xs := xs)) _
def mcSelect (x : MSelect) : Nat := 1 + x.cases.length * 5
def mcSelectS : List MSelect → Nat
  | [] => 0
  | x :: xs => mcSelect x + mcSelectS xs
theorem mcSelectS_take : ∀ {xs : List MSelect} {i : Nat} (h : i < xs.length), mcSelectS (xs.take (i + 1)) = mcSelectS (xs.take i) + mcSelect xs[i]
  | x :: xs, 0, _ => by simp [mcSelectS]
  | x :: xs, i + 1, h => by
    have := mcSelectS_take (xs := xs) (i := i) (Nat.lt_of_succ_lt_succ h)
    simp only [List.take_succ_cons, mcSelectS, List.getElem_cons_succ] at this ⊢
    omega
theorem mcSelectS_le : ∀ (xs : List MSelect), mcSelectS xs ≤ 5 * (xs.length + cntSelectS xs)
  | [] => Nat.zero_le _
  | x :: xs => by
    have := mcSelectS_le xs
    simp only [mcSelectS, mcSelect, cntSelectS, cntSelect, List.length_cons]
    omega
theorem mcSelectS_takele : ∀ {xs : List MSelect} {i : Nat}, mcSelectS (xs.take i) ≤ mcSelectS xs
  | [], i => by simp
  | x :: xs, 0 => Nat.zero_le _
  | x :: xs, i + 1 => Nat.add_le_add_left (mcSelectS_takele (xs := xs)) _
def mcProc (x : MProc) : Nat := 0 + x.code.length * 4
def mcProcS : List MProc → Nat
  | [] => 0
  | x :: xs => mcProc x + mcProcS xs
theorem mcProcS_take : ∀ {xs : List MProc} {i : Nat} (h : i < xs.length), mcProcS (xs.take (i + 1)) = mcProcS (xs.take i) + mcProc xs[i]
  | x :: xs, 0, _ => by simp [mcProcS]
  | x :: xs, i + 1, h => by
    have := mcProcS_take (xs := xs) (i := i) (Nat.lt_of_succ_lt_succ h)
    simp only [List.take_succ_cons, mcProcS, List.getElem_cons_succ] at this ⊢
    omega
theorem mcProcS_le : ∀ (xs : List MProc), mcProcS xs ≤ 4 * (xs.length + cntProcS xs)
  | [] => Nat.zero_le _
  | x :: xs => by
    have := mcProcS_le xs
    simp only [mcProcS, mcProc, cntProcS, cntProc, List.length_cons]
    omega
theorem mcProcS_takele : ∀ {xs : List MProc} {i : Nat}, mcProcS (xs.take i) ≤ mcProcS xs
  | [], i => by simp
  | x :: xs, 0 => Nat.zero_le _
  | x :: xs, i + 1 => Nat.add_le_add_left (mcProcS_takele (xs := xs)) _
theorem markIntS_calls (xs : List Int) (A : Option Addr) (c : Nat) (k : Int) (w : World) (bs : List Nat) (ho : Rp.int.Own 3 w bs (.slice A xs.length c) xs) (hnd : bs.Nodup) (hl : xs.length ≤ 67108864) (hk0 : 0 ≤ k) (hk : k ≤ 1099511627776) :
    Calls Tryz.prog 36 #[.slice A xs.length c, .int .i64 k] w fun e w' => ∃ (xs' : List Int), e = .returned (.int .i64 (k + ((xs.length : Nat) : Int))) ∧ xs'.length = xs.length ∧ Rp.int.Own 3 w' bs (.slice A xs.length c) xs' ∧ MkS MkInt xs' k (k + ((xs.length : Nat) : Int)) ∧ Chg bs w w' := by
  by_cases hn : xs.length = 0
  · have h0 : xs = [] := List.eq_nil_of_length_eq_zero hn
    subst h0
    have HO := Lib.hid ho; clear ho
    go_enter Tryz.func36, Tryz.ntmps36
    go_wp2
    go_loopg [1, 5] 1 (fun kq v1 v5 w' => v5 = .int .i64 0 ∧ v1 = .int .i64 k ∧ kq = 1 ∧ w' = w)
    case atStart => exact ⟨rfl, rfl, rfl, rfl⟩
    case round =>
      obtain ⟨rfl, rfl, rfl, rfl⟩ := hrel
      go_wp2
      go_ret
      exact ⟨[], by simp, rfl, HO.out, by simp [MkS], Chg.refl _ _⟩
  · obtain ⟨g, o, c', cur, bss, hv, rfl, hX⟩ := own_x ho (by omega)
    cases hv
    obtain ⟨N, hN⟩ : ∃ N, xs.length = N := ⟨_, rfl⟩
    rw [hN] at hl ho ⊢
    have HO0 := Lib.hid ho; clear ho hX hn
    have HND := Lib.hid hnd; clear hnd
    go_enter Tryz.func36, Tryz.ntmps36
    go_wp2
    go_loopg [1, 5] (N + 1) (fun kq v1 v5 w' => ∃ (i : Nat) (k1 : Int) (ys : List Int), v5 = .int .i64 i ∧ v1 = .int .i64 k1 ∧ i + kq = N + 1 ∧ i ≤ N ∧ k1 = k + ((i : Nat) : Int) ∧ Hid (ys.length = N ∧ Rp.int.Own 3 w' (g :: bss.flatten) (.slice (some ⟨g, o, none⟩) N c) ys ∧ MkS MkInt (ys.take i) k k1 ∧ Chg (g :: bss.flatten) w w'))
    case atStart => exact ⟨0, k, xs, rfl, rfl, by omega, by omega, by omega, Lib.hid ⟨hN, HO0.out, rfl, Chg.refl _ _⟩⟩
    case round =>
      obtain ⟨i, k1, ys, rfl, rfl, hi, hi2, hk1, HH⟩ := hrel
      obtain ⟨gk, rfl⟩ : ∃ m, gk = m + 1 := ⟨gk - 1, by omega⟩
      by_cases hlt : i < N
      · obtain ⟨hyl, hOw, hMk, hCh⟩ := HH.out
        obtain ⟨g', o', c2, cur', bss', hv, hbs, hX⟩ := own_x hOw (by omega)
        simp only [Value.slice.injEq, Option.some.injEq, Addr.mk.injEq, List.cons.injEq] at hv hbs
        obtain ⟨⟨rfl, rfl, -⟩, -, rfl⟩ := hv
        have hbf := hbs.2
        have hil : i < bss'.length := by rw [hX.len]; omega
        have hsz : o + c * 1 ≤ cur'.size := hX.size
        have hcn : ys.length ≤ c := hX.le
        have zg : g < wr.heap.size := (Array.getElem?_eq_some_iff.1 hX.blk).1
        obtain ⟨u0x, hc0, hf0⟩ : ∃ u, wr.cell? ⟨g, o + i, none⟩ = some u ∧ wr.frozen? ⟨g, o + i, none⟩ = false := ⟨_, blk_cell hX.blk (by omega)⟩
        have hb0 : bss'[i] = [] := flatb_int _ _ _ _ (hX.el i ys[i] _ (List.getElem?_eq_getElem (by omega)) (List.getElem?_eq_getElem hil))
        have HH2 := Lib.hid (And.intro hyl (And.intro hMk hCh)); have HX := Lib.hid hX; have HB := Lib.hid hb0; have HF := Lib.hid hbf; clear hX hb0 hbf hbs HH hMk hOw hCh
        have hk1b : 0 ≤ k1 ∧ k1 ≤ 1099511627776 + 67108864 * 1 := by omega
        have HK := Lib.hid hk1; clear hk1
        go_wp2
        go_roundg gk
        case measure => omega
        case rel =>
          refine ⟨i + 1, k1 + 1, ys.set i k1, by go_num, by go_num, by omega, by omega, by have := HK.out; omega, Lib.hid ?_⟩
          have hol : Hol g (o + i) (o + i + 1) 3 cur'.size bss'[i] wr _ := (Hol.set (j := o + i) (by omega) (by omega) (.int .i64 (k1)) (Hol.refl HX.out.blk))
          obtain ⟨cur2, hX2, -⟩ := own_set2 (d := Rp.int) (y := k1) (cs := [.int .i64 (k1)]) HX.out (by rw [← HF.out]; exact HND.out) (by have := HH2.out.1; omega) hil hol (by show o + i * 1 = _; omega) rfl (by rw [HB.out]; exact flat_int _ _ _ rfl) (cells_cons (by go_simp) cells_nil)
          have hown := hX2.own
          rw [List.length_set, HH2.out.1, ← HF.out] at hown
          refine ⟨by rw [List.length_set]; exact HH2.out.1, hown, ?_, HH2.out.2.2.trans (by rw [HF.out]; exact own_set_chg hil hol)⟩
          rw [take_set (by have := HH2.out.1; omega)]
          exact MkS_snoc HH2.out.2.1 ⟨rfl, by omega⟩
      · have hi' : i = N := by omega
        subst hi'
        subst hk1
        go_wp2
        go_ret
        obtain ⟨hyl, hOw, hMk, hCh⟩ := HH.out
        rw [List.take_of_length_le (by omega)] at hMk
        exact ⟨ys, rfl, hyl, hOw, hMk, hCh⟩
theorem markItemS_calls (xs : List MItem) (A : Option Addr) (c : Nat) (k : Int) (w : World) (bs : List Nat) (ho : kItem.Own 128 w bs (.slice A xs.length c) xs) (hnd : bs.Nodup) (hl : xs.length ≤ 67108864) (hk0 : 0 ≤ k) (hk : k ≤ 1099511627776) :
    Calls Tryz.prog 147 #[.slice A xs.length c, .int .i64 k] w fun e w' => ∃ (xs' : List MItem), e = .returned (.int .i64 (k + ((xs.length * 4 : Nat) : Int))) ∧ xs'.length = xs.length ∧ kItem.Own 128 w' bs (.slice A xs.length c) xs' ∧ MkS MkItem xs' k (k + ((xs.length * 4 : Nat) : Int)) ∧ Chg bs w w' := by
  by_cases hn : xs.length = 0
  · have h0 : xs = [] := List.eq_nil_of_length_eq_zero hn
    subst h0
    have HO := Lib.hid ho; clear ho
    go_enter Tryz.func147, Tryz.ntmps147
    go_wp2
    go_loopg [1, 5] 1 (fun kq v1 v5 w' => v5 = .int .i64 0 ∧ v1 = .int .i64 k ∧ kq = 1 ∧ w' = w)
    case atStart => exact ⟨rfl, rfl, rfl, rfl⟩
    case round =>
      obtain ⟨rfl, rfl, rfl, rfl⟩ := hrel
      go_wp2
      go_ret
      exact ⟨[], by simp, rfl, HO.out, by simp [MkS], Chg.refl _ _⟩
  · obtain ⟨g, o, c', cur, bss, hv, rfl, hX⟩ := own_x ho (by omega)
    cases hv
    obtain ⟨N, hN⟩ : ∃ N, xs.length = N := ⟨_, rfl⟩
    rw [hN] at hl ho ⊢
    have HO0 := Lib.hid ho; clear ho hX hn
    have HND := Lib.hid hnd; clear hnd
    go_enter Tryz.func147, Tryz.ntmps147
    go_wp2
    go_loopg [1, 5] (N + 1) (fun kq v1 v5 w' => ∃ (i : Nat) (k1 : Int) (ys : List MItem), v5 = .int .i64 i ∧ v1 = .int .i64 k1 ∧ i + kq = N + 1 ∧ i ≤ N ∧ k1 = k + ((i * 4 : Nat) : Int) ∧ Hid (ys.length = N ∧ kItem.Own 128 w' (g :: bss.flatten) (.slice (some ⟨g, o, none⟩) N c) ys ∧ MkS MkItem (ys.take i) k k1 ∧ Chg (g :: bss.flatten) w w'))
    case atStart => exact ⟨0, k, xs, rfl, rfl, by omega, by omega, by omega, Lib.hid ⟨hN, HO0.out, rfl, Chg.refl _ _⟩⟩
    case round =>
      obtain ⟨i, k1, ys, rfl, rfl, hi, hi2, hk1, HH⟩ := hrel
      obtain ⟨gk, rfl⟩ : ∃ m, gk = m + 1 := ⟨gk - 1, by omega⟩
      by_cases hlt : i < N
      · obtain ⟨hyl, hOw, hMk, hCh⟩ := HH.out
        obtain ⟨g', o', c2, cur', bss', hv, hbs, hX⟩ := own_x hOw (by omega)
        simp only [Value.slice.injEq, Option.some.injEq, Addr.mk.injEq, List.cons.injEq] at hv hbs
        obtain ⟨⟨rfl, rfl, -⟩, -, rfl⟩ := hv
        have hbf := hbs.2
        have hil : i < bss'.length := by rw [hX.len]; omega
        have hsz : o + c * 4 ≤ cur'.size := hX.size
        have hcn : ys.length ≤ c := hX.le
        have zg : g < wr.heap.size := (Array.getElem?_eq_some_iff.1 hX.blk).1
        obtain ⟨u0x, hc0, hf0⟩ : ∃ u, wr.cell? ⟨g, o + i * 4, none⟩ = some u ∧ wr.frozen? ⟨g, o + i * 4, none⟩ = false := ⟨_, blk_cell hX.blk (by omega)⟩
        obtain ⟨u1x, hc1, hf1⟩ : ∃ u, wr.cell? ⟨g, o + i * 4 + 1, none⟩ = some u ∧ wr.frozen? ⟨g, o + i * 4 + 1, none⟩ = false := ⟨_, blk_cell hX.blk (by omega)⟩
        obtain ⟨u2x, hc2, hf2⟩ : ∃ u, wr.cell? ⟨g, o + i * 4 + 2, none⟩ = some u ∧ wr.frozen? ⟨g, o + i * 4 + 2, none⟩ = false := ⟨_, blk_cell hX.blk (by omega)⟩
        obtain ⟨u3x, hc3, hf3⟩ : ∃ u, wr.cell? ⟨g, o + i * 4 + 3, none⟩ = some u ∧ wr.frozen? ⟨g, o + i * 4 + 3, none⟩ = false := ⟨_, blk_cell hX.blk (by omega)⟩
        have hb0 : bss'[i] = [] := flatb_Item _ _ _ _ (hX.el i ys[i] _ (List.getElem?_eq_getElem (by omega)) (List.getElem?_eq_getElem hil))
        have HH2 := Lib.hid (And.intro hyl (And.intro hMk hCh)); have HX := Lib.hid hX; have HB := Lib.hid hb0; have HF := Lib.hid hbf; clear hX hb0 hbf hbs HH hMk hOw hCh
        have hk1b : 0 ≤ k1 ∧ k1 ≤ 1099511627776 + 67108864 * 4 := by omega
        have HK := Lib.hid hk1; clear hk1
        go_wp2
        go_roundg gk
        case measure => omega
        case rel =>
          refine ⟨i + 1, k1 + 4, ys.set i ⟨k1, k1 + 1, k1 + 1 + 1, ((k1 + 1 + 1 + 1) % 3 == 0)⟩, by go_num, by go_num, by omega, by omega, by have := HK.out; omega, Lib.hid ?_⟩
          have hol : Hol g (o + i * 4) (o + i * 4 + 4) 128 cur'.size bss'[i] wr _ := (Hol.set (j := o + i * 4 + 3) (by omega) (by omega) (.bool ((k1 + 1 + 1 + 1) % 3 == 0)) ((Hol.set (j := o + i * 4 + 2) (by omega) (by omega) (.int .i64 (k1 + 1 + 1)) ((Hol.set (j := o + i * 4 + 1) (by omega) (by omega) (.int .i64 (k1 + 1)) ((Hol.set (j := o + i * 4) (by omega) (by omega) (.int .i64 (k1)) (Hol.refl HX.out.blk))))))))
          obtain ⟨cur2, hX2, -⟩ := own_set2 (d := kItem) (y := ⟨k1, k1 + 1, k1 + 1 + 1, ((k1 + 1 + 1 + 1) % 3 == 0)⟩) (cs := [.int .i64 (k1), .int .i64 (k1 + 1), .int .i64 (k1 + 1 + 1), .bool ((k1 + 1 + 1 + 1) % 3 == 0)]) HX.out (by rw [← HF.out]; exact HND.out) (by have := HH2.out.1; omega) hil hol (by show o + i * 4 = _; omega) rfl (by rw [HB.out]; exact flat_Item _ _ _ (kItem_mk _ _)) (cells_cons (by go_simp) (cells_cons (by go_simp) (cells_cons (by go_simp) (cells_cons (by go_simp) cells_nil))))
          have hown := hX2.own
          rw [List.length_set, HH2.out.1, ← HF.out] at hown
          refine ⟨by rw [List.length_set]; exact HH2.out.1, hown, ?_, HH2.out.2.2.trans (by rw [HF.out]; exact own_set_chg hil hol)⟩
          rw [take_set (by have := HH2.out.1; omega)]
          exact MkS_snoc HH2.out.2.1 ⟨rfl, rfl, rfl, rfl, by omega⟩
      · have hi' : i = N := by omega
        subst hi'
        subst hk1
        go_wp2
        go_ret
        obtain ⟨hyl, hOw, hMk, hCh⟩ := HH.out
        rw [List.take_of_length_le (by omega)] at hMk
        exact ⟨ys, rfl, hyl, hOw, hMk, hCh⟩
theorem markWaiterS_calls (xs : List MWaiter) (A : Option Addr) (c : Nat) (k : Int) (w : World) (bs : List Nat) (ho : kWaiter.Own 197 w bs (.slice A xs.length c) xs) (hnd : bs.Nodup) (hl : xs.length ≤ 67108864) (hk0 : 0 ≤ k) (hk : k ≤ 1099511627776) :
    Calls Tryz.prog 148 #[.slice A xs.length c, .int .i64 k] w fun e w' => ∃ (xs' : List MWaiter), e = .returned (.int .i64 (k + ((xs.length * 3 : Nat) : Int))) ∧ xs'.length = xs.length ∧ kWaiter.Own 197 w' bs (.slice A xs.length c) xs' ∧ MkS MkWaiter xs' k (k + ((xs.length * 3 : Nat) : Int)) ∧ Chg bs w w' := by
  by_cases hn : xs.length = 0
  · have h0 : xs = [] := List.eq_nil_of_length_eq_zero hn
    subst h0
    have HO := Lib.hid ho; clear ho
    go_enter Tryz.func148, Tryz.ntmps148
    go_wp2
    go_loopg [1, 5] 1 (fun kq v1 v5 w' => v5 = .int .i64 0 ∧ v1 = .int .i64 k ∧ kq = 1 ∧ w' = w)
    case atStart => exact ⟨rfl, rfl, rfl, rfl⟩
    case round =>
      obtain ⟨rfl, rfl, rfl, rfl⟩ := hrel
      go_wp2
      go_ret
      exact ⟨[], by simp, rfl, HO.out, by simp [MkS], Chg.refl _ _⟩
  · obtain ⟨g, o, c', cur, bss, hv, rfl, hX⟩ := own_x ho (by omega)
    cases hv
    obtain ⟨N, hN⟩ : ∃ N, xs.length = N := ⟨_, rfl⟩
    rw [hN] at hl ho ⊢
    have HO0 := Lib.hid ho; clear ho hX hn
    have HND := Lib.hid hnd; clear hnd
    go_enter Tryz.func148, Tryz.ntmps148
    go_wp2
    go_loopg [1, 5] (N + 1) (fun kq v1 v5 w' => ∃ (i : Nat) (k1 : Int) (ys : List MWaiter), v5 = .int .i64 i ∧ v1 = .int .i64 k1 ∧ i + kq = N + 1 ∧ i ≤ N ∧ k1 = k + ((i * 3 : Nat) : Int) ∧ Hid (ys.length = N ∧ kWaiter.Own 197 w' (g :: bss.flatten) (.slice (some ⟨g, o, none⟩) N c) ys ∧ MkS MkWaiter (ys.take i) k k1 ∧ Chg (g :: bss.flatten) w w'))
    case atStart => exact ⟨0, k, xs, rfl, rfl, by omega, by omega, by omega, Lib.hid ⟨hN, HO0.out, rfl, Chg.refl _ _⟩⟩
    case round =>
      obtain ⟨i, k1, ys, rfl, rfl, hi, hi2, hk1, HH⟩ := hrel
      obtain ⟨gk, rfl⟩ : ∃ m, gk = m + 1 := ⟨gk - 1, by omega⟩
      by_cases hlt : i < N
      · obtain ⟨hyl, hOw, hMk, hCh⟩ := HH.out
        obtain ⟨g', o', c2, cur', bss', hv, hbs, hX⟩ := own_x hOw (by omega)
        simp only [Value.slice.injEq, Option.some.injEq, Addr.mk.injEq, List.cons.injEq] at hv hbs
        obtain ⟨⟨rfl, rfl, -⟩, -, rfl⟩ := hv
        have hbf := hbs.2
        have hil : i < bss'.length := by rw [hX.len]; omega
        have hsz : o + c * 3 ≤ cur'.size := hX.size
        have hcn : ys.length ≤ c := hX.le
        have zg : g < wr.heap.size := (Array.getElem?_eq_some_iff.1 hX.blk).1
        obtain ⟨u0x, hc0, hf0⟩ : ∃ u, wr.cell? ⟨g, o + i * 3, none⟩ = some u ∧ wr.frozen? ⟨g, o + i * 3, none⟩ = false := ⟨_, blk_cell hX.blk (by omega)⟩
        obtain ⟨u1x, hc1, hf1⟩ : ∃ u, wr.cell? ⟨g, o + i * 3 + 1, none⟩ = some u ∧ wr.frozen? ⟨g, o + i * 3 + 1, none⟩ = false := ⟨_, blk_cell hX.blk (by omega)⟩
        obtain ⟨u2x, hc2, hf2⟩ : ∃ u, wr.cell? ⟨g, o + i * 3 + 2, none⟩ = some u ∧ wr.frozen? ⟨g, o + i * 3 + 2, none⟩ = false := ⟨_, blk_cell hX.blk (by omega)⟩
        have hb0 : bss'[i] = [] := flatb_Waiter _ _ _ _ (hX.el i ys[i] _ (List.getElem?_eq_getElem (by omega)) (List.getElem?_eq_getElem hil))
        have HH2 := Lib.hid (And.intro hyl (And.intro hMk hCh)); have HX := Lib.hid hX; have HB := Lib.hid hb0; have HF := Lib.hid hbf; clear hX hb0 hbf hbs HH hMk hOw hCh
        have hk1b : 0 ≤ k1 ∧ k1 ≤ 1099511627776 + 67108864 * 3 := by omega
        have HK := Lib.hid hk1; clear hk1
        go_wp2
        go_roundg gk
        case measure => omega
        case rel =>
          refine ⟨i + 1, k1 + 3, ys.set i ⟨k1, k1 + 1, k1 + 1 + 1⟩, by go_num, by go_num, by omega, by omega, by have := HK.out; omega, Lib.hid ?_⟩
          have hol : Hol g (o + i * 3) (o + i * 3 + 3) 197 cur'.size bss'[i] wr _ := (Hol.set (j := o + i * 3 + 2) (by omega) (by omega) (.int .i64 (k1 + 1 + 1)) ((Hol.set (j := o + i * 3 + 1) (by omega) (by omega) (.int .i64 (k1 + 1)) ((Hol.set (j := o + i * 3) (by omega) (by omega) (.int .i64 (k1)) (Hol.refl HX.out.blk))))))
          obtain ⟨cur2, hX2, -⟩ := own_set2 (d := kWaiter) (y := ⟨k1, k1 + 1, k1 + 1 + 1⟩) (cs := [.int .i64 (k1), .int .i64 (k1 + 1), .int .i64 (k1 + 1 + 1)]) HX.out (by rw [← HF.out]; exact HND.out) (by have := HH2.out.1; omega) hil hol (by show o + i * 3 = _; omega) rfl (by rw [HB.out]; exact flat_Waiter _ _ _ (kWaiter_mk _ _)) (cells_cons (by go_simp) (cells_cons (by go_simp) (cells_cons (by go_simp) cells_nil)))
          have hown := hX2.own
          rw [List.length_set, HH2.out.1, ← HF.out] at hown
          refine ⟨by rw [List.length_set]; exact HH2.out.1, hown, ?_, HH2.out.2.2.trans (by rw [HF.out]; exact own_set_chg hil hol)⟩
          rw [take_set (by have := HH2.out.1; omega)]
          exact MkS_snoc HH2.out.2.1 ⟨rfl, rfl, rfl, by omega⟩
      · have hi' : i = N := by omega
        subst hi'
        subst hk1
        go_wp2
        go_ret
        obtain ⟨hyl, hOw, hMk, hCh⟩ := HH.out
        rw [List.take_of_length_le (by omega)] at hMk
        exact ⟨ys, rfl, hyl, hOw, hMk, hCh⟩
theorem markCaseS_calls (xs : List MCase) (A : Option Addr) (c : Nat) (k : Int) (w : World) (bs : List Nat) (ho : kCase.Own 248 w bs (.slice A xs.length c) xs) (hnd : bs.Nodup) (hl : xs.length ≤ 67108864) (hk0 : 0 ≤ k) (hk : k ≤ 1099511627776) :
    Calls Tryz.prog 145 #[.slice A xs.length c, .int .i64 k] w fun e w' => ∃ (xs' : List MCase), e = .returned (.int .i64 (k + ((xs.length * 5 : Nat) : Int))) ∧ xs'.length = xs.length ∧ kCase.Own 248 w' bs (.slice A xs.length c) xs' ∧ MkS MkCase xs' k (k + ((xs.length * 5 : Nat) : Int)) ∧ Chg bs w w' := by
  by_cases hn : xs.length = 0
  · have h0 : xs = [] := List.eq_nil_of_length_eq_zero hn
    subst h0
    have HO := Lib.hid ho; clear ho
    go_enter Tryz.func145, Tryz.ntmps145
    go_wp2
    go_loopg [1, 5] 1 (fun kq v1 v5 w' => v5 = .int .i64 0 ∧ v1 = .int .i64 k ∧ kq = 1 ∧ w' = w)
    case atStart => exact ⟨rfl, rfl, rfl, rfl⟩
    case round =>
      obtain ⟨rfl, rfl, rfl, rfl⟩ := hrel
      go_wp2
      go_ret
      exact ⟨[], by simp, rfl, HO.out, by simp [MkS], Chg.refl _ _⟩
  · obtain ⟨g, o, c', cur, bss, hv, rfl, hX⟩ := own_x ho (by omega)
    cases hv
    obtain ⟨N, hN⟩ : ∃ N, xs.length = N := ⟨_, rfl⟩
    rw [hN] at hl ho ⊢
    have HO0 := Lib.hid ho; clear ho hX hn
    have HND := Lib.hid hnd; clear hnd
    go_enter Tryz.func145, Tryz.ntmps145
    go_wp2
    go_loopg [1, 5] (N + 1) (fun kq v1 v5 w' => ∃ (i : Nat) (k1 : Int) (ys : List MCase), v5 = .int .i64 i ∧ v1 = .int .i64 k1 ∧ i + kq = N + 1 ∧ i ≤ N ∧ k1 = k + ((i * 5 : Nat) : Int) ∧ Hid (ys.length = N ∧ kCase.Own 248 w' (g :: bss.flatten) (.slice (some ⟨g, o, none⟩) N c) ys ∧ MkS MkCase (ys.take i) k k1 ∧ Chg (g :: bss.flatten) w w'))
    case atStart => exact ⟨0, k, xs, rfl, rfl, by omega, by omega, by omega, Lib.hid ⟨hN, HO0.out, rfl, Chg.refl _ _⟩⟩
    case round =>
      obtain ⟨i, k1, ys, rfl, rfl, hi, hi2, hk1, HH⟩ := hrel
      obtain ⟨gk, rfl⟩ : ∃ m, gk = m + 1 := ⟨gk - 1, by omega⟩
      by_cases hlt : i < N
      · obtain ⟨hyl, hOw, hMk, hCh⟩ := HH.out
        obtain ⟨g', o', c2, cur', bss', hv, hbs, hX⟩ := own_x hOw (by omega)
        simp only [Value.slice.injEq, Option.some.injEq, Addr.mk.injEq, List.cons.injEq] at hv hbs
        obtain ⟨⟨rfl, rfl, -⟩, -, rfl⟩ := hv
        have hbf := hbs.2
        have hil : i < bss'.length := by rw [hX.len]; omega
        have hsz : o + c * 5 ≤ cur'.size := hX.size
        have hcn : ys.length ≤ c := hX.le
        have zg : g < wr.heap.size := (Array.getElem?_eq_some_iff.1 hX.blk).1
        obtain ⟨u0x, hc0, hf0⟩ : ∃ u, wr.cell? ⟨g, o + i * 5, none⟩ = some u ∧ wr.frozen? ⟨g, o + i * 5, none⟩ = false := ⟨_, blk_cell hX.blk (by omega)⟩
        obtain ⟨u1x, hc1, hf1⟩ : ∃ u, wr.cell? ⟨g, o + i * 5 + 1, none⟩ = some u ∧ wr.frozen? ⟨g, o + i * 5 + 1, none⟩ = false := ⟨_, blk_cell hX.blk (by omega)⟩
        obtain ⟨u2x, hc2, hf2⟩ : ∃ u, wr.cell? ⟨g, o + i * 5 + 2, none⟩ = some u ∧ wr.frozen? ⟨g, o + i * 5 + 2, none⟩ = false := ⟨_, blk_cell hX.blk (by omega)⟩
        obtain ⟨u3x, hc3, hf3⟩ : ∃ u, wr.cell? ⟨g, o + i * 5 + 3, none⟩ = some u ∧ wr.frozen? ⟨g, o + i * 5 + 3, none⟩ = false := ⟨_, blk_cell hX.blk (by omega)⟩
        obtain ⟨u4x, hc4, hf4⟩ : ∃ u, wr.cell? ⟨g, o + i * 5 + 4, none⟩ = some u ∧ wr.frozen? ⟨g, o + i * 5 + 4, none⟩ = false := ⟨_, blk_cell hX.blk (by omega)⟩
        have hb0 : bss'[i] = [] := flatb_Case _ _ _ _ (hX.el i ys[i] _ (List.getElem?_eq_getElem (by omega)) (List.getElem?_eq_getElem hil))
        have HH2 := Lib.hid (And.intro hyl (And.intro hMk hCh)); have HX := Lib.hid hX; have HB := Lib.hid hb0; have HF := Lib.hid hbf; clear hX hb0 hbf hbs HH hMk hOw hCh
        have hk1b : 0 ≤ k1 ∧ k1 ≤ 1099511627776 + 67108864 * 5 := by omega
        have HK := Lib.hid hk1; clear hk1
        go_wp2
        go_roundg gk
        case measure => omega
        case rel =>
          refine ⟨i + 1, k1 + 5, ys.set i ⟨((k1) % 3 == 0), k1 + 1, k1 + 1 + 1, k1 + 1 + 1 + 1, k1 + 1 + 1 + 1 + 1⟩, by go_num, by go_num, by omega, by omega, by have := HK.out; omega, Lib.hid ?_⟩
          have hol : Hol g (o + i * 5) (o + i * 5 + 5) 248 cur'.size bss'[i] wr _ := (Hol.set (j := o + i * 5 + 4) (by omega) (by omega) (.int .i64 (k1 + 1 + 1 + 1 + 1)) ((Hol.set (j := o + i * 5 + 3) (by omega) (by omega) (.int .i64 (k1 + 1 + 1 + 1)) ((Hol.set (j := o + i * 5 + 2) (by omega) (by omega) (.int .i64 (k1 + 1 + 1)) ((Hol.set (j := o + i * 5 + 1) (by omega) (by omega) (.int .i64 (k1 + 1)) ((Hol.set (j := o + i * 5) (by omega) (by omega) (.bool ((k1) % 3 == 0)) (Hol.refl HX.out.blk))))))))))
          obtain ⟨cur2, hX2, -⟩ := own_set2 (d := kCase) (y := ⟨((k1) % 3 == 0), k1 + 1, k1 + 1 + 1, k1 + 1 + 1 + 1, k1 + 1 + 1 + 1 + 1⟩) (cs := [.bool ((k1) % 3 == 0), .int .i64 (k1 + 1), .int .i64 (k1 + 1 + 1), .int .i64 (k1 + 1 + 1 + 1), .int .i64 (k1 + 1 + 1 + 1 + 1)]) HX.out (by rw [← HF.out]; exact HND.out) (by have := HH2.out.1; omega) hil hol (by show o + i * 5 = _; omega) rfl (by rw [HB.out]; exact flat_Case _ _ _ (kCase_mk _ _)) (cells_cons (by go_simp) (cells_cons (by go_simp) (cells_cons (by go_simp) (cells_cons (by go_simp) (cells_cons (by go_simp) cells_nil)))))
          have hown := hX2.own
          rw [List.length_set, HH2.out.1, ← HF.out] at hown
          refine ⟨by rw [List.length_set]; exact HH2.out.1, hown, ?_, HH2.out.2.2.trans (by rw [HF.out]; exact own_set_chg hil hol)⟩
          rw [take_set (by have := HH2.out.1; omega)]
          exact MkS_snoc HH2.out.2.1 ⟨rfl, rfl, rfl, rfl, rfl, by omega⟩
      · have hi' : i = N := by omega
        subst hi'
        subst hk1
        go_wp2
        go_ret
        obtain ⟨hyl, hOw, hMk, hCh⟩ := HH.out
        rw [List.take_of_length_le (by omega)] at hMk
        exact ⟨ys, rfl, hyl, hOw, hMk, hCh⟩
theorem markInstrS_calls (xs : List MInstr) (A : Option Addr) (c : Nat) (k : Int) (w : World) (bs : List Nat) (ho : kInstr.Own 203 w bs (.slice A xs.length c) xs) (hnd : bs.Nodup) (hl : xs.length ≤ 67108864) (hk0 : 0 ≤ k) (hk : k ≤ 1099511627776) :
    Calls Tryz.prog 146 #[.slice A xs.length c, .int .i64 k] w fun e w' => ∃ (xs' : List MInstr), e = .returned (.int .i64 (k + ((xs.length * 4 : Nat) : Int))) ∧ xs'.length = xs.length ∧ kInstr.Own 203 w' bs (.slice A xs.length c) xs' ∧ MkS MkInstr xs' k (k + ((xs.length * 4 : Nat) : Int)) ∧ Chg bs w w' := by
  by_cases hn : xs.length = 0
  · have h0 : xs = [] := List.eq_nil_of_length_eq_zero hn
    subst h0
    have HO := Lib.hid ho; clear ho
    go_enter Tryz.func146, Tryz.ntmps146
    go_wp2
    go_loopg [1, 5] 1 (fun kq v1 v5 w' => v5 = .int .i64 0 ∧ v1 = .int .i64 k ∧ kq = 1 ∧ w' = w)
    case atStart => exact ⟨rfl, rfl, rfl, rfl⟩
    case round =>
      obtain ⟨rfl, rfl, rfl, rfl⟩ := hrel
      go_wp2
      go_ret
      exact ⟨[], by simp, rfl, HO.out, by simp [MkS], Chg.refl _ _⟩
  · obtain ⟨g, o, c', cur, bss, hv, rfl, hX⟩ := own_x ho (by omega)
    cases hv
    obtain ⟨N, hN⟩ : ∃ N, xs.length = N := ⟨_, rfl⟩
    rw [hN] at hl ho ⊢
    have HO0 := Lib.hid ho; clear ho hX hn
    have HND := Lib.hid hnd; clear hnd
    go_enter Tryz.func146, Tryz.ntmps146
    go_wp2
    go_loopg [1, 5] (N + 1) (fun kq v1 v5 w' => ∃ (i : Nat) (k1 : Int) (ys : List MInstr), v5 = .int .i64 i ∧ v1 = .int .i64 k1 ∧ i + kq = N + 1 ∧ i ≤ N ∧ k1 = k + ((i * 4 : Nat) : Int) ∧ Hid (ys.length = N ∧ kInstr.Own 203 w' (g :: bss.flatten) (.slice (some ⟨g, o, none⟩) N c) ys ∧ MkS MkInstr (ys.take i) k k1 ∧ Chg (g :: bss.flatten) w w'))
    case atStart => exact ⟨0, k, xs, rfl, rfl, by omega, by omega, by omega, Lib.hid ⟨hN, HO0.out, rfl, Chg.refl _ _⟩⟩
    case round =>
      obtain ⟨i, k1, ys, rfl, rfl, hi, hi2, hk1, HH⟩ := hrel
      obtain ⟨gk, rfl⟩ : ∃ m, gk = m + 1 := ⟨gk - 1, by omega⟩
      by_cases hlt : i < N
      · obtain ⟨hyl, hOw, hMk, hCh⟩ := HH.out
        obtain ⟨g', o', c2, cur', bss', hv, hbs, hX⟩ := own_x hOw (by omega)
        simp only [Value.slice.injEq, Option.some.injEq, Addr.mk.injEq, List.cons.injEq] at hv hbs
        obtain ⟨⟨rfl, rfl, -⟩, -, rfl⟩ := hv
        have hbf := hbs.2
        have hil : i < bss'.length := by rw [hX.len]; omega
        have hsz : o + c * 4 ≤ cur'.size := hX.size
        have hcn : ys.length ≤ c := hX.le
        have zg : g < wr.heap.size := (Array.getElem?_eq_some_iff.1 hX.blk).1
        obtain ⟨u0x, hc0, hf0⟩ : ∃ u, wr.cell? ⟨g, o + i * 4, none⟩ = some u ∧ wr.frozen? ⟨g, o + i * 4, none⟩ = false := ⟨_, blk_cell hX.blk (by omega)⟩
        obtain ⟨u1x, hc1, hf1⟩ : ∃ u, wr.cell? ⟨g, o + i * 4 + 1, none⟩ = some u ∧ wr.frozen? ⟨g, o + i * 4 + 1, none⟩ = false := ⟨_, blk_cell hX.blk (by omega)⟩
        obtain ⟨u2x, hc2, hf2⟩ : ∃ u, wr.cell? ⟨g, o + i * 4 + 2, none⟩ = some u ∧ wr.frozen? ⟨g, o + i * 4 + 2, none⟩ = false := ⟨_, blk_cell hX.blk (by omega)⟩
        obtain ⟨u3x, hc3, hf3⟩ : ∃ u, wr.cell? ⟨g, o + i * 4 + 3, none⟩ = some u ∧ wr.frozen? ⟨g, o + i * 4 + 3, none⟩ = false := ⟨_, blk_cell hX.blk (by omega)⟩
        have hb0 : bss'[i] = [] := flatb_Instr _ _ _ _ (hX.el i ys[i] _ (List.getElem?_eq_getElem (by omega)) (List.getElem?_eq_getElem hil))
        have HH2 := Lib.hid (And.intro hyl (And.intro hMk hCh)); have HX := Lib.hid hX; have HB := Lib.hid hb0; have HF := Lib.hid hbf; clear hX hb0 hbf hbs HH hMk hOw hCh
        have hk1b : 0 ≤ k1 ∧ k1 ≤ 1099511627776 + 67108864 * 4 := by omega
        have HK := Lib.hid hk1; clear hk1
        go_wp2
        go_roundg gk
        case measure => omega
        case rel =>
          refine ⟨i + 1, k1 + 4, ys.set i ⟨k1, k1 + 1, k1 + 1 + 1, k1 + 1 + 1 + 1⟩, by go_num, by go_num, by omega, by omega, by have := HK.out; omega, Lib.hid ?_⟩
          have hol : Hol g (o + i * 4) (o + i * 4 + 4) 203 cur'.size bss'[i] wr _ := (Hol.set (j := o + i * 4 + 3) (by omega) (by omega) (.int .i64 (k1 + 1 + 1 + 1)) ((Hol.set (j := o + i * 4 + 2) (by omega) (by omega) (.int .i64 (k1 + 1 + 1)) ((Hol.set (j := o + i * 4 + 1) (by omega) (by omega) (.int .i64 (k1 + 1)) ((Hol.set (j := o + i * 4) (by omega) (by omega) (.int .i64 (k1)) (Hol.refl HX.out.blk))))))))
          obtain ⟨cur2, hX2, -⟩ := own_set2 (d := kInstr) (y := ⟨k1, k1 + 1, k1 + 1 + 1, k1 + 1 + 1 + 1⟩) (cs := [.int .i64 (k1), .int .i64 (k1 + 1), .int .i64 (k1 + 1 + 1), .int .i64 (k1 + 1 + 1 + 1)]) HX.out (by rw [← HF.out]; exact HND.out) (by have := HH2.out.1; omega) hil hol (by show o + i * 4 = _; omega) rfl (by rw [HB.out]; exact flat_Instr _ _ _ (kInstr_mk _ _)) (cells_cons (by go_simp) (cells_cons (by go_simp) (cells_cons (by go_simp) (cells_cons (by go_simp) cells_nil))))
          have hown := hX2.own
          rw [List.length_set, HH2.out.1, ← HF.out] at hown
          refine ⟨by rw [List.length_set]; exact HH2.out.1, hown, ?_, HH2.out.2.2.trans (by rw [HF.out]; exact own_set_chg hil hol)⟩
          rw [take_set (by have := HH2.out.1; omega)]
          exact MkS_snoc HH2.out.2.1 ⟨rfl, rfl, rfl, rfl, by omega⟩
      · have hi' : i = N := by omega
        subst hi'
        subst hk1
        go_wp2
        go_ret
        obtain ⟨hyl, hOw, hMk, hCh⟩ := HH.out
        rw [List.take_of_length_le (by omega)] at hMk
        exact ⟨ys, rfl, hyl, hOw, hMk, hCh⟩
theorem markPickS_calls (xs : List MPick) (A : Option Addr) (c : Nat) (k : Int) (w : World) (bs : List Nat) (ho : kPick.Own 101 w bs (.slice A xs.length c) xs) (hnd : bs.Nodup) (hl : xs.length ≤ 67108864) (hk0 : 0 ≤ k) (hk : k ≤ 1099511627776) :
    Calls Tryz.prog 22 #[.slice A xs.length c, .int .i64 k] w fun e w' => ∃ (xs' : List MPick), e = .returned (.int .i64 (k + ((xs.length * 2 : Nat) : Int))) ∧ xs'.length = xs.length ∧ kPick.Own 101 w' bs (.slice A xs.length c) xs' ∧ MkS MkPick xs' k (k + ((xs.length * 2 : Nat) : Int)) ∧ Chg bs w w' := by
  by_cases hn : xs.length = 0
  · have h0 : xs = [] := List.eq_nil_of_length_eq_zero hn
    subst h0
    have HO := Lib.hid ho; clear ho
    go_enter Tryz.func22, Tryz.ntmps22
    go_wp2
    go_loopg [1, 5] 1 (fun kq v1 v5 w' => v5 = .int .i64 0 ∧ v1 = .int .i64 k ∧ kq = 1 ∧ w' = w)
    case atStart => exact ⟨rfl, rfl, rfl, rfl⟩
    case round =>
      obtain ⟨rfl, rfl, rfl, rfl⟩ := hrel
      go_wp2
      go_ret
      exact ⟨[], by simp, rfl, HO.out, by simp [MkS], Chg.refl _ _⟩
  · obtain ⟨g, o, c', cur, bss, hv, rfl, hX⟩ := own_x ho (by omega)
    cases hv
    obtain ⟨N, hN⟩ : ∃ N, xs.length = N := ⟨_, rfl⟩
    rw [hN] at hl ho ⊢
    have HO0 := Lib.hid ho; clear ho hX hn
    have HND := Lib.hid hnd; clear hnd
    go_enter Tryz.func22, Tryz.ntmps22
    go_wp2
    go_loopg [1, 5] (N + 1) (fun kq v1 v5 w' => ∃ (i : Nat) (k1 : Int) (ys : List MPick), v5 = .int .i64 i ∧ v1 = .int .i64 k1 ∧ i + kq = N + 1 ∧ i ≤ N ∧ k1 = k + ((i * 2 : Nat) : Int) ∧ Hid (ys.length = N ∧ kPick.Own 101 w' (g :: bss.flatten) (.slice (some ⟨g, o, none⟩) N c) ys ∧ MkS MkPick (ys.take i) k k1 ∧ Chg (g :: bss.flatten) w w'))
    case atStart => exact ⟨0, k, xs, rfl, rfl, by omega, by omega, by omega, Lib.hid ⟨hN, HO0.out, rfl, Chg.refl _ _⟩⟩
    case round =>
      obtain ⟨i, k1, ys, rfl, rfl, hi, hi2, hk1, HH⟩ := hrel
      obtain ⟨gk, rfl⟩ : ∃ m, gk = m + 1 := ⟨gk - 1, by omega⟩
      by_cases hlt : i < N
      · obtain ⟨hyl, hOw, hMk, hCh⟩ := HH.out
        obtain ⟨g', o', c2, cur', bss', hv, hbs, hX⟩ := own_x hOw (by omega)
        simp only [Value.slice.injEq, Option.some.injEq, Addr.mk.injEq, List.cons.injEq] at hv hbs
        obtain ⟨⟨rfl, rfl, -⟩, -, rfl⟩ := hv
        have hbf := hbs.2
        have hil : i < bss'.length := by rw [hX.len]; omega
        have hsz : o + c * 2 ≤ cur'.size := hX.size
        have hcn : ys.length ≤ c := hX.le
        have zg : g < wr.heap.size := (Array.getElem?_eq_some_iff.1 hX.blk).1
        obtain ⟨u0x, hc0, hf0⟩ : ∃ u, wr.cell? ⟨g, o + i * 2, none⟩ = some u ∧ wr.frozen? ⟨g, o + i * 2, none⟩ = false := ⟨_, blk_cell hX.blk (by omega)⟩
        obtain ⟨u1x, hc1, hf1⟩ : ∃ u, wr.cell? ⟨g, o + i * 2 + 1, none⟩ = some u ∧ wr.frozen? ⟨g, o + i * 2 + 1, none⟩ = false := ⟨_, blk_cell hX.blk (by omega)⟩
        have hb0 : bss'[i] = [] := flatb_Pick _ _ _ _ (hX.el i ys[i] _ (List.getElem?_eq_getElem (by omega)) (List.getElem?_eq_getElem hil))
        have HH2 := Lib.hid (And.intro hyl (And.intro hMk hCh)); have HX := Lib.hid hX; have HB := Lib.hid hb0; have HF := Lib.hid hbf; clear hX hb0 hbf hbs HH hMk hOw hCh
        have hk1b : 0 ≤ k1 ∧ k1 ≤ 1099511627776 + 67108864 * 2 := by omega
        have HK := Lib.hid hk1; clear hk1
        go_wp2
        go_roundg gk
        case measure => omega
        case rel =>
          refine ⟨i + 1, k1 + 2, ys.set i ⟨k1, k1 + 1⟩, by go_num, by go_num, by omega, by omega, by have := HK.out; omega, Lib.hid ?_⟩
          have hol : Hol g (o + i * 2) (o + i * 2 + 2) 101 cur'.size bss'[i] wr _ := (Hol.set (j := o + i * 2 + 1) (by omega) (by omega) (.int .i64 (k1 + 1)) ((Hol.set (j := o + i * 2) (by omega) (by omega) (.int .i64 (k1)) (Hol.refl HX.out.blk))))
          obtain ⟨cur2, hX2, -⟩ := own_set2 (d := kPick) (y := ⟨k1, k1 + 1⟩) (cs := [.int .i64 (k1), .int .i64 (k1 + 1)]) HX.out (by rw [← HF.out]; exact HND.out) (by have := HH2.out.1; omega) hil hol (by show o + i * 2 = _; omega) rfl (by rw [HB.out]; exact flat_Pick _ _ _ (kPick_mk _ _)) (cells_cons (by go_simp) (cells_cons (by go_simp) cells_nil))
          have hown := hX2.own
          rw [List.length_set, HH2.out.1, ← HF.out] at hown
          refine ⟨by rw [List.length_set]; exact HH2.out.1, hown, ?_, HH2.out.2.2.trans (by rw [HF.out]; exact own_set_chg hil hol)⟩
          rw [take_set (by have := HH2.out.1; omega)]
          exact MkS_snoc HH2.out.2.1 ⟨rfl, rfl, by omega⟩
      · have hi' : i = N := by omega
        subst hi'
        subst hk1
        go_wp2
        go_ret
        obtain ⟨hyl, hOw, hMk, hCh⟩ := HH.out
        rw [List.take_of_length_le (by omega)] at hMk
        exact ⟨ys, rfl, hyl, hOw, hMk, hCh⟩
theorem heldPickS_calls (xs : List MPick) (A : Option Addr) (c : Nat) (k : Int) (w : World) (hr : kPick.Row w A xs) (ke : Int) (hM : MkS MkPick xs k ke) (hl : xs.length ≤ 67108864) (hk0 : 0 ≤ k) (hk : k ≤ 1099511627776) :
    Calls Tryz.prog 23 #[.slice A xs.length c, .int .i64 k] w fun e w' => e = .returned (.int .i64 ke) ∧ Below w.heap.size w w' := by
  have HR := Lib.hid hr; clear hr
  have HM0 := Lib.hid hM; clear hM
  go_enter Tryz.func23, Tryz.ntmps23
  go_wp2
  go_loopg [1, 5] (xs.length + 1) (fun kq v1 v5 w' => ∃ (i : Nat) (k1 : Int), v5 = .int .i64 i ∧ v1 = .int .i64 k1 ∧ i + kq = xs.length + 1 ∧ i ≤ xs.length ∧ 0 ≤ k1 ∧ k1 ≤ 1099511627776 + ((i * 2 : Nat) : Int) ∧ Hid (MkS MkPick (xs.drop i) k1 ke) ∧ Below w.heap.size w w')
  case atStart => exact ⟨0, k, rfl, rfl, by omega, by omega, by omega, by omega, Lib.hid HM0.out, bel⟩
  case round =>
    clear HM0
    obtain ⟨i, k1, rfl, rfl, hi, hi2, hk10, hk1, HM, hb⟩ := hrel
    obtain ⟨gk, rfl⟩ : ∃ m, gk = m + 1 := ⟨gk - 1, by omega⟩
    by_cases hlt : i < xs.length
    · obtain ⟨k2, hm, hMr⟩ := MkS_drop hlt HM.out
      obtain ⟨b, o, rfl, g0, g1⟩ := kPick_at (HR.out.below hb) hlt
      obtain ⟨e0, e1, eN⟩ := hm
      rw [e0] at g0
      rw [e1] at g1
      subst eN
      have HMr := Lib.hid hMr; clear hMr
      go_wp2
      go_roundg gk
      case measure => omega
      case rel => exact ⟨i + 1, k1 + 2, by go_num, by go_num, by omega, by omega, by omega, by omega, Lib.hid (by have := HMr.out; rw [show k1 + 2 = k1 + 1 + 1 by omega]; exact this), bel⟩
    · have hi' : i = xs.length := by omega
      have hke : k1 = ke := by have := HM.out; rw [List.drop_of_length_le (by omega)] at this; exact this.symm
      have HK := Lib.hid hke; clear hke
      go_wp2
      go_ret
      exact ⟨by rw [HK.out]; rfl, hb⟩
end Go.Proofs.YtjmefaihkblliaaGreat.Wd
/- Marks: what a row holds behind a mark, and how it is told. Conditions: bounds on the sizes. -/
namespace Go.Proofs.YtjmefaihkblliaaGreat.Wd
open Go.RowKit
open Go.Proofs.YtjmefaihkblliaaGreat.Ab (MCase MSelect MInstr MProc MProg MWaiter MChan MMutex MItem MGor MEng MPick)
set_option linter.unusedVariables false
set_option linter.unusedSimpArgs false
set_option maxHeartbeats 4000000
set_option maxRecDepth 100000
theorem markGorS_calls (xs : List MGor) (A : Option Addr) (c : Nat) (k : Int) (w : World) (bs : List Nat) (ho : kGor.Own 172 w bs (.slice A xs.length c) xs) (hnd : bs.Nodup) (hl : xs.length + cntGorS xs ≤ 67108864) (hk0 : 0 ≤ k) (hk : k ≤ 549755813888) :
    Calls Tryz.prog 79 #[.slice A xs.length c, .int .i64 k] w fun e w' => ∃ (xs' : List MGor), e = .returned (.int .i64 (k + ((mcGorS xs : Nat) : Int))) ∧ xs'.length = xs.length ∧ kGor.Own 172 w' bs (.slice A xs.length c) xs' ∧ MkS MkGor xs' k (k + ((mcGorS xs : Nat) : Int)) ∧ Chg bs w w' := by
  have hmle := mcGorS_le xs
  by_cases hn : xs.length = 0
  · have h0 : xs = [] := List.eq_nil_of_length_eq_zero hn
    subst h0
    have HO := Lib.hid ho; clear ho
    go_enter Tryz.func79, Tryz.ntmps79
    go_wp2
    go_loopg [1, 5] 1 (fun kq v1 v5 w' => v5 = .int .i64 0 ∧ v1 = .int .i64 k ∧ kq = 1 ∧ w' = w)
    case atStart => exact ⟨rfl, rfl, rfl, rfl⟩
    case round =>
      obtain ⟨rfl, rfl, rfl, rfl⟩ := hrel
      go_wp2
      go_ret
      exact ⟨[], by simp [mcGorS], rfl, HO.out, by simp [MkS, mcGorS], Chg.refl _ _⟩
  · obtain ⟨g, o, c', cur, bss, hv, rfl, hX⟩ := own_x ho (by omega)
    cases hv
    obtain ⟨N, hN⟩ : ∃ N, xs.length = N := ⟨_, rfl⟩
    rw [hN] at ho ⊢
    have HO0 := Lib.hid ho; clear ho hX hn
    have HND := Lib.hid hnd; clear hnd
    go_enter Tryz.func79, Tryz.ntmps79
    go_wp2
    go_loopg [1, 5] (N + 1) (fun kq v1 v5 w' => ∃ (i : Nat) (k1 : Int) (ys : List MGor), v5 = .int .i64 i ∧ v1 = .int .i64 k1 ∧ i + kq = N + 1 ∧ i ≤ N ∧ k1 = k + ((mcGorS (xs.take i) : Nat) : Int) ∧ Hid (ys.length = N ∧ kGor.Own 172 w' (g :: bss.flatten) (.slice (some ⟨g, o, none⟩) N c) ys ∧ MkS MkGor (ys.take i) k k1 ∧ ys.drop i = xs.drop i ∧ Chg (g :: bss.flatten) w w'))
    case atStart => exact ⟨0, k, xs, rfl, rfl, by omega, by omega, by simp [mcGorS], Lib.hid ⟨hN, HO0.out, rfl, rfl, Chg.refl _ _⟩⟩
    case round =>
      obtain ⟨i, k1, ys, rfl, rfl, hi, hi2, hk1, HH⟩ := hrel
      obtain ⟨gk, rfl⟩ : ∃ m, gk = m + 1 := ⟨gk - 1, by omega⟩
      have htl := mcGorS_takele (xs := xs) (i := i)
      by_cases hlt : i < N
      · obtain ⟨hyl, hOw, hMk, hdr, hCh⟩ := HH.out
        obtain ⟨g', o', c2, cur', bss', hv, hbs, hX⟩ := own_x hOw (by omega)
        simp only [Value.slice.injEq, Option.some.injEq, Addr.mk.injEq, List.cons.injEq] at hv hbs
        obtain ⟨⟨rfl, rfl, -⟩, -, rfl⟩ := hv
        have hbf := hbs.2
        have hil : i < bss'.length := by rw [hX.len]; omega
        have hsz : o + c * 5 ≤ cur'.size := hX.size
        have hcn : ys.length ≤ c := hX.le
        have zg : g < wr.heap.size := (Array.getElem?_eq_some_iff.1 hX.blk).1
        have hxi : i < xs.length := by omega
        have hcx := cntGorS_at hxi
        unfold cntGor at hcx
        obtain ⟨ex, hex⟩ : ∃ ex, xs[i] = ex := ⟨_, rfl⟩
        rw [hex] at hcx
        have HEX := Lib.hid hex
        have hel := hX.el i ex bss'[i] (by rw [List.getElem?_eq_getElem (by omega), drop_at hdr hxi (by omega), hex]) (List.getElem?_eq_getElem hil)
        clear hex
        have hk1b : 0 ≤ k1 ∧ k1 ≤ 549755813888 + 1073741824 := by omega
        have HK := Lib.hid hk1; clear hk1
        have HH2 := Lib.hid (And.intro hyl (And.intro hMk hCh))
        obtain ⟨B0, d0, b0, B1, d1, b1, hcs, hbs2, o0, o1⟩ := kGor_O hel
        have g0 : wr.cell? ⟨g, o + i * 5, none⟩ = some (.int .i64 ex.proc) := seg_cell hX.blk hcs (j := 0) rfl
        have f0 : wr.frozen? ⟨g, o + i * 5, none⟩ = false := (blk_cell hX.blk (j := o + i * 5) (by omega)).2
        have g1 : wr.cell? ⟨g, o + i * 5 + 1, none⟩ = some (.int .i64 ex.pc) := seg_cell hX.blk hcs (j := 1) rfl
        have f1 : wr.frozen? ⟨g, o + i * 5 + 1, none⟩ = false := (blk_cell hX.blk (j := o + i * 5 + 1) (by omega)).2
        have g2 : wr.cell? ⟨g, o + i * 5 + 2, none⟩ = some (.slice B0 ex.regs.length d0) := seg_cell hX.blk hcs (j := 2) rfl
        have f2 : wr.frozen? ⟨g, o + i * 5 + 2, none⟩ = false := (blk_cell hX.blk (j := o + i * 5 + 2) (by omega)).2
        have g3 : wr.cell? ⟨g, o + i * 5 + 3, none⟩ = some (.int .i64 ex.state) := seg_cell hX.blk hcs (j := 3) rfl
        have f3 : wr.frozen? ⟨g, o + i * 5 + 3, none⟩ = false := (blk_cell hX.blk (j := o + i * 5 + 3) (by omega)).2
        have g4 : wr.cell? ⟨g, o + i * 5 + 4, none⟩ = some (.slice B1 ex.trace.length d1) := seg_cell hX.blk hcs (j := 4) rfl
        have f4 : wr.frozen? ⟨g, o + i * 5 + 4, none⟩ = false := (blk_cell hX.blk (j := o + i * 5 + 4) (by omega)).2
        have hnd2 : (g :: (b0 ++ b1)).Nodup := by
          have h1 := HND.out; rw [hbf] at h1
          have h2 : bss'[i].Sublist bss'.flatten := sub_flat hil
          rw [hbs2] at h2; exact h1.sublist (List.Sublist.cons_cons _ h2)
        have hg0 : g ∉ b0 := fun h => (List.nodup_cons.1 hnd2).1 (by simp [h])
        have hg1 : g ∉ b1 := fun h => (List.nodup_cons.1 hnd2).1 (by simp [h])
        have hnn := (List.nodup_cons.1 hnd2).2
        obtain ⟨hn0, hn1, ea1, eb1⟩ := nd2 hnn
        have DJ0_1 : Hid (∀ k ∈ b0, k ∉ b1) := Lib.hid fun k h => ea1 k h
        have DJ1_0 : Hid (∀ k ∈ b1, k ∉ b0) := Lib.hid fun k h h2 => eb1 k h h2
        clear ea1 eb1
        have HX := Lib.hid hX; have HB2 := Lib.hid hbs2; have HF := Lib.hid hbf; have HND2 := Lib.hid hnd2; have HD := Lib.hid hdr; clear hX hbs2 hcs hel hbf hbs HH hMk hOw hCh hdr hnd2
        have O0 := Lib.hid o0; clear o0
        have O1 := Lib.hid o1; clear o1
        go_wp2_with fail
        refine settleC ?_
        intro V0 hV0
        have hol0 : Hol g (o + i * 5) (o + i * 5 + 5) 172 cur'.size bss'[i] wr V0 := by rw [hV0]; exact Hol.set (j := o + i * 5 + 1) (by omega) (by omega) (.int .i64 (k1 + 1)) (Hol.set (j := o + i * 5) (by omega) (by omega) (.int .i64 (k1)) (Hol.refl HX.out.blk))
        have chg0 : Chg ([g]) wr V0 := by rw [hV0]; exact Chg.setc (g := g) (j := o + i * 5 + 1) (by simp) (.int .i64 (k1 + 1)) (Chg.setc (g := g) (j := o + i * 5) (by simp) (.int .i64 (k1)) (Chg.refl _ _))
        have G0_0 : V0.cell? ⟨g, o + i * 5, none⟩ = some (.int .i64 (k1)) := by rw [hV0]; go_simp
        have G0_1 : V0.cell? ⟨g, o + i * 5 + 1, none⟩ = some (.int .i64 (k1 + 1)) := by rw [hV0]; go_simp
        have G0_2 : V0.cell? ⟨g, o + i * 5 + 2, none⟩ = some (.slice B0 ex.regs.length d0) := by rw [hV0]; go_simp
        have G0_3 : V0.cell? ⟨g, o + i * 5 + 3, none⟩ = some (.int .i64 ex.state) := by rw [hV0]; go_simp
        have G0_4 : V0.cell? ⟨g, o + i * 5 + 4, none⟩ = some (.slice B1 ex.trace.length d1) := by rw [hV0]; go_simp
        clear hV0
        have P0_0 := Lib.hid (chg0.own (fun b hb hm => by simp only [List.mem_singleton] at hm; subst hm; exact hg0 hb) O0.out)
        have P0_1 := Lib.hid (chg0.own (fun b hb hm => by simp only [List.mem_singleton] at hm; subst hm; exact hg1 hb) O1.out)
        refine (markIntS_calls ex.regs B0 d0 (k1 + 1 + 1) V0 b0 P0_0.out hn0 (by omega) (by omega) (by omega)).mono ?_
        rintro e w0 ⟨y0, he, hl0, p0, hm0, hc0⟩
        obtain ⟨kq0, hkq0⟩ : ∃ kq : Int, k1 + 1 + 1 + ((ex.regs.length : Nat) : Int) = kq := ⟨_, rfl⟩
        rw [hkq0] at he hm0; subst he
        have bkq0 : 0 ≤ kq0 ∧ kq0 ≤ 549755813888 + 1073741824 + 1073741824 := by omega
        have HKQ0 := Lib.hid hkq0; clear hkq0
        have holc0 : Hol g (o + i * 5) (o + i * 5 + 5) 172 cur'.size bss'[i] wr w0 := Hol.chg hc0 hg0 (fun b hb => .inl (by rw [HB2.out]; simp [hb])) hol0
        obtain ⟨cu0, hcu0, hsz0⟩ := holc0.shape
        have g0 := hc0.cell hg0 G0_0
        have f0 : w0.frozen? ⟨g, o + i * 5, none⟩ = false := (blk_cell hcu0 (j := o + i * 5) (by omega)).2
        have g1 := hc0.cell hg0 G0_1
        have f1 : w0.frozen? ⟨g, o + i * 5 + 1, none⟩ = false := (blk_cell hcu0 (j := o + i * 5 + 1) (by omega)).2
        have g2 := hc0.cell hg0 G0_2
        have f2 : w0.frozen? ⟨g, o + i * 5 + 2, none⟩ = false := (blk_cell hcu0 (j := o + i * 5 + 2) (by omega)).2
        have g3 := hc0.cell hg0 G0_3
        have f3 : w0.frozen? ⟨g, o + i * 5 + 3, none⟩ = false := (blk_cell hcu0 (j := o + i * 5 + 3) (by omega)).2
        have g4 := hc0.cell hg0 G0_4
        have f4 : w0.frozen? ⟨g, o + i * 5 + 4, none⟩ = false := (blk_cell hcu0 (j := o + i * 5 + 4) (by omega)).2
        clear G0_0 G0_1 G0_2 G0_3 G0_4
        have zg0 : g < w0.heap.size := (Array.getElem?_eq_some_iff.1 hcu0).1
        have Q0_0 := Lib.hid p0; clear p0
        have Q0_1 := Lib.hid (hc0.own DJ1_0.out P0_1.out)
        go_wp2_with fail
        refine settleC ?_
        intro V1 hV1
        have hol1 : Hol g (o + i * 5) (o + i * 5 + 5) 172 cur'.size bss'[i] wr V1 := by rw [hV1]; exact Hol.set (j := o + i * 5 + 3) (by omega) (by omega) (.int .i64 (kq0)) (holc0)
        have chg1 : Chg ([g]) w0 V1 := by rw [hV1]; exact Chg.setc (g := g) (j := o + i * 5 + 3) (by simp) (.int .i64 (kq0)) (Chg.refl _ _)
        have G1_0 : V1.cell? ⟨g, o + i * 5, none⟩ = some (.int .i64 (k1)) := by rw [hV1]; go_simp
        have G1_1 : V1.cell? ⟨g, o + i * 5 + 1, none⟩ = some (.int .i64 (k1 + 1)) := by rw [hV1]; go_simp
        have G1_2 : V1.cell? ⟨g, o + i * 5 + 2, none⟩ = some (.slice B0 ex.regs.length d0) := by rw [hV1]; go_simp
        have G1_3 : V1.cell? ⟨g, o + i * 5 + 3, none⟩ = some (.int .i64 (kq0)) := by rw [hV1]; go_simp
        have G1_4 : V1.cell? ⟨g, o + i * 5 + 4, none⟩ = some (.slice B1 ex.trace.length d1) := by rw [hV1]; go_simp
        clear hV1
        have P1_0 := Lib.hid (chg1.own (fun b hb hm => by simp only [List.mem_singleton] at hm; subst hm; exact hg0 hb) Q0_0.out)
        have P1_1 := Lib.hid (chg1.own (fun b hb hm => by simp only [List.mem_singleton] at hm; subst hm; exact hg1 hb) Q0_1.out)
        refine (markItemS_calls ex.trace B1 d1 (kq0 + 1) V1 b1 P1_1.out hn1 (by omega) (by omega) (by omega)).mono ?_
        rintro e w1 ⟨y1, he, hl1, p1, hm1, hc1⟩
        obtain ⟨kq1, hkq1⟩ : ∃ kq : Int, kq0 + 1 + ((ex.trace.length * 4 : Nat) : Int) = kq := ⟨_, rfl⟩
        rw [hkq1] at he hm1; subst he
        have bkq1 : 0 ≤ kq1 ∧ kq1 ≤ 549755813888 + 1073741824 + 2147483648 := by omega
        have HKQ1 := Lib.hid hkq1; clear hkq1
        have holc1 : Hol g (o + i * 5) (o + i * 5 + 5) 172 cur'.size bss'[i] wr w1 := Hol.chg hc1 hg1 (fun b hb => .inl (by rw [HB2.out]; simp [hb])) hol1
        obtain ⟨cu1, hcu1, hsz1⟩ := holc1.shape
        have g0 := hc1.cell hg1 G1_0
        have f0 : w1.frozen? ⟨g, o + i * 5, none⟩ = false := (blk_cell hcu1 (j := o + i * 5) (by omega)).2
        have g1 := hc1.cell hg1 G1_1
        have f1 : w1.frozen? ⟨g, o + i * 5 + 1, none⟩ = false := (blk_cell hcu1 (j := o + i * 5 + 1) (by omega)).2
        have g2 := hc1.cell hg1 G1_2
        have f2 : w1.frozen? ⟨g, o + i * 5 + 2, none⟩ = false := (blk_cell hcu1 (j := o + i * 5 + 2) (by omega)).2
        have g3 := hc1.cell hg1 G1_3
        have f3 : w1.frozen? ⟨g, o + i * 5 + 3, none⟩ = false := (blk_cell hcu1 (j := o + i * 5 + 3) (by omega)).2
        have g4 := hc1.cell hg1 G1_4
        have f4 : w1.frozen? ⟨g, o + i * 5 + 4, none⟩ = false := (blk_cell hcu1 (j := o + i * 5 + 4) (by omega)).2
        clear G1_0 G1_1 G1_2 G1_3 G1_4
        have zg1 : g < w1.heap.size := (Array.getElem?_eq_some_iff.1 hcu1).1
        have Q1_0 := Lib.hid (hc1.own DJ0_1.out P1_0.out)
        have Q1_1 := Lib.hid p1; clear p1
        go_wp2
        go_roundg gk
        case measure => omega
        case rel =>
          have hkk := mcGorS_take (xs := xs) (i := i) (by omega)
          have hexl := HEX.out
          rw [hexl] at hkk; unfold mcGor at hkk
          have hkq0 := HKQ0.out
          have hkq1 := HKQ1.out
          refine ⟨i + 1, kq1, ys.set i ⟨k1, k1 + 1, y0, kq0, y1⟩, by go_num, by go_num, by omega, by omega, by have := HK.out; omega, Lib.hid ?_⟩
          have hol : Hol g (o + i * 5) (o + i * 5 + 5) 172 cur'.size bss'[i] wr _ := holc1
          have chg : Chg [g] w1 _ := Chg.refl _ _
          obtain ⟨cur2, hX2, -⟩ := own_set2 (d := kGor) (y := ⟨k1, k1 + 1, y0, kq0, y1⟩) (cs := [.int .i64 (k1), .int .i64 (k1 + 1), .slice B0 ex.regs.length d0, .int .i64 (kq0), .slice B1 ex.trace.length d1]) HX.out (by rw [← HF.out]; exact HND.out) (by have := HH2.out.1; omega) hil hol (by show o + i * 5 = _; omega) rfl (by rw [HB2.out]; exact kGor_mkO _ ⟨k1, k1 + 1, y0, kq0, y1⟩ (chg.own (fun b hb hm => by simp only [List.mem_singleton] at hm; subst hm; exact hg0 hb) Q1_0.out) (chg.own (fun b hb hm => by simp only [List.mem_singleton] at hm; subst hm; exact hg1 hb) Q1_1.out)) (cells_cons (by go_simp) (cells_cons (by go_simp) (cells_cons (by go_simp) (cells_cons (by go_simp) (cells_cons (by go_simp) cells_nil)))))
          have hown := hX2.own
          rw [List.length_set, HH2.out.1, ← HF.out] at hown
          refine ⟨by rw [List.length_set]; exact HH2.out.1, hown, ?_, by rw [drop_set]; exact drop_next HD.out, HH2.out.2.2.trans (by rw [HF.out]; exact own_set_chg hil hol)⟩
          rw [take_set (by have := HH2.out.1; omega)]
          exact MkS_snoc HH2.out.2.1 ⟨_, _, rfl, rfl, hm0, rfl, hm1, by omega⟩
      · have hi' : i = N := by omega
        subst hi'
        rw [List.take_of_length_le (by omega)] at hk1
        subst hk1
        go_wp2
        go_ret
        obtain ⟨hyl, hOw, hMk, _, hCh⟩ := HH.out
        rw [List.take_of_length_le (by omega)] at hMk
        exact ⟨ys, rfl, hyl, hOw, hMk, hCh⟩
end Go.Proofs.YtjmefaihkblliaaGreat.Wd
/- Marks: what a row holds behind a mark, and how it is told. Conditions: bounds on the sizes. -/
namespace Go.Proofs.YtjmefaihkblliaaGreat.Wd
open Go.RowKit
open Go.Proofs.YtjmefaihkblliaaGreat.Ab (MCase MSelect MInstr MProc MProg MWaiter MChan MMutex MItem MGor MEng MPick)
set_option linter.unusedVariables false
set_option linter.unusedSimpArgs false
set_option maxHeartbeats 4000000
set_option maxRecDepth 100000
theorem markMutexS_calls (xs : List MMutex) (A : Option Addr) (c : Nat) (k : Int) (w : World) (bs : List Nat) (ho : kMutex.Own 193 w bs (.slice A xs.length c) xs) (hnd : bs.Nodup) (hl : xs.length + cntMutexS xs ≤ 67108864) (hk0 : 0 ≤ k) (hk : k ≤ 549755813888) :
    Calls Tryz.prog 81 #[.slice A xs.length c, .int .i64 k] w fun e w' => ∃ (xs' : List MMutex), e = .returned (.int .i64 (k + ((mcMutexS xs : Nat) : Int))) ∧ xs'.length = xs.length ∧ kMutex.Own 193 w' bs (.slice A xs.length c) xs' ∧ MkS MkMutex xs' k (k + ((mcMutexS xs : Nat) : Int)) ∧ Chg bs w w' := by
  have hmle := mcMutexS_le xs
  by_cases hn : xs.length = 0
  · have h0 : xs = [] := List.eq_nil_of_length_eq_zero hn
    subst h0
    have HO := Lib.hid ho; clear ho
    go_enter Tryz.func81, Tryz.ntmps81
    go_wp2
    go_loopg [1, 5] 1 (fun kq v1 v5 w' => v5 = .int .i64 0 ∧ v1 = .int .i64 k ∧ kq = 1 ∧ w' = w)
    case atStart => exact ⟨rfl, rfl, rfl, rfl⟩
    case round =>
      obtain ⟨rfl, rfl, rfl, rfl⟩ := hrel
      go_wp2
      go_ret
      exact ⟨[], by simp [mcMutexS], rfl, HO.out, by simp [MkS, mcMutexS], Chg.refl _ _⟩
  · obtain ⟨g, o, c', cur, bss, hv, rfl, hX⟩ := own_x ho (by omega)
    cases hv
    obtain ⟨N, hN⟩ : ∃ N, xs.length = N := ⟨_, rfl⟩
    rw [hN] at ho ⊢
    have HO0 := Lib.hid ho; clear ho hX hn
    have HND := Lib.hid hnd; clear hnd
    go_enter Tryz.func81, Tryz.ntmps81
    go_wp2
    go_loopg [1, 5] (N + 1) (fun kq v1 v5 w' => ∃ (i : Nat) (k1 : Int) (ys : List MMutex), v5 = .int .i64 i ∧ v1 = .int .i64 k1 ∧ i + kq = N + 1 ∧ i ≤ N ∧ k1 = k + ((mcMutexS (xs.take i) : Nat) : Int) ∧ Hid (ys.length = N ∧ kMutex.Own 193 w' (g :: bss.flatten) (.slice (some ⟨g, o, none⟩) N c) ys ∧ MkS MkMutex (ys.take i) k k1 ∧ ys.drop i = xs.drop i ∧ Chg (g :: bss.flatten) w w'))
    case atStart => exact ⟨0, k, xs, rfl, rfl, by omega, by omega, by simp [mcMutexS], Lib.hid ⟨hN, HO0.out, rfl, rfl, Chg.refl _ _⟩⟩
    case round =>
      obtain ⟨i, k1, ys, rfl, rfl, hi, hi2, hk1, HH⟩ := hrel
      obtain ⟨gk, rfl⟩ : ∃ m, gk = m + 1 := ⟨gk - 1, by omega⟩
      have htl := mcMutexS_takele (xs := xs) (i := i)
      by_cases hlt : i < N
      · obtain ⟨hyl, hOw, hMk, hdr, hCh⟩ := HH.out
        obtain ⟨g', o', c2, cur', bss', hv, hbs, hX⟩ := own_x hOw (by omega)
        simp only [Value.slice.injEq, Option.some.injEq, Addr.mk.injEq, List.cons.injEq] at hv hbs
        obtain ⟨⟨rfl, rfl, -⟩, -, rfl⟩ := hv
        have hbf := hbs.2
        have hil : i < bss'.length := by rw [hX.len]; omega
        have hsz : o + c * 2 ≤ cur'.size := hX.size
        have hcn : ys.length ≤ c := hX.le
        have zg : g < wr.heap.size := (Array.getElem?_eq_some_iff.1 hX.blk).1
        have hxi : i < xs.length := by omega
        have hcx := cntMutexS_at hxi
        unfold cntMutex at hcx
        obtain ⟨ex, hex⟩ : ∃ ex, xs[i] = ex := ⟨_, rfl⟩
        rw [hex] at hcx
        have HEX := Lib.hid hex
        have hel := hX.el i ex bss'[i] (by rw [List.getElem?_eq_getElem (by omega), drop_at hdr hxi (by omega), hex]) (List.getElem?_eq_getElem hil)
        clear hex
        have hk1b : 0 ≤ k1 ∧ k1 ≤ 549755813888 + 1073741824 := by omega
        have HK := Lib.hid hk1; clear hk1
        have HH2 := Lib.hid (And.intro hyl (And.intro hMk hCh))
        obtain ⟨B0, d0, b0, hcs, hbs2, o0⟩ := kMutex_O hel
        have g0 : wr.cell? ⟨g, o + i * 2, none⟩ = some (.int .i64 ex.owner) := seg_cell hX.blk hcs (j := 0) rfl
        have f0 : wr.frozen? ⟨g, o + i * 2, none⟩ = false := (blk_cell hX.blk (j := o + i * 2) (by omega)).2
        have g1 : wr.cell? ⟨g, o + i * 2 + 1, none⟩ = some (.slice B0 ex.wait.length d0) := seg_cell hX.blk hcs (j := 1) rfl
        have f1 : wr.frozen? ⟨g, o + i * 2 + 1, none⟩ = false := (blk_cell hX.blk (j := o + i * 2 + 1) (by omega)).2
        have hnd2 : (g :: (b0)).Nodup := by
          have h1 := HND.out; rw [hbf] at h1
          have h2 : bss'[i].Sublist bss'.flatten := sub_flat hil
          rw [hbs2] at h2; exact h1.sublist (List.Sublist.cons_cons _ h2)
        have hg0 : g ∉ b0 := fun h => (List.nodup_cons.1 hnd2).1 (by simp [h])
        have hnn := (List.nodup_cons.1 hnd2).2
        have hn0 := hnn
        have HX := Lib.hid hX; have HB2 := Lib.hid hbs2; have HF := Lib.hid hbf; have HND2 := Lib.hid hnd2; have HD := Lib.hid hdr; clear hX hbs2 hcs hel hbf hbs HH hMk hOw hCh hdr hnd2
        have O0 := Lib.hid o0; clear o0
        go_wp2_with fail
        refine settleC ?_
        intro V0 hV0
        have hol0 : Hol g (o + i * 2) (o + i * 2 + 2) 193 cur'.size bss'[i] wr V0 := by rw [hV0]; exact Hol.set (j := o + i * 2) (by omega) (by omega) (.int .i64 (k1)) (Hol.refl HX.out.blk)
        have chg0 : Chg ([g]) wr V0 := by rw [hV0]; exact Chg.setc (g := g) (j := o + i * 2) (by simp) (.int .i64 (k1)) (Chg.refl _ _)
        have G0_0 : V0.cell? ⟨g, o + i * 2, none⟩ = some (.int .i64 (k1)) := by rw [hV0]; go_simp
        have G0_1 : V0.cell? ⟨g, o + i * 2 + 1, none⟩ = some (.slice B0 ex.wait.length d0) := by rw [hV0]; go_simp
        clear hV0
        have P0_0 := Lib.hid (chg0.own (fun b hb hm => by simp only [List.mem_singleton] at hm; subst hm; exact hg0 hb) O0.out)
        refine (markIntS_calls ex.wait B0 d0 (k1 + 1) V0 b0 P0_0.out hn0 (by omega) (by omega) (by omega)).mono ?_
        rintro e w0 ⟨y0, he, hl0, p0, hm0, hc0⟩
        obtain ⟨kq0, hkq0⟩ : ∃ kq : Int, k1 + 1 + ((ex.wait.length : Nat) : Int) = kq := ⟨_, rfl⟩
        rw [hkq0] at he hm0; subst he
        have bkq0 : 0 ≤ kq0 ∧ kq0 ≤ 549755813888 + 1073741824 + 1073741824 := by omega
        have HKQ0 := Lib.hid hkq0; clear hkq0
        have holc0 : Hol g (o + i * 2) (o + i * 2 + 2) 193 cur'.size bss'[i] wr w0 := Hol.chg hc0 hg0 (fun b hb => .inl (by rw [HB2.out]; simp [hb])) hol0
        obtain ⟨cu0, hcu0, hsz0⟩ := holc0.shape
        have g0 := hc0.cell hg0 G0_0
        have f0 : w0.frozen? ⟨g, o + i * 2, none⟩ = false := (blk_cell hcu0 (j := o + i * 2) (by omega)).2
        have g1 := hc0.cell hg0 G0_1
        have f1 : w0.frozen? ⟨g, o + i * 2 + 1, none⟩ = false := (blk_cell hcu0 (j := o + i * 2 + 1) (by omega)).2
        clear G0_0 G0_1
        have zg0 : g < w0.heap.size := (Array.getElem?_eq_some_iff.1 hcu0).1
        have Q0_0 := Lib.hid p0; clear p0
        go_wp2
        go_roundg gk
        case measure => omega
        case rel =>
          have hkk := mcMutexS_take (xs := xs) (i := i) (by omega)
          have hexl := HEX.out
          rw [hexl] at hkk; unfold mcMutex at hkk
          have hkq0 := HKQ0.out
          refine ⟨i + 1, kq0, ys.set i ⟨k1, y0⟩, by go_num, by go_num, by omega, by omega, by have := HK.out; omega, Lib.hid ?_⟩
          have hol : Hol g (o + i * 2) (o + i * 2 + 2) 193 cur'.size bss'[i] wr _ := holc0
          have chg : Chg [g] w0 _ := Chg.refl _ _
          obtain ⟨cur2, hX2, -⟩ := own_set2 (d := kMutex) (y := ⟨k1, y0⟩) (cs := [.int .i64 (k1), .slice B0 ex.wait.length d0]) HX.out (by rw [← HF.out]; exact HND.out) (by have := HH2.out.1; omega) hil hol (by show o + i * 2 = _; omega) rfl (by rw [HB2.out]; exact kMutex_mkO _ ⟨k1, y0⟩ (chg.own (fun b hb hm => by simp only [List.mem_singleton] at hm; subst hm; exact hg0 hb) Q0_0.out)) (cells_cons (by go_simp) (cells_cons (by go_simp) cells_nil))
          have hown := hX2.own
          rw [List.length_set, HH2.out.1, ← HF.out] at hown
          refine ⟨by rw [List.length_set]; exact HH2.out.1, hown, ?_, by rw [drop_set]; exact drop_next HD.out, HH2.out.2.2.trans (by rw [HF.out]; exact own_set_chg hil hol)⟩
          rw [take_set (by have := HH2.out.1; omega)]
          exact MkS_snoc HH2.out.2.1 ⟨_, rfl, hm0, by omega⟩
      · have hi' : i = N := by omega
        subst hi'
        rw [List.take_of_length_le (by omega)] at hk1
        subst hk1
        go_wp2
        go_ret
        obtain ⟨hyl, hOw, hMk, _, hCh⟩ := HH.out
        rw [List.take_of_length_le (by omega)] at hMk
        exact ⟨ys, rfl, hyl, hOw, hMk, hCh⟩
end Go.Proofs.YtjmefaihkblliaaGreat.Wd
/- Marks: what a row holds behind a mark, and how it is told. Conditions: bounds on the sizes. -/
namespace Go.Proofs.YtjmefaihkblliaaGreat.Wd
open Go.RowKit
open Go.Proofs.YtjmefaihkblliaaGreat.Ab (MCase MSelect MInstr MProc MProg MWaiter MChan MMutex MItem MGor MEng MPick)
set_option linter.unusedVariables false
set_option linter.unusedSimpArgs false
set_option maxHeartbeats 4000000
set_option maxRecDepth 100000
theorem markChanS_calls (xs : List MChan) (A : Option Addr) (c : Nat) (k : Int) (w : World) (bs : List Nat) (ho : kChan.Own 191 w bs (.slice A xs.length c) xs) (hnd : bs.Nodup) (hl : xs.length + cntChanS xs ≤ 67108864) (hk0 : 0 ≤ k) (hk : k ≤ 549755813888) :
    Calls Tryz.prog 80 #[.slice A xs.length c, .int .i64 k] w fun e w' => ∃ (xs' : List MChan), e = .returned (.int .i64 (k + ((mcChanS xs : Nat) : Int))) ∧ xs'.length = xs.length ∧ kChan.Own 191 w' bs (.slice A xs.length c) xs' ∧ MkS MkChan xs' k (k + ((mcChanS xs : Nat) : Int)) ∧ Chg bs w w' := by
  have hmle := mcChanS_le xs
  by_cases hn : xs.length = 0
  · have h0 : xs = [] := List.eq_nil_of_length_eq_zero hn
    subst h0
    have HO := Lib.hid ho; clear ho
    go_enter Tryz.func80, Tryz.ntmps80
    go_wp2
    go_loopg [1, 5] 1 (fun kq v1 v5 w' => v5 = .int .i64 0 ∧ v1 = .int .i64 k ∧ kq = 1 ∧ w' = w)
    case atStart => exact ⟨rfl, rfl, rfl, rfl⟩
    case round =>
      obtain ⟨rfl, rfl, rfl, rfl⟩ := hrel
      go_wp2
      go_ret
      exact ⟨[], by simp [mcChanS], rfl, HO.out, by simp [MkS, mcChanS], Chg.refl _ _⟩
  · obtain ⟨g, o, c', cur, bss, hv, rfl, hX⟩ := own_x ho (by omega)
    cases hv
    obtain ⟨N, hN⟩ : ∃ N, xs.length = N := ⟨_, rfl⟩
    rw [hN] at ho ⊢
    have HO0 := Lib.hid ho; clear ho hX hn
    have HND := Lib.hid hnd; clear hnd
    go_enter Tryz.func80, Tryz.ntmps80
    go_wp2
    go_loopg [1, 5] (N + 1) (fun kq v1 v5 w' => ∃ (i : Nat) (k1 : Int) (ys : List MChan), v5 = .int .i64 i ∧ v1 = .int .i64 k1 ∧ i + kq = N + 1 ∧ i ≤ N ∧ k1 = k + ((mcChanS (xs.take i) : Nat) : Int) ∧ Hid (ys.length = N ∧ kChan.Own 191 w' (g :: bss.flatten) (.slice (some ⟨g, o, none⟩) N c) ys ∧ MkS MkChan (ys.take i) k k1 ∧ ys.drop i = xs.drop i ∧ Chg (g :: bss.flatten) w w'))
    case atStart => exact ⟨0, k, xs, rfl, rfl, by omega, by omega, by simp [mcChanS], Lib.hid ⟨hN, HO0.out, rfl, rfl, Chg.refl _ _⟩⟩
    case round =>
      obtain ⟨i, k1, ys, rfl, rfl, hi, hi2, hk1, HH⟩ := hrel
      obtain ⟨gk, rfl⟩ : ∃ m, gk = m + 1 := ⟨gk - 1, by omega⟩
      have htl := mcChanS_takele (xs := xs) (i := i)
      by_cases hlt : i < N
      · obtain ⟨hyl, hOw, hMk, hdr, hCh⟩ := HH.out
        obtain ⟨g', o', c2, cur', bss', hv, hbs, hX⟩ := own_x hOw (by omega)
        simp only [Value.slice.injEq, Option.some.injEq, Addr.mk.injEq, List.cons.injEq] at hv hbs
        obtain ⟨⟨rfl, rfl, -⟩, -, rfl⟩ := hv
        have hbf := hbs.2
        have hil : i < bss'.length := by rw [hX.len]; omega
        have hsz : o + c * 5 ≤ cur'.size := hX.size
        have hcn : ys.length ≤ c := hX.le
        have zg : g < wr.heap.size := (Array.getElem?_eq_some_iff.1 hX.blk).1
        have hxi : i < xs.length := by omega
        have hcx := cntChanS_at hxi
        unfold cntChan at hcx
        obtain ⟨ex, hex⟩ : ∃ ex, xs[i] = ex := ⟨_, rfl⟩
        rw [hex] at hcx
        have HEX := Lib.hid hex
        have hel := hX.el i ex bss'[i] (by rw [List.getElem?_eq_getElem (by omega), drop_at hdr hxi (by omega), hex]) (List.getElem?_eq_getElem hil)
        clear hex
        have hk1b : 0 ≤ k1 ∧ k1 ≤ 549755813888 + 1073741824 := by omega
        have HK := Lib.hid hk1; clear hk1
        have HH2 := Lib.hid (And.intro hyl (And.intro hMk hCh))
        obtain ⟨B0, d0, b0, B1, d1, b1, B2, d2, b2, hcs, hbs2, o0, o1, o2⟩ := kChan_O hel
        have g0 : wr.cell? ⟨g, o + i * 5, none⟩ = some (.int .i64 ex.cap) := seg_cell hX.blk hcs (j := 0) rfl
        have f0 : wr.frozen? ⟨g, o + i * 5, none⟩ = false := (blk_cell hX.blk (j := o + i * 5) (by omega)).2
        have g1 : wr.cell? ⟨g, o + i * 5 + 1, none⟩ = some (.slice B0 ex.buf.length d0) := seg_cell hX.blk hcs (j := 1) rfl
        have f1 : wr.frozen? ⟨g, o + i * 5 + 1, none⟩ = false := (blk_cell hX.blk (j := o + i * 5 + 1) (by omega)).2
        have g2 : wr.cell? ⟨g, o + i * 5 + 2, none⟩ = some (.slice B1 ex.sends.length d1) := seg_cell hX.blk hcs (j := 2) rfl
        have f2 : wr.frozen? ⟨g, o + i * 5 + 2, none⟩ = false := (blk_cell hX.blk (j := o + i * 5 + 2) (by omega)).2
        have g3 : wr.cell? ⟨g, o + i * 5 + 3, none⟩ = some (.slice B2 ex.recvs.length d2) := seg_cell hX.blk hcs (j := 3) rfl
        have f3 : wr.frozen? ⟨g, o + i * 5 + 3, none⟩ = false := (blk_cell hX.blk (j := o + i * 5 + 3) (by omega)).2
        have g4 : wr.cell? ⟨g, o + i * 5 + 4, none⟩ = some (.bool ex.closed) := seg_cell hX.blk hcs (j := 4) rfl
        have f4 : wr.frozen? ⟨g, o + i * 5 + 4, none⟩ = false := (blk_cell hX.blk (j := o + i * 5 + 4) (by omega)).2
        have hnd2 : (g :: (b0 ++ b1 ++ b2)).Nodup := by
          have h1 := HND.out; rw [hbf] at h1
          have h2 : bss'[i].Sublist bss'.flatten := sub_flat hil
          rw [hbs2] at h2; exact h1.sublist (List.Sublist.cons_cons _ h2)
        have hg0 : g ∉ b0 := fun h => (List.nodup_cons.1 hnd2).1 (by simp [h])
        have hg1 : g ∉ b1 := fun h => (List.nodup_cons.1 hnd2).1 (by simp [h])
        have hg2 : g ∉ b2 := fun h => (List.nodup_cons.1 hnd2).1 (by simp [h])
        have hnn := (List.nodup_cons.1 hnd2).2
        obtain ⟨hw2, hn2, ea2, eb2⟩ := nd2 hnn
        have DJ0_2 : Hid (∀ k ∈ b0, k ∉ b2) := Lib.hid fun k h => ea2 k (List.mem_append_left _ h)
        have DJ2_0 : Hid (∀ k ∈ b2, k ∉ b0) := Lib.hid fun k h h2 => eb2 k h (List.mem_append_left _ h2)
        have DJ1_2 : Hid (∀ k ∈ b1, k ∉ b2) := Lib.hid fun k h => ea2 k (List.mem_append_right _ h)
        have DJ2_1 : Hid (∀ k ∈ b2, k ∉ b1) := Lib.hid fun k h h2 => eb2 k h (List.mem_append_right _ h2)
        obtain ⟨hn0, hn1, ea1, eb1⟩ := nd2 hw2
        have DJ0_1 : Hid (∀ k ∈ b0, k ∉ b1) := Lib.hid fun k h => ea1 k h
        have DJ1_0 : Hid (∀ k ∈ b1, k ∉ b0) := Lib.hid fun k h h2 => eb1 k h h2
        clear ea1 eb1 ea2 eb2
        have HX := Lib.hid hX; have HB2 := Lib.hid hbs2; have HF := Lib.hid hbf; have HND2 := Lib.hid hnd2; have HD := Lib.hid hdr; clear hX hbs2 hcs hel hbf hbs HH hMk hOw hCh hdr hnd2
        have O0 := Lib.hid o0; clear o0
        have O1 := Lib.hid o1; clear o1
        have O2 := Lib.hid o2; clear o2
        go_wp2_with fail
        refine settleC ?_
        intro V0 hV0
        have hol0 : Hol g (o + i * 5) (o + i * 5 + 5) 191 cur'.size bss'[i] wr V0 := by rw [hV0]; exact Hol.set (j := o + i * 5) (by omega) (by omega) (.int .i64 (k1)) (Hol.refl HX.out.blk)
        have chg0 : Chg ([g]) wr V0 := by rw [hV0]; exact Chg.setc (g := g) (j := o + i * 5) (by simp) (.int .i64 (k1)) (Chg.refl _ _)
        have G0_0 : V0.cell? ⟨g, o + i * 5, none⟩ = some (.int .i64 (k1)) := by rw [hV0]; go_simp
        have G0_1 : V0.cell? ⟨g, o + i * 5 + 1, none⟩ = some (.slice B0 ex.buf.length d0) := by rw [hV0]; go_simp
        have G0_2 : V0.cell? ⟨g, o + i * 5 + 2, none⟩ = some (.slice B1 ex.sends.length d1) := by rw [hV0]; go_simp
        have G0_3 : V0.cell? ⟨g, o + i * 5 + 3, none⟩ = some (.slice B2 ex.recvs.length d2) := by rw [hV0]; go_simp
        have G0_4 : V0.cell? ⟨g, o + i * 5 + 4, none⟩ = some (.bool ex.closed) := by rw [hV0]; go_simp
        clear hV0
        have P0_0 := Lib.hid (chg0.own (fun b hb hm => by simp only [List.mem_singleton] at hm; subst hm; exact hg0 hb) O0.out)
        have P0_1 := Lib.hid (chg0.own (fun b hb hm => by simp only [List.mem_singleton] at hm; subst hm; exact hg1 hb) O1.out)
        have P0_2 := Lib.hid (chg0.own (fun b hb hm => by simp only [List.mem_singleton] at hm; subst hm; exact hg2 hb) O2.out)
        refine (markIntS_calls ex.buf B0 d0 (k1 + 1) V0 b0 P0_0.out hn0 (by omega) (by omega) (by omega)).mono ?_
        rintro e w0 ⟨y0, he, hl0, p0, hm0, hc0⟩
        obtain ⟨kq0, hkq0⟩ : ∃ kq : Int, k1 + 1 + ((ex.buf.length : Nat) : Int) = kq := ⟨_, rfl⟩
        rw [hkq0] at he hm0; subst he
        have bkq0 : 0 ≤ kq0 ∧ kq0 ≤ 549755813888 + 1073741824 + 1073741824 := by omega
        have HKQ0 := Lib.hid hkq0; clear hkq0
        have holc0 : Hol g (o + i * 5) (o + i * 5 + 5) 191 cur'.size bss'[i] wr w0 := Hol.chg hc0 hg0 (fun b hb => .inl (by rw [HB2.out]; simp [hb])) hol0
        obtain ⟨cu0, hcu0, hsz0⟩ := holc0.shape
        have g0 := hc0.cell hg0 G0_0
        have f0 : w0.frozen? ⟨g, o + i * 5, none⟩ = false := (blk_cell hcu0 (j := o + i * 5) (by omega)).2
        have g1 := hc0.cell hg0 G0_1
        have f1 : w0.frozen? ⟨g, o + i * 5 + 1, none⟩ = false := (blk_cell hcu0 (j := o + i * 5 + 1) (by omega)).2
        have g2 := hc0.cell hg0 G0_2
        have f2 : w0.frozen? ⟨g, o + i * 5 + 2, none⟩ = false := (blk_cell hcu0 (j := o + i * 5 + 2) (by omega)).2
        have g3 := hc0.cell hg0 G0_3
        have f3 : w0.frozen? ⟨g, o + i * 5 + 3, none⟩ = false := (blk_cell hcu0 (j := o + i * 5 + 3) (by omega)).2
        have g4 := hc0.cell hg0 G0_4
        have f4 : w0.frozen? ⟨g, o + i * 5 + 4, none⟩ = false := (blk_cell hcu0 (j := o + i * 5 + 4) (by omega)).2
        clear G0_0 G0_1 G0_2 G0_3 G0_4
        have zg0 : g < w0.heap.size := (Array.getElem?_eq_some_iff.1 hcu0).1
        have Q0_0 := Lib.hid p0; clear p0
        have Q0_1 := Lib.hid (hc0.own DJ1_0.out P0_1.out)
        have Q0_2 := Lib.hid (hc0.own DJ2_0.out P0_2.out)
        go_wp2_with fail
        refine settleC ?_
        intro V1 hV1
        have hol1 : Hol g (o + i * 5) (o + i * 5 + 5) 191 cur'.size bss'[i] wr V1 := by rw [hV1]; exact holc0
        have chg1 : Chg ([g]) w0 V1 := by rw [hV1]; exact Chg.refl _ _
        have G1_0 : V1.cell? ⟨g, o + i * 5, none⟩ = some (.int .i64 (k1)) := by rw [hV1]; go_simp
        have G1_1 : V1.cell? ⟨g, o + i * 5 + 1, none⟩ = some (.slice B0 ex.buf.length d0) := by rw [hV1]; go_simp
        have G1_2 : V1.cell? ⟨g, o + i * 5 + 2, none⟩ = some (.slice B1 ex.sends.length d1) := by rw [hV1]; go_simp
        have G1_3 : V1.cell? ⟨g, o + i * 5 + 3, none⟩ = some (.slice B2 ex.recvs.length d2) := by rw [hV1]; go_simp
        have G1_4 : V1.cell? ⟨g, o + i * 5 + 4, none⟩ = some (.bool ex.closed) := by rw [hV1]; go_simp
        clear hV1
        have P1_0 := Lib.hid (chg1.own (fun b hb hm => by simp only [List.mem_singleton] at hm; subst hm; exact hg0 hb) Q0_0.out)
        have P1_1 := Lib.hid (chg1.own (fun b hb hm => by simp only [List.mem_singleton] at hm; subst hm; exact hg1 hb) Q0_1.out)
        have P1_2 := Lib.hid (chg1.own (fun b hb hm => by simp only [List.mem_singleton] at hm; subst hm; exact hg2 hb) Q0_2.out)
        refine (markWaiterS_calls ex.sends B1 d1 (kq0) V1 b1 P1_1.out hn1 (by omega) (by omega) (by omega)).mono ?_
        rintro e w1 ⟨y1, he, hl1, p1, hm1, hc1⟩
        obtain ⟨kq1, hkq1⟩ : ∃ kq : Int, kq0 + ((ex.sends.length * 3 : Nat) : Int) = kq := ⟨_, rfl⟩
        rw [hkq1] at he hm1; subst he
        have bkq1 : 0 ≤ kq1 ∧ kq1 ≤ 549755813888 + 1073741824 + 2147483648 := by omega
        have HKQ1 := Lib.hid hkq1; clear hkq1
        have holc1 : Hol g (o + i * 5) (o + i * 5 + 5) 191 cur'.size bss'[i] wr w1 := Hol.chg hc1 hg1 (fun b hb => .inl (by rw [HB2.out]; simp [hb])) hol1
        obtain ⟨cu1, hcu1, hsz1⟩ := holc1.shape
        have g0 := hc1.cell hg1 G1_0
        have f0 : w1.frozen? ⟨g, o + i * 5, none⟩ = false := (blk_cell hcu1 (j := o + i * 5) (by omega)).2
        have g1 := hc1.cell hg1 G1_1
        have f1 : w1.frozen? ⟨g, o + i * 5 + 1, none⟩ = false := (blk_cell hcu1 (j := o + i * 5 + 1) (by omega)).2
        have g2 := hc1.cell hg1 G1_2
        have f2 : w1.frozen? ⟨g, o + i * 5 + 2, none⟩ = false := (blk_cell hcu1 (j := o + i * 5 + 2) (by omega)).2
        have g3 := hc1.cell hg1 G1_3
        have f3 : w1.frozen? ⟨g, o + i * 5 + 3, none⟩ = false := (blk_cell hcu1 (j := o + i * 5 + 3) (by omega)).2
        have g4 := hc1.cell hg1 G1_4
        have f4 : w1.frozen? ⟨g, o + i * 5 + 4, none⟩ = false := (blk_cell hcu1 (j := o + i * 5 + 4) (by omega)).2
        clear G1_0 G1_1 G1_2 G1_3 G1_4
        have zg1 : g < w1.heap.size := (Array.getElem?_eq_some_iff.1 hcu1).1
        have Q1_0 := Lib.hid (hc1.own DJ0_1.out P1_0.out)
        have Q1_1 := Lib.hid p1; clear p1
        have Q1_2 := Lib.hid (hc1.own DJ2_1.out P1_2.out)
        go_wp2_with fail
        refine settleC ?_
        intro V2 hV2
        have hol2 : Hol g (o + i * 5) (o + i * 5 + 5) 191 cur'.size bss'[i] wr V2 := by rw [hV2]; exact holc1
        have chg2 : Chg ([g]) w1 V2 := by rw [hV2]; exact Chg.refl _ _
        have G2_0 : V2.cell? ⟨g, o + i * 5, none⟩ = some (.int .i64 (k1)) := by rw [hV2]; go_simp
        have G2_1 : V2.cell? ⟨g, o + i * 5 + 1, none⟩ = some (.slice B0 ex.buf.length d0) := by rw [hV2]; go_simp
        have G2_2 : V2.cell? ⟨g, o + i * 5 + 2, none⟩ = some (.slice B1 ex.sends.length d1) := by rw [hV2]; go_simp
        have G2_3 : V2.cell? ⟨g, o + i * 5 + 3, none⟩ = some (.slice B2 ex.recvs.length d2) := by rw [hV2]; go_simp
        have G2_4 : V2.cell? ⟨g, o + i * 5 + 4, none⟩ = some (.bool ex.closed) := by rw [hV2]; go_simp
        clear hV2
        have P2_0 := Lib.hid (chg2.own (fun b hb hm => by simp only [List.mem_singleton] at hm; subst hm; exact hg0 hb) Q1_0.out)
        have P2_1 := Lib.hid (chg2.own (fun b hb hm => by simp only [List.mem_singleton] at hm; subst hm; exact hg1 hb) Q1_1.out)
        have P2_2 := Lib.hid (chg2.own (fun b hb hm => by simp only [List.mem_singleton] at hm; subst hm; exact hg2 hb) Q1_2.out)
        refine (markWaiterS_calls ex.recvs B2 d2 (kq1) V2 b2 P2_2.out hn2 (by omega) (by omega) (by omega)).mono ?_
        rintro e w2 ⟨y2, he, hl2, p2, hm2, hc2⟩
        obtain ⟨kq2, hkq2⟩ : ∃ kq : Int, kq1 + ((ex.recvs.length * 3 : Nat) : Int) = kq := ⟨_, rfl⟩
        rw [hkq2] at he hm2; subst he
        have bkq2 : 0 ≤ kq2 ∧ kq2 ≤ 549755813888 + 1073741824 + 3221225472 := by omega
        have HKQ2 := Lib.hid hkq2; clear hkq2
        have holc2 : Hol g (o + i * 5) (o + i * 5 + 5) 191 cur'.size bss'[i] wr w2 := Hol.chg hc2 hg2 (fun b hb => .inl (by rw [HB2.out]; simp [hb])) hol2
        obtain ⟨cu2, hcu2, hsz2⟩ := holc2.shape
        have g0 := hc2.cell hg2 G2_0
        have f0 : w2.frozen? ⟨g, o + i * 5, none⟩ = false := (blk_cell hcu2 (j := o + i * 5) (by omega)).2
        have g1 := hc2.cell hg2 G2_1
        have f1 : w2.frozen? ⟨g, o + i * 5 + 1, none⟩ = false := (blk_cell hcu2 (j := o + i * 5 + 1) (by omega)).2
        have g2 := hc2.cell hg2 G2_2
        have f2 : w2.frozen? ⟨g, o + i * 5 + 2, none⟩ = false := (blk_cell hcu2 (j := o + i * 5 + 2) (by omega)).2
        have g3 := hc2.cell hg2 G2_3
        have f3 : w2.frozen? ⟨g, o + i * 5 + 3, none⟩ = false := (blk_cell hcu2 (j := o + i * 5 + 3) (by omega)).2
        have g4 := hc2.cell hg2 G2_4
        have f4 : w2.frozen? ⟨g, o + i * 5 + 4, none⟩ = false := (blk_cell hcu2 (j := o + i * 5 + 4) (by omega)).2
        clear G2_0 G2_1 G2_2 G2_3 G2_4
        have zg2 : g < w2.heap.size := (Array.getElem?_eq_some_iff.1 hcu2).1
        have Q2_0 := Lib.hid (hc2.own DJ0_2.out P2_0.out)
        have Q2_1 := Lib.hid (hc2.own DJ1_2.out P2_1.out)
        have Q2_2 := Lib.hid p2; clear p2
        go_wp2
        go_roundg gk
        case measure => omega
        case rel =>
          have hkk := mcChanS_take (xs := xs) (i := i) (by omega)
          have hexl := HEX.out
          rw [hexl] at hkk; unfold mcChan at hkk
          have hkq0 := HKQ0.out
          have hkq1 := HKQ1.out
          have hkq2 := HKQ2.out
          refine ⟨i + 1, kq2 + 1, ys.set i ⟨k1, y0, y1, y2, ((kq2) % 3 == 0)⟩, by go_num, by go_num, by omega, by omega, by have := HK.out; omega, Lib.hid ?_⟩
          have hol : Hol g (o + i * 5) (o + i * 5 + 5) 191 cur'.size bss'[i] wr _ := Hol.set (j := o + i * 5 + 4) (by omega) (by omega) (.bool ((kq2) % 3 == 0)) (holc2)
          have chg : Chg [g] w2 _ := Chg.setc (g := g) (j := o + i * 5 + 4) (by simp) (.bool ((kq2) % 3 == 0)) (Chg.refl _ _)
          obtain ⟨cur2, hX2, -⟩ := own_set2 (d := kChan) (y := ⟨k1, y0, y1, y2, ((kq2) % 3 == 0)⟩) (cs := [.int .i64 (k1), .slice B0 ex.buf.length d0, .slice B1 ex.sends.length d1, .slice B2 ex.recvs.length d2, .bool ((kq2) % 3 == 0)]) HX.out (by rw [← HF.out]; exact HND.out) (by have := HH2.out.1; omega) hil hol (by show o + i * 5 = _; omega) rfl (by rw [HB2.out]; exact kChan_mkO _ ⟨k1, y0, y1, y2, ((kq2) % 3 == 0)⟩ (chg.own (fun b hb hm => by simp only [List.mem_singleton] at hm; subst hm; exact hg0 hb) Q2_0.out) (chg.own (fun b hb hm => by simp only [List.mem_singleton] at hm; subst hm; exact hg1 hb) Q2_1.out) (chg.own (fun b hb hm => by simp only [List.mem_singleton] at hm; subst hm; exact hg2 hb) Q2_2.out)) (cells_cons (by go_simp) (cells_cons (by go_simp) (cells_cons (by go_simp) (cells_cons (by go_simp) (cells_cons (by go_simp) cells_nil)))))
          have hown := hX2.own
          rw [List.length_set, HH2.out.1, ← HF.out] at hown
          refine ⟨by rw [List.length_set]; exact HH2.out.1, hown, ?_, by rw [drop_set]; exact drop_next HD.out, HH2.out.2.2.trans (by rw [HF.out]; exact own_set_chg hil hol)⟩
          rw [take_set (by have := HH2.out.1; omega)]
          exact MkS_snoc HH2.out.2.1 ⟨_, _, _, rfl, hm0, hm1, hm2, rfl, by omega⟩
      · have hi' : i = N := by omega
        subst hi'
        rw [List.take_of_length_le (by omega)] at hk1
        subst hk1
        go_wp2
        go_ret
        obtain ⟨hyl, hOw, hMk, _, hCh⟩ := HH.out
        rw [List.take_of_length_le (by omega)] at hMk
        exact ⟨ys, rfl, hyl, hOw, hMk, hCh⟩
end Go.Proofs.YtjmefaihkblliaaGreat.Wd
/- Marks: what a row holds behind a mark, and how it is told. Conditions: bounds on the sizes. -/
namespace Go.Proofs.YtjmefaihkblliaaGreat.Wd
open Go.RowKit
open Go.Proofs.YtjmefaihkblliaaGreat.Ab (MCase MSelect MInstr MProc MProg MWaiter MChan MMutex MItem MGor MEng MPick)
set_option linter.unusedVariables false
set_option linter.unusedSimpArgs false
set_option maxHeartbeats 4000000
set_option maxRecDepth 100000
theorem markSelectS_calls (xs : List MSelect) (A : Option Addr) (c : Nat) (k : Int) (w : World) (bs : List Nat) (ho : kSelect.Own 182 w bs (.slice A xs.length c) xs) (hnd : bs.Nodup) (hl : xs.length + cntSelectS xs ≤ 67108864) (hk0 : 0 ≤ k) (hk : k ≤ 549755813888) :
    Calls Tryz.prog 77 #[.slice A xs.length c, .int .i64 k] w fun e w' => ∃ (xs' : List MSelect), e = .returned (.int .i64 (k + ((mcSelectS xs : Nat) : Int))) ∧ xs'.length = xs.length ∧ kSelect.Own 182 w' bs (.slice A xs.length c) xs' ∧ MkS MkSelect xs' k (k + ((mcSelectS xs : Nat) : Int)) ∧ Chg bs w w' := by
  have hmle := mcSelectS_le xs
  by_cases hn : xs.length = 0
  · have h0 : xs = [] := List.eq_nil_of_length_eq_zero hn
    subst h0
    have HO := Lib.hid ho; clear ho
    go_enter Tryz.func77, Tryz.ntmps77
    go_wp2
    go_loopg [1, 5] 1 (fun kq v1 v5 w' => v5 = .int .i64 0 ∧ v1 = .int .i64 k ∧ kq = 1 ∧ w' = w)
    case atStart => exact ⟨rfl, rfl, rfl, rfl⟩
    case round =>
      obtain ⟨rfl, rfl, rfl, rfl⟩ := hrel
      go_wp2
      go_ret
      exact ⟨[], by simp [mcSelectS], rfl, HO.out, by simp [MkS, mcSelectS], Chg.refl _ _⟩
  · obtain ⟨g, o, c', cur, bss, hv, rfl, hX⟩ := own_x ho (by omega)
    cases hv
    obtain ⟨N, hN⟩ : ∃ N, xs.length = N := ⟨_, rfl⟩
    rw [hN] at ho ⊢
    have HO0 := Lib.hid ho; clear ho hX hn
    have HND := Lib.hid hnd; clear hnd
    go_enter Tryz.func77, Tryz.ntmps77
    go_wp2
    go_loopg [1, 5] (N + 1) (fun kq v1 v5 w' => ∃ (i : Nat) (k1 : Int) (ys : List MSelect), v5 = .int .i64 i ∧ v1 = .int .i64 k1 ∧ i + kq = N + 1 ∧ i ≤ N ∧ k1 = k + ((mcSelectS (xs.take i) : Nat) : Int) ∧ Hid (ys.length = N ∧ kSelect.Own 182 w' (g :: bss.flatten) (.slice (some ⟨g, o, none⟩) N c) ys ∧ MkS MkSelect (ys.take i) k k1 ∧ ys.drop i = xs.drop i ∧ Chg (g :: bss.flatten) w w'))
    case atStart => exact ⟨0, k, xs, rfl, rfl, by omega, by omega, by simp [mcSelectS], Lib.hid ⟨hN, HO0.out, rfl, rfl, Chg.refl _ _⟩⟩
    case round =>
      obtain ⟨i, k1, ys, rfl, rfl, hi, hi2, hk1, HH⟩ := hrel
      obtain ⟨gk, rfl⟩ : ∃ m, gk = m + 1 := ⟨gk - 1, by omega⟩
      have htl := mcSelectS_takele (xs := xs) (i := i)
      by_cases hlt : i < N
      · obtain ⟨hyl, hOw, hMk, hdr, hCh⟩ := HH.out
        obtain ⟨g', o', c2, cur', bss', hv, hbs, hX⟩ := own_x hOw (by omega)
        simp only [Value.slice.injEq, Option.some.injEq, Addr.mk.injEq, List.cons.injEq] at hv hbs
        obtain ⟨⟨rfl, rfl, -⟩, -, rfl⟩ := hv
        have hbf := hbs.2
        have hil : i < bss'.length := by rw [hX.len]; omega
        have hsz : o + c * 2 ≤ cur'.size := hX.size
        have hcn : ys.length ≤ c := hX.le
        have zg : g < wr.heap.size := (Array.getElem?_eq_some_iff.1 hX.blk).1
        have hxi : i < xs.length := by omega
        have hcx := cntSelectS_at hxi
        unfold cntSelect at hcx
        obtain ⟨ex, hex⟩ : ∃ ex, xs[i] = ex := ⟨_, rfl⟩
        rw [hex] at hcx
        have HEX := Lib.hid hex
        have hel := hX.el i ex bss'[i] (by rw [List.getElem?_eq_getElem (by omega), drop_at hdr hxi (by omega), hex]) (List.getElem?_eq_getElem hil)
        clear hex
        have hk1b : 0 ≤ k1 ∧ k1 ≤ 549755813888 + 1073741824 := by omega
        have HK := Lib.hid hk1; clear hk1
        have HH2 := Lib.hid (And.intro hyl (And.intro hMk hCh))
        obtain ⟨B0, d0, b0, hcs, hbs2, o0⟩ := kSelect_O hel
        have g0 : wr.cell? ⟨g, o + i * 2, none⟩ = some (.slice B0 ex.cases.length d0) := seg_cell hX.blk hcs (j := 0) rfl
        have f0 : wr.frozen? ⟨g, o + i * 2, none⟩ = false := (blk_cell hX.blk (j := o + i * 2) (by omega)).2
        have g1 : wr.cell? ⟨g, o + i * 2 + 1, none⟩ = some (.int .i64 ex.els) := seg_cell hX.blk hcs (j := 1) rfl
        have f1 : wr.frozen? ⟨g, o + i * 2 + 1, none⟩ = false := (blk_cell hX.blk (j := o + i * 2 + 1) (by omega)).2
        have hnd2 : (g :: (b0)).Nodup := by
          have h1 := HND.out; rw [hbf] at h1
          have h2 : bss'[i].Sublist bss'.flatten := sub_flat hil
          rw [hbs2] at h2; exact h1.sublist (List.Sublist.cons_cons _ h2)
        have hg0 : g ∉ b0 := fun h => (List.nodup_cons.1 hnd2).1 (by simp [h])
        have hnn := (List.nodup_cons.1 hnd2).2
        have hn0 := hnn
        have HX := Lib.hid hX; have HB2 := Lib.hid hbs2; have HF := Lib.hid hbf; have HND2 := Lib.hid hnd2; have HD := Lib.hid hdr; clear hX hbs2 hcs hel hbf hbs HH hMk hOw hCh hdr hnd2
        have O0 := Lib.hid o0; clear o0
        go_wp2_with fail
        refine settleC ?_
        intro V0 hV0
        have hol0 : Hol g (o + i * 2) (o + i * 2 + 2) 182 cur'.size bss'[i] wr V0 := by rw [hV0]; exact Hol.refl HX.out.blk
        have chg0 : Chg ([g]) wr V0 := by rw [hV0]; exact Chg.refl _ _
        have G0_0 : V0.cell? ⟨g, o + i * 2, none⟩ = some (.slice B0 ex.cases.length d0) := by rw [hV0]; go_simp
        have G0_1 : V0.cell? ⟨g, o + i * 2 + 1, none⟩ = some (.int .i64 ex.els) := by rw [hV0]; go_simp
        clear hV0
        have P0_0 := Lib.hid (chg0.own (fun b hb hm => by simp only [List.mem_singleton] at hm; subst hm; exact hg0 hb) O0.out)
        refine (markCaseS_calls ex.cases B0 d0 (k1) V0 b0 P0_0.out hn0 (by omega) (by omega) (by omega)).mono ?_
        rintro e w0 ⟨y0, he, hl0, p0, hm0, hc0⟩
        obtain ⟨kq0, hkq0⟩ : ∃ kq : Int, k1 + ((ex.cases.length * 5 : Nat) : Int) = kq := ⟨_, rfl⟩
        rw [hkq0] at he hm0; subst he
        have bkq0 : 0 ≤ kq0 ∧ kq0 ≤ 549755813888 + 1073741824 + 1073741824 := by omega
        have HKQ0 := Lib.hid hkq0; clear hkq0
        have holc0 : Hol g (o + i * 2) (o + i * 2 + 2) 182 cur'.size bss'[i] wr w0 := Hol.chg hc0 hg0 (fun b hb => .inl (by rw [HB2.out]; simp [hb])) hol0
        obtain ⟨cu0, hcu0, hsz0⟩ := holc0.shape
        have g0 := hc0.cell hg0 G0_0
        have f0 : w0.frozen? ⟨g, o + i * 2, none⟩ = false := (blk_cell hcu0 (j := o + i * 2) (by omega)).2
        have g1 := hc0.cell hg0 G0_1
        have f1 : w0.frozen? ⟨g, o + i * 2 + 1, none⟩ = false := (blk_cell hcu0 (j := o + i * 2 + 1) (by omega)).2
        clear G0_0 G0_1
        have zg0 : g < w0.heap.size := (Array.getElem?_eq_some_iff.1 hcu0).1
        have Q0_0 := Lib.hid p0; clear p0
        go_wp2
        go_roundg gk
        case measure => omega
        case rel =>
          have hkk := mcSelectS_take (xs := xs) (i := i) (by omega)
          have hexl := HEX.out
          rw [hexl] at hkk; unfold mcSelect at hkk
          have hkq0 := HKQ0.out
          refine ⟨i + 1, kq0 + 1, ys.set i ⟨y0, kq0⟩, by go_num, by go_num, by omega, by omega, by have := HK.out; omega, Lib.hid ?_⟩
          have hol : Hol g (o + i * 2) (o + i * 2 + 2) 182 cur'.size bss'[i] wr _ := Hol.set (j := o + i * 2 + 1) (by omega) (by omega) (.int .i64 (kq0)) (holc0)
          have chg : Chg [g] w0 _ := Chg.setc (g := g) (j := o + i * 2 + 1) (by simp) (.int .i64 (kq0)) (Chg.refl _ _)
          obtain ⟨cur2, hX2, -⟩ := own_set2 (d := kSelect) (y := ⟨y0, kq0⟩) (cs := [.slice B0 ex.cases.length d0, .int .i64 (kq0)]) HX.out (by rw [← HF.out]; exact HND.out) (by have := HH2.out.1; omega) hil hol (by show o + i * 2 = _; omega) rfl (by rw [HB2.out]; exact kSelect_mkO _ ⟨y0, kq0⟩ (chg.own (fun b hb hm => by simp only [List.mem_singleton] at hm; subst hm; exact hg0 hb) Q0_0.out)) (cells_cons (by go_simp) (cells_cons (by go_simp) cells_nil))
          have hown := hX2.own
          rw [List.length_set, HH2.out.1, ← HF.out] at hown
          refine ⟨by rw [List.length_set]; exact HH2.out.1, hown, ?_, by rw [drop_set]; exact drop_next HD.out, HH2.out.2.2.trans (by rw [HF.out]; exact own_set_chg hil hol)⟩
          rw [take_set (by have := HH2.out.1; omega)]
          exact MkS_snoc HH2.out.2.1 ⟨_, hm0, rfl, by omega⟩
      · have hi' : i = N := by omega
        subst hi'
        rw [List.take_of_length_le (by omega)] at hk1
        subst hk1
        go_wp2
        go_ret
        obtain ⟨hyl, hOw, hMk, _, hCh⟩ := HH.out
        rw [List.take_of_length_le (by omega)] at hMk
        exact ⟨ys, rfl, hyl, hOw, hMk, hCh⟩
end Go.Proofs.YtjmefaihkblliaaGreat.Wd
/- Marks: what a row holds behind a mark, and how it is told. Conditions: bounds on the sizes. -/
namespace Go.Proofs.YtjmefaihkblliaaGreat.Wd
open Go.RowKit
open Go.Proofs.YtjmefaihkblliaaGreat.Ab (MCase MSelect MInstr MProc MProg MWaiter MChan MMutex MItem MGor MEng MPick)
set_option linter.unusedVariables false
set_option linter.unusedSimpArgs false
set_option maxHeartbeats 4000000
set_option maxRecDepth 100000
theorem markProcS_calls (xs : List MProc) (A : Option Addr) (c : Nat) (k : Int) (w : World) (bs : List Nat) (ho : kProc.Own 186 w bs (.slice A xs.length c) xs) (hnd : bs.Nodup) (hl : xs.length + cntProcS xs ≤ 67108864) (hk0 : 0 ≤ k) (hk : k ≤ 549755813888) :
    Calls Tryz.prog 78 #[.slice A xs.length c, .int .i64 k] w fun e w' => ∃ (xs' : List MProc), e = .returned (.int .i64 (k + ((mcProcS xs : Nat) : Int))) ∧ xs'.length = xs.length ∧ kProc.Own 186 w' bs (.slice A xs.length c) xs' ∧ MkS MkProc xs' k (k + ((mcProcS xs : Nat) : Int)) ∧ Chg bs w w' := by
  have hmle := mcProcS_le xs
  by_cases hn : xs.length = 0
  · have h0 : xs = [] := List.eq_nil_of_length_eq_zero hn
    subst h0
    have HO := Lib.hid ho; clear ho
    go_enter Tryz.func78, Tryz.ntmps78
    go_wp2
    go_loopg [1, 5] 1 (fun kq v1 v5 w' => v5 = .int .i64 0 ∧ v1 = .int .i64 k ∧ kq = 1 ∧ w' = w)
    case atStart => exact ⟨rfl, rfl, rfl, rfl⟩
    case round =>
      obtain ⟨rfl, rfl, rfl, rfl⟩ := hrel
      go_wp2
      go_ret
      exact ⟨[], by simp [mcProcS], rfl, HO.out, by simp [MkS, mcProcS], Chg.refl _ _⟩
  · obtain ⟨g, o, c', cur, bss, hv, rfl, hX⟩ := own_x ho (by omega)
    cases hv
    obtain ⟨N, hN⟩ : ∃ N, xs.length = N := ⟨_, rfl⟩
    rw [hN] at ho ⊢
    have HO0 := Lib.hid ho; clear ho hX hn
    have HND := Lib.hid hnd; clear hnd
    go_enter Tryz.func78, Tryz.ntmps78
    go_wp2
    go_loopg [1, 5] (N + 1) (fun kq v1 v5 w' => ∃ (i : Nat) (k1 : Int) (ys : List MProc), v5 = .int .i64 i ∧ v1 = .int .i64 k1 ∧ i + kq = N + 1 ∧ i ≤ N ∧ k1 = k + ((mcProcS (xs.take i) : Nat) : Int) ∧ Hid (ys.length = N ∧ kProc.Own 186 w' (g :: bss.flatten) (.slice (some ⟨g, o, none⟩) N c) ys ∧ MkS MkProc (ys.take i) k k1 ∧ ys.drop i = xs.drop i ∧ Chg (g :: bss.flatten) w w'))
    case atStart => exact ⟨0, k, xs, rfl, rfl, by omega, by omega, by simp [mcProcS], Lib.hid ⟨hN, HO0.out, rfl, rfl, Chg.refl _ _⟩⟩
    case round =>
      obtain ⟨i, k1, ys, rfl, rfl, hi, hi2, hk1, HH⟩ := hrel
      obtain ⟨gk, rfl⟩ : ∃ m, gk = m + 1 := ⟨gk - 1, by omega⟩
      have htl := mcProcS_takele (xs := xs) (i := i)
      by_cases hlt : i < N
      · obtain ⟨hyl, hOw, hMk, hdr, hCh⟩ := HH.out
        obtain ⟨g', o', c2, cur', bss', hv, hbs, hX⟩ := own_x hOw (by omega)
        simp only [Value.slice.injEq, Option.some.injEq, Addr.mk.injEq, List.cons.injEq] at hv hbs
        obtain ⟨⟨rfl, rfl, -⟩, -, rfl⟩ := hv
        have hbf := hbs.2
        have hil : i < bss'.length := by rw [hX.len]; omega
        have hsz : o + c * 1 ≤ cur'.size := hX.size
        have hcn : ys.length ≤ c := hX.le
        have zg : g < wr.heap.size := (Array.getElem?_eq_some_iff.1 hX.blk).1
        have hxi : i < xs.length := by omega
        have hcx := cntProcS_at hxi
        unfold cntProc at hcx
        obtain ⟨ex, hex⟩ : ∃ ex, xs[i] = ex := ⟨_, rfl⟩
        rw [hex] at hcx
        have HEX := Lib.hid hex
        have hel := hX.el i ex bss'[i] (by rw [List.getElem?_eq_getElem (by omega), drop_at hdr hxi (by omega), hex]) (List.getElem?_eq_getElem hil)
        clear hex
        have hk1b : 0 ≤ k1 ∧ k1 ≤ 549755813888 + 1073741824 := by omega
        have HK := Lib.hid hk1; clear hk1
        have HH2 := Lib.hid (And.intro hyl (And.intro hMk hCh))
        obtain ⟨B0, d0, b0, hcs, hbs2, o0⟩ := kProc_O hel
        have g0 : wr.cell? ⟨g, o + i, none⟩ = some (.slice B0 ex.code.length d0) := by have := seg_cell hX.blk hcs (j := 0) rfl; simpa [show kProc.sz = 1 from rfl] using this
        have f0 : wr.frozen? ⟨g, o + i, none⟩ = false := (blk_cell hX.blk (j := o + i) (by omega)).2
        have hnd2 : (g :: (b0)).Nodup := by
          have h1 := HND.out; rw [hbf] at h1
          have h2 : bss'[i].Sublist bss'.flatten := sub_flat hil
          rw [hbs2] at h2; exact h1.sublist (List.Sublist.cons_cons _ h2)
        have hg0 : g ∉ b0 := fun h => (List.nodup_cons.1 hnd2).1 (by simp [h])
        have hnn := (List.nodup_cons.1 hnd2).2
        have hn0 := hnn
        have HX := Lib.hid hX; have HB2 := Lib.hid hbs2; have HF := Lib.hid hbf; have HND2 := Lib.hid hnd2; have HD := Lib.hid hdr; clear hX hbs2 hcs hel hbf hbs HH hMk hOw hCh hdr hnd2
        have O0 := Lib.hid o0; clear o0
        go_wp2_with fail
        refine settleC ?_
        intro V0 hV0
        have hol0 : Hol g (o + i) (o + i + 1) 186 cur'.size bss'[i] wr V0 := by rw [hV0]; exact Hol.refl HX.out.blk
        have chg0 : Chg ([g]) wr V0 := by rw [hV0]; exact Chg.refl _ _
        have G0_0 : V0.cell? ⟨g, o + i, none⟩ = some (.slice B0 ex.code.length d0) := by rw [hV0]; go_simp
        clear hV0
        have P0_0 := Lib.hid (chg0.own (fun b hb hm => by simp only [List.mem_singleton] at hm; subst hm; exact hg0 hb) O0.out)
        refine (markInstrS_calls ex.code B0 d0 (k1) V0 b0 P0_0.out hn0 (by omega) (by omega) (by omega)).mono ?_
        rintro e w0 ⟨y0, he, hl0, p0, hm0, hc0⟩
        obtain ⟨kq0, hkq0⟩ : ∃ kq : Int, k1 + ((ex.code.length * 4 : Nat) : Int) = kq := ⟨_, rfl⟩
        rw [hkq0] at he hm0; subst he
        have bkq0 : 0 ≤ kq0 ∧ kq0 ≤ 549755813888 + 1073741824 + 1073741824 := by omega
        have HKQ0 := Lib.hid hkq0; clear hkq0
        have holc0 : Hol g (o + i) (o + i + 1) 186 cur'.size bss'[i] wr w0 := Hol.chg hc0 hg0 (fun b hb => .inl (by rw [HB2.out]; simp [hb])) hol0
        obtain ⟨cu0, hcu0, hsz0⟩ := holc0.shape
        have g0 := hc0.cell hg0 G0_0
        have f0 : w0.frozen? ⟨g, o + i, none⟩ = false := (blk_cell hcu0 (j := o + i) (by omega)).2
        clear G0_0
        have zg0 : g < w0.heap.size := (Array.getElem?_eq_some_iff.1 hcu0).1
        have Q0_0 := Lib.hid p0; clear p0
        go_wp2
        go_roundg gk
        case measure => omega
        case rel =>
          have hkk := mcProcS_take (xs := xs) (i := i) (by omega)
          have hexl := HEX.out
          rw [hexl] at hkk; unfold mcProc at hkk
          have hkq0 := HKQ0.out
          refine ⟨i + 1, kq0, ys.set i ⟨y0⟩, by go_num, by go_num, by omega, by omega, by have := HK.out; omega, Lib.hid ?_⟩
          have hol : Hol g (o + i) (o + i + 1) 186 cur'.size bss'[i] wr _ := holc0
          have chg : Chg [g] w0 _ := Chg.refl _ _
          obtain ⟨cur2, hX2, -⟩ := own_set2 (d := kProc) (y := ⟨y0⟩) (cs := [.slice B0 ex.code.length d0]) HX.out (by rw [← HF.out]; exact HND.out) (by have := HH2.out.1; omega) hil hol (by show o + i*1 = _; rw [Nat.mul_one]) rfl (by rw [HB2.out]; exact kProc_mkO _ ⟨y0⟩ (chg.own (fun b hb hm => by simp only [List.mem_singleton] at hm; subst hm; exact hg0 hb) Q0_0.out)) (cells_cons (by go_simp) cells_nil)
          have hown := hX2.own
          rw [List.length_set, HH2.out.1, ← HF.out] at hown
          refine ⟨by rw [List.length_set]; exact HH2.out.1, hown, ?_, by rw [drop_set]; exact drop_next HD.out, HH2.out.2.2.trans (by rw [HF.out]; exact own_set_chg hil hol)⟩
          rw [take_set (by have := HH2.out.1; omega)]
          exact MkS_snoc HH2.out.2.1 ⟨_, hm0, by omega⟩
      · have hi' : i = N := by omega
        subst hi'
        rw [List.take_of_length_le (by omega)] at hk1
        subst hk1
        go_wp2
        go_ret
        obtain ⟨hyl, hOw, hMk, _, hCh⟩ := HH.out
        rw [List.take_of_length_le (by omega)] at hMk
        exact ⟨ys, rfl, hyl, hOw, hMk, hCh⟩
end Go.Proofs.YtjmefaihkblliaaGreat.Wd
/- Marks: what a row holds behind a mark, and how it is told. Conditions: bounds on the sizes. -/
namespace Go.Proofs.YtjmefaihkblliaaGreat.Wd
open Go.RowKit
open Go.Proofs.YtjmefaihkblliaaGreat.Ab (MCase MSelect MInstr MProc MProg MWaiter MChan MMutex MItem MGor MEng MPick)
set_option linter.unusedVariables false
set_option linter.unusedSimpArgs false
set_option maxHeartbeats 4000000
set_option maxRecDepth 100000
theorem markEng_calls (x : MEng) (k : Int) (w : World) {B0 : Option Addr} {d0 : Nat} {b0 : List Nat} (o0 : kGor.Own 172 w b0 (.slice B0 x.gs.length d0) x.gs) {B1 : Option Addr} {d1 : Nat} {b1 : List Nat} (o1 : kChan.Own 191 w b1 (.slice B1 x.chans.length d1) x.chans) {B2 : Option Addr} {d2 : Nat} {b2 : List Nat} (o2 : kMutex.Own 193 w b2 (.slice B2 x.mus.length d2) x.mus) (hnd : (b0 ++ b1 ++ b2).Nodup) (hl : cntEng x ≤ 67108864) (hk0 : 0 ≤ k) (hk : k ≤ 274877906944) :
    Calls Tryz.prog 21 #[.agg #[.slice B0 x.gs.length d0, .slice B1 x.chans.length d1, .slice B2 x.mus.length d2], .int .i64 k] w fun e w' => ∃ (y0 : List MGor) (y1 : List MChan) (y2 : List MMutex), e = .returned (.int .i64 (k + ((mcGorS x.gs : Nat) : Int) + ((mcChanS x.chans : Nat) : Int) + ((mcMutexS x.mus : Nat) : Int))) ∧ y0.length = x.gs.length ∧ kGor.Own 172 w' b0 (.slice B0 x.gs.length d0) y0 ∧ MkS MkGor y0 (k) (k + ((mcGorS x.gs : Nat) : Int)) ∧ y1.length = x.chans.length ∧ kChan.Own 191 w' b1 (.slice B1 x.chans.length d1) y1 ∧ MkS MkChan y1 (k + ((mcGorS x.gs : Nat) : Int)) (k + ((mcGorS x.gs : Nat) : Int) + ((mcChanS x.chans : Nat) : Int)) ∧ y2.length = x.mus.length ∧ kMutex.Own 193 w' b2 (.slice B2 x.mus.length d2) y2 ∧ MkS MkMutex y2 (k + ((mcGorS x.gs : Nat) : Int) + ((mcChanS x.chans : Nat) : Int)) (k + ((mcGorS x.gs : Nat) : Int) + ((mcChanS x.chans : Nat) : Int) + ((mcMutexS x.mus : Nat) : Int)) ∧ Chg (b0 ++ b1 ++ b2) w w' := by
  unfold cntEng at hl
  have hmc0 := mcGorS_le x.gs
  have hmc1 := mcChanS_le x.chans
  have hmc2 := mcMutexS_le x.mus
  have hnn := hnd
  obtain ⟨hw2, hn2, ea2, eb2⟩ := nd2 hnn
  have DJ0_2 : Hid (∀ k ∈ b0, k ∉ b2) := Lib.hid fun k h => ea2 k (List.mem_append_left _ h)
  have DJ2_0 : Hid (∀ k ∈ b2, k ∉ b0) := Lib.hid fun k h h2 => eb2 k h (List.mem_append_left _ h2)
  have DJ1_2 : Hid (∀ k ∈ b1, k ∉ b2) := Lib.hid fun k h => ea2 k (List.mem_append_right _ h)
  have DJ2_1 : Hid (∀ k ∈ b2, k ∉ b1) := Lib.hid fun k h h2 => eb2 k h (List.mem_append_right _ h2)
  obtain ⟨hn0, hn1, ea1, eb1⟩ := nd2 hw2
  have DJ0_1 : Hid (∀ k ∈ b0, k ∉ b1) := Lib.hid fun k h => ea1 k h
  have DJ1_0 : Hid (∀ k ∈ b1, k ∉ b0) := Lib.hid fun k h h2 => eb1 k h h2
  clear ea1 eb1 ea2 eb2
  have U0 := Lib.hid o0.lt; have Q0 := Lib.hid o0; clear o0
  have U1 := Lib.hid o1.lt; have Q1 := Lib.hid o1; clear o1
  have U2 := Lib.hid o2.lt; have Q2 := Lib.hid o2; clear o2
  clear hnd hnn
  go_enter Tryz.func21, Tryz.ntmps21
  go_wp2_with fail
  refine settleC ?_
  intro V hV
  have hbV : Below w.heap.size w V := by rw [hV]; exact bel
  have g0 : V.cell? ⟨w.heap.size, 0, none⟩ = some (.slice B0 x.gs.length d0) := by rw [hV]; go_simp
  have g1 : V.cell? ⟨w.heap.size, 1, none⟩ = some (.slice B1 x.chans.length d1) := by rw [hV]; go_simp
  have g2 : V.cell? ⟨w.heap.size, 2, none⟩ = some (.slice B2 x.mus.length d2) := by rw [hV]; go_simp
  clear hV
  have zV : w.heap.size < V.heap.size := World.block_lt_of_cell? _ _ g0
  have P0_0 := Lib.hid (Q0.out.below hbV)
  have P1_0 := Lib.hid (Q1.out.below hbV)
  have P2_0 := Lib.hid (Q2.out.below hbV)
  refine (markGorS_calls x.gs B0 d0 (k) V b0 P0_0.out hn0 (by omega) (by omega) (by omega)).mono ?_
  rintro e w0 ⟨y0, rfl, hl0, p0, hm0, hc0⟩
  have nb0 : w.heap.size ∉ (b0) := fun h => by have := U0.out _ h; omega
  have g0 := hc0.cell nb0 g0
  have g1 := hc0.cell nb0 g1
  have g2 := hc0.cell nb0 g2
  have zw0 : w.heap.size < w0.heap.size := World.block_lt_of_cell? _ _ g0
  have P0_1 := Lib.hid p0; clear p0
  have P1_1 := Lib.hid (hc0.own DJ1_0.out P1_0.out)
  have P2_1 := Lib.hid (hc0.own DJ2_0.out P2_0.out)
  go_wp2_with fail
  refine (markChanS_calls x.chans B1 d1 (k + ((mcGorS x.gs : Nat) : Int)) w0 b1 P1_1.out hn1 (by omega) (by omega) (by omega)).mono ?_
  rintro e w1 ⟨y1, rfl, hl1, p1, hm1, hc1⟩
  have nb1 : w.heap.size ∉ (b1) := fun h => by have := U1.out _ h; omega
  have g0 := hc1.cell nb1 g0
  have g1 := hc1.cell nb1 g1
  have g2 := hc1.cell nb1 g2
  have zw1 : w.heap.size < w1.heap.size := World.block_lt_of_cell? _ _ g0
  have P0_2 := Lib.hid (hc1.own DJ0_1.out P0_1.out)
  have P1_2 := Lib.hid p1; clear p1
  have P2_2 := Lib.hid (hc1.own DJ2_1.out P2_1.out)
  go_wp2_with fail
  refine (markMutexS_calls x.mus B2 d2 (k + ((mcGorS x.gs : Nat) : Int) + ((mcChanS x.chans : Nat) : Int)) w1 b2 P2_2.out hn2 (by omega) (by omega) (by omega)).mono ?_
  rintro e w2 ⟨y2, rfl, hl2, p2, hm2, hc2⟩
  have nb2 : w.heap.size ∉ (b2) := fun h => by have := U2.out _ h; omega
  have g0 := hc2.cell nb2 g0
  have g1 := hc2.cell nb2 g1
  have g2 := hc2.cell nb2 g2
  have zw2 : w.heap.size < w2.heap.size := World.block_lt_of_cell? _ _ g0
  have P0_3 := Lib.hid (hc2.own DJ0_2.out P0_2.out)
  have P1_3 := Lib.hid (hc2.own DJ1_2.out P1_2.out)
  have P2_3 := Lib.hid p2; clear p2
  go_wp2
  go_ret
  exact ⟨y0, y1, y2, rfl, hl0, P0_3.out, hm0, hl1, P1_3.out, hm1, hl2, P2_3.out, hm2, (((Chg.of_below hbV).trans (hc0.mono fun b h _ => by simp [h])).trans (hc1.mono fun b h _ => by simp [h])).trans (hc2.mono fun b h _ => by simp [h])⟩
theorem markProg_calls (x : MProg) (k : Int) (w : World) {B0 : Option Addr} {d0 : Nat} {b0 : List Nat} (o0 : Rp.int.Own 3 w b0 (.slice B0 x.caps.length d0) x.caps) {B1 : Option Addr} {d1 : Nat} {b1 : List Nat} (o1 : kSelect.Own 182 w b1 (.slice B1 x.sels.length d1) x.sels) {B2 : Option Addr} {d2 : Nat} {b2 : List Nat} (o2 : kProc.Own 186 w b2 (.slice B2 x.procs.length d2) x.procs) (hnd : (b0 ++ b1 ++ b2).Nodup) (hl : cntProg x ≤ 67108864) (hk0 : 0 ≤ k) (hk : k ≤ 274877906944) :
    Calls Tryz.prog 20 #[.agg #[.slice B0 x.caps.length d0, .int .i64 x.mus, .slice B1 x.sels.length d1, .slice B2 x.procs.length d2], .int .i64 k] w fun e w' => ∃ (y0 : List Int) (y1 : List MSelect) (y2 : List MProc), e = .returned (.int .i64 (k + ((x.caps.length : Nat) : Int) + ((mcSelectS x.sels : Nat) : Int) + ((mcProcS x.procs : Nat) : Int))) ∧ y0.length = x.caps.length ∧ Rp.int.Own 3 w' b0 (.slice B0 x.caps.length d0) y0 ∧ MkS MkInt y0 (k) (k + ((x.caps.length : Nat) : Int)) ∧ y1.length = x.sels.length ∧ kSelect.Own 182 w' b1 (.slice B1 x.sels.length d1) y1 ∧ MkS MkSelect y1 (k + ((x.caps.length : Nat) : Int)) (k + ((x.caps.length : Nat) : Int) + ((mcSelectS x.sels : Nat) : Int)) ∧ y2.length = x.procs.length ∧ kProc.Own 186 w' b2 (.slice B2 x.procs.length d2) y2 ∧ MkS MkProc y2 (k + ((x.caps.length : Nat) : Int) + ((mcSelectS x.sels : Nat) : Int)) (k + ((x.caps.length : Nat) : Int) + ((mcSelectS x.sels : Nat) : Int) + ((mcProcS x.procs : Nat) : Int)) ∧ Chg (b0 ++ b1 ++ b2) w w' := by
  unfold cntProg at hl
  have hmc1 := mcSelectS_le x.sels
  have hmc2 := mcProcS_le x.procs
  have hnn := hnd
  obtain ⟨hw2, hn2, ea2, eb2⟩ := nd2 hnn
  have DJ0_2 : Hid (∀ k ∈ b0, k ∉ b2) := Lib.hid fun k h => ea2 k (List.mem_append_left _ h)
  have DJ2_0 : Hid (∀ k ∈ b2, k ∉ b0) := Lib.hid fun k h h2 => eb2 k h (List.mem_append_left _ h2)
  have DJ1_2 : Hid (∀ k ∈ b1, k ∉ b2) := Lib.hid fun k h => ea2 k (List.mem_append_right _ h)
  have DJ2_1 : Hid (∀ k ∈ b2, k ∉ b1) := Lib.hid fun k h h2 => eb2 k h (List.mem_append_right _ h2)
  obtain ⟨hn0, hn1, ea1, eb1⟩ := nd2 hw2
  have DJ0_1 : Hid (∀ k ∈ b0, k ∉ b1) := Lib.hid fun k h => ea1 k h
  have DJ1_0 : Hid (∀ k ∈ b1, k ∉ b0) := Lib.hid fun k h h2 => eb1 k h h2
  clear ea1 eb1 ea2 eb2
  have U0 := Lib.hid o0.lt; have Q0 := Lib.hid o0; clear o0
  have U1 := Lib.hid o1.lt; have Q1 := Lib.hid o1; clear o1
  have U2 := Lib.hid o2.lt; have Q2 := Lib.hid o2; clear o2
  clear hnd hnn
  go_enter Tryz.func20, Tryz.ntmps20
  go_wp2_with fail
  refine settleC ?_
  intro V hV
  have hbV : Below w.heap.size w V := by rw [hV]; exact bel
  have g0 : V.cell? ⟨w.heap.size, 0, none⟩ = some (.slice B0 x.caps.length d0) := by rw [hV]; go_simp
  have g1 : V.cell? ⟨w.heap.size, 1, none⟩ = some (.int .i64 x.mus) := by rw [hV]; go_simp
  have g2 : V.cell? ⟨w.heap.size, 2, none⟩ = some (.slice B1 x.sels.length d1) := by rw [hV]; go_simp
  have g3 : V.cell? ⟨w.heap.size, 3, none⟩ = some (.slice B2 x.procs.length d2) := by rw [hV]; go_simp
  clear hV
  have zV : w.heap.size < V.heap.size := World.block_lt_of_cell? _ _ g0
  have P0_0 := Lib.hid (Q0.out.below hbV)
  have P1_0 := Lib.hid (Q1.out.below hbV)
  have P2_0 := Lib.hid (Q2.out.below hbV)
  refine (markIntS_calls x.caps B0 d0 (k) V b0 P0_0.out hn0 (by omega) (by omega) (by omega)).mono ?_
  rintro e w0 ⟨y0, rfl, hl0, p0, hm0, hc0⟩
  have nb0 : w.heap.size ∉ (b0) := fun h => by have := U0.out _ h; omega
  have g0 := hc0.cell nb0 g0
  have g1 := hc0.cell nb0 g1
  have g2 := hc0.cell nb0 g2
  have g3 := hc0.cell nb0 g3
  have zw0 : w.heap.size < w0.heap.size := World.block_lt_of_cell? _ _ g0
  have P0_1 := Lib.hid p0; clear p0
  have P1_1 := Lib.hid (hc0.own DJ1_0.out P1_0.out)
  have P2_1 := Lib.hid (hc0.own DJ2_0.out P2_0.out)
  go_wp2_with fail
  refine (markSelectS_calls x.sels B1 d1 (k + ((x.caps.length : Nat) : Int)) w0 b1 P1_1.out hn1 (by omega) (by omega) (by omega)).mono ?_
  rintro e w1 ⟨y1, rfl, hl1, p1, hm1, hc1⟩
  have nb1 : w.heap.size ∉ (b1) := fun h => by have := U1.out _ h; omega
  have g0 := hc1.cell nb1 g0
  have g1 := hc1.cell nb1 g1
  have g2 := hc1.cell nb1 g2
  have g3 := hc1.cell nb1 g3
  have zw1 : w.heap.size < w1.heap.size := World.block_lt_of_cell? _ _ g0
  have P0_2 := Lib.hid (hc1.own DJ0_1.out P0_1.out)
  have P1_2 := Lib.hid p1; clear p1
  have P2_2 := Lib.hid (hc1.own DJ2_1.out P2_1.out)
  go_wp2_with fail
  refine (markProcS_calls x.procs B2 d2 (k + ((x.caps.length : Nat) : Int) + ((mcSelectS x.sels : Nat) : Int)) w1 b2 P2_2.out hn2 (by omega) (by omega) (by omega)).mono ?_
  rintro e w2 ⟨y2, rfl, hl2, p2, hm2, hc2⟩
  have nb2 : w.heap.size ∉ (b2) := fun h => by have := U2.out _ h; omega
  have g0 := hc2.cell nb2 g0
  have g1 := hc2.cell nb2 g1
  have g2 := hc2.cell nb2 g2
  have g3 := hc2.cell nb2 g3
  have zw2 : w.heap.size < w2.heap.size := World.block_lt_of_cell? _ _ g0
  have P0_3 := Lib.hid (hc2.own DJ0_2.out P0_2.out)
  have P1_3 := Lib.hid (hc2.own DJ1_2.out P1_2.out)
  have P2_3 := Lib.hid p2; clear p2
  go_wp2
  go_ret
  exact ⟨y0, y1, y2, rfl, hl0, P0_3.out, hm0, hl1, P1_3.out, hm1, hl2, P2_3.out, hm2, (((Chg.of_below hbV).trans (hc0.mono fun b h _ => by simp [h])).trans (hc1.mono fun b h _ => by simp [h])).trans (hc2.mono fun b h _ => by simp [h])⟩
end Go.Proofs.YtjmefaihkblliaaGreat.Wd
/- Contracts of the laws' helpers. Conditions: none. -/
namespace Go.Proofs.YtjmefaihkblliaaGreat.Wd
open Go.RowKit
open Go.Proofs.YtjmefaihkblliaaGreat.Ab (MCase MSelect MInstr MProc MProg MWaiter MChan MMutex MItem MGor MEng MPick)
set_option linter.unusedVariables false
set_option linter.unusedSimpArgs false
set_option maxHeartbeats 4000000
set_option maxRecDepth 100000
theorem eqWaiter_calls (x y : MWaiter) (cs ds : List Value) (w : World) (hx : kWaiter.K w x cs) (hy : kWaiter.K w y ds) :
    Calls Tryz.prog 244 #[.agg cs.toArray, .agg ds.toArray] w fun e w' => e = .returned (.bool (decide (x = y))) ∧ Below w.heap.size w w' := by
  obtain rfl := kWaiter_K hx
  obtain rfl := kWaiter_K hy
  clear hx hy
  obtain ⟨x0, x1, x2⟩ := x
  obtain ⟨y0, y1, y2⟩ := y
  go_enter Tryz.func244, Tryz.ntmps244
  go_wp2
  all_goals (go_ret; refine ⟨?_, bel⟩; simp_all)

theorem eqItem_calls (x y : MItem) (cs ds : List Value) (w : World) (hx : kItem.K w x cs) (hy : kItem.K w y ds) :
    Calls Tryz.prog 243 #[.agg cs.toArray, .agg ds.toArray] w fun e w' => e = .returned (.bool (decide (x = y))) ∧ Below w.heap.size w w' := by
  obtain rfl := kItem_K hx
  obtain rfl := kItem_K hy
  clear hx hy
  obtain ⟨x0, x1, x2, x3⟩ := x
  obtain ⟨y0, y1, y2, y3⟩ := y
  go_enter Tryz.func243, Tryz.ntmps243
  go_wp2
  all_goals (go_ret; refine ⟨?_, bel⟩; simp_all)

theorem eqIntS_calls (xs ys : List Int) (A B : Option Addr) (c d : Nat) (w : World) (hr : Rp.int.Row w A xs) (hs : Rp.int.Row w B ys) :
    Calls Tryz.prog 35 #[.slice A xs.length c, .slice B ys.length d] w fun e w' => e = .returned (.bool (decide (xs = ys))) ∧ Below w.heap.size w w' := by
  have hm := hr.1
  have HR := Lib.hid hr; clear hr
  have HS := Lib.hid hs; clear hs
  by_cases hl : xs.length = ys.length
  · have b2 : ((xs.length : Int) != (ys.length : Int)) = false := by simp [hl]
    have b3 : (xs.length != ys.length) = false := by simp [hl]
    have Hl := Lib.hid hl; clear hl
    go_enter Tryz.func35, Tryz.ntmps35
    go_wp2
    go_loopg [5] (xs.length + 1) (fun kq v5 w' => ∃ i : Nat, v5 = .int .i64 i ∧ i + kq = xs.length + 1 ∧ i ≤ xs.length ∧ Hid (∀ j, j < i → xs[j]? = ys[j]?) ∧ Below w.heap.size w w')
    case atStart => exact ⟨0, rfl, by omega, by omega, Lib.hid fun j hj => absurd hj (by omega), Below.refl _ _⟩
    case round =>
      obtain ⟨i, rfl, hi, hi2, HP, hb⟩ := hrel
      obtain ⟨gk, rfl⟩ : ∃ m, gk = m + 1 := ⟨gk - 1, by omega⟩
      by_cases hlt : i < xs.length
      · have hlt' : i < ys.length := by have := Hl.out; omega
        obtain ⟨b, o, rfl, g0⟩ := int_at (HR.out.below hb) hlt
        obtain ⟨b', o', rfl, k0⟩ := int_at (HS.out.below hb) hlt'
        by_cases he : xs[i] = ys[i]
        · have hd : (xs[i] != ys[i]) = false := by simp [he]
          have hd2 : (xs[i] == ys[i]) = true := by simp [he]
          have He := Lib.hid he; clear he
          go_wp2_with fail
          go_quiet (fail)
          go_wp2
          go_roundg gk
          case measure => omega
          case rel => exact ⟨i + 1, by go_num, by omega, by omega, Lib.hid fun j hj => (by
            rcases Nat.lt_succ_iff_lt_or_eq.1 hj with h | rfl
            · exact HP.out j h
            · rw [List.getElem?_eq_getElem hlt, List.getElem?_eq_getElem hlt', He.out]), bel⟩
        · have hd : (xs[i] != ys[i]) = true := by simp [he]
          have hd2 : (xs[i] == ys[i]) = false := by simp [he]
          have He := Lib.hid he; clear he
          go_wp2_with fail
          go_quiet (fail)
          go_wp2
          go_ret
          exact ⟨retF (by rintro rfl; exact He.out rfl), bel⟩
      · have hi' : i = xs.length := by omega
        subst hi'
        go_wp2
        go_ret
        exact ⟨retT (take_eq Hl.out HP.out), bel⟩
  · have b2 : ((xs.length : Int) != (ys.length : Int)) = true := by simp; omega
    have b3 : (xs.length != ys.length) = true := by simp [hl]
    go_enter Tryz.func35, Tryz.ntmps35
    go_wp2
    go_ret
    exact ⟨retF (by rintro rfl; exact hl rfl), bel⟩

theorem eqWaiterS_calls (xs ys : List MWaiter) (A B : Option Addr) (c d : Nat) (w : World) (hr : kWaiter.Row w A xs) (hs : kWaiter.Row w B ys) :
    Calls Tryz.prog 204 #[.slice A xs.length c, .slice B ys.length d] w fun e w' => e = .returned (.bool (decide (xs = ys))) ∧ Below w.heap.size w w' := by
  have hm := hr.1
  have HR := Lib.hid hr; clear hr
  have HS := Lib.hid hs; clear hs
  by_cases hl : xs.length = ys.length
  · have b2 : ((xs.length : Int) != (ys.length : Int)) = false := by simp [hl]
    have b3 : (xs.length != ys.length) = false := by simp [hl]
    have Hl := Lib.hid hl; clear hl
    go_enter Tryz.func204, Tryz.ntmps204
    go_wp2
    go_loopg [5] (xs.length + 1) (fun kq v5 w' => ∃ i : Nat, v5 = .int .i64 i ∧ i + kq = xs.length + 1 ∧ i ≤ xs.length ∧ Hid (∀ j, j < i → xs[j]? = ys[j]?) ∧ Below w.heap.size w w')
    case atStart => exact ⟨0, rfl, by omega, by omega, Lib.hid fun j hj => absurd hj (by omega), Below.refl _ _⟩
    case round =>
      obtain ⟨i, rfl, hi, hi2, HP, hb⟩ := hrel
      obtain ⟨gk, rfl⟩ : ∃ m, gk = m + 1 := ⟨gk - 1, by omega⟩
      by_cases hlt : i < xs.length
      · have hlt' : i < ys.length := by have := Hl.out; omega
        obtain ⟨b, o, rfl, g0, g1, g2⟩ := kWaiter_at (HR.out.below hb) hlt
        obtain ⟨b', o', rfl, k0, k1, k2⟩ := kWaiter_at (HS.out.below hb) hlt'
        go_wp2_with fail
        go_still_tail 8, (by kernel_rfl)
        change wpList _ _ _ _ _ wr.drew
        by_cases he : xs[i] = ys[i]
        · have hd : decide (xs[i] = ys[i]) = true := decide_eq_true he
          have He := Lib.hid he; clear he
          go_wp2_with fail
          refine (eqWaiter_calls xs[i] ys[i] [_, _, _] [_, _, _] _ (kWaiter_mk _ _) (kWaiter_mk _ _)).mono ?_
          rintro e w' ⟨rfl, hb2⟩
          go_wp2
          go_roundg gk
          case measure => omega
          case rel => exact ⟨i + 1, by go_num, by omega, by omega, Lib.hid fun j hj => (by
            rcases Nat.lt_succ_iff_lt_or_eq.1 hj with h | rfl
            · exact HP.out j h
            · rw [List.getElem?_eq_getElem hlt, List.getElem?_eq_getElem hlt', He.out]), bstep hb hb2⟩
        · have hd : decide (xs[i] = ys[i]) = false := decide_eq_false he
          have He := Lib.hid he; clear he
          go_wp2_with fail
          refine (eqWaiter_calls xs[i] ys[i] [_, _, _] [_, _, _] _ (kWaiter_mk _ _) (kWaiter_mk _ _)).mono ?_
          rintro e w' ⟨rfl, hb2⟩
          go_wp2
          go_ret
          exact ⟨retF (by rintro rfl; exact He.out rfl), bstep hb hb2⟩
      · have hi' : i = xs.length := by omega
        subst hi'
        go_wp2
        go_ret
        exact ⟨retT (take_eq Hl.out HP.out), bel⟩
  · have b2 : ((xs.length : Int) != (ys.length : Int)) = true := by simp; omega
    have b3 : (xs.length != ys.length) = true := by simp [hl]
    go_enter Tryz.func204, Tryz.ntmps204
    go_wp2
    go_ret
    exact ⟨retF (by rintro rfl; exact hl rfl), bel⟩

theorem eqItemS_calls (xs ys : List MItem) (A B : Option Addr) (c d : Nat) (w : World) (hr : kItem.Row w A xs) (hs : kItem.Row w B ys) :
    Calls Tryz.prog 203 #[.slice A xs.length c, .slice B ys.length d] w fun e w' => e = .returned (.bool (decide (xs = ys))) ∧ Below w.heap.size w w' := by
  have hm := hr.1
  have HR := Lib.hid hr; clear hr
  have HS := Lib.hid hs; clear hs
  by_cases hl : xs.length = ys.length
  · have b2 : ((xs.length : Int) != (ys.length : Int)) = false := by simp [hl]
    have b3 : (xs.length != ys.length) = false := by simp [hl]
    have Hl := Lib.hid hl; clear hl
    go_enter Tryz.func203, Tryz.ntmps203
    go_wp2
    go_loopg [5] (xs.length + 1) (fun kq v5 w' => ∃ i : Nat, v5 = .int .i64 i ∧ i + kq = xs.length + 1 ∧ i ≤ xs.length ∧ Hid (∀ j, j < i → xs[j]? = ys[j]?) ∧ Below w.heap.size w w')
    case atStart => exact ⟨0, rfl, by omega, by omega, Lib.hid fun j hj => absurd hj (by omega), Below.refl _ _⟩
    case round =>
      obtain ⟨i, rfl, hi, hi2, HP, hb⟩ := hrel
      obtain ⟨gk, rfl⟩ : ∃ m, gk = m + 1 := ⟨gk - 1, by omega⟩
      by_cases hlt : i < xs.length
      · have hlt' : i < ys.length := by have := Hl.out; omega
        obtain ⟨b, o, rfl, g0, g1, g2, g3⟩ := kItem_at (HR.out.below hb) hlt
        obtain ⟨b', o', rfl, k0, k1, k2, k3⟩ := kItem_at (HS.out.below hb) hlt'
        go_wp2_with fail
        go_still_tail 8, (by kernel_rfl)
        change wpList _ _ _ _ _ wr.drew
        by_cases he : xs[i] = ys[i]
        · have hd : decide (xs[i] = ys[i]) = true := decide_eq_true he
          have He := Lib.hid he; clear he
          go_wp2_with fail
          refine (eqItem_calls xs[i] ys[i] [_, _, _, _] [_, _, _, _] _ (kItem_mk _ _) (kItem_mk _ _)).mono ?_
          rintro e w' ⟨rfl, hb2⟩
          go_wp2
          go_roundg gk
          case measure => omega
          case rel => exact ⟨i + 1, by go_num, by omega, by omega, Lib.hid fun j hj => (by
            rcases Nat.lt_succ_iff_lt_or_eq.1 hj with h | rfl
            · exact HP.out j h
            · rw [List.getElem?_eq_getElem hlt, List.getElem?_eq_getElem hlt', He.out]), bstep hb hb2⟩
        · have hd : decide (xs[i] = ys[i]) = false := decide_eq_false he
          have He := Lib.hid he; clear he
          go_wp2_with fail
          refine (eqItem_calls xs[i] ys[i] [_, _, _, _] [_, _, _, _] _ (kItem_mk _ _) (kItem_mk _ _)).mono ?_
          rintro e w' ⟨rfl, hb2⟩
          go_wp2
          go_ret
          exact ⟨retF (by rintro rfl; exact He.out rfl), bstep hb hb2⟩
      · have hi' : i = xs.length := by omega
        subst hi'
        go_wp2
        go_ret
        exact ⟨retT (take_eq Hl.out HP.out), bel⟩
  · have b2 : ((xs.length : Int) != (ys.length : Int)) = true := by simp; omega
    have b3 : (xs.length != ys.length) = true := by simp [hl]
    go_enter Tryz.func203, Tryz.ntmps203
    go_wp2
    go_ret
    exact ⟨retF (by rintro rfl; exact hl rfl), bel⟩

theorem eqGor_calls (x y : MGor) (cs ds : List Value) (w : World) (hx : kGor.K w x cs) (hy : kGor.K w y ds) :
    Calls Tryz.prog 142 #[.agg cs.toArray, .agg ds.toArray] w fun e w' => e = .returned (.bool (decide (x = y))) ∧ Below w.heap.size w w' := by
  obtain ⟨A0, c0, A1, c1, rfl, l0, r0, l1, r1⟩ := kGor_K hx
  obtain ⟨B0, d0, B1, d1, rfl, m0, s0, m1, s1⟩ := kGor_K hy
  clear hx hy
  obtain ⟨x0, x1, x2, x3, x4⟩ := x
  obtain ⟨y0, y1, y2, y3, y4⟩ := y
  simp only at *
  have R0 := Lib.hid r0; clear r0
  have S0 := Lib.hid s0; clear s0
  have R1 := Lib.hid r1; clear r1
  have S1 := Lib.hid s1; clear s1
  go_enter Tryz.func142, Tryz.ntmps142
  go_wp2_with (first
    | (go_at_call 35; (with_reducible refine (eqIntS_calls _ _ _ _ _ _ _ (R0.out.below bel) (S0.out.below bel)).mono ?_); rintro e w3 ⟨rfl, hb3⟩; obtain ⟨C3, D3⟩ := bcell hb3; obtain ⟨za3, zb3⟩ : w.heap.size < w3.heap.size ∧ w.heap.size + 1 < w3.heap.size := (by have := hb3.size; (try simp at this); omega))
    | (go_at_call 203; (with_reducible refine (eqItemS_calls _ _ _ _ _ _ _ (R1.out.below bel) (S1.out.below bel)).mono ?_); rintro e w5 ⟨rfl, hb5⟩; obtain ⟨C5, D5⟩ := bcell hb5; obtain ⟨za5, zb5⟩ : w.heap.size < w5.heap.size ∧ w.heap.size + 1 < w5.heap.size := (by have := hb5.size; (try simp at this); omega)))
  all_goals (go_ret; refine ⟨?_, bel⟩; simp_all)

theorem eqGorS_calls (xs ys : List MGor) (A B : Option Addr) (c d : Nat) (w : World) (hr : kGor.Row w A xs) (hs : kGor.Row w B ys) :
    Calls Tryz.prog 74 #[.slice A xs.length c, .slice B ys.length d] w fun e w' => e = .returned (.bool (decide (xs = ys))) ∧ Below w.heap.size w w' := by
  have hm := hr.1
  have HR := Lib.hid hr; clear hr
  have HS := Lib.hid hs; clear hs
  by_cases hl : xs.length = ys.length
  · have b2 : ((xs.length : Int) != (ys.length : Int)) = false := by simp [hl]
    have b3 : (xs.length != ys.length) = false := by simp [hl]
    have Hl := Lib.hid hl; clear hl
    go_enter Tryz.func74, Tryz.ntmps74
    go_wp2
    go_loopg [5] (xs.length + 1) (fun kq v5 w' => ∃ i : Nat, v5 = .int .i64 i ∧ i + kq = xs.length + 1 ∧ i ≤ xs.length ∧ Hid (∀ j, j < i → xs[j]? = ys[j]?) ∧ Below w.heap.size w w')
    case atStart => exact ⟨0, rfl, by omega, by omega, Lib.hid fun j hj => absurd hj (by omega), Below.refl _ _⟩
    case round =>
      obtain ⟨i, rfl, hi, hi2, HP, hb⟩ := hrel
      obtain ⟨gk, rfl⟩ : ∃ m, gk = m + 1 := ⟨gk - 1, by omega⟩
      by_cases hlt : i < xs.length
      · have hlt' : i < ys.length := by have := Hl.out; omega
        obtain ⟨b, o, A0, c0, A1, c1, rfl, g0, g1, g2, g3, g4, l0, r0, l1, r1⟩ := kGor_at (HR.out.below hb) hlt
        obtain ⟨b', o', B0, d0, B1, d1, rfl, k0, k1, k2, k3, k4, m0, s0, m1, s1⟩ := kGor_at (HS.out.below hb) hlt'
        have R0 := Lib.hid r0; clear r0
        have S0 := Lib.hid s0; clear s0
        have R1 := Lib.hid r1; clear r1
        have S1 := Lib.hid s1; clear s1
        go_wp2_with fail
        go_still_tail 8, (by kernel_rfl)
        change wpList _ _ _ _ _ wr.drew
        by_cases he : xs[i] = ys[i]
        · have hd : decide (xs[i] = ys[i]) = true := decide_eq_true he
          have He := Lib.hid he; clear he
          go_wp2_with fail
          refine (eqGor_calls xs[i] ys[i] [_, _, _, _, _] [_, _, _, _, _] _ (kGor_mk _ _ l0 (R0.out.below bel) l1 (R1.out.below bel)) (kGor_mk _ _ m0 (S0.out.below bel) m1 (S1.out.below bel))).mono ?_
          rintro e w' ⟨rfl, hb2⟩
          go_wp2
          go_roundg gk
          case measure => omega
          case rel => exact ⟨i + 1, by go_num, by omega, by omega, Lib.hid fun j hj => (by
            rcases Nat.lt_succ_iff_lt_or_eq.1 hj with h | rfl
            · exact HP.out j h
            · rw [List.getElem?_eq_getElem hlt, List.getElem?_eq_getElem hlt', He.out]), bstep hb hb2⟩
        · have hd : decide (xs[i] = ys[i]) = false := decide_eq_false he
          have He := Lib.hid he; clear he
          go_wp2_with fail
          refine (eqGor_calls xs[i] ys[i] [_, _, _, _, _] [_, _, _, _, _] _ (kGor_mk _ _ l0 (R0.out.below bel) l1 (R1.out.below bel)) (kGor_mk _ _ m0 (S0.out.below bel) m1 (S1.out.below bel))).mono ?_
          rintro e w' ⟨rfl, hb2⟩
          go_wp2
          go_ret
          exact ⟨retF (by rintro rfl; exact He.out rfl), bstep hb hb2⟩
      · have hi' : i = xs.length := by omega
        subst hi'
        go_wp2
        go_ret
        exact ⟨retT (take_eq Hl.out HP.out), bel⟩
  · have b2 : ((xs.length : Int) != (ys.length : Int)) = true := by simp; omega
    have b3 : (xs.length != ys.length) = true := by simp [hl]
    go_enter Tryz.func74, Tryz.ntmps74
    go_wp2
    go_ret
    exact ⟨retF (by rintro rfl; exact hl rfl), bel⟩

theorem eqChan_calls (x y : MChan) (cs ds : List Value) (w : World) (hx : kChan.K w x cs) (hy : kChan.K w y ds) :
    Calls Tryz.prog 143 #[.agg cs.toArray, .agg ds.toArray] w fun e w' => e = .returned (.bool (decide (x = y))) ∧ Below w.heap.size w w' := by
  obtain ⟨A0, c0, A1, c1, A2, c2, rfl, l0, r0, l1, r1, l2, r2⟩ := kChan_K hx
  obtain ⟨B0, d0, B1, d1, B2, d2, rfl, m0, s0, m1, s1, m2, s2⟩ := kChan_K hy
  clear hx hy
  obtain ⟨x0, x1, x2, x3, x4⟩ := x
  obtain ⟨y0, y1, y2, y3, y4⟩ := y
  simp only at *
  have R0 := Lib.hid r0; clear r0
  have S0 := Lib.hid s0; clear s0
  have R1 := Lib.hid r1; clear r1
  have S1 := Lib.hid s1; clear s1
  have R2 := Lib.hid r2; clear r2
  have S2 := Lib.hid s2; clear s2
  go_enter Tryz.func143, Tryz.ntmps143
  go_wp2_with (first
    | (go_at_call 35; (with_reducible refine (eqIntS_calls _ _ _ _ _ _ _ (R0.out.below bel) (S0.out.below bel)).mono ?_); rintro e w2 ⟨rfl, hb2⟩; obtain ⟨C2, D2⟩ := bcell hb2; obtain ⟨za2, zb2⟩ : w.heap.size < w2.heap.size ∧ w.heap.size + 1 < w2.heap.size := (by have := hb2.size; (try simp at this); omega))
    | (go_at_call 204; (with_reducible refine (eqWaiterS_calls _ _ _ _ _ _ _ (R1.out.below bel) (S1.out.below bel)).mono ?_); rintro e w3 ⟨rfl, hb3⟩; obtain ⟨C3, D3⟩ := bcell hb3; obtain ⟨za3, zb3⟩ : w.heap.size < w3.heap.size ∧ w.heap.size + 1 < w3.heap.size := (by have := hb3.size; (try simp at this); omega))
    | (go_at_call 204; (with_reducible refine (eqWaiterS_calls _ _ _ _ _ _ _ (R2.out.below bel) (S2.out.below bel)).mono ?_); rintro e w4 ⟨rfl, hb4⟩; obtain ⟨C4, D4⟩ := bcell hb4; obtain ⟨za4, zb4⟩ : w.heap.size < w4.heap.size ∧ w.heap.size + 1 < w4.heap.size := (by have := hb4.size; (try simp at this); omega)))
  all_goals (go_ret; refine ⟨?_, bel⟩; simp_all)

theorem eqChanS_calls (xs ys : List MChan) (A B : Option Addr) (c d : Nat) (w : World) (hr : kChan.Row w A xs) (hs : kChan.Row w B ys) :
    Calls Tryz.prog 75 #[.slice A xs.length c, .slice B ys.length d] w fun e w' => e = .returned (.bool (decide (xs = ys))) ∧ Below w.heap.size w w' := by
  have hm := hr.1
  have HR := Lib.hid hr; clear hr
  have HS := Lib.hid hs; clear hs
  by_cases hl : xs.length = ys.length
  · have b2 : ((xs.length : Int) != (ys.length : Int)) = false := by simp [hl]
    have b3 : (xs.length != ys.length) = false := by simp [hl]
    have Hl := Lib.hid hl; clear hl
    go_enter Tryz.func75, Tryz.ntmps75
    go_wp2
    go_loopg [5] (xs.length + 1) (fun kq v5 w' => ∃ i : Nat, v5 = .int .i64 i ∧ i + kq = xs.length + 1 ∧ i ≤ xs.length ∧ Hid (∀ j, j < i → xs[j]? = ys[j]?) ∧ Below w.heap.size w w')
    case atStart => exact ⟨0, rfl, by omega, by omega, Lib.hid fun j hj => absurd hj (by omega), Below.refl _ _⟩
    case round =>
      obtain ⟨i, rfl, hi, hi2, HP, hb⟩ := hrel
      obtain ⟨gk, rfl⟩ : ∃ m, gk = m + 1 := ⟨gk - 1, by omega⟩
      by_cases hlt : i < xs.length
      · have hlt' : i < ys.length := by have := Hl.out; omega
        obtain ⟨b, o, A0, c0, A1, c1, A2, c2, rfl, g0, g1, g2, g3, g4, l0, r0, l1, r1, l2, r2⟩ := kChan_at (HR.out.below hb) hlt
        obtain ⟨b', o', B0, d0, B1, d1, B2, d2, rfl, k0, k1, k2, k3, k4, m0, s0, m1, s1, m2, s2⟩ := kChan_at (HS.out.below hb) hlt'
        have R0 := Lib.hid r0; clear r0
        have S0 := Lib.hid s0; clear s0
        have R1 := Lib.hid r1; clear r1
        have S1 := Lib.hid s1; clear s1
        have R2 := Lib.hid r2; clear r2
        have S2 := Lib.hid s2; clear s2
        go_wp2_with fail
        go_still_tail 8, (by kernel_rfl)
        change wpList _ _ _ _ _ wr.drew
        by_cases he : xs[i] = ys[i]
        · have hd : decide (xs[i] = ys[i]) = true := decide_eq_true he
          have He := Lib.hid he; clear he
          go_wp2_with fail
          refine (eqChan_calls xs[i] ys[i] [_, _, _, _, _] [_, _, _, _, _] _ (kChan_mk _ _ l0 (R0.out.below bel) l1 (R1.out.below bel) l2 (R2.out.below bel)) (kChan_mk _ _ m0 (S0.out.below bel) m1 (S1.out.below bel) m2 (S2.out.below bel))).mono ?_
          rintro e w' ⟨rfl, hb2⟩
          go_wp2
          go_roundg gk
          case measure => omega
          case rel => exact ⟨i + 1, by go_num, by omega, by omega, Lib.hid fun j hj => (by
            rcases Nat.lt_succ_iff_lt_or_eq.1 hj with h | rfl
            · exact HP.out j h
            · rw [List.getElem?_eq_getElem hlt, List.getElem?_eq_getElem hlt', He.out]), bstep hb hb2⟩
        · have hd : decide (xs[i] = ys[i]) = false := decide_eq_false he
          have He := Lib.hid he; clear he
          go_wp2_with fail
          refine (eqChan_calls xs[i] ys[i] [_, _, _, _, _] [_, _, _, _, _] _ (kChan_mk _ _ l0 (R0.out.below bel) l1 (R1.out.below bel) l2 (R2.out.below bel)) (kChan_mk _ _ m0 (S0.out.below bel) m1 (S1.out.below bel) m2 (S2.out.below bel))).mono ?_
          rintro e w' ⟨rfl, hb2⟩
          go_wp2
          go_ret
          exact ⟨retF (by rintro rfl; exact He.out rfl), bstep hb hb2⟩
      · have hi' : i = xs.length := by omega
        subst hi'
        go_wp2
        go_ret
        exact ⟨retT (take_eq Hl.out HP.out), bel⟩
  · have b2 : ((xs.length : Int) != (ys.length : Int)) = true := by simp; omega
    have b3 : (xs.length != ys.length) = true := by simp [hl]
    go_enter Tryz.func75, Tryz.ntmps75
    go_wp2
    go_ret
    exact ⟨retF (by rintro rfl; exact hl rfl), bel⟩

theorem eqMutex_calls (x y : MMutex) (cs ds : List Value) (w : World) (hx : kMutex.K w x cs) (hy : kMutex.K w y ds) :
    Calls Tryz.prog 144 #[.agg cs.toArray, .agg ds.toArray] w fun e w' => e = .returned (.bool (decide (x = y))) ∧ Below w.heap.size w w' := by
  obtain ⟨A0, c0, rfl, l0, r0⟩ := kMutex_K hx
  obtain ⟨B0, d0, rfl, m0, s0⟩ := kMutex_K hy
  clear hx hy
  obtain ⟨x0, x1⟩ := x
  obtain ⟨y0, y1⟩ := y
  simp only at *
  have R0 := Lib.hid r0; clear r0
  have S0 := Lib.hid s0; clear s0
  go_enter Tryz.func144, Tryz.ntmps144
  go_wp2_with (first
    | (go_at_call 35; (with_reducible refine (eqIntS_calls _ _ _ _ _ _ _ (R0.out.below bel) (S0.out.below bel)).mono ?_); rintro e w2 ⟨rfl, hb2⟩; obtain ⟨C2, D2⟩ := bcell hb2; obtain ⟨za2, zb2⟩ : w.heap.size < w2.heap.size ∧ w.heap.size + 1 < w2.heap.size := (by have := hb2.size; (try simp at this); omega)))
  all_goals (go_ret; refine ⟨?_, bel⟩; simp_all)

theorem eqMutexS_calls (xs ys : List MMutex) (A B : Option Addr) (c d : Nat) (w : World) (hr : kMutex.Row w A xs) (hs : kMutex.Row w B ys) :
    Calls Tryz.prog 76 #[.slice A xs.length c, .slice B ys.length d] w fun e w' => e = .returned (.bool (decide (xs = ys))) ∧ Below w.heap.size w w' := by
  have hm := hr.1
  have HR := Lib.hid hr; clear hr
  have HS := Lib.hid hs; clear hs
  by_cases hl : xs.length = ys.length
  · have b2 : ((xs.length : Int) != (ys.length : Int)) = false := by simp [hl]
    have b3 : (xs.length != ys.length) = false := by simp [hl]
    have Hl := Lib.hid hl; clear hl
    go_enter Tryz.func76, Tryz.ntmps76
    go_wp2
    go_loopg [5] (xs.length + 1) (fun kq v5 w' => ∃ i : Nat, v5 = .int .i64 i ∧ i + kq = xs.length + 1 ∧ i ≤ xs.length ∧ Hid (∀ j, j < i → xs[j]? = ys[j]?) ∧ Below w.heap.size w w')
    case atStart => exact ⟨0, rfl, by omega, by omega, Lib.hid fun j hj => absurd hj (by omega), Below.refl _ _⟩
    case round =>
      obtain ⟨i, rfl, hi, hi2, HP, hb⟩ := hrel
      obtain ⟨gk, rfl⟩ : ∃ m, gk = m + 1 := ⟨gk - 1, by omega⟩
      by_cases hlt : i < xs.length
      · have hlt' : i < ys.length := by have := Hl.out; omega
        obtain ⟨b, o, A0, c0, rfl, g0, g1, l0, r0⟩ := kMutex_at (HR.out.below hb) hlt
        obtain ⟨b', o', B0, d0, rfl, k0, k1, m0, s0⟩ := kMutex_at (HS.out.below hb) hlt'
        have R0 := Lib.hid r0; clear r0
        have S0 := Lib.hid s0; clear s0
        go_wp2_with fail
        go_still_tail 8, (by kernel_rfl)
        change wpList _ _ _ _ _ wr.drew
        by_cases he : xs[i] = ys[i]
        · have hd : decide (xs[i] = ys[i]) = true := decide_eq_true he
          have He := Lib.hid he; clear he
          go_wp2_with fail
          refine (eqMutex_calls xs[i] ys[i] [_, _] [_, _] _ (kMutex_mk _ _ l0 (R0.out.below bel)) (kMutex_mk _ _ m0 (S0.out.below bel))).mono ?_
          rintro e w' ⟨rfl, hb2⟩
          go_wp2
          go_roundg gk
          case measure => omega
          case rel => exact ⟨i + 1, by go_num, by omega, by omega, Lib.hid fun j hj => (by
            rcases Nat.lt_succ_iff_lt_or_eq.1 hj with h | rfl
            · exact HP.out j h
            · rw [List.getElem?_eq_getElem hlt, List.getElem?_eq_getElem hlt', He.out]), bstep hb hb2⟩
        · have hd : decide (xs[i] = ys[i]) = false := decide_eq_false he
          have He := Lib.hid he; clear he
          go_wp2_with fail
          refine (eqMutex_calls xs[i] ys[i] [_, _] [_, _] _ (kMutex_mk _ _ l0 (R0.out.below bel)) (kMutex_mk _ _ m0 (S0.out.below bel))).mono ?_
          rintro e w' ⟨rfl, hb2⟩
          go_wp2
          go_ret
          exact ⟨retF (by rintro rfl; exact He.out rfl), bstep hb hb2⟩
      · have hi' : i = xs.length := by omega
        subst hi'
        go_wp2
        go_ret
        exact ⟨retT (take_eq Hl.out HP.out), bel⟩
  · have b2 : ((xs.length : Int) != (ys.length : Int)) = true := by simp; omega
    have b3 : (xs.length != ys.length) = true := by simp [hl]
    go_enter Tryz.func76, Tryz.ntmps76
    go_wp2
    go_ret
    exact ⟨retF (by rintro rfl; exact hl rfl), bel⟩

theorem eqEng_calls (x y : MEng) (cs ds : List Value) (w : World) (hx : kEng.K w x cs) (hy : kEng.K w y ds) :
    Calls Tryz.prog 19 #[.agg cs.toArray, .agg ds.toArray] w fun e w' => e = .returned (.bool (decide (x = y))) ∧ Below w.heap.size w w' := by
  obtain ⟨A0, c0, A1, c1, A2, c2, rfl, l0, r0, l1, r1, l2, r2⟩ := kEng_K hx
  obtain ⟨B0, d0, B1, d1, B2, d2, rfl, m0, s0, m1, s1, m2, s2⟩ := kEng_K hy
  clear hx hy
  obtain ⟨x0, x1, x2⟩ := x
  obtain ⟨y0, y1, y2⟩ := y
  simp only at *
  have R0 := Lib.hid r0; clear r0
  have S0 := Lib.hid s0; clear s0
  have R1 := Lib.hid r1; clear r1
  have S1 := Lib.hid s1; clear s1
  have R2 := Lib.hid r2; clear r2
  have S2 := Lib.hid s2; clear s2
  go_enter Tryz.func19, Tryz.ntmps19
  go_wp2_with (first
    | (go_at_call 74; (with_reducible refine (eqGorS_calls _ _ _ _ _ _ _ (R0.out.below bel) (S0.out.below bel)).mono ?_); rintro e w1 ⟨rfl, hb1⟩; obtain ⟨C1, D1⟩ := bcell hb1; obtain ⟨za1, zb1⟩ : w.heap.size < w1.heap.size ∧ w.heap.size + 1 < w1.heap.size := (by have := hb1.size; (try simp at this); omega))
    | (go_at_call 75; (with_reducible refine (eqChanS_calls _ _ _ _ _ _ _ (R1.out.below bel) (S1.out.below bel)).mono ?_); rintro e w2 ⟨rfl, hb2⟩; obtain ⟨C2, D2⟩ := bcell hb2; obtain ⟨za2, zb2⟩ : w.heap.size < w2.heap.size ∧ w.heap.size + 1 < w2.heap.size := (by have := hb2.size; (try simp at this); omega))
    | (go_at_call 76; (with_reducible refine (eqMutexS_calls _ _ _ _ _ _ _ (R2.out.below bel) (S2.out.below bel)).mono ?_); rintro e w3 ⟨rfl, hb3⟩; obtain ⟨C3, D3⟩ := bcell hb3; obtain ⟨za3, zb3⟩ : w.heap.size < w3.heap.size ∧ w.heap.size + 1 < w3.heap.size := (by have := hb3.size; (try simp at this); omega)))
  all_goals (go_ret; refine ⟨?_, bel⟩; simp_all)
end Go.Proofs.YtjmefaihkblliaaGreat.Wd
/- Contracts of the laws' helpers over programs. Conditions: none. -/
namespace Go.Proofs.YtjmefaihkblliaaGreat.Wd
open Go.RowKit
open Go.Proofs.YtjmefaihkblliaaGreat.Ab (MCase MSelect MInstr MProc MProg MWaiter MChan MMutex MItem MGor MEng MPick)
set_option linter.unusedVariables false
set_option linter.unusedSimpArgs false
set_option maxHeartbeats 4000000
set_option maxRecDepth 100000
theorem eqCase_calls (x y : MCase) (cs ds : List Value) (w : World) (hx : kCase.K w x cs) (hy : kCase.K w y ds) :
    Calls Tryz.prog 241 #[.agg cs.toArray, .agg ds.toArray] w fun e w' => e = .returned (.bool (decide (x = y))) ∧ Below w.heap.size w w' := by
  obtain rfl := kCase_K hx
  obtain rfl := kCase_K hy
  clear hx hy
  obtain ⟨x0, x1, x2, x3, x4⟩ := x
  obtain ⟨y0, y1, y2, y3, y4⟩ := y
  go_enter Tryz.func241, Tryz.ntmps241
  go_wp2
  all_goals (go_ret; refine ⟨?_, bel⟩; simp_all)

theorem eqCaseS_calls (xs ys : List MCase) (A B : Option Addr) (c d : Nat) (w : World) (hr : kCase.Row w A xs) (hs : kCase.Row w B ys) :
    Calls Tryz.prog 201 #[.slice A xs.length c, .slice B ys.length d] w fun e w' => e = .returned (.bool (decide (xs = ys))) ∧ Below w.heap.size w w' := by
  have hm := hr.1
  have HR := Lib.hid hr; clear hr
  have HS := Lib.hid hs; clear hs
  by_cases hl : xs.length = ys.length
  · have b2 : ((xs.length : Int) != (ys.length : Int)) = false := by simp [hl]
    have b3 : (xs.length != ys.length) = false := by simp [hl]
    have Hl := Lib.hid hl; clear hl
    go_enter Tryz.func201, Tryz.ntmps201
    go_wp2
    go_loopg [5] (xs.length + 1) (fun kq v5 w' => ∃ i : Nat, v5 = .int .i64 i ∧ i + kq = xs.length + 1 ∧ i ≤ xs.length ∧ Hid (∀ j, j < i → xs[j]? = ys[j]?) ∧ Below w.heap.size w w')
    case atStart => exact ⟨0, rfl, by omega, by omega, Lib.hid fun j hj => absurd hj (by omega), Below.refl _ _⟩
    case round =>
      obtain ⟨i, rfl, hi, hi2, HP, hb⟩ := hrel
      obtain ⟨gk, rfl⟩ : ∃ m, gk = m + 1 := ⟨gk - 1, by omega⟩
      by_cases hlt : i < xs.length
      · have hlt' : i < ys.length := by have := Hl.out; omega
        obtain ⟨b, o, rfl, g0, g1, g2, g3, g4⟩ := kCase_at (HR.out.below hb) hlt
        obtain ⟨b', o', rfl, k0, k1, k2, k3, k4⟩ := kCase_at (HS.out.below hb) hlt'
        go_wp2_with fail
        go_still_tail 8, (by kernel_rfl)
        change wpList _ _ _ _ _ wr.drew
        by_cases he : xs[i] = ys[i]
        · have hd : decide (xs[i] = ys[i]) = true := decide_eq_true he
          have He := Lib.hid he; clear he
          go_wp2_with fail
          refine (eqCase_calls xs[i] ys[i] [_, _, _, _, _] [_, _, _, _, _] _ (kCase_mk _ _) (kCase_mk _ _)).mono ?_
          rintro e w' ⟨rfl, hb2⟩
          go_wp2
          go_roundg gk
          case measure => omega
          case rel => exact ⟨i + 1, by go_num, by omega, by omega, Lib.hid fun j hj => (by
            rcases Nat.lt_succ_iff_lt_or_eq.1 hj with h | rfl
            · exact HP.out j h
            · rw [List.getElem?_eq_getElem hlt, List.getElem?_eq_getElem hlt', He.out]), bstep hb hb2⟩
        · have hd : decide (xs[i] = ys[i]) = false := decide_eq_false he
          have He := Lib.hid he; clear he
          go_wp2_with fail
          refine (eqCase_calls xs[i] ys[i] [_, _, _, _, _] [_, _, _, _, _] _ (kCase_mk _ _) (kCase_mk _ _)).mono ?_
          rintro e w' ⟨rfl, hb2⟩
          go_wp2
          go_ret
          exact ⟨retF (by rintro rfl; exact He.out rfl), bstep hb hb2⟩
      · have hi' : i = xs.length := by omega
        subst hi'
        go_wp2
        go_ret
        exact ⟨retT (take_eq Hl.out HP.out), bel⟩
  · have b2 : ((xs.length : Int) != (ys.length : Int)) = true := by simp; omega
    have b3 : (xs.length != ys.length) = true := by simp [hl]
    go_enter Tryz.func201, Tryz.ntmps201
    go_wp2
    go_ret
    exact ⟨retF (by rintro rfl; exact hl rfl), bel⟩

theorem eqInstr_calls (x y : MInstr) (cs ds : List Value) (w : World) (hx : kInstr.K w x cs) (hy : kInstr.K w y ds) :
    Calls Tryz.prog 242 #[.agg cs.toArray, .agg ds.toArray] w fun e w' => e = .returned (.bool (decide (x = y))) ∧ Below w.heap.size w w' := by
  obtain rfl := kInstr_K hx
  obtain rfl := kInstr_K hy
  clear hx hy
  obtain ⟨x0, x1, x2, x3⟩ := x
  obtain ⟨y0, y1, y2, y3⟩ := y
  go_enter Tryz.func242, Tryz.ntmps242
  go_wp2
  all_goals (go_ret; refine ⟨?_, bel⟩; simp_all)

theorem eqInstrS_calls (xs ys : List MInstr) (A B : Option Addr) (c d : Nat) (w : World) (hr : kInstr.Row w A xs) (hs : kInstr.Row w B ys) :
    Calls Tryz.prog 202 #[.slice A xs.length c, .slice B ys.length d] w fun e w' => e = .returned (.bool (decide (xs = ys))) ∧ Below w.heap.size w w' := by
  have hm := hr.1
  have HR := Lib.hid hr; clear hr
  have HS := Lib.hid hs; clear hs
  by_cases hl : xs.length = ys.length
  · have b2 : ((xs.length : Int) != (ys.length : Int)) = false := by simp [hl]
    have b3 : (xs.length != ys.length) = false := by simp [hl]
    have Hl := Lib.hid hl; clear hl
    go_enter Tryz.func202, Tryz.ntmps202
    go_wp2
    go_loopg [5] (xs.length + 1) (fun kq v5 w' => ∃ i : Nat, v5 = .int .i64 i ∧ i + kq = xs.length + 1 ∧ i ≤ xs.length ∧ Hid (∀ j, j < i → xs[j]? = ys[j]?) ∧ Below w.heap.size w w')
    case atStart => exact ⟨0, rfl, by omega, by omega, Lib.hid fun j hj => absurd hj (by omega), Below.refl _ _⟩
    case round =>
      obtain ⟨i, rfl, hi, hi2, HP, hb⟩ := hrel
      obtain ⟨gk, rfl⟩ : ∃ m, gk = m + 1 := ⟨gk - 1, by omega⟩
      by_cases hlt : i < xs.length
      · have hlt' : i < ys.length := by have := Hl.out; omega
        obtain ⟨b, o, rfl, g0, g1, g2, g3⟩ := kInstr_at (HR.out.below hb) hlt
        obtain ⟨b', o', rfl, k0, k1, k2, k3⟩ := kInstr_at (HS.out.below hb) hlt'
        go_wp2_with fail
        go_still_tail 8, (by kernel_rfl)
        change wpList _ _ _ _ _ wr.drew
        by_cases he : xs[i] = ys[i]
        · have hd : decide (xs[i] = ys[i]) = true := decide_eq_true he
          have He := Lib.hid he; clear he
          go_wp2_with fail
          refine (eqInstr_calls xs[i] ys[i] [_, _, _, _] [_, _, _, _] _ (kInstr_mk _ _) (kInstr_mk _ _)).mono ?_
          rintro e w' ⟨rfl, hb2⟩
          go_wp2
          go_roundg gk
          case measure => omega
          case rel => exact ⟨i + 1, by go_num, by omega, by omega, Lib.hid fun j hj => (by
            rcases Nat.lt_succ_iff_lt_or_eq.1 hj with h | rfl
            · exact HP.out j h
            · rw [List.getElem?_eq_getElem hlt, List.getElem?_eq_getElem hlt', He.out]), bstep hb hb2⟩
        · have hd : decide (xs[i] = ys[i]) = false := decide_eq_false he
          have He := Lib.hid he; clear he
          go_wp2_with fail
          refine (eqInstr_calls xs[i] ys[i] [_, _, _, _] [_, _, _, _] _ (kInstr_mk _ _) (kInstr_mk _ _)).mono ?_
          rintro e w' ⟨rfl, hb2⟩
          go_wp2
          go_ret
          exact ⟨retF (by rintro rfl; exact He.out rfl), bstep hb hb2⟩
      · have hi' : i = xs.length := by omega
        subst hi'
        go_wp2
        go_ret
        exact ⟨retT (take_eq Hl.out HP.out), bel⟩
  · have b2 : ((xs.length : Int) != (ys.length : Int)) = true := by simp; omega
    have b3 : (xs.length != ys.length) = true := by simp [hl]
    go_enter Tryz.func202, Tryz.ntmps202
    go_wp2
    go_ret
    exact ⟨retF (by rintro rfl; exact hl rfl), bel⟩

theorem eqSelect_calls (x y : MSelect) (cs ds : List Value) (w : World) (hx : kSelect.K w x cs) (hy : kSelect.K w y ds) :
    Calls Tryz.prog 140 #[.agg cs.toArray, .agg ds.toArray] w fun e w' => e = .returned (.bool (decide (x = y))) ∧ Below w.heap.size w w' := by
  obtain ⟨A0, c0, rfl, l0, r0⟩ := kSelect_K hx
  obtain ⟨B0, d0, rfl, m0, s0⟩ := kSelect_K hy
  clear hx hy
  obtain ⟨x0, x1⟩ := x
  obtain ⟨y0, y1⟩ := y
  simp only at *
  have R0 := Lib.hid r0; clear r0
  have S0 := Lib.hid s0; clear s0
  go_enter Tryz.func140, Tryz.ntmps140
  go_wp2_with (first
    | (go_at_call 201; (with_reducible refine (eqCaseS_calls _ _ _ _ _ _ _ (R0.out.below bel) (S0.out.below bel)).mono ?_); rintro e w1 ⟨rfl, hb1⟩; obtain ⟨C1, D1⟩ := bcell hb1; obtain ⟨za1, zb1⟩ : w.heap.size < w1.heap.size ∧ w.heap.size + 1 < w1.heap.size := (by have := hb1.size; (try simp at this); omega)))
  all_goals (go_ret; refine ⟨?_, bel⟩; simp_all)

theorem eqSelectS_calls (xs ys : List MSelect) (A B : Option Addr) (c d : Nat) (w : World) (hr : kSelect.Row w A xs) (hs : kSelect.Row w B ys) :
    Calls Tryz.prog 72 #[.slice A xs.length c, .slice B ys.length d] w fun e w' => e = .returned (.bool (decide (xs = ys))) ∧ Below w.heap.size w w' := by
  have hm := hr.1
  have HR := Lib.hid hr; clear hr
  have HS := Lib.hid hs; clear hs
  by_cases hl : xs.length = ys.length
  · have b2 : ((xs.length : Int) != (ys.length : Int)) = false := by simp [hl]
    have b3 : (xs.length != ys.length) = false := by simp [hl]
    have Hl := Lib.hid hl; clear hl
    go_enter Tryz.func72, Tryz.ntmps72
    go_wp2
    go_loopg [5] (xs.length + 1) (fun kq v5 w' => ∃ i : Nat, v5 = .int .i64 i ∧ i + kq = xs.length + 1 ∧ i ≤ xs.length ∧ Hid (∀ j, j < i → xs[j]? = ys[j]?) ∧ Below w.heap.size w w')
    case atStart => exact ⟨0, rfl, by omega, by omega, Lib.hid fun j hj => absurd hj (by omega), Below.refl _ _⟩
    case round =>
      obtain ⟨i, rfl, hi, hi2, HP, hb⟩ := hrel
      obtain ⟨gk, rfl⟩ : ∃ m, gk = m + 1 := ⟨gk - 1, by omega⟩
      by_cases hlt : i < xs.length
      · have hlt' : i < ys.length := by have := Hl.out; omega
        obtain ⟨b, o, A0, c0, rfl, g0, g1, l0, r0⟩ := kSelect_at (HR.out.below hb) hlt
        obtain ⟨b', o', B0, d0, rfl, k0, k1, m0, s0⟩ := kSelect_at (HS.out.below hb) hlt'
        have R0 := Lib.hid r0; clear r0
        have S0 := Lib.hid s0; clear s0
        go_wp2_with fail
        go_still_tail 8, (by kernel_rfl)
        change wpList _ _ _ _ _ wr.drew
        by_cases he : xs[i] = ys[i]
        · have hd : decide (xs[i] = ys[i]) = true := decide_eq_true he
          have He := Lib.hid he; clear he
          go_wp2_with fail
          refine (eqSelect_calls xs[i] ys[i] [_, _] [_, _] _ (kSelect_mk _ _ l0 (R0.out.below bel)) (kSelect_mk _ _ m0 (S0.out.below bel))).mono ?_
          rintro e w' ⟨rfl, hb2⟩
          go_wp2
          go_roundg gk
          case measure => omega
          case rel => exact ⟨i + 1, by go_num, by omega, by omega, Lib.hid fun j hj => (by
            rcases Nat.lt_succ_iff_lt_or_eq.1 hj with h | rfl
            · exact HP.out j h
            · rw [List.getElem?_eq_getElem hlt, List.getElem?_eq_getElem hlt', He.out]), bstep hb hb2⟩
        · have hd : decide (xs[i] = ys[i]) = false := decide_eq_false he
          have He := Lib.hid he; clear he
          go_wp2_with fail
          refine (eqSelect_calls xs[i] ys[i] [_, _] [_, _] _ (kSelect_mk _ _ l0 (R0.out.below bel)) (kSelect_mk _ _ m0 (S0.out.below bel))).mono ?_
          rintro e w' ⟨rfl, hb2⟩
          go_wp2
          go_ret
          exact ⟨retF (by rintro rfl; exact He.out rfl), bstep hb hb2⟩
      · have hi' : i = xs.length := by omega
        subst hi'
        go_wp2
        go_ret
        exact ⟨retT (take_eq Hl.out HP.out), bel⟩
  · have b2 : ((xs.length : Int) != (ys.length : Int)) = true := by simp; omega
    have b3 : (xs.length != ys.length) = true := by simp [hl]
    go_enter Tryz.func72, Tryz.ntmps72
    go_wp2
    go_ret
    exact ⟨retF (by rintro rfl; exact hl rfl), bel⟩

theorem eqProc_calls (x y : MProc) (cs ds : List Value) (w : World) (hx : kProc.K w x cs) (hy : kProc.K w y ds) :
    Calls Tryz.prog 141 #[.agg cs.toArray, .agg ds.toArray] w fun e w' => e = .returned (.bool (decide (x = y))) ∧ Below w.heap.size w w' := by
  obtain ⟨A0, c0, rfl, l0, r0⟩ := kProc_K hx
  obtain ⟨B0, d0, rfl, m0, s0⟩ := kProc_K hy
  clear hx hy
  obtain ⟨x0⟩ := x
  obtain ⟨y0⟩ := y
  simp only at *
  have R0 := Lib.hid r0; clear r0
  have S0 := Lib.hid s0; clear s0
  go_enter Tryz.func141, Tryz.ntmps141
  go_wp2_with (first
    | (go_at_call 202; (with_reducible refine (eqInstrS_calls _ _ _ _ _ _ _ (R0.out.below bel) (S0.out.below bel)).mono ?_); rintro e w1 ⟨rfl, hb1⟩; obtain ⟨C1, D1⟩ := bcell hb1; obtain ⟨za1, zb1⟩ : w.heap.size < w1.heap.size ∧ w.heap.size + 1 < w1.heap.size := (by have := hb1.size; (try simp at this); omega)))
  all_goals (go_ret; refine ⟨?_, bel⟩; simp_all)

theorem eqProcS_calls (xs ys : List MProc) (A B : Option Addr) (c d : Nat) (w : World) (hr : kProc.Row w A xs) (hs : kProc.Row w B ys) :
    Calls Tryz.prog 73 #[.slice A xs.length c, .slice B ys.length d] w fun e w' => e = .returned (.bool (decide (xs = ys))) ∧ Below w.heap.size w w' := by
  have hm := hr.1
  have HR := Lib.hid hr; clear hr
  have HS := Lib.hid hs; clear hs
  by_cases hl : xs.length = ys.length
  · have b2 : ((xs.length : Int) != (ys.length : Int)) = false := by simp [hl]
    have b3 : (xs.length != ys.length) = false := by simp [hl]
    have Hl := Lib.hid hl; clear hl
    go_enter Tryz.func73, Tryz.ntmps73
    go_wp2
    go_loopg [5] (xs.length + 1) (fun kq v5 w' => ∃ i : Nat, v5 = .int .i64 i ∧ i + kq = xs.length + 1 ∧ i ≤ xs.length ∧ Hid (∀ j, j < i → xs[j]? = ys[j]?) ∧ Below w.heap.size w w')
    case atStart => exact ⟨0, rfl, by omega, by omega, Lib.hid fun j hj => absurd hj (by omega), Below.refl _ _⟩
    case round =>
      obtain ⟨i, rfl, hi, hi2, HP, hb⟩ := hrel
      obtain ⟨gk, rfl⟩ : ∃ m, gk = m + 1 := ⟨gk - 1, by omega⟩
      by_cases hlt : i < xs.length
      · have hlt' : i < ys.length := by have := Hl.out; omega
        obtain ⟨b, o, A0, c0, rfl, g0, l0, r0⟩ := kProc_at (HR.out.below hb) hlt
        obtain ⟨b', o', B0, d0, rfl, k0, m0, s0⟩ := kProc_at (HS.out.below hb) hlt'
        have R0 := Lib.hid r0; clear r0
        have S0 := Lib.hid s0; clear s0
        go_wp2_with fail
        go_still_tail 8, (by kernel_rfl)
        change wpList _ _ _ _ _ wr.drew
        by_cases he : xs[i] = ys[i]
        · have hd : decide (xs[i] = ys[i]) = true := decide_eq_true he
          have He := Lib.hid he; clear he
          go_wp2_with fail
          refine (eqProc_calls xs[i] ys[i] [_] [_] _ (kProc_mk _ _ l0 (R0.out.below bel)) (kProc_mk _ _ m0 (S0.out.below bel))).mono ?_
          rintro e w' ⟨rfl, hb2⟩
          go_wp2
          go_roundg gk
          case measure => omega
          case rel => exact ⟨i + 1, by go_num, by omega, by omega, Lib.hid fun j hj => (by
            rcases Nat.lt_succ_iff_lt_or_eq.1 hj with h | rfl
            · exact HP.out j h
            · rw [List.getElem?_eq_getElem hlt, List.getElem?_eq_getElem hlt', He.out]), bstep hb hb2⟩
        · have hd : decide (xs[i] = ys[i]) = false := decide_eq_false he
          have He := Lib.hid he; clear he
          go_wp2_with fail
          refine (eqProc_calls xs[i] ys[i] [_] [_] _ (kProc_mk _ _ l0 (R0.out.below bel)) (kProc_mk _ _ m0 (S0.out.below bel))).mono ?_
          rintro e w' ⟨rfl, hb2⟩
          go_wp2
          go_ret
          exact ⟨retF (by rintro rfl; exact He.out rfl), bstep hb hb2⟩
      · have hi' : i = xs.length := by omega
        subst hi'
        go_wp2
        go_ret
        exact ⟨retT (take_eq Hl.out HP.out), bel⟩
  · have b2 : ((xs.length : Int) != (ys.length : Int)) = true := by simp; omega
    have b3 : (xs.length != ys.length) = true := by simp [hl]
    go_enter Tryz.func73, Tryz.ntmps73
    go_wp2
    go_ret
    exact ⟨retF (by rintro rfl; exact hl rfl), bel⟩

theorem eqProg_calls (x y : MProg) (cs ds : List Value) (w : World) (hx : kProg.K w x cs) (hy : kProg.K w y ds) :
    Calls Tryz.prog 18 #[.agg cs.toArray, .agg ds.toArray] w fun e w' => e = .returned (.bool (decide (x = y))) ∧ Below w.heap.size w w' := by
  obtain ⟨A0, c0, A1, c1, A2, c2, rfl, l0, r0, l1, r1, l2, r2⟩ := kProg_K hx
  obtain ⟨B0, d0, B1, d1, B2, d2, rfl, m0, s0, m1, s1, m2, s2⟩ := kProg_K hy
  clear hx hy
  obtain ⟨x0, x1, x2, x3⟩ := x
  obtain ⟨y0, y1, y2, y3⟩ := y
  simp only at *
  have R0 := Lib.hid r0; clear r0
  have S0 := Lib.hid s0; clear s0
  have R1 := Lib.hid r1; clear r1
  have S1 := Lib.hid s1; clear s1
  have R2 := Lib.hid r2; clear r2
  have S2 := Lib.hid s2; clear s2
  go_enter Tryz.func18, Tryz.ntmps18
  go_wp2_with (first
    | (go_at_call 35; (with_reducible refine (eqIntS_calls _ _ _ _ _ _ _ (R0.out.below bel) (S0.out.below bel)).mono ?_); rintro e w1 ⟨rfl, hb1⟩; obtain ⟨C1, D1⟩ := bcell hb1; obtain ⟨za1, zb1⟩ : w.heap.size < w1.heap.size ∧ w.heap.size + 1 < w1.heap.size := (by have := hb1.size; (try simp at this); omega))
    | (go_at_call 72; (with_reducible refine (eqSelectS_calls _ _ _ _ _ _ _ (R1.out.below bel) (S1.out.below bel)).mono ?_); rintro e w3 ⟨rfl, hb3⟩; obtain ⟨C3, D3⟩ := bcell hb3; obtain ⟨za3, zb3⟩ : w.heap.size < w3.heap.size ∧ w.heap.size + 1 < w3.heap.size := (by have := hb3.size; (try simp at this); omega))
    | (go_at_call 73; (with_reducible refine (eqProcS_calls _ _ _ _ _ _ _ (R2.out.below bel) (S2.out.below bel)).mono ?_); rintro e w4 ⟨rfl, hb4⟩; obtain ⟨C4, D4⟩ := bcell hb4; obtain ⟨za4, zb4⟩ : w.heap.size < w4.heap.size ∧ w.heap.size + 1 < w4.heap.size := (by have := hb4.size; (try simp at this); omega)))
  all_goals (go_ret; refine ⟨?_, bel⟩; simp_all)

theorem eqPick_calls (x y : MPick) (cs ds : List Value) (w : World) (hx : kPick.K w x cs) (hy : kPick.K w y ds) :
    Calls Tryz.prog 71 #[.agg cs.toArray, .agg ds.toArray] w fun e w' => e = .returned (.bool (decide (x = y))) ∧ Below w.heap.size w w' := by
  obtain rfl := kPick_K hx
  obtain rfl := kPick_K hy
  clear hx hy
  obtain ⟨x0, x1⟩ := x
  obtain ⟨y0, y1⟩ := y
  go_enter Tryz.func71, Tryz.ntmps71
  go_wp2
  all_goals (go_ret; refine ⟨?_, bel⟩; simp_all)

theorem eqPickS_calls (xs ys : List MPick) (A B : Option Addr) (c d : Nat) (w : World) (hr : kPick.Row w A xs) (hs : kPick.Row w B ys) :
    Calls Tryz.prog 17 #[.slice A xs.length c, .slice B ys.length d] w fun e w' => e = .returned (.bool (decide (xs = ys))) ∧ Below w.heap.size w w' := by
  have hm := hr.1
  have HR := Lib.hid hr; clear hr
  have HS := Lib.hid hs; clear hs
  by_cases hl : xs.length = ys.length
  · have b2 : ((xs.length : Int) != (ys.length : Int)) = false := by simp [hl]
    have b3 : (xs.length != ys.length) = false := by simp [hl]
    have Hl := Lib.hid hl; clear hl
    go_enter Tryz.func17, Tryz.ntmps17
    go_wp2
    go_loopg [5] (xs.length + 1) (fun kq v5 w' => ∃ i : Nat, v5 = .int .i64 i ∧ i + kq = xs.length + 1 ∧ i ≤ xs.length ∧ Hid (∀ j, j < i → xs[j]? = ys[j]?) ∧ Below w.heap.size w w')
    case atStart => exact ⟨0, rfl, by omega, by omega, Lib.hid fun j hj => absurd hj (by omega), Below.refl _ _⟩
    case round =>
      obtain ⟨i, rfl, hi, hi2, HP, hb⟩ := hrel
      obtain ⟨gk, rfl⟩ : ∃ m, gk = m + 1 := ⟨gk - 1, by omega⟩
      by_cases hlt : i < xs.length
      · have hlt' : i < ys.length := by have := Hl.out; omega
        obtain ⟨b, o, rfl, g0, g1⟩ := kPick_at (HR.out.below hb) hlt
        obtain ⟨b', o', rfl, k0, k1⟩ := kPick_at (HS.out.below hb) hlt'
        go_wp2_with fail
        go_still_tail 8, (by kernel_rfl)
        change wpList _ _ _ _ _ wr.drew
        by_cases he : xs[i] = ys[i]
        · have hd : decide (xs[i] = ys[i]) = true := decide_eq_true he
          have He := Lib.hid he; clear he
          go_wp2_with fail
          refine (eqPick_calls xs[i] ys[i] [_, _] [_, _] _ (kPick_mk _ _) (kPick_mk _ _)).mono ?_
          rintro e w' ⟨rfl, hb2⟩
          go_wp2
          go_roundg gk
          case measure => omega
          case rel => exact ⟨i + 1, by go_num, by omega, by omega, Lib.hid fun j hj => (by
            rcases Nat.lt_succ_iff_lt_or_eq.1 hj with h | rfl
            · exact HP.out j h
            · rw [List.getElem?_eq_getElem hlt, List.getElem?_eq_getElem hlt', He.out]), bstep hb hb2⟩
        · have hd : decide (xs[i] = ys[i]) = false := decide_eq_false he
          have He := Lib.hid he; clear he
          go_wp2_with fail
          refine (eqPick_calls xs[i] ys[i] [_, _] [_, _] _ (kPick_mk _ _) (kPick_mk _ _)).mono ?_
          rintro e w' ⟨rfl, hb2⟩
          go_wp2
          go_ret
          exact ⟨retF (by rintro rfl; exact He.out rfl), bstep hb hb2⟩
      · have hi' : i = xs.length := by omega
        subst hi'
        go_wp2
        go_ret
        exact ⟨retT (take_eq Hl.out HP.out), bel⟩
  · have b2 : ((xs.length : Int) != (ys.length : Int)) = true := by simp; omega
    have b3 : (xs.length != ys.length) = true := by simp [hl]
    go_enter Tryz.func17, Tryz.ntmps17
    go_wp2
    go_ret
    exact ⟨retF (by rintro rfl; exact hl rfl), bel⟩
end Go.Proofs.YtjmefaihkblliaaGreat.Wd

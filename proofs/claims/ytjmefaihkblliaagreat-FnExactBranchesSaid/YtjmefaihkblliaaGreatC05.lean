/- Texts of one claim, joined: E12, E13, E14, E15, E16, E17, E18, E19, E20, E21, E22, E23, Eq, E24, E25, E26. Conditions: as each says. -/
import Derived.Test.YtjmefaihkblliaaGreatC02
import Derived.Test.YtjmefaihkblliaaGreatC04
/- Goroutines: the program's GorOk, both programs' instruction at hand, walked by the abstract machine. Conditions: none. -/
namespace Go.Proofs.YtjmefaihkblliaaGreat.Ab
set_option linter.unusedVariables false
set_option linter.unusedSimpArgs false
set_option maxRecDepth 100000
def lastN (l : List MItem) : Nat → Int
  | 0 => 0
  | i + 1 => (l.getD i dItem).kind
theorem lastN_eq (l : List MItem) : lastN l l.length = lastKind l := by
  rw [lastKind]
  cases h : l.length with
  | zero => rfl
  | succ n =>
    rw [if_neg (by omega)]
    show (l.getD n dItem).kind = (l.getD (((n + 1 : Nat) : Int) - 1).toNat dItem).kind
    rw [show (((n + 1 : Nat) : Int) - 1).toNat = n by omega]
set_option maxHeartbeats 4000000 in
theorem con_impl_GorOk (p : MProg) (g : MGor) : Con Tryz.prog 132 [.dagg (cProg p), .dagg (cGor g)] (.dat (.bool (gorOk p g))) := by
  refine con_body (rs := [(.tmp 4, 4)]) tb_ok Tryz.func132 rfl rfl rfl (Nat.le_of_ble_eq_true rfl) fun ho x hn => ?_
  obtain ⟨hb1, hb2⟩ := okGor (ho (.dagg (cGor g)) (by simp))
  have hno : gorHead p g = false → LV.dat (.bool false) = LV.dat (.bool (gorOk p g)) := fun hh => by
    rw [gorOk, gorOk0, hh, Bool.false_and, Bool.and_false]
  cases hp : progOk p
  · ((refine go_draw hn tb_ok mix_ok [.r (.dat (.bool (progOk p))), .b true] rfl ?_ rfl ?_ ?_ ?_ ?_; ((first | exact trivial | (simp only [i64ok, true_and, and_true, Int.toNat_natCast]; omega) | (simp only [i64ok, true_and, and_true, Int.toNat_natCast] at *; omega))); rotate_left; (kernel_rfl); (kernel_rfl); rotate_left))
    · (((try simp only [andO, true_and, and_true, Int.toNat_natCast, i64ok, decide_eq_true_eq, decide_eq_false_iff_not, Bool.not_eq_true', Bool.not_eq_false']); (repeat' (first | exact trivial | (first | exact con_impl_ProgOk _ | exact con_impl_ItemOk _ | exact con_impl_Instrs _ _ | exact con_ContainsFunc _ _ (fun v => !isVal v) con_gor1 | exact con_ContainsFunc _ _ (fun v => !isVal v) con_chan1 | exact con_impl_within _ _ _ | assumption) | assumption | omega | exact does_litz _ _ hn tb_ok rfl rfl rfl rfl rfl rfl rfl rfl rfl rfl rfl | exact does_app _ hn tb_ok rfl ⟨rfl, _, _, _, rfl, rfl, rfl, rfl, rfl, rfl⟩ rfl rfl rfl rfl rfl rfl rfl (by simp only [List.length_cons, List.length_nil]; omega) | refine And.intro ?_ ?_))))
    · (repeat' (first
  | (refine go_cond hn tb_ok rfl ?_ (fun hc => ?_) (fun hc => ?_); ((first | exact trivial | (simp only [i64ok, true_and, and_true, Int.toNat_natCast]; omega) | (simp only [i64ok, true_and, and_true, Int.toNat_natCast] at *; omega))); all_goals (try (((try simp only [decide_eq_true_eq, decide_eq_false_iff_not, Bool.not_eq_true', Bool.not_eq_false', Bool.not_eq_eq_eq_not, Bool.not_true, Bool.not_false, Int.not_lt, Int.not_le, Int.toNat_natCast, beq_iff_eq, beq_eq_false_iff_ne, ne_eq] at hc); (try (first | simp only [rest_iff, rest_iff', isReg_iff, isReg_iff', isVal_iff, isVal_iff', isIn_iff, isIn_iff', isChan_iff, isChan_iff'] at hc | simp only [(fields_iff _).1, (fields_iff _).2.1, (fields_iff _).2.2, isReg_iff, isReg_iff', isVal_iff, isVal_iff', isIn_iff, isIn_iff', isChan_iff, isChan_iff'] at hc | skip)); try (exfalso; omega)))))
  | (refine go_ret hn tb_ok rfl ?_ ⟨_, rfl, ?_⟩; ((first | exact trivial | (simp only [i64ok, true_and, and_true, Int.toNat_natCast]; omega) | (simp only [i64ok, true_and, and_true, Int.toNat_natCast] at *; omega))))
  | ((refine go_con hn tb_ok rfl ?_ rfl [] ⟨_, ?_, rfl, ?_, ?_, ?_, ?_⟩; ((first | exact trivial | (simp only [i64ok, true_and, and_true, Int.toNat_natCast]; omega) | (simp only [i64ok, true_and, and_true, Int.toNat_natCast] at *; omega))); rotate_left; ((first | exact con_impl_ProgOk _ | exact con_impl_ItemOk _ | exact con_impl_Instrs _ _ | exact con_ContainsFunc _ _ (fun v => !isVal v) con_gor1 | exact con_ContainsFunc _ _ (fun v => !isVal v) con_chan1 | exact con_impl_within _ _ _ | assumption)); (rfl); (first | exact .inl rfl | exact .inr (fun id hi => lk3_ok hi))))))
      rw [gorOk, hp]; rfl
  cases hin : isIn g.pc 0 (instrsOf p g.proc)
  · ((refine go_draw hn tb_ok mix_ok [.r (.dat (.bool (progOk p))), .b false, .r (.dat (.int .i64 (instrsOf p g.proc))), .r (.dat (.bool (isIn g.pc 0 (instrsOf p g.proc)))), .b true] rfl ?_ rfl ?_ ?_ ?_ ?_; ((first | exact trivial | (simp only [i64ok, true_and, and_true, Int.toNat_natCast]; omega) | (simp only [i64ok, true_and, and_true, Int.toNat_natCast] at *; omega))); rotate_left; (kernel_rfl); (kernel_rfl); rotate_left))
    · (((try simp only [andO, true_and, and_true, Int.toNat_natCast, i64ok, decide_eq_true_eq, decide_eq_false_iff_not, Bool.not_eq_true', Bool.not_eq_false']); (repeat' (first | exact trivial | (first | exact con_impl_ProgOk _ | exact con_impl_ItemOk _ | exact con_impl_Instrs _ _ | exact con_ContainsFunc _ _ (fun v => !isVal v) con_gor1 | exact con_ContainsFunc _ _ (fun v => !isVal v) con_chan1 | exact con_impl_within _ _ _ | assumption) | assumption | omega | exact does_litz _ _ hn tb_ok rfl rfl rfl rfl rfl rfl rfl rfl rfl rfl rfl | exact does_app _ hn tb_ok rfl ⟨rfl, _, _, _, rfl, rfl, rfl, rfl, rfl, rfl⟩ rfl rfl rfl rfl rfl rfl rfl (by simp only [List.length_cons, List.length_nil]; omega) | refine And.intro ?_ ?_))))
    · (repeat' (first
  | (refine go_cond hn tb_ok rfl ?_ (fun hc => ?_) (fun hc => ?_); ((first | exact trivial | (simp only [i64ok, true_and, and_true, Int.toNat_natCast]; omega) | (simp only [i64ok, true_and, and_true, Int.toNat_natCast] at *; omega))); all_goals (try (((try simp only [decide_eq_true_eq, decide_eq_false_iff_not, Bool.not_eq_true', Bool.not_eq_false', Bool.not_eq_eq_eq_not, Bool.not_true, Bool.not_false, Int.not_lt, Int.not_le, Int.toNat_natCast, beq_iff_eq, beq_eq_false_iff_ne, ne_eq] at hc); (try (first | simp only [rest_iff, rest_iff', isReg_iff, isReg_iff', isVal_iff, isVal_iff', isIn_iff, isIn_iff', isChan_iff, isChan_iff'] at hc | simp only [(fields_iff _).1, (fields_iff _).2.1, (fields_iff _).2.2, isReg_iff, isReg_iff', isVal_iff, isVal_iff', isIn_iff, isIn_iff', isChan_iff, isChan_iff'] at hc | skip)); try (exfalso; omega)))))
  | (refine go_ret hn tb_ok rfl ?_ ⟨_, rfl, ?_⟩; ((first | exact trivial | (simp only [i64ok, true_and, and_true, Int.toNat_natCast]; omega) | (simp only [i64ok, true_and, and_true, Int.toNat_natCast] at *; omega))))
  | ((refine go_con hn tb_ok rfl ?_ rfl [] ⟨_, ?_, rfl, ?_, ?_, ?_, ?_⟩; ((first | exact trivial | (simp only [i64ok, true_and, and_true, Int.toNat_natCast]; omega) | (simp only [i64ok, true_and, and_true, Int.toNat_natCast] at *; omega))); rotate_left; ((first | exact con_impl_ProgOk _ | exact con_impl_ItemOk _ | exact con_impl_Instrs _ _ | exact con_ContainsFunc _ _ (fun v => !isVal v) con_gor1 | exact con_ContainsFunc _ _ (fun v => !isVal v) con_chan1 | exact con_impl_within _ _ _ | assumption)); (rfl); (first | exact .inl rfl | exact .inr (fun id hi => lk3_ok hi))))))
      exact hno (by rw [gorHead]; rw [isIn_iff'] at hin; exact decide_eq_false (by omega))
  by_cases hl : g.regs.length = 6
  · by_cases hs : g.state < 1
    · ((refine go_draw hn tb_ok mix_ok [.r (.dat (.bool (progOk p))), .b false, .r (.dat (.int .i64 (instrsOf p g.proc))), .r (.dat (.bool (isIn g.pc 0 (instrsOf p g.proc)))), .b false, .b false, .b true] rfl ?_ rfl ?_ ?_ ?_ ?_; ((first | exact trivial | (simp only [i64ok, true_and, and_true, Int.toNat_natCast]; omega) | (simp only [i64ok, true_and, and_true, Int.toNat_natCast] at *; omega))); rotate_left; (kernel_rfl); (kernel_rfl); rotate_left))
      · (((try simp only [andO, true_and, and_true, Int.toNat_natCast, i64ok, decide_eq_true_eq, decide_eq_false_iff_not, Bool.not_eq_true', Bool.not_eq_false']); (repeat' (first | exact trivial | (first | exact con_impl_ProgOk _ | exact con_impl_ItemOk _ | exact con_impl_Instrs _ _ | exact con_ContainsFunc _ _ (fun v => !isVal v) con_gor1 | exact con_ContainsFunc _ _ (fun v => !isVal v) con_chan1 | exact con_impl_within _ _ _ | assumption) | assumption | omega | exact does_litz _ _ hn tb_ok rfl rfl rfl rfl rfl rfl rfl rfl rfl rfl rfl | exact does_app _ hn tb_ok rfl ⟨rfl, _, _, _, rfl, rfl, rfl, rfl, rfl, rfl⟩ rfl rfl rfl rfl rfl rfl rfl (by simp only [List.length_cons, List.length_nil]; omega) | refine And.intro ?_ ?_))))
      · (repeat' (first
  | (refine go_cond hn tb_ok rfl ?_ (fun hc => ?_) (fun hc => ?_); ((first | exact trivial | (simp only [i64ok, true_and, and_true, Int.toNat_natCast]; omega) | (simp only [i64ok, true_and, and_true, Int.toNat_natCast] at *; omega))); all_goals (try (((try simp only [decide_eq_true_eq, decide_eq_false_iff_not, Bool.not_eq_true', Bool.not_eq_false', Bool.not_eq_eq_eq_not, Bool.not_true, Bool.not_false, Int.not_lt, Int.not_le, Int.toNat_natCast, beq_iff_eq, beq_eq_false_iff_ne, ne_eq] at hc); (try (first | simp only [rest_iff, rest_iff', isReg_iff, isReg_iff', isVal_iff, isVal_iff', isIn_iff, isIn_iff', isChan_iff, isChan_iff'] at hc | simp only [(fields_iff _).1, (fields_iff _).2.1, (fields_iff _).2.2, isReg_iff, isReg_iff', isVal_iff, isVal_iff', isIn_iff, isIn_iff', isChan_iff, isChan_iff'] at hc | skip)); try (exfalso; omega)))))
  | (refine go_ret hn tb_ok rfl ?_ ⟨_, rfl, ?_⟩; ((first | exact trivial | (simp only [i64ok, true_and, and_true, Int.toNat_natCast]; omega) | (simp only [i64ok, true_and, and_true, Int.toNat_natCast] at *; omega))))
  | ((refine go_con hn tb_ok rfl ?_ rfl [] ⟨_, ?_, rfl, ?_, ?_, ?_, ?_⟩; ((first | exact trivial | (simp only [i64ok, true_and, and_true, Int.toNat_natCast]; omega) | (simp only [i64ok, true_and, and_true, Int.toNat_natCast] at *; omega))); rotate_left; ((first | exact con_impl_ProgOk _ | exact con_impl_ItemOk _ | exact con_impl_Instrs _ _ | exact con_ContainsFunc _ _ (fun v => !isVal v) con_gor1 | exact con_ContainsFunc _ _ (fun v => !isVal v) con_chan1 | exact con_impl_within _ _ _ | assumption)); (rfl); (first | exact .inl rfl | exact .inr (fun id hi => lk3_ok hi))))))
        exact hno (by rw [gorHead]; exact decide_eq_false (by omega))
    · ((refine go_draw hn tb_ok mix_ok [.r (.dat (.bool (progOk p))), .b false, .r (.dat (.int .i64 (instrsOf p g.proc))), .r (.dat (.bool (isIn g.pc 0 (instrsOf p g.proc)))), .b false, .b false, .b false] rfl ?_ rfl ?_ ?_ ?_ ?_; ((first | exact trivial | (simp only [i64ok, true_and, and_true, Int.toNat_natCast]; omega) | (simp only [i64ok, true_and, and_true, Int.toNat_natCast] at *; omega))); rotate_left; (kernel_rfl); (kernel_rfl); rotate_left))
      · (((try simp only [andO, true_and, and_true, Int.toNat_natCast, i64ok, decide_eq_true_eq, decide_eq_false_iff_not, Bool.not_eq_true', Bool.not_eq_false']); (repeat' (first | exact trivial | (first | exact con_impl_ProgOk _ | exact con_impl_ItemOk _ | exact con_impl_Instrs _ _ | exact con_ContainsFunc _ _ (fun v => !isVal v) con_gor1 | exact con_ContainsFunc _ _ (fun v => !isVal v) con_chan1 | exact con_impl_within _ _ _ | assumption) | assumption | omega | exact does_litz _ _ hn tb_ok rfl rfl rfl rfl rfl rfl rfl rfl rfl rfl rfl | exact does_app _ hn tb_ok rfl ⟨rfl, _, _, _, rfl, rfl, rfl, rfl, rfl, rfl⟩ rfl rfl rfl rfl rfl rfl rfl (by simp only [List.length_cons, List.length_nil]; omega) | refine And.intro ?_ ?_))))
      · ((refine go_cond hn tb_ok rfl ?_ (fun hc => ?_) (fun hc => ?_); ((first | exact trivial | (simp only [i64ok, true_and, and_true, Int.toNat_natCast]; omega) | (simp only [i64ok, true_and, and_true, Int.toNat_natCast] at *; omega))); all_goals (try (((try simp only [decide_eq_true_eq, decide_eq_false_iff_not, Bool.not_eq_true', Bool.not_eq_false', Bool.not_eq_eq_eq_not, Bool.not_true, Bool.not_false, Int.not_lt, Int.not_le, Int.toNat_natCast, beq_iff_eq, beq_eq_false_iff_ne, ne_eq] at hc); (try (first | simp only [rest_iff, rest_iff', isReg_iff, isReg_iff', isVal_iff, isVal_iff', isIn_iff, isIn_iff', isChan_iff, isChan_iff'] at hc | simp only [(fields_iff _).1, (fields_iff _).2.1, (fields_iff _).2.2, isReg_iff, isReg_iff', isVal_iff, isVal_iff', isIn_iff, isIn_iff', isChan_iff, isChan_iff'] at hc | skip)); try (exfalso; omega))))))
        · (repeat' (first
  | (refine go_cond hn tb_ok rfl ?_ (fun hc => ?_) (fun hc => ?_); ((first | exact trivial | (simp only [i64ok, true_and, and_true, Int.toNat_natCast]; omega) | (simp only [i64ok, true_and, and_true, Int.toNat_natCast] at *; omega))); all_goals (try (((try simp only [decide_eq_true_eq, decide_eq_false_iff_not, Bool.not_eq_true', Bool.not_eq_false', Bool.not_eq_eq_eq_not, Bool.not_true, Bool.not_false, Int.not_lt, Int.not_le, Int.toNat_natCast, beq_iff_eq, beq_eq_false_iff_ne, ne_eq] at hc); (try (first | simp only [rest_iff, rest_iff', isReg_iff, isReg_iff', isVal_iff, isVal_iff', isIn_iff, isIn_iff', isChan_iff, isChan_iff'] at hc | simp only [(fields_iff _).1, (fields_iff _).2.1, (fields_iff _).2.2, isReg_iff, isReg_iff', isVal_iff, isVal_iff', isIn_iff, isIn_iff', isChan_iff, isChan_iff'] at hc | skip)); try (exfalso; omega)))))
  | (refine go_ret hn tb_ok rfl ?_ ⟨_, rfl, ?_⟩; ((first | exact trivial | (simp only [i64ok, true_and, and_true, Int.toNat_natCast]; omega) | (simp only [i64ok, true_and, and_true, Int.toNat_natCast] at *; omega))))
  | ((refine go_con hn tb_ok rfl ?_ rfl [] ⟨_, ?_, rfl, ?_, ?_, ?_, ?_⟩; ((first | exact trivial | (simp only [i64ok, true_and, and_true, Int.toNat_natCast]; omega) | (simp only [i64ok, true_and, and_true, Int.toNat_natCast] at *; omega))); rotate_left; ((first | exact con_impl_ProgOk _ | exact con_impl_ItemOk _ | exact con_impl_Instrs _ _ | exact con_ContainsFunc _ _ (fun v => !isVal v) con_gor1 | exact con_ContainsFunc _ _ (fun v => !isVal v) con_chan1 | exact con_impl_within _ _ _ | assumption)); (rfl); (first | exact .inl rfl | exact .inr (fun id hi => lk3_ok hi))))))
          exact hno (by rw [gorHead]; exact decide_eq_false (by omega))
        have hhd : gorHead p g = true := by rw [gorHead]; rw [isIn_iff] at hin; exact decide_eq_true (by omega)
        ((refine go_con hn tb_ok rfl ?_ rfl [] ⟨_, ?_, rfl, ?_, ?_, ?_, ?_⟩; ((first | exact trivial | (simp only [i64ok, true_and, and_true, Int.toNat_natCast]; omega) | (simp only [i64ok, true_and, and_true, Int.toNat_natCast] at *; omega))); rotate_left; ((first | exact con_impl_ProgOk _ | exact con_impl_ItemOk _ | exact con_impl_Instrs _ _ | exact con_ContainsFunc _ _ (fun v => !isVal v) con_gor1 | exact con_ContainsFunc _ _ (fun v => !isVal v) con_chan1 | exact con_impl_within _ _ _ | assumption)); (rfl); (first | exact .inl rfl | exact .inr (fun id hi => lk3_ok hi))))
        ((refine go_cond hn tb_ok rfl ?_ (fun hc => ?_) (fun hc => ?_); ((first | exact trivial | (simp only [i64ok, true_and, and_true, Int.toNat_natCast]; omega) | (simp only [i64ok, true_and, and_true, Int.toNat_natCast] at *; omega))); all_goals (try (((try simp only [decide_eq_true_eq, decide_eq_false_iff_not, Bool.not_eq_true', Bool.not_eq_false', Bool.not_eq_eq_eq_not, Bool.not_true, Bool.not_false, Int.not_lt, Int.not_le, Int.toNat_natCast, beq_iff_eq, beq_eq_false_iff_ne, ne_eq] at hc); (try (first | simp only [rest_iff, rest_iff', isReg_iff, isReg_iff', isVal_iff, isVal_iff', isIn_iff, isIn_iff', isChan_iff, isChan_iff'] at hc | simp only [(fields_iff _).1, (fields_iff _).2.1, (fields_iff _).2.2, isReg_iff, isReg_iff', isVal_iff, isVal_iff', isIn_iff, isIn_iff', isChan_iff, isChan_iff'] at hc | skip)); try (exfalso; omega))))))
        · (repeat' (first
  | (refine go_cond hn tb_ok rfl ?_ (fun hc => ?_) (fun hc => ?_); ((first | exact trivial | (simp only [i64ok, true_and, and_true, Int.toNat_natCast]; omega) | (simp only [i64ok, true_and, and_true, Int.toNat_natCast] at *; omega))); all_goals (try (((try simp only [decide_eq_true_eq, decide_eq_false_iff_not, Bool.not_eq_true', Bool.not_eq_false', Bool.not_eq_eq_eq_not, Bool.not_true, Bool.not_false, Int.not_lt, Int.not_le, Int.toNat_natCast, beq_iff_eq, beq_eq_false_iff_ne, ne_eq] at hc); (try (first | simp only [rest_iff, rest_iff', isReg_iff, isReg_iff', isVal_iff, isVal_iff', isIn_iff, isIn_iff', isChan_iff, isChan_iff'] at hc | simp only [(fields_iff _).1, (fields_iff _).2.1, (fields_iff _).2.2, isReg_iff, isReg_iff', isVal_iff, isVal_iff', isIn_iff, isIn_iff', isChan_iff, isChan_iff'] at hc | skip)); try (exfalso; omega)))))
  | (refine go_ret hn tb_ok rfl ?_ ⟨_, rfl, ?_⟩; ((first | exact trivial | (simp only [i64ok, true_and, and_true, Int.toNat_natCast]; omega) | (simp only [i64ok, true_and, and_true, Int.toNat_natCast] at *; omega))))
  | ((refine go_con hn tb_ok rfl ?_ rfl [] ⟨_, ?_, rfl, ?_, ?_, ?_, ?_⟩; ((first | exact trivial | (simp only [i64ok, true_and, and_true, Int.toNat_natCast]; omega) | (simp only [i64ok, true_and, and_true, Int.toNat_natCast] at *; omega))); rotate_left; ((first | exact con_impl_ProgOk _ | exact con_impl_ItemOk _ | exact con_impl_Instrs _ _ | exact con_ContainsFunc _ _ (fun v => !isVal v) con_gor1 | exact con_ContainsFunc _ _ (fun v => !isVal v) con_chan1 | exact con_impl_within _ _ _ | assumption)); (rfl); (first | exact .inl rfl | exact .inr (fun id hi => lk3_ok hi))))))
          rw [any_not, Bool.not_eq_true'] at hc
          rw [gorOk, gorOk0, hc, Bool.false_and, Bool.and_false, Bool.and_false]; rfl
        rw [any_not, Bool.not_eq_false'] at hc
        have hval := hc
        clear hc
        refine go_loop hn tb_ok rfl ?_ (fun (wI : Nat) wT wM => ((43, .dat (.int .i64 wI)) :: (5, .dat (.int .i64 (lastN g.trace wI))) :: wT, wM)) (fun wI => wI ≤ g.trace.length ∧ ∀ j < wI, itOk g.trace j = true) (fun wI => g.trace.length - wI) 0 ⟨Nat.zero_le _, ?_⟩ ?_ ?_
        · (first | exact trivial | (simp only [i64ok, true_and, and_true, Int.toNat_natCast]; omega) | (simp only [i64ok, true_and, and_true, Int.toNat_natCast] at *; omega))
        · intro j hj; omega
        · ((refine le_of [] ?_ ?_ rfl; ((repeat' (first | exact trivial | refine And.intro rfl ?_))); ((repeat' (first | exact trivial | refine And.intro rfl ?_)))))
        rintro i ⟨hi, hq⟩
        ((refine go_cond hn tb_ok rfl ?_ (fun hc => ?_) (fun hc => ?_); ((first | exact trivial | (simp only [i64ok, true_and, and_true, Int.toNat_natCast]; omega) | (simp only [i64ok, true_and, and_true, Int.toNat_natCast] at *; omega))); all_goals (try (((try simp only [decide_eq_true_eq, decide_eq_false_iff_not, Bool.not_eq_true', Bool.not_eq_false', Bool.not_eq_eq_eq_not, Bool.not_true, Bool.not_false, Int.not_lt, Int.not_le, Int.toNat_natCast, beq_iff_eq, beq_eq_false_iff_ne, ne_eq] at hc); (try (first | simp only [rest_iff, rest_iff', isReg_iff, isReg_iff', isVal_iff, isVal_iff', isIn_iff, isIn_iff', isChan_iff, isChan_iff'] at hc | simp only [(fields_iff _).1, (fields_iff _).2.1, (fields_iff _).2.2, isReg_iff, isReg_iff', isVal_iff, isVal_iff', isIn_iff, isIn_iff', isChan_iff, isChan_iff'] at hc | skip)); try (exfalso; omega))))))
        · have hlt : i < g.trace.length := by omega
          (repeat' (first
  | (refine go_cond hn tb_ok rfl ?_ (fun hc => ?_) (fun hc => ?_); ((first | exact trivial | (simp only [i64ok, true_and, and_true, Int.toNat_natCast]; omega) | (simp only [i64ok, true_and, and_true, Int.toNat_natCast] at *; omega))); all_goals (try (((try simp only [decide_eq_true_eq, decide_eq_false_iff_not, Bool.not_eq_true', Bool.not_eq_false', Bool.not_eq_eq_eq_not, Bool.not_true, Bool.not_false, Int.not_lt, Int.not_le, Int.toNat_natCast, beq_iff_eq, beq_eq_false_iff_ne, ne_eq] at hc); (try (first | simp only [rest_iff, rest_iff', isReg_iff, isReg_iff', isVal_iff, isVal_iff', isIn_iff, isIn_iff', isChan_iff, isChan_iff'] at hc | simp only [(fields_iff _).1, (fields_iff _).2.1, (fields_iff _).2.2, isReg_iff, isReg_iff', isVal_iff, isVal_iff', isIn_iff, isIn_iff', isChan_iff, isChan_iff'] at hc | skip)); try (exfalso; omega)))))
  | (refine go_ret hn tb_ok rfl ?_ ⟨_, rfl, ?_⟩; ((first | exact trivial | (simp only [i64ok, true_and, and_true, Int.toNat_natCast]; omega) | (simp only [i64ok, true_and, and_true, Int.toNat_natCast] at *; omega))))
  | ((refine go_con hn tb_ok rfl ?_ rfl [] ⟨_, ?_, rfl, ?_, ?_, ?_, ?_⟩; ((first | exact trivial | (simp only [i64ok, true_and, and_true, Int.toNat_natCast]; omega) | (simp only [i64ok, true_and, and_true, Int.toNat_natCast] at *; omega))); rotate_left; ((first | exact con_impl_ProgOk _ | exact con_impl_ItemOk _ | exact con_impl_Instrs _ _ | exact con_ContainsFunc _ _ (fun v => !isVal v) con_gor1 | exact con_ContainsFunc _ _ (fun v => !isVal v) con_chan1 | exact con_impl_within _ _ _ | assumption)); (rfl); (first | exact .inl rfl | exact .inr (fun id hi => lk3_ok hi))))))
          all_goals (try (
            refine congrArg (fun b => LV.dat (.bool b)) (Eq.symm ?_)
            rw [gorOk, gorOk0, traceOk, range_no hlt (by
              rw [itOk]
              first
                | (rw [hc]; rfl)
                | (rw [decide_eq_true (p := _ ∧ _) (by omega), Bool.not_true, Bool.and_false])), Bool.false_and, Bool.and_false, Bool.and_false, Bool.and_false]))
          all_goals (
            ((refine go_stop hn tb_ok rfl ?_ ⟨i + 1, ⟨?_, ?_⟩, ?_, ?_⟩; ((first | exact trivial | (simp only [i64ok, true_and, and_true, Int.toNat_natCast]; omega) | (simp only [i64ok, true_and, and_true, Int.toNat_natCast] at *; omega)))))
            · omega
            · refine upto hq ?_
              rw [itOk, decide_eq_false (by omega)]
              simp [*, -List.getD_eq_getElem?_getD]
            · show g.trace.length - (i + 1) < g.trace.length - i; omega
            · ((refine le_of [] ?_ ?_ rfl; ((repeat' (first | exact trivial | refine And.intro rfl ?_))); ((repeat' (first | exact trivial | refine And.intro rfl ?_))))))
        have hall := range_yes (m := g.trace.length) (f := itOk g.trace) (fun j hj => hq j (by omega))
        have hie : i = g.trace.length := by omega
        subst hie
        rw [lastN_eq]
        have hyes : gorOk p g = gorTail g := by rw [gorOk, gorOk0, traceOk, hp, hhd, hval, hall]; rfl
        (repeat' (first
  | (refine go_cond hn tb_ok rfl ?_ (fun hc => ?_) (fun hc => ?_); ((first | exact trivial | (simp only [i64ok, true_and, and_true, Int.toNat_natCast]; omega) | (simp only [i64ok, true_and, and_true, Int.toNat_natCast] at *; omega))); all_goals (try (((try simp only [decide_eq_true_eq, decide_eq_false_iff_not, Bool.not_eq_true', Bool.not_eq_false', Bool.not_eq_eq_eq_not, Bool.not_true, Bool.not_false, Int.not_lt, Int.not_le, Int.toNat_natCast, beq_iff_eq, beq_eq_false_iff_ne, ne_eq] at hc); (try (first | simp only [rest_iff, rest_iff', isReg_iff, isReg_iff', isVal_iff, isVal_iff', isIn_iff, isIn_iff', isChan_iff, isChan_iff'] at hc | simp only [(fields_iff _).1, (fields_iff _).2.1, (fields_iff _).2.2, isReg_iff, isReg_iff', isVal_iff, isVal_iff', isIn_iff, isIn_iff', isChan_iff, isChan_iff'] at hc | skip)); try (exfalso; omega)))))
  | (refine go_ret hn tb_ok rfl ?_ ⟨_, rfl, ?_⟩; ((first | exact trivial | (simp only [i64ok, true_and, and_true, Int.toNat_natCast]; omega) | (simp only [i64ok, true_and, and_true, Int.toNat_natCast] at *; omega))))
  | ((refine go_con hn tb_ok rfl ?_ rfl [] ⟨_, ?_, rfl, ?_, ?_, ?_, ?_⟩; ((first | exact trivial | (simp only [i64ok, true_and, and_true, Int.toNat_natCast]; omega) | (simp only [i64ok, true_and, and_true, Int.toNat_natCast] at *; omega))); rotate_left; ((first | exact con_impl_ProgOk _ | exact con_impl_ItemOk _ | exact con_impl_Instrs _ _ | exact con_ContainsFunc _ _ (fun v => !isVal v) con_gor1 | exact con_ContainsFunc _ _ (fun v => !isVal v) con_chan1 | exact con_impl_within _ _ _ | assumption)); (rfl); (first | exact .inl rfl | exact .inr (fun id hi => lk3_ok hi))))))
        all_goals (refine congrArg (fun b => LV.dat (.bool b)) (Eq.symm ?_); rw [hyes, gorTail])
        all_goals first
          | (rw [beq_iff_eq.2 hc, Bool.true_and]; done)
          | (rw [beq_iff_eq.2 hc, Bool.true_and]; rfl)
          | (rw [beq_eq_false_iff_ne.2 hc, Bool.false_and])
  · ((refine go_draw hn tb_ok mix_ok [.r (.dat (.bool (progOk p))), .b false, .r (.dat (.int .i64 (instrsOf p g.proc))), .r (.dat (.bool (isIn g.pc 0 (instrsOf p g.proc)))), .b false, .b true] rfl ?_ rfl ?_ ?_ ?_ ?_; ((first | exact trivial | (simp only [i64ok, true_and, and_true, Int.toNat_natCast]; omega) | (simp only [i64ok, true_and, and_true, Int.toNat_natCast] at *; omega))); rotate_left; (kernel_rfl); (kernel_rfl); rotate_left))
    · (((try simp only [andO, true_and, and_true, Int.toNat_natCast, i64ok, decide_eq_true_eq, decide_eq_false_iff_not, Bool.not_eq_true', Bool.not_eq_false']); (repeat' (first | exact trivial | (first | exact con_impl_ProgOk _ | exact con_impl_ItemOk _ | exact con_impl_Instrs _ _ | exact con_ContainsFunc _ _ (fun v => !isVal v) con_gor1 | exact con_ContainsFunc _ _ (fun v => !isVal v) con_chan1 | exact con_impl_within _ _ _ | assumption) | assumption | omega | exact does_litz _ _ hn tb_ok rfl rfl rfl rfl rfl rfl rfl rfl rfl rfl rfl | exact does_app _ hn tb_ok rfl ⟨rfl, _, _, _, rfl, rfl, rfl, rfl, rfl, rfl⟩ rfl rfl rfl rfl rfl rfl rfl (by simp only [List.length_cons, List.length_nil]; omega) | refine And.intro ?_ ?_))))
    · (repeat' (first
  | (refine go_cond hn tb_ok rfl ?_ (fun hc => ?_) (fun hc => ?_); ((first | exact trivial | (simp only [i64ok, true_and, and_true, Int.toNat_natCast]; omega) | (simp only [i64ok, true_and, and_true, Int.toNat_natCast] at *; omega))); all_goals (try (((try simp only [decide_eq_true_eq, decide_eq_false_iff_not, Bool.not_eq_true', Bool.not_eq_false', Bool.not_eq_eq_eq_not, Bool.not_true, Bool.not_false, Int.not_lt, Int.not_le, Int.toNat_natCast, beq_iff_eq, beq_eq_false_iff_ne, ne_eq] at hc); (try (first | simp only [rest_iff, rest_iff', isReg_iff, isReg_iff', isVal_iff, isVal_iff', isIn_iff, isIn_iff', isChan_iff, isChan_iff'] at hc | simp only [(fields_iff _).1, (fields_iff _).2.1, (fields_iff _).2.2, isReg_iff, isReg_iff', isVal_iff, isVal_iff', isIn_iff, isIn_iff', isChan_iff, isChan_iff'] at hc | skip)); try (exfalso; omega)))))
  | (refine go_ret hn tb_ok rfl ?_ ⟨_, rfl, ?_⟩; ((first | exact trivial | (simp only [i64ok, true_and, and_true, Int.toNat_natCast]; omega) | (simp only [i64ok, true_and, and_true, Int.toNat_natCast] at *; omega))))
  | ((refine go_con hn tb_ok rfl ?_ rfl [] ⟨_, ?_, rfl, ?_, ?_, ?_, ?_⟩; ((first | exact trivial | (simp only [i64ok, true_and, and_true, Int.toNat_natCast]; omega) | (simp only [i64ok, true_and, and_true, Int.toNat_natCast] at *; omega))); rotate_left; ((first | exact con_impl_ProgOk _ | exact con_impl_ItemOk _ | exact con_impl_Instrs _ _ | exact con_ContainsFunc _ _ (fun v => !isVal v) con_gor1 | exact con_ContainsFunc _ _ (fun v => !isVal v) con_chan1 | exact con_impl_within _ _ _ | assumption)); (rfl); (first | exact .inl rfl | exact .inr (fun id hi => lk3_ok hi))))))
      exact hno (by rw [gorHead]; exact decide_eq_false (by omega))
theorem gor_at {p : MProg} {g : MGor} (h : gorHead p g = true) : (0 ≤ g.proc ∧ g.proc < p.procs.length) ∧ 0 ≤ g.pc ∧ g.pc < (p.procs.getD g.proc.toNat dProc).code.length := by
  rw [gorHead, decide_eq_true_eq, instrsOf] at h
  split at h
  · rename_i hh; exact ⟨hh, h.1, h.2.1⟩
  · omega
def instrAt (p : MProg) (g : MGor) : MInstr := (p.procs.getD g.proc.toNat dProc).code.getD g.pc.toNat dInstr
theorem con_at_spec.l09At (p : MProg) (g : MGor) (h : gorHead p g = true) : Con Tryz.prog 180 [.dagg (cProg p), .dagg (cGor g)] (.dagg (cInstr (instrAt p g))) := by
  refine con_body (rs := [(.cell 4 203, 203)]) tb_ok Tryz.func180 rfl rfl rfl (Nat.le_of_ble_eq_true rfl) fun ho x hn => ?_
  obtain ⟨h1, h2, h3⟩ := gor_at h
  ((refine go_draw hn tb_ok mix_ok [] rfl ?_ rfl ?_ ?_ ?_ ?_; ((first | exact trivial | (simp only [i64ok, true_and, and_true, Int.toNat_natCast]; omega) | (simp only [i64ok, true_and, and_true, Int.toNat_natCast] at *; omega))); rotate_left; (kernel_rfl); (kernel_rfl); rotate_left))
  · (((try simp only [andO, true_and, and_true, Int.toNat_natCast, i64ok, decide_eq_true_eq, decide_eq_false_iff_not, Bool.not_eq_true', Bool.not_eq_false']); (repeat' (first | exact trivial | assumption | assumption | omega | exact does_litz _ _ hn tb_ok rfl rfl rfl rfl rfl rfl rfl rfl rfl rfl rfl | exact does_app _ hn tb_ok rfl ⟨rfl, _, _, _, rfl, rfl, rfl, rfl, rfl, rfl⟩ rfl rfl rfl rfl rfl rfl rfl (by simp only [List.length_cons, List.length_nil]; omega) | refine And.intro ?_ ?_))))
  · (repeat' (first
  | (refine go_cond hn tb_ok rfl ?_ (fun hc => ?_) (fun hc => ?_); ((first | exact trivial | (simp only [i64ok, true_and, and_true, Int.toNat_natCast]; omega) | (simp only [i64ok, true_and, and_true, Int.toNat_natCast] at *; omega))); all_goals (try (((try simp only [decide_eq_true_eq, decide_eq_false_iff_not, Bool.not_eq_true', Bool.not_eq_false', Bool.not_eq_eq_eq_not, Bool.not_true, Bool.not_false, Int.not_lt, Int.not_le, Int.toNat_natCast, beq_iff_eq, beq_eq_false_iff_ne, ne_eq] at hc); (try (first | simp only [rest_iff, rest_iff', isReg_iff, isReg_iff', isVal_iff, isVal_iff', isIn_iff, isIn_iff', isChan_iff, isChan_iff'] at hc | simp only [(fields_iff _).1, (fields_iff _).2.1, (fields_iff _).2.2, isReg_iff, isReg_iff', isVal_iff, isVal_iff', isIn_iff, isIn_iff', isChan_iff, isChan_iff'] at hc | skip)); try (exfalso; omega)))))
  | (refine go_ret hn tb_ok rfl ?_ ⟨_, rfl, ?_⟩; ((first | exact trivial | (simp only [i64ok, true_and, and_true, Int.toNat_natCast]; omega) | (simp only [i64ok, true_and, and_true, Int.toNat_natCast] at *; omega))))
  | ((refine go_con hn tb_ok rfl ?_ rfl [] ⟨_, ?_, rfl, ?_, ?_, ?_, ?_⟩; ((first | exact trivial | (simp only [i64ok, true_and, and_true, Int.toNat_natCast]; omega) | (simp only [i64ok, true_and, and_true, Int.toNat_natCast] at *; omega))); rotate_left; (assumption); (rfl); (first | exact .inl rfl | exact .inr (fun id hi => lk3_ok hi))))))
    rfl
theorem con_at_impl.instr (p : MProg) (g : MGor) (h : gorHead p g = true) : Con Tryz.prog 138 [.dagg (cProg p), .dagg (cGor g)] (.dagg (cInstr (instrAt p g))) := by
  refine con_body (rs := [(.cell 4 203, 203)]) tb_ok Tryz.func138 rfl rfl rfl (Nat.le_of_ble_eq_true rfl) fun ho x hn => ?_
  obtain ⟨h1, h2, h3⟩ := gor_at h
  ((refine go_draw hn tb_ok mix_ok [] rfl ?_ rfl ?_ ?_ ?_ ?_; ((first | exact trivial | (simp only [i64ok, true_and, and_true, Int.toNat_natCast]; omega) | (simp only [i64ok, true_and, and_true, Int.toNat_natCast] at *; omega))); rotate_left; (kernel_rfl); (kernel_rfl); rotate_left))
  · (((try simp only [andO, true_and, and_true, Int.toNat_natCast, i64ok, decide_eq_true_eq, decide_eq_false_iff_not, Bool.not_eq_true', Bool.not_eq_false']); (repeat' (first | exact trivial | assumption | assumption | omega | exact does_litz _ _ hn tb_ok rfl rfl rfl rfl rfl rfl rfl rfl rfl rfl rfl | exact does_app _ hn tb_ok rfl ⟨rfl, _, _, _, rfl, rfl, rfl, rfl, rfl, rfl⟩ rfl rfl rfl rfl rfl rfl rfl (by simp only [List.length_cons, List.length_nil]; omega) | refine And.intro ?_ ?_))))
  · (repeat' (first
  | (refine go_cond hn tb_ok rfl ?_ (fun hc => ?_) (fun hc => ?_); ((first | exact trivial | (simp only [i64ok, true_and, and_true, Int.toNat_natCast]; omega) | (simp only [i64ok, true_and, and_true, Int.toNat_natCast] at *; omega))); all_goals (try (((try simp only [decide_eq_true_eq, decide_eq_false_iff_not, Bool.not_eq_true', Bool.not_eq_false', Bool.not_eq_eq_eq_not, Bool.not_true, Bool.not_false, Int.not_lt, Int.not_le, Int.toNat_natCast, beq_iff_eq, beq_eq_false_iff_ne, ne_eq] at hc); (try (first | simp only [rest_iff, rest_iff', isReg_iff, isReg_iff', isVal_iff, isVal_iff', isIn_iff, isIn_iff', isChan_iff, isChan_iff'] at hc | simp only [(fields_iff _).1, (fields_iff _).2.1, (fields_iff _).2.2, isReg_iff, isReg_iff', isVal_iff, isVal_iff', isIn_iff, isIn_iff', isChan_iff, isChan_iff'] at hc | skip)); try (exfalso; omega)))))
  | (refine go_ret hn tb_ok rfl ?_ ⟨_, rfl, ?_⟩; ((first | exact trivial | (simp only [i64ok, true_and, and_true, Int.toNat_natCast]; omega) | (simp only [i64ok, true_and, and_true, Int.toNat_natCast] at *; omega))))
  | ((refine go_con hn tb_ok rfl ?_ rfl [] ⟨_, ?_, rfl, ?_, ?_, ?_, ?_⟩; ((first | exact trivial | (simp only [i64ok, true_and, and_true, Int.toNat_natCast]; omega) | (simp only [i64ok, true_and, and_true, Int.toNat_natCast] at *; omega))); rotate_left; (assumption); (rfl); (first | exact .inl rfl | exact .inr (fun id hi => lk3_ok hi))))))
    rfl
end Go.Proofs.YtjmefaihkblliaaGreat.Ab
/- Who is in a state; the places at which a goroutine waits: walked by the abstract machine. Conditions: none. -/
namespace Go.Proofs.YtjmefaihkblliaaGreat.Ab
set_option linter.unusedVariables false
set_option linter.unusedSimpArgs false
set_option maxRecDepth 100000
/-! ### what the rounds gather -/
def gatherN {α : Type} (f : Nat → List α) (i : Nat) : List α := (List.range i).flatMap f
theorem gather_next {α : Type} (f : Nat → List α) (i : Nat) : gatherN f (i + 1) = gatherN f i ++ f i := by
  simp [gatherN, List.range_succ, List.flatMap_append]
theorem gather_len {α : Type} {f : Nat → List α} {c : Nat} (h : ∀ k, (f k).length ≤ c) (i : Nat) : (gatherN f i).length ≤ c * i := by
  induction i with
  | zero => simp [gatherN]
  | succ i ih =>
    rw [gather_next, List.length_append]
    have := h i
    rw [Nat.mul_succ]; omega
def stateAt (gs : List MGor) (s : Int) (k : Nat) : List Int := if (gs.getD k dGor).state = s then [(k : Int)] else []
def inState (e : MEng) (s : Int) : List Int := gatherN (stateAt e.gs s) e.gs.length
theorem stateAt_len (gs : List MGor) (s : Int) (k : Nat) : (stateAt gs s k).length ≤ 1 := by
  unfold stateAt; split <;> simp
theorem con_in_spec.l09States (e : MEng) (s : Int) (hs : e.gs.length ≤ 1048576) : Con Tryz.prog 124 [.dagg (cEng e), .dat (.int .i64 s)] (.dat (ints (inState e s))) := by
  refine con_body (rs := [(.tmp 4, 22)]) tb_ok Tryz.func124 rfl rfl rfl (Nat.le_of_ble_eq_true rfl) fun ho x hn => ?_
  ((refine go_lit hn tb_ok (0 : Int) iC ([] : List Int) rfl ?_ rfl rfl rfl rfl rfl rfl rfl rfl rfl ?_; ((first | exact trivial | (simp only [i64ok, true_and, and_true, Int.toNat_natCast]; omega) | (simp only [i64ok, true_and, and_true, Int.toNat_natCast] at *; omega)))))
  ((refine go_loop hn tb_ok rfl ?_ (fun (wI : Nat) wT wM => ((12, .dat (.int .i64 wI)) :: (5, .own 100) :: ([(8, .no)] ++ wT), (100, some ((fun i => .row 3 1 (0 : Int) iC (gatherN (stateAt e.gs s) i)) wI)) :: ([(8, none)] ++ wM))) (fun wI => wI ≤ e.gs.length ∧ (fun _ => True) wI) (fun wI => e.gs.length - wI) 0 ⟨Nat.zero_le _, ?_⟩ (le_of [(100, 8), (8, 999)] ?_ ?_ rfl) ?_; ((first | exact trivial | (simp only [i64ok, true_and, and_true, Int.toNat_natCast]; omega) | (simp only [i64ok, true_and, and_true, Int.toNat_natCast] at *; omega)))))
  · trivial
  · (repeat' (first | exact trivial | refine And.intro rfl ?_))
  · (repeat' (first | exact trivial | refine And.intro rfl ?_))
  rintro i ⟨hi, _⟩
  have hle := gather_len (stateAt_len e.gs s) i
  ((refine go_cond hn tb_ok rfl ?_ (fun hc => ?_) (fun hc => ?_); ((first | exact trivial | (simp only [i64ok, true_and, and_true, Int.toNat_natCast]; omega) | (simp only [i64ok, true_and, and_true, Int.toNat_natCast] at *; omega))); all_goals (try (((try simp only [decide_eq_true_eq, decide_eq_false_iff_not, Bool.not_eq_true', Bool.not_eq_false', Bool.not_eq_eq_eq_not, Bool.not_true, Bool.not_false, Int.not_lt, Int.not_le, Int.toNat_natCast, beq_iff_eq, beq_eq_false_iff_ne, ne_eq] at hc); (try (first | simp only [rest_iff, rest_iff', isReg_iff, isReg_iff', isVal_iff, isVal_iff', isIn_iff, isIn_iff', isChan_iff, isChan_iff'] at hc | simp only [(fields_iff _).1, (fields_iff _).2.1, (fields_iff _).2.2, isReg_iff, isReg_iff', isVal_iff, isVal_iff', isIn_iff, isIn_iff', isChan_iff, isChan_iff'] at hc | skip)); try (exfalso; omega))))))
  · have hlt : i < e.gs.length := by omega
    ((refine go_cond hn tb_ok rfl ?_ (fun hc => ?_) (fun hc => ?_); ((first | exact trivial | (simp only [i64ok, true_and, and_true, Int.toNat_natCast]; omega) | (simp only [i64ok, true_and, and_true, Int.toNat_natCast] at *; omega))); all_goals (try (((try simp only [decide_eq_true_eq, decide_eq_false_iff_not, Bool.not_eq_true', Bool.not_eq_false', Bool.not_eq_eq_eq_not, Bool.not_true, Bool.not_false, Int.not_lt, Int.not_le, Int.toNat_natCast, beq_iff_eq, beq_eq_false_iff_ne, ne_eq] at hc); (try (first | simp only [rest_iff, rest_iff', isReg_iff, isReg_iff', isVal_iff, isVal_iff', isIn_iff, isIn_iff', isChan_iff, isChan_iff'] at hc | simp only [(fields_iff _).1, (fields_iff _).2.1, (fields_iff _).2.2, isReg_iff, isReg_iff', isVal_iff, isVal_iff', isIn_iff, isIn_iff', isChan_iff, isChan_iff'] at hc | skip)); try (exfalso; omega))))))
    · ((refine go_lit hn tb_ok (0 : Int) iC [(i : Int)] rfl ?_ rfl rfl rfl rfl rfl rfl rfl rfl rfl ?_; ((first | exact trivial | (simp only [i64ok, true_and, and_true, Int.toNat_natCast]; omega) | (simp only [i64ok, true_and, and_true, Int.toNat_natCast] at *; omega)))))
      ((refine go_app hn tb_ok [(i : Int)] rfl ?_ rfl rfl rfl rfl rfl rfl rfl rfl ?_ ?_; ((first | exact trivial | (simp only [i64ok, true_and, and_true, Int.toNat_natCast]; omega) | (simp only [i64ok, true_and, and_true, Int.toNat_natCast] at *; omega)))))
      · show (_ + 1) * 8 ≤ _; omega
      ((refine go_stop hn tb_ok rfl ?_ ⟨i + 1, ⟨?_, ?_⟩, ?_, ?_⟩; ((first | exact trivial | (simp only [i64ok, true_and, and_true, Int.toNat_natCast]; omega) | (simp only [i64ok, true_and, and_true, Int.toNat_natCast] at *; omega)))))
      · omega
      · trivial
      · show e.gs.length - (i + 1) < e.gs.length - i; omega
      · ((refine le_of [(100, 24), (8, 999)] ?_ ?_ rfl; ((repeat' (first | exact trivial | refine And.intro rfl ?_))); ((repeat' (first | exact trivial | refine And.intro rfl ?_)))))
        refine And.intro (congrArg (fun q => some (Blk.row 3 1 (0 : Int) iC q)) ?_) ?_
        · rw [gather_next, stateAt, if_pos hc]
        · (repeat' (first | exact trivial | refine And.intro rfl ?_))
    · ((refine go_stop hn tb_ok rfl ?_ ⟨i + 1, ⟨?_, ?_⟩, ?_, ?_⟩; ((first | exact trivial | (simp only [i64ok, true_and, and_true, Int.toNat_natCast]; omega) | (simp only [i64ok, true_and, and_true, Int.toNat_natCast] at *; omega)))))
      · omega
      · trivial
      · show e.gs.length - (i + 1) < e.gs.length - i; omega
      · ((refine le_of [(8, 999)] ?_ ?_ rfl; ((repeat' (first | exact trivial | refine And.intro rfl ?_))); ((repeat' (first | exact trivial | refine And.intro rfl ?_)))))
        refine And.intro (congrArg (fun q => some (Blk.row 3 1 (0 : Int) iC q)) ?_) ?_
        · rw [gather_next, stateAt, if_neg hc, List.append_nil]
        · (repeat' (first | exact trivial | refine And.intro rfl ?_))
  · ((refine go_ret hn tb_ok rfl ?_ ⟨_, rfl, ?_⟩; ((first | exact trivial | (simp only [i64ok, true_and, and_true, Int.toNat_natCast]; omega) | (simp only [i64ok, true_and, and_true, Int.toNat_natCast] at *; omega)))))
    have hie : i = e.gs.length := by omega
    subst hie
    rfl
theorem con_in_impl.inState (e : MEng) (s : Int) (hs : e.gs.length ≤ 1048576) : Con Tryz.prog 199 [.dagg (cEng e), .dat (.int .i64 s)] (.dat (ints (inState e s))) := by
  refine con_body (rs := [(.tmp 4, 22)]) tb_ok Tryz.func199 rfl rfl rfl (Nat.le_of_ble_eq_true rfl) fun ho x hn => ?_
  ((refine go_lit hn tb_ok (0 : Int) iC ([] : List Int) rfl ?_ rfl rfl rfl rfl rfl rfl rfl rfl rfl ?_; ((first | exact trivial | (simp only [i64ok, true_and, and_true, Int.toNat_natCast]; omega) | (simp only [i64ok, true_and, and_true, Int.toNat_natCast] at *; omega)))))
  ((refine go_loop hn tb_ok rfl ?_ (fun (wI : Nat) wT wM => ((12, .dat (.int .i64 wI)) :: (5, .own 100) :: ([(8, .no)] ++ wT), (100, some ((fun i => .row 3 1 (0 : Int) iC (gatherN (stateAt e.gs s) i)) wI)) :: ([(8, none)] ++ wM))) (fun wI => wI ≤ e.gs.length ∧ (fun _ => True) wI) (fun wI => e.gs.length - wI) 0 ⟨Nat.zero_le _, ?_⟩ (le_of [(100, 8), (8, 999)] ?_ ?_ rfl) ?_; ((first | exact trivial | (simp only [i64ok, true_and, and_true, Int.toNat_natCast]; omega) | (simp only [i64ok, true_and, and_true, Int.toNat_natCast] at *; omega)))))
  · trivial
  · (repeat' (first | exact trivial | refine And.intro rfl ?_))
  · (repeat' (first | exact trivial | refine And.intro rfl ?_))
  rintro i ⟨hi, _⟩
  have hle := gather_len (stateAt_len e.gs s) i
  ((refine go_cond hn tb_ok rfl ?_ (fun hc => ?_) (fun hc => ?_); ((first | exact trivial | (simp only [i64ok, true_and, and_true, Int.toNat_natCast]; omega) | (simp only [i64ok, true_and, and_true, Int.toNat_natCast] at *; omega))); all_goals (try (((try simp only [decide_eq_true_eq, decide_eq_false_iff_not, Bool.not_eq_true', Bool.not_eq_false', Bool.not_eq_eq_eq_not, Bool.not_true, Bool.not_false, Int.not_lt, Int.not_le, Int.toNat_natCast, beq_iff_eq, beq_eq_false_iff_ne, ne_eq] at hc); (try (first | simp only [rest_iff, rest_iff', isReg_iff, isReg_iff', isVal_iff, isVal_iff', isIn_iff, isIn_iff', isChan_iff, isChan_iff'] at hc | simp only [(fields_iff _).1, (fields_iff _).2.1, (fields_iff _).2.2, isReg_iff, isReg_iff', isVal_iff, isVal_iff', isIn_iff, isIn_iff', isChan_iff, isChan_iff'] at hc | skip)); try (exfalso; omega))))))
  · have hlt : i < e.gs.length := by omega
    ((refine go_cond hn tb_ok rfl ?_ (fun hc => ?_) (fun hc => ?_); ((first | exact trivial | (simp only [i64ok, true_and, and_true, Int.toNat_natCast]; omega) | (simp only [i64ok, true_and, and_true, Int.toNat_natCast] at *; omega))); all_goals (try (((try simp only [decide_eq_true_eq, decide_eq_false_iff_not, Bool.not_eq_true', Bool.not_eq_false', Bool.not_eq_eq_eq_not, Bool.not_true, Bool.not_false, Int.not_lt, Int.not_le, Int.toNat_natCast, beq_iff_eq, beq_eq_false_iff_ne, ne_eq] at hc); (try (first | simp only [rest_iff, rest_iff', isReg_iff, isReg_iff', isVal_iff, isVal_iff', isIn_iff, isIn_iff', isChan_iff, isChan_iff'] at hc | simp only [(fields_iff _).1, (fields_iff _).2.1, (fields_iff _).2.2, isReg_iff, isReg_iff', isVal_iff, isVal_iff', isIn_iff, isIn_iff', isChan_iff, isChan_iff'] at hc | skip)); try (exfalso; omega))))))
    · ((refine go_lit hn tb_ok (0 : Int) iC [(i : Int)] rfl ?_ rfl rfl rfl rfl rfl rfl rfl rfl rfl ?_; ((first | exact trivial | (simp only [i64ok, true_and, and_true, Int.toNat_natCast]; omega) | (simp only [i64ok, true_and, and_true, Int.toNat_natCast] at *; omega)))))
      ((refine go_app hn tb_ok [(i : Int)] rfl ?_ rfl rfl rfl rfl rfl rfl rfl rfl ?_ ?_; ((first | exact trivial | (simp only [i64ok, true_and, and_true, Int.toNat_natCast]; omega) | (simp only [i64ok, true_and, and_true, Int.toNat_natCast] at *; omega)))))
      · show (_ + 1) * 8 ≤ _; omega
      ((refine go_stop hn tb_ok rfl ?_ ⟨i + 1, ⟨?_, ?_⟩, ?_, ?_⟩; ((first | exact trivial | (simp only [i64ok, true_and, and_true, Int.toNat_natCast]; omega) | (simp only [i64ok, true_and, and_true, Int.toNat_natCast] at *; omega)))))
      · omega
      · trivial
      · show e.gs.length - (i + 1) < e.gs.length - i; omega
      · ((refine le_of [(100, 24), (8, 999)] ?_ ?_ rfl; ((repeat' (first | exact trivial | refine And.intro rfl ?_))); ((repeat' (first | exact trivial | refine And.intro rfl ?_)))))
        refine And.intro (congrArg (fun q => some (Blk.row 3 1 (0 : Int) iC q)) ?_) ?_
        · rw [gather_next, stateAt, if_pos hc]
        · (repeat' (first | exact trivial | refine And.intro rfl ?_))
    · ((refine go_stop hn tb_ok rfl ?_ ⟨i + 1, ⟨?_, ?_⟩, ?_, ?_⟩; ((first | exact trivial | (simp only [i64ok, true_and, and_true, Int.toNat_natCast]; omega) | (simp only [i64ok, true_and, and_true, Int.toNat_natCast] at *; omega)))))
      · omega
      · trivial
      · show e.gs.length - (i + 1) < e.gs.length - i; omega
      · ((refine le_of [(8, 999)] ?_ ?_ rfl; ((repeat' (first | exact trivial | refine And.intro rfl ?_))); ((repeat' (first | exact trivial | refine And.intro rfl ?_)))))
        refine And.intro (congrArg (fun q => some (Blk.row 3 1 (0 : Int) iC q)) ?_) ?_
        · rw [gather_next, stateAt, if_neg hc, List.append_nil]
        · (repeat' (first | exact trivial | refine And.intro rfl ?_))
  · ((refine go_ret hn tb_ok rfl ?_ ⟨_, rfl, ?_⟩; ((first | exact trivial | (simp only [i64ok, true_and, and_true, Int.toNat_natCast]; omega) | (simp only [i64ok, true_and, and_true, Int.toNat_natCast] at *; omega)))))
    have hie : i = e.gs.length := by omega
    subst hie
    rfl
end Go.Proofs.YtjmefaihkblliaaGreat.Ab
/- The places at which a goroutine waits, walked by the abstract machine. Conditions: none. -/
namespace Go.Proofs.YtjmefaihkblliaaGreat.Ab
set_option linter.unusedVariables false
set_option linter.unusedSimpArgs false
set_option maxRecDepth 100000
def casePl (g : MGor) (n : Int) (cs : List MCase) (k : Nat) : List MPlace := if (cs.getD k dCase).chan < 0 then [] else [⟨false, (cs.getD k dCase).chan, (cs.getD k dCase).send, ⟨n, k, if (cs.getD k dCase).send = true then regOf g (cs.getD k dCase).reg else 0⟩⟩]
def casesPl (g : MGor) (n : Int) (cs : List MCase) : List MPlace := gatherN (casePl g n cs) cs.length
theorem casePl_len (g : MGor) (n : Int) (cs : List MCase) (k : Nat) : (casePl g n cs k).length ≤ 1 := by
  unfold casePl; split <;> simp
theorem con_spec_l09Cases (s : MSelect) (g : MGor) (n : Int) (hs : s.cases.length ≤ 1048576) : Con Tryz.prog 182 [.dagg (cSelect s), .dagg (cGor g), .dat (.int .i64 n)] (.dat (rows_Place (casesPl g n s.cases))) := by
  refine con_body (rs := [(.tmp 6, 170)]) tb_ok Tryz.func182 rfl rfl rfl (Nat.le_of_ble_eq_true rfl) fun ho x hn => ?_
  ((refine go_lit hn tb_ok dPlace cPlace ([] : List MPlace) rfl ?_ rfl rfl rfl rfl rfl rfl rfl rfl rfl ?_; ((first | exact trivial | (simp only [i64ok, true_and, and_true, Int.toNat_natCast]; omega) | (simp only [i64ok, true_and, and_true, Int.toNat_natCast] at *; omega)))))
  ((refine go_loop hn tb_ok rfl ?_ (fun (wI : Nat) wT wM => ((15, .dat (.int .i64 wI)) :: (7, .own 100) :: ([(11, .no)] ++ wT), (100, some ((fun i => .row 199 6 dPlace cPlace (gatherN (casePl g n s.cases) i)) wI)) :: ([(11, none)] ++ wM))) (fun wI => wI ≤ s.cases.length ∧ (fun _ => True) wI) (fun wI => s.cases.length - wI) 0 ⟨Nat.zero_le _, ?_⟩ (le_of [(100, 11), (11, 999)] ?_ ?_ rfl) ?_; ((first | exact trivial | (simp only [i64ok, true_and, and_true, Int.toNat_natCast]; omega) | (simp only [i64ok, true_and, and_true, Int.toNat_natCast] at *; omega)))))
  · trivial
  · (repeat' (first | exact trivial | refine And.intro rfl ?_))
  · (repeat' (first | exact trivial | refine And.intro rfl ?_))
  rintro i ⟨hi, _⟩
  have hle := gather_len (casePl_len g n s.cases) i
  ((refine go_cond hn tb_ok rfl ?_ (fun hc => ?_) (fun hc => ?_); ((first | exact trivial | (simp only [i64ok, true_and, and_true, Int.toNat_natCast]; omega) | (simp only [i64ok, true_and, and_true, Int.toNat_natCast] at *; omega))); all_goals (try (((try simp only [decide_eq_true_eq, decide_eq_false_iff_not, Bool.not_eq_true', Bool.not_eq_false', Bool.not_eq_eq_eq_not, Bool.not_true, Bool.not_false, Int.not_lt, Int.not_le, Int.toNat_natCast, beq_iff_eq, beq_eq_false_iff_ne, ne_eq] at hc); (try (first | simp only [rest_iff, rest_iff', isReg_iff, isReg_iff', isVal_iff, isVal_iff', isIn_iff, isIn_iff', isChan_iff, isChan_iff'] at hc | simp only [(fields_iff _).1, (fields_iff _).2.1, (fields_iff _).2.2, isReg_iff, isReg_iff', isVal_iff, isVal_iff', isIn_iff, isIn_iff', isChan_iff, isChan_iff'] at hc | skip)); try (exfalso; omega))))))
  · have hlt : i < s.cases.length := by omega
    ((refine go_cond hn tb_ok rfl ?_ (fun hc => ?_) (fun hc => ?_); ((first | exact trivial | (simp only [i64ok, true_and, and_true, Int.toNat_natCast]; omega) | (simp only [i64ok, true_and, and_true, Int.toNat_natCast] at *; omega))); all_goals (try (((try simp only [decide_eq_true_eq, decide_eq_false_iff_not, Bool.not_eq_true', Bool.not_eq_false', Bool.not_eq_eq_eq_not, Bool.not_true, Bool.not_false, Int.not_lt, Int.not_le, Int.toNat_natCast, beq_iff_eq, beq_eq_false_iff_ne, ne_eq] at hc); (try (first | simp only [rest_iff, rest_iff', isReg_iff, isReg_iff', isVal_iff, isVal_iff', isIn_iff, isIn_iff', isChan_iff, isChan_iff'] at hc | simp only [(fields_iff _).1, (fields_iff _).2.1, (fields_iff _).2.2, isReg_iff, isReg_iff', isVal_iff, isVal_iff', isIn_iff, isIn_iff', isChan_iff, isChan_iff'] at hc | skip)); try (exfalso; omega))))))
    · ((refine go_stop hn tb_ok rfl ?_ ⟨i + 1, ⟨?_, ?_⟩, ?_, ?_⟩; ((first | exact trivial | (simp only [i64ok, true_and, and_true, Int.toNat_natCast]; omega) | (simp only [i64ok, true_and, and_true, Int.toNat_natCast] at *; omega)))))
      · omega
      · trivial
      · show s.cases.length - (i + 1) < s.cases.length - i; omega
      · ((refine le_of [(11, 999)] ?_ ?_ rfl; ((repeat' (first | exact trivial | refine And.intro rfl ?_))); ((repeat' (first | exact trivial | refine And.intro rfl ?_)))))
        refine And.intro (congrArg (fun q => some (Blk.row 199 6 dPlace cPlace q)) ?_) ?_
        · rw [gather_next, casePl, if_pos hc, List.append_nil]
        · (repeat' (first | exact trivial | refine And.intro rfl ?_))
    · have hneg := hc
      ((refine go_cond hn tb_ok rfl ?_ (fun hc => ?_) (fun hc => ?_); ((first | exact trivial | (simp only [i64ok, true_and, and_true, Int.toNat_natCast]; omega) | (simp only [i64ok, true_and, and_true, Int.toNat_natCast] at *; omega))); all_goals (try (((try simp only [decide_eq_true_eq, decide_eq_false_iff_not, Bool.not_eq_true', Bool.not_eq_false', Bool.not_eq_eq_eq_not, Bool.not_true, Bool.not_false, Int.not_lt, Int.not_le, Int.toNat_natCast, beq_iff_eq, beq_eq_false_iff_ne, ne_eq] at hc); (try (first | simp only [rest_iff, rest_iff', isReg_iff, isReg_iff', isVal_iff, isVal_iff', isIn_iff, isIn_iff', isChan_iff, isChan_iff'] at hc | simp only [(fields_iff _).1, (fields_iff _).2.1, (fields_iff _).2.2, isReg_iff, isReg_iff', isVal_iff, isVal_iff', isIn_iff, isIn_iff', isChan_iff, isChan_iff'] at hc | skip)); try (exfalso; omega))))))
      · ((refine go_con hn tb_ok rfl ?_ rfl [] ⟨_, ?_, rfl, ?_, ?_, ?_, ?_⟩; ((first | exact trivial | (simp only [i64ok, true_and, and_true, Int.toNat_natCast]; omega) | (simp only [i64ok, true_and, and_true, Int.toNat_natCast] at *; omega))); rotate_left; ((first | exact con_spec_Reg _ _ | assumption)); (rfl); (first | exact .inl rfl | exact .inr (fun id hi => lk3_ok hi))))
        ((refine go_lit hn tb_ok dPlace cPlace [(⟨false, (s.cases.getD i dCase).chan, (s.cases.getD i dCase).send, ⟨n, i, regOf g (s.cases.getD i dCase).reg⟩⟩ : MPlace)] rfl ?_ rfl rfl rfl rfl rfl rfl rfl rfl rfl ?_; ((first | exact trivial | (simp only [i64ok, true_and, and_true, Int.toNat_natCast]; omega) | (simp only [i64ok, true_and, and_true, Int.toNat_natCast] at *; omega)))))
        ((refine go_app hn tb_ok [(⟨false, (s.cases.getD i dCase).chan, (s.cases.getD i dCase).send, ⟨n, i, regOf g (s.cases.getD i dCase).reg⟩⟩ : MPlace)] rfl ?_ rfl rfl rfl rfl rfl rfl rfl rfl ?_ ?_; ((first | exact trivial | (simp only [i64ok, true_and, and_true, Int.toNat_natCast]; omega) | (simp only [i64ok, true_and, and_true, Int.toNat_natCast] at *; omega)))))
        · show (_ + 1) * 48 ≤ _; omega
        ((refine go_stop hn tb_ok rfl ?_ ⟨i + 1, ⟨?_, ?_⟩, ?_, ?_⟩; ((first | exact trivial | (simp only [i64ok, true_and, and_true, Int.toNat_natCast]; omega) | (simp only [i64ok, true_and, and_true, Int.toNat_natCast] at *; omega)))))
        · omega
        · trivial
        · show s.cases.length - (i + 1) < s.cases.length - i; omega
        · ((refine le_of [(100, 41), (11, 999)] ?_ ?_ rfl; ((repeat' (first | exact trivial | refine And.intro rfl ?_))); ((repeat' (first | exact trivial | refine And.intro rfl ?_)))))
          refine And.intro (congrArg (fun q => some (Blk.row 199 6 dPlace cPlace q)) ?_) ?_
          · rw [gather_next, casePl, if_neg (by omega), if_pos hc]
          · (repeat' (first | exact trivial | refine And.intro rfl ?_))
      · ((refine go_lit hn tb_ok dPlace cPlace [(⟨false, (s.cases.getD i dCase).chan, (s.cases.getD i dCase).send, ⟨n, i, 0⟩⟩ : MPlace)] rfl ?_ rfl rfl rfl rfl rfl rfl rfl rfl rfl ?_; ((first | exact trivial | (simp only [i64ok, true_and, and_true, Int.toNat_natCast]; omega) | (simp only [i64ok, true_and, and_true, Int.toNat_natCast] at *; omega)))))
        ((refine go_app hn tb_ok [(⟨false, (s.cases.getD i dCase).chan, (s.cases.getD i dCase).send, ⟨n, i, 0⟩⟩ : MPlace)] rfl ?_ rfl rfl rfl rfl rfl rfl rfl rfl ?_ ?_; ((first | exact trivial | (simp only [i64ok, true_and, and_true, Int.toNat_natCast]; omega) | (simp only [i64ok, true_and, and_true, Int.toNat_natCast] at *; omega)))))
        · show (_ + 1) * 48 ≤ _; omega
        ((refine go_stop hn tb_ok rfl ?_ ⟨i + 1, ⟨?_, ?_⟩, ?_, ?_⟩; ((first | exact trivial | (simp only [i64ok, true_and, and_true, Int.toNat_natCast]; omega) | (simp only [i64ok, true_and, and_true, Int.toNat_natCast] at *; omega)))))
        · omega
        · trivial
        · show s.cases.length - (i + 1) < s.cases.length - i; omega
        · ((refine le_of [(100, 41), (11, 999)] ?_ ?_ rfl; ((repeat' (first | exact trivial | refine And.intro rfl ?_))); ((repeat' (first | exact trivial | refine And.intro rfl ?_)))))
          refine And.intro (congrArg (fun q => some (Blk.row 199 6 dPlace cPlace q)) ?_) ?_
          · rw [gather_next, casePl, if_neg (by omega), if_neg (by rw [hc]; exact Bool.false_ne_true)]
          · (repeat' (first | exact trivial | refine And.intro rfl ?_))
  · ((refine go_ret hn tb_ok rfl ?_ ⟨_, rfl, ?_⟩; ((first | exact trivial | (simp only [i64ok, true_and, and_true, Int.toNat_natCast]; omega) | (simp only [i64ok, true_and, and_true, Int.toNat_natCast] at *; omega)))))
    have hie : i = s.cases.length := by omega
    subst hie
    rfl
end Go.Proofs.YtjmefaihkblliaaGreat.Ab
/- The places at which a goroutine waits, by the reference, walked by the abstract machine. Conditions: none. -/
namespace Go.Proofs.YtjmefaihkblliaaGreat.Ab
set_option linter.unusedVariables false
set_option linter.unusedSimpArgs false
set_option maxRecDepth 100000
theorem prog_sel {p : MProg} (hp : progOk p = true) {k : Nat} (hk : k < p.sels.length) : (p.sels.getD k dSelect).cases.length ≤ 4 ∧ selOk p (p.sels.getD k dSelect) = true := by
  simp only [progOk, Bool.and_eq_true, List.all_eq_true, List.mem_range] at hp
  have h := hp.2.2.1 k hk
  refine ⟨?_, h⟩
  rw [selOk, Bool.and_eq_true, decide_eq_true_eq] at h
  exact h.1
theorem prog_instr {p : MProg} {g : MGor} (hp : progOk p = true) (hg : gorHead p g = true) : ∃ n, stepOk p n (instrAt p g) = true ∧ n ≤ 40 := by
  obtain ⟨⟨h1, h2⟩, h3, h4⟩ := gor_at hg
  simp only [progOk, Bool.and_eq_true, List.all_eq_true, List.mem_range] at hp
  have h := hp.2.2.2 g.proc.toNat (by omega)
  simp only [procOk, Bool.and_eq_true, List.all_eq_true, List.mem_range, decide_eq_true_eq] at h
  exact ⟨_, h.2.1 g.pc.toNat (by omega), by omega⟩
theorem prog_ok {p : MProg} {g : MGor} (hp : progOk p = true) (hg : gorHead p g = true) : ∃ n, InstrP p.caps.length p.mus p.sels.length p.procs.length n (instrAt p g) ∧ n ≤ 40 := by
  obtain ⟨n, h, hn⟩ := prog_instr hp hg
  rw [stepOk, Bool.and_eq_true, instrOk_iff] at h
  exact ⟨n, h.1, hn⟩
def placesOf (p : MProg) (g : MGor) (n : Int) : List MPlace :=
  if (instrAt p g).op = 8 ∧ 0 ≤ (instrAt p g).a then [⟨false, (instrAt p g).a, true, ⟨n, -1, regOf g (instrAt p g).b⟩⟩]
  else if (instrAt p g).op = 9 ∧ 0 ≤ (instrAt p g).a then [⟨false, (instrAt p g).a, false, ⟨n, -1, 0⟩⟩]
  else if (instrAt p g).op = 11 then casesPl g n (p.sels.getD (instrAt p g).a.toNat dSelect).cases
  else if (instrAt p g).op = 12 then [⟨true, (instrAt p g).a, false, ⟨n, -1, 0⟩⟩]
  else []
theorem instr_a {p : MProg} {g : MGor} (hp : progOk p = true) (hg : gorHead p g = true) (ho : (instrAt p g).op = 11) : 0 ≤ (instrAt p g).a ∧ (instrAt p g).a < p.sels.length := by
  obtain ⟨n, h, hn⟩ := prog_ok hp hg
  rw [InstrP] at h
  omega
theorem con_spec_l09Places (p : MProg) (g : MGor) (n : Int) (hp : progOk p = true) (hg : gorHead p g = true) : Con Tryz.prog 121 [.dagg (cProg p), .dagg (cGor g), .dat (.int .i64 n)] (.dat (rows_Place (placesOf p g n))) := by
  refine con_body (rs := [(.tmp 6, 170)]) tb_ok Tryz.func121 rfl rfl rfl (Nat.le_of_ble_eq_true rfl) fun ho x hn => ?_
  (repeat' (first
  | (refine go_cond hn tb_ok rfl ?_ (fun hc => ?_) (fun hc => ?_); ((first | exact trivial | (simp only [i64ok, true_and, and_true, Int.toNat_natCast]; omega) | (simp only [i64ok, true_and, and_true, Int.toNat_natCast] at *; omega))); all_goals (try (((try simp only [decide_eq_true_eq, decide_eq_false_iff_not, Bool.not_eq_true', Bool.not_eq_false', Bool.not_eq_eq_eq_not, Bool.not_true, Bool.not_false, Int.not_lt, Int.not_le, Int.toNat_natCast, beq_iff_eq, beq_eq_false_iff_ne, ne_eq] at hc); (try (first | simp only [rest_iff, rest_iff', isReg_iff, isReg_iff', isVal_iff, isVal_iff', isIn_iff, isIn_iff', isChan_iff, isChan_iff'] at hc | simp only [(fields_iff _).1, (fields_iff _).2.1, (fields_iff _).2.2, isReg_iff, isReg_iff', isVal_iff, isVal_iff', isIn_iff, isIn_iff', isChan_iff, isChan_iff'] at hc | skip)); try (exfalso; omega)))))
  | (refine go_ret hn tb_ok rfl ?_ ⟨_, rfl, ?_⟩; ((first | exact trivial | (simp only [i64ok, true_and, and_true, Int.toNat_natCast]; omega) | (simp only [i64ok, true_and, and_true, Int.toNat_natCast] at *; omega))))
  | ((refine go_con hn tb_ok rfl ?_ rfl [] ⟨_, ?_, rfl, ?_, ?_, ?_, ?_⟩; ((first | exact trivial | (simp only [i64ok, true_and, and_true, Int.toNat_natCast]; omega) | (simp only [i64ok, true_and, and_true, Int.toNat_natCast] at *; omega))); rotate_left; ((first | (refine con_spec_l09Cases _ _ _ ?_; (try simp only [Int.toNat_natCast]); omega) | exact con_at_spec.l09At _ _ (by assumption) | exact con_spec_Reg _ _ | assumption)); (rfl); (first | exact .inl rfl | exact .inr (fun id hi => lk3_ok hi))))))
  all_goals first
    | (((refine go_lit hn tb_ok dPlace cPlace [(⟨false, (instrAt p g).a, true, ⟨n, -1, regOf g (instrAt p g).b⟩⟩ : MPlace)] rfl ?_ rfl rfl rfl rfl rfl rfl rfl rfl rfl ?_; ((first | exact trivial | (simp only [i64ok, true_and, and_true, Int.toNat_natCast]; omega) | (simp only [i64ok, true_and, and_true, Int.toNat_natCast] at *; omega)))))
       ((refine go_ret hn tb_ok rfl ?_ ⟨_, rfl, ?_⟩; ((first | exact trivial | (simp only [i64ok, true_and, and_true, Int.toNat_natCast]; omega) | (simp only [i64ok, true_and, and_true, Int.toNat_natCast] at *; omega)))))
       rw [placesOf, if_pos (by omega)]; rfl)
    | (((refine go_lit hn tb_ok dPlace cPlace [(⟨false, (instrAt p g).a, false, ⟨n, -1, 0⟩⟩ : MPlace)] rfl ?_ rfl rfl rfl rfl rfl rfl rfl rfl rfl ?_; ((first | exact trivial | (simp only [i64ok, true_and, and_true, Int.toNat_natCast]; omega) | (simp only [i64ok, true_and, and_true, Int.toNat_natCast] at *; omega)))))
       ((refine go_ret hn tb_ok rfl ?_ ⟨_, rfl, ?_⟩; ((first | exact trivial | (simp only [i64ok, true_and, and_true, Int.toNat_natCast]; omega) | (simp only [i64ok, true_and, and_true, Int.toNat_natCast] at *; omega)))))
       rw [placesOf, if_neg (by omega), if_pos (by omega)]; rfl)
    | (((refine go_lit hn tb_ok dPlace cPlace [(⟨true, (instrAt p g).a, false, ⟨n, -1, 0⟩⟩ : MPlace)] rfl ?_ rfl rfl rfl rfl rfl rfl rfl rfl rfl ?_; ((first | exact trivial | (simp only [i64ok, true_and, and_true, Int.toNat_natCast]; omega) | (simp only [i64ok, true_and, and_true, Int.toNat_natCast] at *; omega)))))
       ((refine go_ret hn tb_ok rfl ?_ ⟨_, rfl, ?_⟩; ((first | exact trivial | (simp only [i64ok, true_and, and_true, Int.toNat_natCast]; omega) | (simp only [i64ok, true_and, and_true, Int.toNat_natCast] at *; omega)))))
       rw [placesOf, if_neg (by omega), if_neg (by omega), if_neg (by omega), if_pos (by omega)]; rfl)
    | (((refine go_lit hn tb_ok dPlace cPlace ([] : List MPlace) rfl ?_ rfl rfl rfl rfl rfl rfl rfl rfl rfl ?_; ((first | exact trivial | (simp only [i64ok, true_and, and_true, Int.toNat_natCast]; omega) | (simp only [i64ok, true_and, and_true, Int.toNat_natCast] at *; omega)))))
       ((refine go_ret hn tb_ok rfl ?_ ⟨_, rfl, ?_⟩; ((first | exact trivial | (simp only [i64ok, true_and, and_true, Int.toNat_natCast]; omega) | (simp only [i64ok, true_and, and_true, Int.toNat_natCast] at *; omega)))))
       rw [placesOf, if_neg (by omega), if_neg (by omega), if_neg (by omega), if_neg (by omega)]; rfl)
    | (have hr := instr_a hp hg (by omega)
       have hl := (prog_sel hp (k := (instrAt p g).a.toNat) (by omega)).1
       ((refine go_draw hn tb_ok mix_ok [.r (.dat (rows_Place (casesPl g n (p.sels.getD (instrAt p g).a.toNat dSelect).cases)))] rfl ?_ rfl ?_ ?_ ?_ ?_; ((first | exact trivial | (simp only [i64ok, true_and, and_true, Int.toNat_natCast]; omega) | (simp only [i64ok, true_and, and_true, Int.toNat_natCast] at *; omega))); rotate_left; (kernel_rfl); (kernel_rfl); rotate_left))
       · (((try simp only [andO, true_and, and_true, Int.toNat_natCast, i64ok, decide_eq_true_eq, decide_eq_false_iff_not, Bool.not_eq_true', Bool.not_eq_false']); (repeat' (first | exact trivial | (first | (refine con_spec_l09Cases _ _ _ ?_; (try simp only [Int.toNat_natCast]); omega) | exact con_at_spec.l09At _ _ (by assumption) | exact con_spec_Reg _ _ | assumption) | assumption | omega | exact does_litz _ _ hn tb_ok rfl rfl rfl rfl rfl rfl rfl rfl rfl rfl rfl | exact does_app _ hn tb_ok rfl ⟨rfl, _, _, _, rfl, rfl, rfl, rfl, rfl, rfl⟩ rfl rfl rfl rfl rfl rfl rfl (by simp only [List.length_cons, List.length_nil]; omega) | refine And.intro ?_ ?_))))
       · ((refine go_ret hn tb_ok rfl ?_ ⟨_, rfl, ?_⟩; ((first | exact trivial | (simp only [i64ok, true_and, and_true, Int.toNat_natCast]; omega) | (simp only [i64ok, true_and, and_true, Int.toNat_natCast] at *; omega)))))
         rw [placesOf, if_neg (by omega), if_neg (by omega), if_pos (by omega)]; rfl)
def mayWait (p : MProg) (g : MGor) : Bool := decide ((instrAt p g).op = 8 ∨ (instrAt p g).op = 9 ∨ (instrAt p g).op = 12 ∨ ((instrAt p g).op = 11 ∧ (p.sels.getD (instrAt p g).a.toNat dSelect).els < 0))
end Go.Proofs.YtjmefaihkblliaaGreat.Ab
/- Who may wait, by both programs; the places by the program: walked by the abstract machine. Conditions: none. -/
namespace Go.Proofs.YtjmefaihkblliaaGreat.Ab
set_option linter.unusedVariables false
set_option linter.unusedSimpArgs false
set_option maxRecDepth 100000
theorem sel_ge {p : MProg} (hp : progOk p = true) {k : Nat} (hk : k < p.sels.length) : -1 ≤ (p.sels.getD k dSelect).els := by
  have h := (prog_sel hp hk).2
  rw [selOk, Bool.and_eq_true, Bool.and_eq_true, selectOk, Bool.and_eq_true, isIn_iff] at h
  exact h.2.2.2.1
theorem con_spec_l09May (p : MProg) (g : MGor) (hp : progOk p = true) (hg : gorHead p g = true) : Con Tryz.prog 120 [.dagg (cProg p), .dagg (cGor g)] (.dat (.bool (mayWait p g))) := by
  refine con_body (rs := [(.tmp 4, 4)]) tb_ok Tryz.func120 rfl rfl rfl (Nat.le_of_ble_eq_true rfl) fun ho x hn => ?_
  have hr := instr_a hp hg
  (repeat' (first
  | (refine go_cond hn tb_ok rfl ?_ (fun hc => ?_) (fun hc => ?_); ((first | exact trivial | (simp only [i64ok, true_and, and_true, Int.toNat_natCast]; omega) | (simp only [i64ok, true_and, and_true, Int.toNat_natCast] at *; omega))); all_goals (try (((try simp only [decide_eq_true_eq, decide_eq_false_iff_not, Bool.not_eq_true', Bool.not_eq_false', Bool.not_eq_eq_eq_not, Bool.not_true, Bool.not_false, Int.not_lt, Int.not_le, Int.toNat_natCast, beq_iff_eq, beq_eq_false_iff_ne, ne_eq] at hc); (try (first | simp only [rest_iff, rest_iff', isReg_iff, isReg_iff', isVal_iff, isVal_iff', isIn_iff, isIn_iff', isChan_iff, isChan_iff'] at hc | simp only [(fields_iff _).1, (fields_iff _).2.1, (fields_iff _).2.2, isReg_iff, isReg_iff', isVal_iff, isVal_iff', isIn_iff, isIn_iff', isChan_iff, isChan_iff'] at hc | skip)); try (exfalso; omega)))))
  | (refine go_ret hn tb_ok rfl ?_ ⟨_, rfl, ?_⟩; ((first | exact trivial | (simp only [i64ok, true_and, and_true, Int.toNat_natCast]; omega) | (simp only [i64ok, true_and, and_true, Int.toNat_natCast] at *; omega))))
  | ((refine go_con hn tb_ok rfl ?_ rfl [] ⟨_, ?_, rfl, ?_, ?_, ?_, ?_⟩; ((first | exact trivial | (simp only [i64ok, true_and, and_true, Int.toNat_natCast]; omega) | (simp only [i64ok, true_and, and_true, Int.toNat_natCast] at *; omega))); rotate_left; ((first | exact con_at_spec.l09At _ _ (by assumption) | assumption)); (rfl); (first | exact .inl rfl | exact .inr (fun id hi => lk3_ok hi))))))
  all_goals (refine congrArg (fun b => LV.dat (.bool b)) (Eq.symm ?_); rw [mayWait])
  all_goals first
    | exact decide_eq_true (by omega)
    | exact decide_eq_false (by omega)
    | exact decide_eq_decide.2 (by omega)
theorem con_impl_MayWait (p : MProg) (g : MGor) : Con Tryz.prog 133 [.dagg (cProg p), .dagg (cGor g)] (.dat (.bool (gorOk p g && mayWait p g))) := by
  refine con_body (rs := [(.tmp 4, 4)]) tb_ok Tryz.func133 rfl rfl rfl (Nat.le_of_ble_eq_true rfl) fun ho x hn => ?_
  ((refine go_con hn tb_ok rfl ?_ rfl [] ⟨_, ?_, rfl, ?_, ?_, ?_, ?_⟩; ((first | exact trivial | (simp only [i64ok, true_and, and_true, Int.toNat_natCast]; omega) | (simp only [i64ok, true_and, and_true, Int.toNat_natCast] at *; omega))); rotate_left; ((first | exact con_impl_GorOk _ _ | exact con_at_impl.instr _ _ (by assumption) | assumption)); (rfl); (first | exact .inl rfl | exact .inr (fun id hi => lk3_ok hi))))
  ((refine go_cond hn tb_ok rfl ?_ (fun hc => ?_) (fun hc => ?_); ((first | exact trivial | (simp only [i64ok, true_and, and_true, Int.toNat_natCast]; omega) | (simp only [i64ok, true_and, and_true, Int.toNat_natCast] at *; omega))); all_goals (try (((try simp only [decide_eq_true_eq, decide_eq_false_iff_not, Bool.not_eq_true', Bool.not_eq_false', Bool.not_eq_eq_eq_not, Bool.not_true, Bool.not_false, Int.not_lt, Int.not_le, Int.toNat_natCast, beq_iff_eq, beq_eq_false_iff_ne, ne_eq] at hc); (try (first | simp only [rest_iff, rest_iff', isReg_iff, isReg_iff', isVal_iff, isVal_iff', isIn_iff, isIn_iff', isChan_iff, isChan_iff'] at hc | simp only [(fields_iff _).1, (fields_iff _).2.1, (fields_iff _).2.2, isReg_iff, isReg_iff', isVal_iff, isVal_iff', isIn_iff, isIn_iff', isChan_iff, isChan_iff'] at hc | skip)); try (exfalso; omega))))))
  · ((refine go_ret hn tb_ok rfl ?_ ⟨_, rfl, ?_⟩; ((first | exact trivial | (simp only [i64ok, true_and, and_true, Int.toNat_natCast]; omega) | (simp only [i64ok, true_and, and_true, Int.toNat_natCast] at *; omega)))))
    rw [hc]; rfl
  have hp : progOk p = true := by rw [gorOk, Bool.and_eq_true] at hc; exact hc.1
  have hg : gorHead p g = true := by rw [gorOk, gorOk0, Bool.and_eq_true, Bool.and_eq_true] at hc; exact hc.2.1
  have hk := hc
  clear hc
  have hr := instr_a hp hg
  by_cases ho : (instrAt p g).op = 11
  · have hr1 := hr ho
    have hge := sel_ge hp (k := (instrAt p g).a.toNat) (by omega)
    (repeat' (first
  | (refine go_cond hn tb_ok rfl ?_ (fun hc => ?_) (fun hc => ?_); ((first | exact trivial | (simp only [i64ok, true_and, and_true, Int.toNat_natCast]; omega) | (simp only [i64ok, true_and, and_true, Int.toNat_natCast] at *; omega))); all_goals (try (((try simp only [decide_eq_true_eq, decide_eq_false_iff_not, Bool.not_eq_true', Bool.not_eq_false', Bool.not_eq_eq_eq_not, Bool.not_true, Bool.not_false, Int.not_lt, Int.not_le, Int.toNat_natCast, beq_iff_eq, beq_eq_false_iff_ne, ne_eq] at hc); (try (first | simp only [rest_iff, rest_iff', isReg_iff, isReg_iff', isVal_iff, isVal_iff', isIn_iff, isIn_iff', isChan_iff, isChan_iff'] at hc | simp only [(fields_iff _).1, (fields_iff _).2.1, (fields_iff _).2.2, isReg_iff, isReg_iff', isVal_iff, isVal_iff', isIn_iff, isIn_iff', isChan_iff, isChan_iff'] at hc | skip)); try (exfalso; omega)))))
  | (refine go_ret hn tb_ok rfl ?_ ⟨_, rfl, ?_⟩; ((first | exact trivial | (simp only [i64ok, true_and, and_true, Int.toNat_natCast]; omega) | (simp only [i64ok, true_and, and_true, Int.toNat_natCast] at *; omega))))
  | ((refine go_con hn tb_ok rfl ?_ rfl [] ⟨_, ?_, rfl, ?_, ?_, ?_, ?_⟩; ((first | exact trivial | (simp only [i64ok, true_and, and_true, Int.toNat_natCast]; omega) | (simp only [i64ok, true_and, and_true, Int.toNat_natCast] at *; omega))); rotate_left; ((first | exact con_impl_GorOk _ _ | exact con_at_impl.instr _ _ (by assumption) | assumption)); (rfl); (first | exact .inl rfl | exact .inr (fun id hi => lk3_ok hi))))))
    all_goals (refine congrArg (fun b => LV.dat (.bool b)) (Eq.symm ?_); rw [hk, Bool.true_and, mayWait])
    all_goals first
      | exact decide_eq_true (by omega)
      | exact decide_eq_false (by omega)
      | exact decide_eq_decide.2 (by omega)
  · (repeat' (first
  | (refine go_cond hn tb_ok rfl ?_ (fun hc => ?_) (fun hc => ?_); ((first | exact trivial | (simp only [i64ok, true_and, and_true, Int.toNat_natCast]; omega) | (simp only [i64ok, true_and, and_true, Int.toNat_natCast] at *; omega))); all_goals (try (((try simp only [decide_eq_true_eq, decide_eq_false_iff_not, Bool.not_eq_true', Bool.not_eq_false', Bool.not_eq_eq_eq_not, Bool.not_true, Bool.not_false, Int.not_lt, Int.not_le, Int.toNat_natCast, beq_iff_eq, beq_eq_false_iff_ne, ne_eq] at hc); (try (first | simp only [rest_iff, rest_iff', isReg_iff, isReg_iff', isVal_iff, isVal_iff', isIn_iff, isIn_iff', isChan_iff, isChan_iff'] at hc | simp only [(fields_iff _).1, (fields_iff _).2.1, (fields_iff _).2.2, isReg_iff, isReg_iff', isVal_iff, isVal_iff', isIn_iff, isIn_iff', isChan_iff, isChan_iff'] at hc | skip)); try (exfalso; omega)))))
  | (refine go_ret hn tb_ok rfl ?_ ⟨_, rfl, ?_⟩; ((first | exact trivial | (simp only [i64ok, true_and, and_true, Int.toNat_natCast]; omega) | (simp only [i64ok, true_and, and_true, Int.toNat_natCast] at *; omega))))
  | ((refine go_con hn tb_ok rfl ?_ rfl [] ⟨_, ?_, rfl, ?_, ?_, ?_, ?_⟩; ((first | exact trivial | (simp only [i64ok, true_and, and_true, Int.toNat_natCast]; omega) | (simp only [i64ok, true_and, and_true, Int.toNat_natCast] at *; omega))); rotate_left; ((first | exact con_impl_GorOk _ _ | exact con_at_impl.instr _ _ (by assumption) | assumption)); (rfl); (first | exact .inl rfl | exact .inr (fun id hi => lk3_ok hi))))))
    all_goals (refine congrArg (fun b => LV.dat (.bool b)) (Eq.symm ?_); rw [hk, Bool.true_and, mayWait])
    all_goals first
      | exact decide_eq_true (by omega)
      | exact decide_eq_false (by omega)
      | exact decide_eq_decide.2 (by omega)
theorem instr_reg {p : MProg} {g : MGor} (hp : progOk p = true) (hg : gorHead p g = true) (ho : (instrAt p g).op = 8) : 0 ≤ (instrAt p g).b ∧ (instrAt p g).b < g.regs.length := by
  obtain ⟨n, h, hn⟩ := prog_ok hp hg
  rw [gorHead, decide_eq_true_eq] at hg
  have hb : isReg (instrAt p g).b = true := by
    rw [InstrP] at h
    rcases h with h | h | h | h | h | h | h | h | h | h | h | h <;> first | (exfalso; omega) | exact h.2.2.1
  rw [isReg_iff] at hb
  omega
theorem case_reg {p : MProg} {g : MGor} (hp : progOk p = true) (hg : gorHead p g = true) {k i : Nat} (hk : k < p.sels.length) (hi : i < (p.sels.getD k dSelect).cases.length) : 0 ≤ ((p.sels.getD k dSelect).cases.getD i dCase).reg ∧ ((p.sels.getD k dSelect).cases.getD i dCase).reg < g.regs.length := by
  have h := (prog_sel hp hk).2
  rw [gorHead, decide_eq_true_eq] at hg
  simp only [selOk, selectOk, Bool.and_eq_true, List.all_eq_true, List.mem_range] at h
  have h1 := h.2.2.1 i hi
  simp only [caseOk, Bool.and_eq_true] at h1
  have h2 := (isReg_iff _).1 h1.1.1.1.1.2
  omega
end Go.Proofs.YtjmefaihkblliaaGreat.Ab
/- The places at which a goroutine waits, by the program, walked by the abstract machine. Conditions: none. -/
namespace Go.Proofs.YtjmefaihkblliaaGreat.Ab
set_option linter.unusedVariables false
set_option linter.unusedSimpArgs false
set_option maxRecDepth 100000
set_option maxHeartbeats 1000000 in
theorem con_impl_places (p : MProg) (g : MGor) (n : Int) (hp : progOk p = true) (hg : gorHead p g = true) : Con Tryz.prog 195 [.dagg (cProg p), .dagg (cGor g), .dat (.int .i64 n)] (.dat (rows_Place (placesOf p g n))) := by
  refine con_body (rs := [(.tmp 6, 170)]) tb_ok Tryz.func195 rfl rfl rfl (Nat.le_of_ble_eq_true rfl) fun ho x hn => ?_
  have hrg := instr_reg hp hg
  have hra := instr_a hp hg
  ((refine go_lit hn tb_ok dPlace cPlace ([] : List MPlace) rfl ?_ rfl rfl rfl rfl rfl rfl rfl rfl rfl ?_; ((first | exact trivial | (simp only [i64ok, true_and, and_true, Int.toNat_natCast]; omega) | (simp only [i64ok, true_and, and_true, Int.toNat_natCast] at *; omega)))))
  ((refine go_con hn tb_ok rfl ?_ rfl [] ⟨_, ?_, rfl, ?_, ?_, ?_, ?_⟩; ((first | exact trivial | (simp only [i64ok, true_and, and_true, Int.toNat_natCast]; omega) | (simp only [i64ok, true_and, and_true, Int.toNat_natCast] at *; omega))); rotate_left; ((first | exact con_at_impl.instr _ _ (by assumption) | assumption)); (rfl); (first | exact .inl rfl | exact .inr (fun id hi => lk3_ok hi))))
  ((refine go_cond hn tb_ok rfl ?_ (fun hc => ?_) (fun hc => ?_); ((first | exact trivial | (simp only [i64ok, true_and, and_true, Int.toNat_natCast]; omega) | (simp only [i64ok, true_and, and_true, Int.toNat_natCast] at *; omega))); all_goals (try (((try simp only [decide_eq_true_eq, decide_eq_false_iff_not, Bool.not_eq_true', Bool.not_eq_false', Bool.not_eq_eq_eq_not, Bool.not_true, Bool.not_false, Int.not_lt, Int.not_le, Int.toNat_natCast, beq_iff_eq, beq_eq_false_iff_ne, ne_eq] at hc); (try (first | simp only [rest_iff, rest_iff', isReg_iff, isReg_iff', isVal_iff, isVal_iff', isIn_iff, isIn_iff', isChan_iff, isChan_iff'] at hc | simp only [(fields_iff _).1, (fields_iff _).2.1, (fields_iff _).2.2, isReg_iff, isReg_iff', isVal_iff, isVal_iff', isIn_iff, isIn_iff', isChan_iff, isChan_iff'] at hc | skip)); try (exfalso; omega))))))
  · have hr := hrg hc
    ((refine go_cond hn tb_ok rfl ?_ (fun hc => ?_) (fun hc => ?_); ((first | exact trivial | (simp only [i64ok, true_and, and_true, Int.toNat_natCast]; omega) | (simp only [i64ok, true_and, and_true, Int.toNat_natCast] at *; omega))); all_goals (try (((try simp only [decide_eq_true_eq, decide_eq_false_iff_not, Bool.not_eq_true', Bool.not_eq_false', Bool.not_eq_eq_eq_not, Bool.not_true, Bool.not_false, Int.not_lt, Int.not_le, Int.toNat_natCast, beq_iff_eq, beq_eq_false_iff_ne, ne_eq] at hc); (try (first | simp only [rest_iff, rest_iff', isReg_iff, isReg_iff', isVal_iff, isVal_iff', isIn_iff, isIn_iff', isChan_iff, isChan_iff'] at hc | simp only [(fields_iff _).1, (fields_iff _).2.1, (fields_iff _).2.2, isReg_iff, isReg_iff', isVal_iff, isVal_iff', isIn_iff, isIn_iff', isChan_iff, isChan_iff'] at hc | skip)); try (exfalso; omega))))))
    · have hreg : regOf g (instrAt p g).b = g.regs.getD (instrAt p g).b.toNat 0 := by rw [regOf, if_pos hr]
      ((refine go_draw hn tb_ok mix_ok [.raw (.own 35) [(35, some (.row 199 6 dPlace cPlace [(⟨false, (instrAt p g).a, true, ⟨n, -1, g.regs.getD (instrAt p g).b.toNat 0⟩⟩ : MPlace)]))] (some 35), .raw (.own 36) [(36, some (.row 199 6 dPlace cPlace ([] ++ [(⟨false, (instrAt p g).a, true, ⟨n, -1, g.regs.getD (instrAt p g).b.toNat 0⟩⟩ : MPlace)]))), (12, none)] (some 36)] rfl ?_ rfl ?_ ?_ ?_ ?_; ((first | exact trivial | (simp only [i64ok, true_and, and_true, Int.toNat_natCast]; omega) | (simp only [i64ok, true_and, and_true, Int.toNat_natCast] at *; omega))); rotate_left; (kernel_rfl); (kernel_rfl); rotate_left))
      · (((try simp only [andO, true_and, and_true, Int.toNat_natCast, i64ok, decide_eq_true_eq, decide_eq_false_iff_not, Bool.not_eq_true', Bool.not_eq_false']); (repeat' (first | exact trivial | (first | exact con_at_impl.instr _ _ (by assumption) | assumption) | assumption | omega | exact does_litz _ _ hn tb_ok rfl rfl rfl rfl rfl rfl rfl rfl rfl rfl rfl | exact does_app _ hn tb_ok rfl ⟨rfl, _, _, _, rfl, rfl, rfl, rfl, rfl, rfl⟩ rfl rfl rfl rfl rfl rfl rfl (by simp only [List.length_cons, List.length_nil]; omega) | refine And.intro ?_ ?_))))
      · ((refine go_ret hn tb_ok rfl ?_ ⟨_, rfl, ?_⟩; ((first | exact trivial | (simp only [i64ok, true_and, and_true, Int.toNat_natCast]; omega) | (simp only [i64ok, true_and, and_true, Int.toNat_natCast] at *; omega)))))
        rw [placesOf, if_pos (by omega), hreg]; rfl
    · ((refine go_ret hn tb_ok rfl ?_ ⟨_, rfl, ?_⟩; ((first | exact trivial | (simp only [i64ok, true_and, and_true, Int.toNat_natCast]; omega) | (simp only [i64ok, true_and, and_true, Int.toNat_natCast] at *; omega)))))
      rw [placesOf, if_neg (by omega), if_neg (by omega), if_neg (by omega), if_neg (by omega)]; rfl
  · ((refine go_cond hn tb_ok rfl ?_ (fun hc => ?_) (fun hc => ?_); ((first | exact trivial | (simp only [i64ok, true_and, and_true, Int.toNat_natCast]; omega) | (simp only [i64ok, true_and, and_true, Int.toNat_natCast] at *; omega))); all_goals (try (((try simp only [decide_eq_true_eq, decide_eq_false_iff_not, Bool.not_eq_true', Bool.not_eq_false', Bool.not_eq_eq_eq_not, Bool.not_true, Bool.not_false, Int.not_lt, Int.not_le, Int.toNat_natCast, beq_iff_eq, beq_eq_false_iff_ne, ne_eq] at hc); (try (first | simp only [rest_iff, rest_iff', isReg_iff, isReg_iff', isVal_iff, isVal_iff', isIn_iff, isIn_iff', isChan_iff, isChan_iff'] at hc | simp only [(fields_iff _).1, (fields_iff _).2.1, (fields_iff _).2.2, isReg_iff, isReg_iff', isVal_iff, isVal_iff', isIn_iff, isIn_iff', isChan_iff, isChan_iff'] at hc | skip)); try (exfalso; omega))))))
    · ((refine go_cond hn tb_ok rfl ?_ (fun hc => ?_) (fun hc => ?_); ((first | exact trivial | (simp only [i64ok, true_and, and_true, Int.toNat_natCast]; omega) | (simp only [i64ok, true_and, and_true, Int.toNat_natCast] at *; omega))); all_goals (try (((try simp only [decide_eq_true_eq, decide_eq_false_iff_not, Bool.not_eq_true', Bool.not_eq_false', Bool.not_eq_eq_eq_not, Bool.not_true, Bool.not_false, Int.not_lt, Int.not_le, Int.toNat_natCast, beq_iff_eq, beq_eq_false_iff_ne, ne_eq] at hc); (try (first | simp only [rest_iff, rest_iff', isReg_iff, isReg_iff', isVal_iff, isVal_iff', isIn_iff, isIn_iff', isChan_iff, isChan_iff'] at hc | simp only [(fields_iff _).1, (fields_iff _).2.1, (fields_iff _).2.2, isReg_iff, isReg_iff', isVal_iff, isVal_iff', isIn_iff, isIn_iff', isChan_iff, isChan_iff'] at hc | skip)); try (exfalso; omega))))))
      · ((refine go_lit hn tb_ok dPlace cPlace [(⟨false, (instrAt p g).a, false, ⟨n, -1, 0⟩⟩ : MPlace)] rfl ?_ rfl rfl rfl rfl rfl rfl rfl rfl rfl ?_; ((first | exact trivial | (simp only [i64ok, true_and, and_true, Int.toNat_natCast]; omega) | (simp only [i64ok, true_and, and_true, Int.toNat_natCast] at *; omega)))))
        ((refine go_app hn tb_ok [(⟨false, (instrAt p g).a, false, ⟨n, -1, 0⟩⟩ : MPlace)] rfl ?_ rfl rfl rfl rfl rfl rfl rfl rfl ?_ ?_; ((first | exact trivial | (simp only [i64ok, true_and, and_true, Int.toNat_natCast]; omega) | (simp only [i64ok, true_and, and_true, Int.toNat_natCast] at *; omega)))))
        · show (0 + 1) * 48 ≤ _; omega
        ((refine go_ret hn tb_ok rfl ?_ ⟨_, rfl, ?_⟩; ((first | exact trivial | (simp only [i64ok, true_and, and_true, Int.toNat_natCast]; omega) | (simp only [i64ok, true_and, and_true, Int.toNat_natCast] at *; omega)))))
        rw [placesOf, if_neg (by omega), if_pos (by omega)]; rfl
      · ((refine go_ret hn tb_ok rfl ?_ ⟨_, rfl, ?_⟩; ((first | exact trivial | (simp only [i64ok, true_and, and_true, Int.toNat_natCast]; omega) | (simp only [i64ok, true_and, and_true, Int.toNat_natCast] at *; omega)))))
        rw [placesOf, if_neg (by omega), if_neg (by omega), if_neg (by omega), if_neg (by omega)]; rfl
    · ((refine go_cond hn tb_ok rfl ?_ (fun hc => ?_) (fun hc => ?_); ((first | exact trivial | (simp only [i64ok, true_and, and_true, Int.toNat_natCast]; omega) | (simp only [i64ok, true_and, and_true, Int.toNat_natCast] at *; omega))); all_goals (try (((try simp only [decide_eq_true_eq, decide_eq_false_iff_not, Bool.not_eq_true', Bool.not_eq_false', Bool.not_eq_eq_eq_not, Bool.not_true, Bool.not_false, Int.not_lt, Int.not_le, Int.toNat_natCast, beq_iff_eq, beq_eq_false_iff_ne, ne_eq] at hc); (try (first | simp only [rest_iff, rest_iff', isReg_iff, isReg_iff', isVal_iff, isVal_iff', isIn_iff, isIn_iff', isChan_iff, isChan_iff'] at hc | simp only [(fields_iff _).1, (fields_iff _).2.1, (fields_iff _).2.2, isReg_iff, isReg_iff', isVal_iff, isVal_iff', isIn_iff, isIn_iff', isChan_iff, isChan_iff'] at hc | skip)); try (exfalso; omega))))))
      · have hr := hra hc
        have h11 := hc
        have hl := (prog_sel hp (k := (instrAt p g).a.toNat) (by omega)).1
        have hcr : ∀ i, i < (p.sels.getD (instrAt p g).a.toNat dSelect).cases.length → 0 ≤ ((p.sels.getD (instrAt p g).a.toNat dSelect).cases.getD i dCase).reg ∧ ((p.sels.getD (instrAt p g).a.toNat dSelect).cases.getD i dCase).reg < g.regs.length := fun i hi => case_reg hp hg (by omega) hi
        have hpl : placesOf p g n = casesPl g n (p.sels.getD (instrAt p g).a.toNat dSelect).cases := by
          rw [placesOf, if_neg (by omega), if_neg (by omega), if_pos h11]
        rw [hpl]
        ((refine go_loop hn tb_ok rfl ?_ (fun (wI : Nat) wT wM => ((60, .dat (.int .i64 wI)) :: (7, .own 100) :: ([(12, .no)] ++ wT), (100, some ((fun i => .row 199 6 dPlace cPlace (gatherN (casePl g n (p.sels.getD (instrAt p g).a.toNat dSelect).cases) i)) wI)) :: ([(12, none)] ++ wM))) (fun wI => wI ≤ ((p.sels.getD (instrAt p g).a.toNat dSelect).cases.length) ∧ (fun _ => True) wI) (fun wI => ((p.sels.getD (instrAt p g).a.toNat dSelect).cases.length) - wI) 0 ⟨Nat.zero_le _, ?_⟩ (le_of [(100, 12), (12, 999)] ?_ ?_ rfl) ?_; ((first | exact trivial | (simp only [i64ok, true_and, and_true, Int.toNat_natCast]; omega) | (simp only [i64ok, true_and, and_true, Int.toNat_natCast] at *; omega)))))
        · trivial
        · (repeat' (first | exact trivial | refine And.intro rfl ?_))
        · (repeat' (first | exact trivial | refine And.intro rfl ?_))
        generalize hsel : p.sels.getD (instrAt p g).a.toNat dSelect = s at *
        rintro i ⟨hi, _⟩
        have hle := gather_len (casePl_len g n s.cases) i
        ((refine go_cond hn tb_ok rfl ?_ (fun hc => ?_) (fun hc => ?_); ((first | exact trivial | (simp only [i64ok, true_and, and_true, Int.toNat_natCast]; omega) | (simp only [i64ok, true_and, and_true, Int.toNat_natCast] at *; omega))); all_goals (try (((try simp only [decide_eq_true_eq, decide_eq_false_iff_not, Bool.not_eq_true', Bool.not_eq_false', Bool.not_eq_eq_eq_not, Bool.not_true, Bool.not_false, Int.not_lt, Int.not_le, Int.toNat_natCast, beq_iff_eq, beq_eq_false_iff_ne, ne_eq] at hc); (try (first | simp only [rest_iff, rest_iff', isReg_iff, isReg_iff', isVal_iff, isVal_iff', isIn_iff, isIn_iff', isChan_iff, isChan_iff'] at hc | simp only [(fields_iff _).1, (fields_iff _).2.1, (fields_iff _).2.2, isReg_iff, isReg_iff', isVal_iff, isVal_iff', isIn_iff, isIn_iff', isChan_iff, isChan_iff'] at hc | skip)); try (exfalso; omega))))))
        · have hlt : i < s.cases.length := by omega
          have hci := hcr i hlt
          ((refine go_cond hn tb_ok rfl ?_ (fun hc => ?_) (fun hc => ?_); ((first | exact trivial | (simp only [i64ok, true_and, and_true, Int.toNat_natCast]; omega) | (simp only [i64ok, true_and, and_true, Int.toNat_natCast] at *; omega))); all_goals (try (((try simp only [decide_eq_true_eq, decide_eq_false_iff_not, Bool.not_eq_true', Bool.not_eq_false', Bool.not_eq_eq_eq_not, Bool.not_true, Bool.not_false, Int.not_lt, Int.not_le, Int.toNat_natCast, beq_iff_eq, beq_eq_false_iff_ne, ne_eq] at hc); (try (first | simp only [rest_iff, rest_iff', isReg_iff, isReg_iff', isVal_iff, isVal_iff', isIn_iff, isIn_iff', isChan_iff, isChan_iff'] at hc | simp only [(fields_iff _).1, (fields_iff _).2.1, (fields_iff _).2.2, isReg_iff, isReg_iff', isVal_iff, isVal_iff', isIn_iff, isIn_iff', isChan_iff, isChan_iff'] at hc | skip)); try (exfalso; omega))))))
          · ((refine go_stop hn tb_ok rfl ?_ ⟨i + 1, ⟨?_, ?_⟩, ?_, ?_⟩; ((first | exact trivial | (simp only [i64ok, true_and, and_true, Int.toNat_natCast]; omega) | (simp only [i64ok, true_and, and_true, Int.toNat_natCast] at *; omega)))))
            · omega
            · trivial
            · show s.cases.length - (i + 1) < s.cases.length - i; omega
            · ((refine le_of [(12, 999)] ?_ ?_ rfl; ((repeat' (first | exact trivial | refine And.intro rfl ?_))); ((repeat' (first | exact trivial | refine And.intro rfl ?_)))))
              refine And.intro (congrArg (fun q => some (Blk.row 199 6 dPlace cPlace q)) ?_) ?_
              · rw [gather_next, casePl, if_pos hc, List.append_nil]
              · (repeat' (first | exact trivial | refine And.intro rfl ?_))
          · have hneg := hc
            ((refine go_cond hn tb_ok rfl ?_ (fun hc => ?_) (fun hc => ?_); ((first | exact trivial | (simp only [i64ok, true_and, and_true, Int.toNat_natCast]; omega) | (simp only [i64ok, true_and, and_true, Int.toNat_natCast] at *; omega))); all_goals (try (((try simp only [decide_eq_true_eq, decide_eq_false_iff_not, Bool.not_eq_true', Bool.not_eq_false', Bool.not_eq_eq_eq_not, Bool.not_true, Bool.not_false, Int.not_lt, Int.not_le, Int.toNat_natCast, beq_iff_eq, beq_eq_false_iff_ne, ne_eq] at hc); (try (first | simp only [rest_iff, rest_iff', isReg_iff, isReg_iff', isVal_iff, isVal_iff', isIn_iff, isIn_iff', isChan_iff, isChan_iff'] at hc | simp only [(fields_iff _).1, (fields_iff _).2.1, (fields_iff _).2.2, isReg_iff, isReg_iff', isVal_iff, isVal_iff', isIn_iff, isIn_iff', isChan_iff, isChan_iff'] at hc | skip)); try (exfalso; omega))))))
            · have hreg : regOf g (s.cases.getD i dCase).reg = g.regs.getD (s.cases.getD i dCase).reg.toNat 0 := by rw [regOf, if_pos hci]
              ((refine go_lit hn tb_ok dPlace cPlace [(⟨false, (s.cases.getD i dCase).chan, (s.cases.getD i dCase).send, ⟨n, i, g.regs.getD (s.cases.getD i dCase).reg.toNat 0⟩⟩ : MPlace)] rfl ?_ rfl rfl rfl rfl rfl rfl rfl rfl rfl ?_; ((first | exact trivial | (simp only [i64ok, true_and, and_true, Int.toNat_natCast]; omega) | (simp only [i64ok, true_and, and_true, Int.toNat_natCast] at *; omega)))))
              ((refine go_app hn tb_ok [(⟨false, (s.cases.getD i dCase).chan, (s.cases.getD i dCase).send, ⟨n, i, g.regs.getD (s.cases.getD i dCase).reg.toNat 0⟩⟩ : MPlace)] rfl ?_ rfl rfl rfl rfl rfl rfl rfl rfl ?_ ?_; ((first | exact trivial | (simp only [i64ok, true_and, and_true, Int.toNat_natCast]; omega) | (simp only [i64ok, true_and, and_true, Int.toNat_natCast] at *; omega)))))
              · show (_ + 1) * 48 ≤ _; omega
              ((refine go_stop hn tb_ok rfl ?_ ⟨i + 1, ⟨?_, ?_⟩, ?_, ?_⟩; ((first | exact trivial | (simp only [i64ok, true_and, and_true, Int.toNat_natCast]; omega) | (simp only [i64ok, true_and, and_true, Int.toNat_natCast] at *; omega)))))
              · omega
              · trivial
              · show s.cases.length - (i + 1) < s.cases.length - i; omega
              · ((refine le_of [(100, 88), (12, 999)] ?_ ?_ rfl; ((repeat' (first | exact trivial | refine And.intro rfl ?_))); ((repeat' (first | exact trivial | refine And.intro rfl ?_)))))
                refine And.intro (congrArg (fun q => some (Blk.row 199 6 dPlace cPlace q)) ?_) ?_
                · rw [gather_next, casePl, if_neg (by omega), if_pos hc, hreg]
                · (repeat' (first | exact trivial | refine And.intro rfl ?_))
            · ((refine go_lit hn tb_ok dPlace cPlace [(⟨false, (s.cases.getD i dCase).chan, (s.cases.getD i dCase).send, ⟨n, i, 0⟩⟩ : MPlace)] rfl ?_ rfl rfl rfl rfl rfl rfl rfl rfl rfl ?_; ((first | exact trivial | (simp only [i64ok, true_and, and_true, Int.toNat_natCast]; omega) | (simp only [i64ok, true_and, and_true, Int.toNat_natCast] at *; omega)))))
              ((refine go_app hn tb_ok [(⟨false, (s.cases.getD i dCase).chan, (s.cases.getD i dCase).send, ⟨n, i, 0⟩⟩ : MPlace)] rfl ?_ rfl rfl rfl rfl rfl rfl rfl rfl ?_ ?_; ((first | exact trivial | (simp only [i64ok, true_and, and_true, Int.toNat_natCast]; omega) | (simp only [i64ok, true_and, and_true, Int.toNat_natCast] at *; omega)))))
              · show (_ + 1) * 48 ≤ _; omega
              ((refine go_stop hn tb_ok rfl ?_ ⟨i + 1, ⟨?_, ?_⟩, ?_, ?_⟩; ((first | exact trivial | (simp only [i64ok, true_and, and_true, Int.toNat_natCast]; omega) | (simp only [i64ok, true_and, and_true, Int.toNat_natCast] at *; omega)))))
              · omega
              · trivial
              · show s.cases.length - (i + 1) < s.cases.length - i; omega
              · ((refine le_of [(100, 88), (12, 999)] ?_ ?_ rfl; ((repeat' (first | exact trivial | refine And.intro rfl ?_))); ((repeat' (first | exact trivial | refine And.intro rfl ?_)))))
                refine And.intro (congrArg (fun q => some (Blk.row 199 6 dPlace cPlace q)) ?_) ?_
                · rw [gather_next, casePl, if_neg (by omega), if_neg (by rw [hc]; exact Bool.false_ne_true)]
                · (repeat' (first | exact trivial | refine And.intro rfl ?_))
        · ((refine go_ret hn tb_ok rfl ?_ ⟨_, rfl, ?_⟩; ((first | exact trivial | (simp only [i64ok, true_and, and_true, Int.toNat_natCast]; omega) | (simp only [i64ok, true_and, and_true, Int.toNat_natCast] at *; omega)))))
          have hie : i = s.cases.length := by omega
          subst hie
          rfl
      · ((refine go_cond hn tb_ok rfl ?_ (fun hc => ?_) (fun hc => ?_); ((first | exact trivial | (simp only [i64ok, true_and, and_true, Int.toNat_natCast]; omega) | (simp only [i64ok, true_and, and_true, Int.toNat_natCast] at *; omega))); all_goals (try (((try simp only [decide_eq_true_eq, decide_eq_false_iff_not, Bool.not_eq_true', Bool.not_eq_false', Bool.not_eq_eq_eq_not, Bool.not_true, Bool.not_false, Int.not_lt, Int.not_le, Int.toNat_natCast, beq_iff_eq, beq_eq_false_iff_ne, ne_eq] at hc); (try (first | simp only [rest_iff, rest_iff', isReg_iff, isReg_iff', isVal_iff, isVal_iff', isIn_iff, isIn_iff', isChan_iff, isChan_iff'] at hc | simp only [(fields_iff _).1, (fields_iff _).2.1, (fields_iff _).2.2, isReg_iff, isReg_iff', isVal_iff, isVal_iff', isIn_iff, isIn_iff', isChan_iff, isChan_iff'] at hc | skip)); try (exfalso; omega))))))
        · ((refine go_lit hn tb_ok dPlace cPlace [(⟨true, (instrAt p g).a, false, ⟨n, -1, 0⟩⟩ : MPlace)] rfl ?_ rfl rfl rfl rfl rfl rfl rfl rfl rfl ?_; ((first | exact trivial | (simp only [i64ok, true_and, and_true, Int.toNat_natCast]; omega) | (simp only [i64ok, true_and, and_true, Int.toNat_natCast] at *; omega)))))
          ((refine go_app hn tb_ok [(⟨true, (instrAt p g).a, false, ⟨n, -1, 0⟩⟩ : MPlace)] rfl ?_ rfl rfl rfl rfl rfl rfl rfl rfl ?_ ?_; ((first | exact trivial | (simp only [i64ok, true_and, and_true, Int.toNat_natCast]; omega) | (simp only [i64ok, true_and, and_true, Int.toNat_natCast] at *; omega)))))
          · show (0 + 1) * 48 ≤ _; omega
          ((refine go_ret hn tb_ok rfl ?_ ⟨_, rfl, ?_⟩; ((first | exact trivial | (simp only [i64ok, true_and, and_true, Int.toNat_natCast]; omega) | (simp only [i64ok, true_and, and_true, Int.toNat_natCast] at *; omega)))))
          rw [placesOf, if_neg (by omega), if_neg (by omega), if_neg (by omega), if_pos (by omega)]; rfl
        · ((refine go_ret hn tb_ok rfl ?_ ⟨_, rfl, ?_⟩; ((first | exact trivial | (simp only [i64ok, true_and, and_true, Int.toNat_natCast]; omega) | (simp only [i64ok, true_and, and_true, Int.toNat_natCast] at *; omega)))))
          rw [placesOf, if_neg (by omega), if_neg (by omega), if_neg (by omega), if_neg (by omega)]; rfl
end Go.Proofs.YtjmefaihkblliaaGreat.Ab
/- Whether a case is ready, by both programs, walked by the abstract machine. Conditions: none. -/
namespace Go.Proofs.YtjmefaihkblliaaGreat.Ab
set_option linter.unusedVariables false
set_option linter.unusedSimpArgs false
set_option maxRecDepth 100000
def caseReady (e : MEng) (x : MCase) : Bool := decide (0 ≤ x.chan ∧ x.chan < e.chans.length) && (if x.send = true then canSend (e.chans.getD x.chan.toNat dChan) else canRecv (e.chans.getD x.chan.toNat dChan))
theorem okEng {e : MEng} (h : OkL (.dagg (cEng e))) : e.gs.length ≤ (9223372036854775807 : Nat) ∧ e.chans.length ≤ (9223372036854775807 : Nat) ∧ e.mus.length ≤ (9223372036854775807 : Nat) :=
  ⟨(h (rows_Gor e.gs) (by simp [cEng])).len, (h (rows_Chan e.chans) (by simp [cEng])).len, (h (rows_Mutex e.mus) (by simp [cEng])).len⟩
theorem con_spec_CaseReady (e : MEng) (x : MCase) : Con Tryz.prog 232 [.dagg (cEng e), .dagg (cCase x)] (.dat (.bool (caseReady e x))) := by
  refine con_body (rs := [(.tmp 4, 4)]) tb_ok Tryz.func232 rfl rfl rfl (Nat.le_of_ble_eq_true rfl) fun ho x hn => ?_
  obtain ⟨hb1, hb2, hb3⟩ := okEng (ho (.dagg (cEng e)) (by simp))
  (repeat' (first
  | (refine go_cond hn tb_ok rfl ?_ (fun hc => ?_) (fun hc => ?_); ((first | exact trivial | (simp only [i64ok, true_and, and_true, Int.toNat_natCast]; omega) | (simp only [i64ok, true_and, and_true, Int.toNat_natCast] at *; omega))); all_goals (try (((try simp only [decide_eq_true_eq, decide_eq_false_iff_not, Bool.not_eq_true', Bool.not_eq_false', Bool.not_eq_eq_eq_not, Bool.not_true, Bool.not_false, Int.not_lt, Int.not_le, Int.toNat_natCast, beq_iff_eq, beq_eq_false_iff_ne, ne_eq] at hc); (try (first | simp only [rest_iff, rest_iff', isReg_iff, isReg_iff', isVal_iff, isVal_iff', isIn_iff, isIn_iff', isChan_iff, isChan_iff'] at hc | simp only [(fields_iff _).1, (fields_iff _).2.1, (fields_iff _).2.2, isReg_iff, isReg_iff', isVal_iff, isVal_iff', isIn_iff, isIn_iff', isChan_iff, isChan_iff'] at hc | skip)); try (exfalso; omega)))))
  | (refine go_ret hn tb_ok rfl ?_ ⟨_, rfl, ?_⟩; ((first | exact trivial | (simp only [i64ok, true_and, and_true, Int.toNat_natCast]; omega) | (simp only [i64ok, true_and, and_true, Int.toNat_natCast] at *; omega))))
  | ((refine go_con hn tb_ok rfl ?_ rfl [] ⟨_, ?_, rfl, ?_, ?_, ?_, ?_⟩; ((first | exact trivial | (simp only [i64ok, true_and, and_true, Int.toNat_natCast]; omega) | (simp only [i64ok, true_and, and_true, Int.toNat_natCast] at *; omega))); rotate_left; ((first | exact con_spec_CanRecv _ | exact con_spec_CanSend _ | assumption)); (rfl); (first | exact .inl rfl | exact .inr (fun id hi => lk3_ok hi))))))
  all_goals (refine congrArg (fun b => LV.dat (.bool b)) (Eq.symm ?_); rw [caseReady])
  all_goals first
    | (rw [decide_eq_false (by omega)]; rfl)
    | (rw [decide_eq_true (by omega), Bool.true_and, if_pos hc])
    | (rw [decide_eq_true (by omega), Bool.true_and, if_neg (by rw [hc]; exact Bool.false_ne_true)])
theorem con_impl_CaseReady (e : MEng) (x : MCase) : Con Tryz.prog 200 [.dagg (cEng e), .dagg (cCase x)] (.dat (.bool (caseReady e x))) := by
  refine con_body (rs := [(.tmp 4, 4)]) tb_ok Tryz.func200 rfl rfl rfl (Nat.le_of_ble_eq_true rfl) fun ho x hn => ?_
  obtain ⟨hb1, hb2, hb3⟩ := okEng (ho (.dagg (cEng e)) (by simp))
  (repeat' (first
  | (refine go_cond hn tb_ok rfl ?_ (fun hc => ?_) (fun hc => ?_); ((first | exact trivial | (simp only [i64ok, true_and, and_true, Int.toNat_natCast]; omega) | (simp only [i64ok, true_and, and_true, Int.toNat_natCast] at *; omega))); all_goals (try (((try simp only [decide_eq_true_eq, decide_eq_false_iff_not, Bool.not_eq_true', Bool.not_eq_false', Bool.not_eq_eq_eq_not, Bool.not_true, Bool.not_false, Int.not_lt, Int.not_le, Int.toNat_natCast, beq_iff_eq, beq_eq_false_iff_ne, ne_eq] at hc); (try (first | simp only [rest_iff, rest_iff', isReg_iff, isReg_iff', isVal_iff, isVal_iff', isIn_iff, isIn_iff', isChan_iff, isChan_iff'] at hc | simp only [(fields_iff _).1, (fields_iff _).2.1, (fields_iff _).2.2, isReg_iff, isReg_iff', isVal_iff, isVal_iff', isIn_iff, isIn_iff', isChan_iff, isChan_iff'] at hc | skip)); try (exfalso; omega)))))
  | (refine go_ret hn tb_ok rfl ?_ ⟨_, rfl, ?_⟩; ((first | exact trivial | (simp only [i64ok, true_and, and_true, Int.toNat_natCast]; omega) | (simp only [i64ok, true_and, and_true, Int.toNat_natCast] at *; omega))))
  | ((refine go_con hn tb_ok rfl ?_ rfl [] ⟨_, ?_, rfl, ?_, ?_, ?_, ?_⟩; ((first | exact trivial | (simp only [i64ok, true_and, and_true, Int.toNat_natCast]; omega) | (simp only [i64ok, true_and, and_true, Int.toNat_natCast] at *; omega))); rotate_left; ((first | exact con_impl_CanRecv _ | exact con_impl_CanSend _ | exact con_impl_within _ _ _ | assumption)); (rfl); (first | exact .inl rfl | exact .inr (fun id hi => lk3_ok hi))))))
  all_goals (refine congrArg (fun b => LV.dat (.bool b)) (Eq.symm ?_); rw [caseReady])
  all_goals first
    | (rw [decide_eq_false (by omega)]; rfl)
    | (rw [decide_eq_true (by omega), Bool.true_and, if_pos hc])
    | (rw [decide_eq_true (by omega), Bool.true_and, if_neg (by rw [hc]; exact Bool.false_ne_true)])
end Go.Proofs.YtjmefaihkblliaaGreat.Ab
/- The cases that are ready, by both programs, walked by the abstract machine. Conditions: none. -/
namespace Go.Proofs.YtjmefaihkblliaaGreat.Ab
set_option linter.unusedVariables false
set_option linter.unusedSimpArgs false
set_option maxRecDepth 100000
def readyAt (e : MEng) (cs : List MCase) (k : Nat) : List Int := if caseReady e (cs.getD k dCase) = true then [(k : Int)] else []
theorem readyAt_len (e : MEng) (cs : List MCase) (k : Nat) : (readyAt e cs k).length ≤ 1 := by
  unfold readyAt; split <;> simp
def readyCs (e : MEng) (cs : List MCase) : List Int := gatherN (readyAt e cs) cs.length
theorem con_impl_readyCases (e : MEng) (s : MSelect) (hs : s.cases.length ≤ 1048576) : Con Tryz.prog 139 [.dagg (cEng e), .dagg (cSelect s)] (.dat (ints (readyCs e s.cases))) := by
  refine con_body (rs := [(.tmp 4, 22)]) tb_ok Tryz.func139 rfl rfl rfl (Nat.le_of_ble_eq_true rfl) fun ho x hn => ?_
  ((refine go_lit hn tb_ok (0 : Int) iC ([] : List Int) rfl ?_ rfl rfl rfl rfl rfl rfl rfl rfl rfl ?_; ((first | exact trivial | (simp only [i64ok, true_and, and_true, Int.toNat_natCast]; omega) | (simp only [i64ok, true_and, and_true, Int.toNat_natCast] at *; omega)))))
  ((refine go_loop hn tb_ok rfl ?_ (fun (wI : Nat) wT wM => ((12, .dat (.int .i64 wI)) :: (5, .own 100) :: ([(8, .no)] ++ wT), (100, some ((fun i => .row 3 1 (0 : Int) iC (gatherN (readyAt e s.cases) i)) wI)) :: ([(8, none)] ++ wM))) (fun wI => wI ≤ s.cases.length ∧ (fun _ => True) wI) (fun wI => s.cases.length - wI) 0 ⟨Nat.zero_le _, ?_⟩ (le_of [(100, 8), (8, 999)] ?_ ?_ rfl) ?_; ((first | exact trivial | (simp only [i64ok, true_and, and_true, Int.toNat_natCast]; omega) | (simp only [i64ok, true_and, and_true, Int.toNat_natCast] at *; omega)))))
  · trivial
  · (repeat' (first | exact trivial | refine And.intro rfl ?_))
  · (repeat' (first | exact trivial | refine And.intro rfl ?_))
  rintro i ⟨hi, _⟩
  have hle := gather_len (readyAt_len e s.cases) i
  ((refine go_cond hn tb_ok rfl ?_ (fun hc => ?_) (fun hc => ?_); ((first | exact trivial | (simp only [i64ok, true_and, and_true, Int.toNat_natCast]; omega) | (simp only [i64ok, true_and, and_true, Int.toNat_natCast] at *; omega))); all_goals (try (((try simp only [decide_eq_true_eq, decide_eq_false_iff_not, Bool.not_eq_true', Bool.not_eq_false', Bool.not_eq_eq_eq_not, Bool.not_true, Bool.not_false, Int.not_lt, Int.not_le, Int.toNat_natCast, beq_iff_eq, beq_eq_false_iff_ne, ne_eq] at hc); (try (first | simp only [rest_iff, rest_iff', isReg_iff, isReg_iff', isVal_iff, isVal_iff', isIn_iff, isIn_iff', isChan_iff, isChan_iff'] at hc | simp only [(fields_iff _).1, (fields_iff _).2.1, (fields_iff _).2.2, isReg_iff, isReg_iff', isVal_iff, isVal_iff', isIn_iff, isIn_iff', isChan_iff, isChan_iff'] at hc | skip)); try (exfalso; omega))))))
  · have hlt : i < s.cases.length := by omega
    ((refine go_con hn tb_ok rfl ?_ rfl [] ⟨_, ?_, rfl, ?_, ?_, ?_, ?_⟩; ((first | exact trivial | (simp only [i64ok, true_and, and_true, Int.toNat_natCast]; omega) | (simp only [i64ok, true_and, and_true, Int.toNat_natCast] at *; omega))); rotate_left; ((first | exact con_impl_CaseReady _ _ | assumption)); (rfl); (first | exact .inl rfl | exact .inr (fun id hi => lk3_ok hi))))
    ((refine go_cond hn tb_ok rfl ?_ (fun hc => ?_) (fun hc => ?_); ((first | exact trivial | (simp only [i64ok, true_and, and_true, Int.toNat_natCast]; omega) | (simp only [i64ok, true_and, and_true, Int.toNat_natCast] at *; omega))); all_goals (try (((try simp only [decide_eq_true_eq, decide_eq_false_iff_not, Bool.not_eq_true', Bool.not_eq_false', Bool.not_eq_eq_eq_not, Bool.not_true, Bool.not_false, Int.not_lt, Int.not_le, Int.toNat_natCast, beq_iff_eq, beq_eq_false_iff_ne, ne_eq] at hc); (try (first | simp only [rest_iff, rest_iff', isReg_iff, isReg_iff', isVal_iff, isVal_iff', isIn_iff, isIn_iff', isChan_iff, isChan_iff'] at hc | simp only [(fields_iff _).1, (fields_iff _).2.1, (fields_iff _).2.2, isReg_iff, isReg_iff', isVal_iff, isVal_iff', isIn_iff, isIn_iff', isChan_iff, isChan_iff'] at hc | skip)); try (exfalso; omega))))))
    · ((refine go_lit hn tb_ok (0 : Int) iC [(i : Int)] rfl ?_ rfl rfl rfl rfl rfl rfl rfl rfl rfl ?_; ((first | exact trivial | (simp only [i64ok, true_and, and_true, Int.toNat_natCast]; omega) | (simp only [i64ok, true_and, and_true, Int.toNat_natCast] at *; omega)))))
      ((refine go_app hn tb_ok [(i : Int)] rfl ?_ rfl rfl rfl rfl rfl rfl rfl rfl ?_ ?_; ((first | exact trivial | (simp only [i64ok, true_and, and_true, Int.toNat_natCast]; omega) | (simp only [i64ok, true_and, and_true, Int.toNat_natCast] at *; omega)))))
      · show (_ + 1) * 8 ≤ _; omega
      ((refine go_stop hn tb_ok rfl ?_ ⟨i + 1, ⟨?_, ?_⟩, ?_, ?_⟩; ((first | exact trivial | (simp only [i64ok, true_and, and_true, Int.toNat_natCast]; omega) | (simp only [i64ok, true_and, and_true, Int.toNat_natCast] at *; omega)))))
      · omega
      · trivial
      · show s.cases.length - (i + 1) < s.cases.length - i; omega
      · ((refine le_of [(100, 23), (8, 999)] ?_ ?_ rfl; ((repeat' (first | exact trivial | refine And.intro rfl ?_))); ((repeat' (first | exact trivial | refine And.intro rfl ?_)))))
        refine And.intro (congrArg (fun q => some (Blk.row 3 1 (0 : Int) iC q)) ?_) ?_
        · rw [gather_next, readyAt, if_pos hc]
        · (repeat' (first | exact trivial | refine And.intro rfl ?_))
    · ((refine go_stop hn tb_ok rfl ?_ ⟨i + 1, ⟨?_, ?_⟩, ?_, ?_⟩; ((first | exact trivial | (simp only [i64ok, true_and, and_true, Int.toNat_natCast]; omega) | (simp only [i64ok, true_and, and_true, Int.toNat_natCast] at *; omega)))))
      · omega
      · trivial
      · show s.cases.length - (i + 1) < s.cases.length - i; omega
      · ((refine le_of [(8, 999)] ?_ ?_ rfl; ((repeat' (first | exact trivial | refine And.intro rfl ?_))); ((repeat' (first | exact trivial | refine And.intro rfl ?_)))))
        refine And.intro (congrArg (fun q => some (Blk.row 3 1 (0 : Int) iC q)) ?_) ?_
        · rw [gather_next, readyAt, if_neg (by rw [hc]; exact Bool.false_ne_true), List.append_nil]
        · (repeat' (first | exact trivial | refine And.intro rfl ?_))
  · ((refine go_ret hn tb_ok rfl ?_ ⟨_, rfl, ?_⟩; ((first | exact trivial | (simp only [i64ok, true_and, and_true, Int.toNat_natCast]; omega) | (simp only [i64ok, true_and, and_true, Int.toNat_natCast] at *; omega)))))
    have hie : i = s.cases.length := by omega
    subst hie
    rfl
theorem con_spec_l11Ready (p : MProg) (e : MEng) (k : Int) (h0 : 0 ≤ k ∧ k < p.sels.length) (hs : (p.sels.getD k.toNat dSelect).cases.length ≤ 1048576) : Con Tryz.prog 184 [.dagg (cProg p), .dagg (cEng e), .dat (.int .i64 k)] (.dat (ints (readyCs e (p.sels.getD k.toNat dSelect).cases))) := by
  refine con_body (rs := [(.tmp 6, 22)]) tb_ok Tryz.func184 rfl rfl rfl (Nat.le_of_ble_eq_true rfl) fun ho x hn => ?_
  ((refine go_lit hn tb_ok (0 : Int) iC ([] : List Int) rfl ?_ rfl rfl rfl rfl rfl rfl rfl rfl rfl ?_; ((first | exact trivial | (simp only [i64ok, true_and, and_true, Int.toNat_natCast]; omega) | (simp only [i64ok, true_and, and_true, Int.toNat_natCast] at *; omega)))))
  ((refine go_loop hn tb_ok rfl ?_ (fun (wI : Nat) wT wM => ((18, .dat (.int .i64 wI)) :: (7, .own 100) :: ([(10, .no)] ++ wT), (100, some ((fun i => .row 3 1 (0 : Int) iC (gatherN (readyAt e (p.sels.getD k.toNat dSelect).cases) i)) wI)) :: ([(10, none)] ++ wM))) (fun wI => wI ≤ ((p.sels.getD k.toNat dSelect).cases.length) ∧ (fun _ => True) wI) (fun wI => ((p.sels.getD k.toNat dSelect).cases.length) - wI) 0 ⟨Nat.zero_le _, ?_⟩ (le_of [(100, 10), (10, 999)] ?_ ?_ rfl) ?_; ((first | exact trivial | (simp only [i64ok, true_and, and_true, Int.toNat_natCast]; omega) | (simp only [i64ok, true_and, and_true, Int.toNat_natCast] at *; omega)))))
  · trivial
  · (repeat' (first | exact trivial | refine And.intro rfl ?_))
  · (repeat' (first | exact trivial | refine And.intro rfl ?_))
  rintro i ⟨hi, _⟩
  have hle := gather_len (readyAt_len e (p.sels.getD k.toNat dSelect).cases) i
  ((refine go_cond hn tb_ok rfl ?_ (fun hc => ?_) (fun hc => ?_); ((first | exact trivial | (simp only [i64ok, true_and, and_true, Int.toNat_natCast]; omega) | (simp only [i64ok, true_and, and_true, Int.toNat_natCast] at *; omega))); all_goals (try (((try simp only [decide_eq_true_eq, decide_eq_false_iff_not, Bool.not_eq_true', Bool.not_eq_false', Bool.not_eq_eq_eq_not, Bool.not_true, Bool.not_false, Int.not_lt, Int.not_le, Int.toNat_natCast, beq_iff_eq, beq_eq_false_iff_ne, ne_eq] at hc); (try (first | simp only [rest_iff, rest_iff', isReg_iff, isReg_iff', isVal_iff, isVal_iff', isIn_iff, isIn_iff', isChan_iff, isChan_iff'] at hc | simp only [(fields_iff _).1, (fields_iff _).2.1, (fields_iff _).2.2, isReg_iff, isReg_iff', isVal_iff, isVal_iff', isIn_iff, isIn_iff', isChan_iff, isChan_iff'] at hc | skip)); try (exfalso; omega))))))
  · have hlt : i < (p.sels.getD k.toNat dSelect).cases.length := by omega
    ((refine go_con hn tb_ok rfl ?_ rfl [] ⟨_, ?_, rfl, ?_, ?_, ?_, ?_⟩; ((first | exact trivial | (simp only [i64ok, true_and, and_true, Int.toNat_natCast]; omega) | (simp only [i64ok, true_and, and_true, Int.toNat_natCast] at *; omega))); rotate_left; ((first | exact con_spec_CaseReady _ _ | assumption)); (rfl); (first | exact .inl rfl | exact .inr (fun id hi => lk3_ok hi))))
    ((refine go_cond hn tb_ok rfl ?_ (fun hc => ?_) (fun hc => ?_); ((first | exact trivial | (simp only [i64ok, true_and, and_true, Int.toNat_natCast]; omega) | (simp only [i64ok, true_and, and_true, Int.toNat_natCast] at *; omega))); all_goals (try (((try simp only [decide_eq_true_eq, decide_eq_false_iff_not, Bool.not_eq_true', Bool.not_eq_false', Bool.not_eq_eq_eq_not, Bool.not_true, Bool.not_false, Int.not_lt, Int.not_le, Int.toNat_natCast, beq_iff_eq, beq_eq_false_iff_ne, ne_eq] at hc); (try (first | simp only [rest_iff, rest_iff', isReg_iff, isReg_iff', isVal_iff, isVal_iff', isIn_iff, isIn_iff', isChan_iff, isChan_iff'] at hc | simp only [(fields_iff _).1, (fields_iff _).2.1, (fields_iff _).2.2, isReg_iff, isReg_iff', isVal_iff, isVal_iff', isIn_iff, isIn_iff', isChan_iff, isChan_iff'] at hc | skip)); try (exfalso; omega))))))
    · ((refine go_lit hn tb_ok (0 : Int) iC [(i : Int)] rfl ?_ rfl rfl rfl rfl rfl rfl rfl rfl rfl ?_; ((first | exact trivial | (simp only [i64ok, true_and, and_true, Int.toNat_natCast]; omega) | (simp only [i64ok, true_and, and_true, Int.toNat_natCast] at *; omega)))))
      ((refine go_app hn tb_ok [(i : Int)] rfl ?_ rfl rfl rfl rfl rfl rfl rfl rfl ?_ ?_; ((first | exact trivial | (simp only [i64ok, true_and, and_true, Int.toNat_natCast]; omega) | (simp only [i64ok, true_and, and_true, Int.toNat_natCast] at *; omega)))))
      · show (_ + 1) * 8 ≤ _; omega
      ((refine go_stop hn tb_ok rfl ?_ ⟨i + 1, ⟨?_, ?_⟩, ?_, ?_⟩; ((first | exact trivial | (simp only [i64ok, true_and, and_true, Int.toNat_natCast]; omega) | (simp only [i64ok, true_and, and_true, Int.toNat_natCast] at *; omega)))))
      · omega
      · trivial
      · show (p.sels.getD k.toNat dSelect).cases.length - (i + 1) < (p.sels.getD k.toNat dSelect).cases.length - i; omega
      · ((refine le_of [(100, 29), (10, 999)] ?_ ?_ rfl; ((repeat' (first | exact trivial | refine And.intro rfl ?_))); ((repeat' (first | exact trivial | refine And.intro rfl ?_)))))
        refine And.intro (congrArg (fun q => some (Blk.row 3 1 (0 : Int) iC q)) ?_) ?_
        · rw [gather_next, readyAt, if_pos hc]
        · (repeat' (first | exact trivial | refine And.intro rfl ?_))
    · ((refine go_stop hn tb_ok rfl ?_ ⟨i + 1, ⟨?_, ?_⟩, ?_, ?_⟩; ((first | exact trivial | (simp only [i64ok, true_and, and_true, Int.toNat_natCast]; omega) | (simp only [i64ok, true_and, and_true, Int.toNat_natCast] at *; omega)))))
      · omega
      · trivial
      · show (p.sels.getD k.toNat dSelect).cases.length - (i + 1) < (p.sels.getD k.toNat dSelect).cases.length - i; omega
      · ((refine le_of [(10, 999)] ?_ ?_ rfl; ((repeat' (first | exact trivial | refine And.intro rfl ?_))); ((repeat' (first | exact trivial | refine And.intro rfl ?_)))))
        refine And.intro (congrArg (fun q => some (Blk.row 3 1 (0 : Int) iC q)) ?_) ?_
        · rw [gather_next, readyAt, if_neg (by rw [hc]; exact Bool.false_ne_true), List.append_nil]
        · (repeat' (first | exact trivial | refine And.intro rfl ?_))
  · ((refine go_ret hn tb_ok rfl ?_ ⟨_, rfl, ?_⟩; ((first | exact trivial | (simp only [i64ok, true_and, and_true, Int.toNat_natCast]; omega) | (simp only [i64ok, true_and, and_true, Int.toNat_natCast] at *; omega)))))
    have hie : i = (p.sels.getD k.toNat dSelect).cases.length := by omega
    subst hie
    rfl
end Go.Proofs.YtjmefaihkblliaaGreat.Ab
/- The program's Places, walked by the abstract machine. Conditions: none. -/
namespace Go.Proofs.YtjmefaihkblliaaGreat.Ab
set_option linter.unusedVariables false
set_option linter.unusedSimpArgs false
set_option maxRecDepth 100000
def waitPl (p : MProg) (g : MGor) (n : Int) : List MPlace := if gorOk p g = true ∧ g.state = 2 ∧ 0 ≤ n then placesOf p g n else []
theorem con_impl_Places (p : MProg) (g : MGor) (n : Int) : Con Tryz.prog 134 [.dagg (cProg p), .dagg (cGor g), .dat (.int .i64 n)] (.dat (rows_Place (waitPl p g n))) := by
  refine con_body (rs := [(.tmp 6, 170)]) tb_ok Tryz.func134 rfl rfl rfl (Nat.le_of_ble_eq_true rfl) fun ho x hn => ?_
  ((refine go_con hn tb_ok rfl ?_ rfl [] ⟨_, ?_, rfl, ?_, ?_, ?_, ?_⟩; ((first | exact trivial | (simp only [i64ok, true_and, and_true, Int.toNat_natCast]; omega) | (simp only [i64ok, true_and, and_true, Int.toNat_natCast] at *; omega))); rotate_left; ((first | exact con_impl_GorOk _ _ | assumption)); (rfl); (first | exact .inl rfl | exact .inr (fun id hi => lk3_ok hi))))
  ((refine go_cond hn tb_ok rfl ?_ (fun hc => ?_) (fun hc => ?_); ((first | exact trivial | (simp only [i64ok, true_and, and_true, Int.toNat_natCast]; omega) | (simp only [i64ok, true_and, and_true, Int.toNat_natCast] at *; omega))); all_goals (try (((try simp only [decide_eq_true_eq, decide_eq_false_iff_not, Bool.not_eq_true', Bool.not_eq_false', Bool.not_eq_eq_eq_not, Bool.not_true, Bool.not_false, Int.not_lt, Int.not_le, Int.toNat_natCast, beq_iff_eq, beq_eq_false_iff_ne, ne_eq] at hc); (try (first | simp only [rest_iff, rest_iff', isReg_iff, isReg_iff', isVal_iff, isVal_iff', isIn_iff, isIn_iff', isChan_iff, isChan_iff'] at hc | simp only [(fields_iff _).1, (fields_iff _).2.1, (fields_iff _).2.2, isReg_iff, isReg_iff', isVal_iff, isVal_iff', isIn_iff, isIn_iff', isChan_iff, isChan_iff'] at hc | skip)); try (exfalso; omega))))))
  · (repeat' (first
  | (refine go_cond hn tb_ok rfl ?_ (fun hc => ?_) (fun hc => ?_); ((first | exact trivial | (simp only [i64ok, true_and, and_true, Int.toNat_natCast]; omega) | (simp only [i64ok, true_and, and_true, Int.toNat_natCast] at *; omega))); all_goals (try (((try simp only [decide_eq_true_eq, decide_eq_false_iff_not, Bool.not_eq_true', Bool.not_eq_false', Bool.not_eq_eq_eq_not, Bool.not_true, Bool.not_false, Int.not_lt, Int.not_le, Int.toNat_natCast, beq_iff_eq, beq_eq_false_iff_ne, ne_eq] at hc); (try (first | simp only [rest_iff, rest_iff', isReg_iff, isReg_iff', isVal_iff, isVal_iff', isIn_iff, isIn_iff', isChan_iff, isChan_iff'] at hc | simp only [(fields_iff _).1, (fields_iff _).2.1, (fields_iff _).2.2, isReg_iff, isReg_iff', isVal_iff, isVal_iff', isIn_iff, isIn_iff', isChan_iff, isChan_iff'] at hc | skip)); try (exfalso; omega)))))
  | (refine go_ret hn tb_ok rfl ?_ ⟨_, rfl, ?_⟩; ((first | exact trivial | (simp only [i64ok, true_and, and_true, Int.toNat_natCast]; omega) | (simp only [i64ok, true_and, and_true, Int.toNat_natCast] at *; omega))))
  | ((refine go_con hn tb_ok rfl ?_ rfl [] ⟨_, ?_, rfl, ?_, ?_, ?_, ?_⟩; ((first | exact trivial | (simp only [i64ok, true_and, and_true, Int.toNat_natCast]; omega) | (simp only [i64ok, true_and, and_true, Int.toNat_natCast] at *; omega))); rotate_left; ((first | exact con_impl_GorOk _ _ | assumption)); (rfl); (first | exact .inl rfl | exact .inr (fun id hi => lk3_ok hi))))))
    rw [waitPl, if_neg (by rw [hc]; exact fun h => Bool.false_ne_true h.1)]; rfl
  have hk := hc
  clear hc
  have hp : progOk p = true := by rw [gorOk, Bool.and_eq_true] at hk; exact hk.1
  have hg : gorHead p g = true := by rw [gorOk, gorOk0, Bool.and_eq_true, Bool.and_eq_true] at hk; exact hk.2.1
  have hpl := con_impl_places p g n hp hg
  (repeat' (first
  | (refine go_cond hn tb_ok rfl ?_ (fun hc => ?_) (fun hc => ?_); ((first | exact trivial | (simp only [i64ok, true_and, and_true, Int.toNat_natCast]; omega) | (simp only [i64ok, true_and, and_true, Int.toNat_natCast] at *; omega))); all_goals (try (((try simp only [decide_eq_true_eq, decide_eq_false_iff_not, Bool.not_eq_true', Bool.not_eq_false', Bool.not_eq_eq_eq_not, Bool.not_true, Bool.not_false, Int.not_lt, Int.not_le, Int.toNat_natCast, beq_iff_eq, beq_eq_false_iff_ne, ne_eq] at hc); (try (first | simp only [rest_iff, rest_iff', isReg_iff, isReg_iff', isVal_iff, isVal_iff', isIn_iff, isIn_iff', isChan_iff, isChan_iff'] at hc | simp only [(fields_iff _).1, (fields_iff _).2.1, (fields_iff _).2.2, isReg_iff, isReg_iff', isVal_iff, isVal_iff', isIn_iff, isIn_iff', isChan_iff, isChan_iff'] at hc | skip)); try (exfalso; omega)))))
  | (refine go_ret hn tb_ok rfl ?_ ⟨_, rfl, ?_⟩; ((first | exact trivial | (simp only [i64ok, true_and, and_true, Int.toNat_natCast]; omega) | (simp only [i64ok, true_and, and_true, Int.toNat_natCast] at *; omega))))
  | ((refine go_con hn tb_ok rfl ?_ rfl [] ⟨_, ?_, rfl, ?_, ?_, ?_, ?_⟩; ((first | exact trivial | (simp only [i64ok, true_and, and_true, Int.toNat_natCast]; omega) | (simp only [i64ok, true_and, and_true, Int.toNat_natCast] at *; omega))); rotate_left; ((first | exact con_impl_GorOk _ _ | assumption)); (rfl); (first | exact .inl rfl | exact .inr (fun id hi => lk3_ok hi))))))
  · rw [waitPl, if_neg (by omega)]; rfl
  · rw [waitPl, if_neg (by omega)]; rfl
  · rw [waitPl, if_pos ⟨hk, by omega, by omega⟩]; rfl
end Go.Proofs.YtjmefaihkblliaaGreat.Ab
/- Who is ready at all, and how many ways there are: walked by the abstract machine. Conditions: none. -/
namespace Go.Proofs.YtjmefaihkblliaaGreat.Ab
set_option linter.unusedVariables false
set_option linter.unusedSimpArgs false
set_option maxRecDepth 100000
theorem con_spec_Ready (e : MEng) (hs : e.gs.length ≤ 1048576) : Con Tryz.prog 61 [.dagg (cEng e)] (.dat (ints (inState e 1))) := by
  refine con_body (rs := [(.tmp 2, 22)]) tb_ok Tryz.func61 rfl rfl rfl (Nat.le_of_ble_eq_true rfl) fun ho x hn => ?_
  have hk := con_in_spec.l09States e 1 hs
  (repeat' (first
  | (refine go_cond hn tb_ok rfl ?_ (fun hc => ?_) (fun hc => ?_); ((first | exact trivial | (simp only [i64ok, true_and, and_true, Int.toNat_natCast]; omega) | (simp only [i64ok, true_and, and_true, Int.toNat_natCast] at *; omega))); all_goals (try (((try simp only [decide_eq_true_eq, decide_eq_false_iff_not, Bool.not_eq_true', Bool.not_eq_false', Bool.not_eq_eq_eq_not, Bool.not_true, Bool.not_false, Int.not_lt, Int.not_le, Int.toNat_natCast, beq_iff_eq, beq_eq_false_iff_ne, ne_eq] at hc); (try (first | simp only [rest_iff, rest_iff', isReg_iff, isReg_iff', isVal_iff, isVal_iff', isIn_iff, isIn_iff', isChan_iff, isChan_iff'] at hc | simp only [(fields_iff _).1, (fields_iff _).2.1, (fields_iff _).2.2, isReg_iff, isReg_iff', isVal_iff, isVal_iff', isIn_iff, isIn_iff', isChan_iff, isChan_iff'] at hc | skip)); try (exfalso; omega)))))
  | (refine go_ret hn tb_ok rfl ?_ ⟨_, rfl, ?_⟩; ((first | exact trivial | (simp only [i64ok, true_and, and_true, Int.toNat_natCast]; omega) | (simp only [i64ok, true_and, and_true, Int.toNat_natCast] at *; omega))))
  | ((refine go_con hn tb_ok rfl ?_ rfl [] ⟨_, ?_, rfl, ?_, ?_, ?_, ?_⟩; ((first | exact trivial | (simp only [i64ok, true_and, and_true, Int.toNat_natCast]; omega) | (simp only [i64ok, true_and, and_true, Int.toNat_natCast] at *; omega))); rotate_left; (assumption); (rfl); (first | exact .inl rfl | exact .inr (fun id hi => lk3_ok hi))))))
  rfl
theorem con_impl_Ready (e : MEng) (hs : e.gs.length ≤ 1048576) : Con Tryz.prog 137 [.dagg (cEng e)] (.dat (ints (inState e 1))) := by
  refine con_body (rs := [(.tmp 2, 22)]) tb_ok Tryz.func137 rfl rfl rfl (Nat.le_of_ble_eq_true rfl) fun ho x hn => ?_
  have hk := con_in_impl.inState e 1 hs
  (repeat' (first
  | (refine go_cond hn tb_ok rfl ?_ (fun hc => ?_) (fun hc => ?_); ((first | exact trivial | (simp only [i64ok, true_and, and_true, Int.toNat_natCast]; omega) | (simp only [i64ok, true_and, and_true, Int.toNat_natCast] at *; omega))); all_goals (try (((try simp only [decide_eq_true_eq, decide_eq_false_iff_not, Bool.not_eq_true', Bool.not_eq_false', Bool.not_eq_eq_eq_not, Bool.not_true, Bool.not_false, Int.not_lt, Int.not_le, Int.toNat_natCast, beq_iff_eq, beq_eq_false_iff_ne, ne_eq] at hc); (try (first | simp only [rest_iff, rest_iff', isReg_iff, isReg_iff', isVal_iff, isVal_iff', isIn_iff, isIn_iff', isChan_iff, isChan_iff'] at hc | simp only [(fields_iff _).1, (fields_iff _).2.1, (fields_iff _).2.2, isReg_iff, isReg_iff', isVal_iff, isVal_iff', isIn_iff, isIn_iff', isChan_iff, isChan_iff'] at hc | skip)); try (exfalso; omega)))))
  | (refine go_ret hn tb_ok rfl ?_ ⟨_, rfl, ?_⟩; ((first | exact trivial | (simp only [i64ok, true_and, and_true, Int.toNat_natCast]; omega) | (simp only [i64ok, true_and, and_true, Int.toNat_natCast] at *; omega))))
  | ((refine go_con hn tb_ok rfl ?_ rfl [] ⟨_, ?_, rfl, ?_, ?_, ?_, ?_⟩; ((first | exact trivial | (simp only [i64ok, true_and, and_true, Int.toNat_natCast]; omega) | (simp only [i64ok, true_and, and_true, Int.toNat_natCast] at *; omega))); rotate_left; (assumption); (rfl); (first | exact .inl rfl | exact .inr (fun id hi => lk3_ok hi))))))
  rfl
end Go.Proofs.YtjmefaihkblliaaGreat.Ab
/- The engine's objects are right, by the reference: walked by the abstract machine. Conditions: none. -/
namespace Go.Proofs.YtjmefaihkblliaaGreat.Ab
set_option linter.unusedVariables false
set_option linter.unusedSimpArgs false
set_option maxRecDepth 100000
def chOk (p : MProg) (e : MEng) (k : Nat) : Bool := chanOk (e.chans.getD k dChan) && decide ((e.chans.getD k dChan).cap = p.caps.getD k 0)
def muOk (e : MEng) (k : Nat) : Bool := mutexOk (e.mus.getD k dMutex) && decide ((e.mus.getD k dMutex).owner < e.gs.length)
def objHead (p : MProg) (e : MEng) : Bool := decide (e.chans.length = p.caps.length ∧ (e.mus.length : Int) = p.mus)
def objOk (p : MProg) (e : MEng) : Bool := objHead p e && ((List.range e.chans.length).all (chOk p e) && (List.range e.mus.length).all (muOk e))
set_option maxHeartbeats 1000000 in
theorem con_spec_l09Objects (p : MProg) (e : MEng) : Con Tryz.prog 118 [.dagg (cProg p), .dagg (cEng e)] (.dat (.bool (objOk p e))) := by
  refine con_body (rs := [(.tmp 4, 4)]) tb_ok Tryz.func118 rfl rfl rfl (Nat.le_of_ble_eq_true rfl) fun ho x hn => ?_
  obtain ⟨hb1, hb2, hb3⟩ := okEng (ho (.dagg (cEng e)) (by simp))
  (repeat' (first
  | (refine go_cond hn tb_ok rfl ?_ (fun hc => ?_) (fun hc => ?_); ((first | exact trivial | (simp only [i64ok, true_and, and_true, Int.toNat_natCast]; omega) | (simp only [i64ok, true_and, and_true, Int.toNat_natCast] at *; omega))); all_goals (try (((try simp only [decide_eq_true_eq, decide_eq_false_iff_not, Bool.not_eq_true', Bool.not_eq_false', Bool.not_eq_eq_eq_not, Bool.not_true, Bool.not_false, Int.not_lt, Int.not_le, Int.toNat_natCast, beq_iff_eq, beq_eq_false_iff_ne, ne_eq] at hc); (try (first | simp only [rest_iff, rest_iff', isReg_iff, isReg_iff', isVal_iff, isVal_iff', isIn_iff, isIn_iff', isChan_iff, isChan_iff'] at hc | simp only [(fields_iff _).1, (fields_iff _).2.1, (fields_iff _).2.2, isReg_iff, isReg_iff', isVal_iff, isVal_iff', isIn_iff, isIn_iff', isChan_iff, isChan_iff'] at hc | skip)); try (exfalso; omega)))))
  | (refine go_ret hn tb_ok rfl ?_ ⟨_, rfl, ?_⟩; ((first | exact trivial | (simp only [i64ok, true_and, and_true, Int.toNat_natCast]; omega) | (simp only [i64ok, true_and, and_true, Int.toNat_natCast] at *; omega))))
  | ((refine go_con hn tb_ok rfl ?_ rfl [] ⟨_, ?_, rfl, ?_, ?_, ?_, ?_⟩; ((first | exact trivial | (simp only [i64ok, true_and, and_true, Int.toNat_natCast]; omega) | (simp only [i64ok, true_and, and_true, Int.toNat_natCast] at *; omega))); rotate_left; ((first | exact con_spec_MutexOk _ | exact con_spec_ChanOk _ | assumption)); (rfl); (first | exact .inl rfl | exact .inr (fun id hi => lk3_ok hi))))))
  all_goals (try (
    refine congrArg (fun b => LV.dat (.bool b)) (Eq.symm ?_)
    rw [objOk, objHead, decide_eq_false (by omega), Bool.false_and]))
  have hlen : e.chans.length = p.caps.length := by omega
  have hhd : objHead p e = true := by rw [objHead]; exact decide_eq_true (by omega)
  ((refine go_loop hn tb_ok rfl ?_ (fun (wI : Nat) wT wM => ((27, .dat (.int .i64 wI)) :: wT, wM)) (fun wI => wI ≤ e.chans.length ∧ (fun i => ∀ j < i, chOk p e j = true) wI) (fun wI => e.chans.length - wI) 0 ⟨Nat.zero_le _, ?_⟩ ?_ ?_; ((first | exact trivial | (simp only [i64ok, true_and, and_true, Int.toNat_natCast]; omega) | (simp only [i64ok, true_and, and_true, Int.toNat_natCast] at *; omega)))))
  · intro j hj; omega
  · ((refine le_of [] ?_ ?_ rfl; ((repeat' (first | exact trivial | refine And.intro rfl ?_))); ((repeat' (first | exact trivial | refine And.intro rfl ?_)))))
  rintro i ⟨hi, hq⟩
  ((refine go_cond hn tb_ok rfl ?_ (fun hc => ?_) (fun hc => ?_); ((first | exact trivial | (simp only [i64ok, true_and, and_true, Int.toNat_natCast]; omega) | (simp only [i64ok, true_and, and_true, Int.toNat_natCast] at *; omega))); all_goals (try (((try simp only [decide_eq_true_eq, decide_eq_false_iff_not, Bool.not_eq_true', Bool.not_eq_false', Bool.not_eq_eq_eq_not, Bool.not_true, Bool.not_false, Int.not_lt, Int.not_le, Int.toNat_natCast, beq_iff_eq, beq_eq_false_iff_ne, ne_eq] at hc); (try (first | simp only [rest_iff, rest_iff', isReg_iff, isReg_iff', isVal_iff, isVal_iff', isIn_iff, isIn_iff', isChan_iff, isChan_iff'] at hc | simp only [(fields_iff _).1, (fields_iff _).2.1, (fields_iff _).2.2, isReg_iff, isReg_iff', isVal_iff, isVal_iff', isIn_iff, isIn_iff', isChan_iff, isChan_iff'] at hc | skip)); try (exfalso; omega))))))
  · have hlt : i < e.chans.length := by omega
    have hno : chOk p e i = false → LV.dat (.bool false) = LV.dat (.bool (objOk p e)) := fun hh => by
      rw [objOk, range_no hlt hh, Bool.false_and, Bool.and_false]
    cases hk : chanOk (e.chans.getD i dChan)
    · ((refine go_draw hn tb_ok mix_ok [.r (.dat (.bool (chanOk (e.chans.getD i dChan)))), .b true] rfl ?_ rfl ?_ ?_ ?_ ?_; ((first | exact trivial | (simp only [i64ok, true_and, and_true, Int.toNat_natCast]; omega) | (simp only [i64ok, true_and, and_true, Int.toNat_natCast] at *; omega))); rotate_left; (kernel_rfl); (kernel_rfl); rotate_left))
      · (((try simp only [andO, true_and, and_true, Int.toNat_natCast, i64ok, decide_eq_true_eq, decide_eq_false_iff_not, Bool.not_eq_true', Bool.not_eq_false']); (repeat' (first | exact trivial | (first | exact con_spec_MutexOk _ | exact con_spec_ChanOk _ | assumption) | assumption | omega | exact does_litz _ _ hn tb_ok rfl rfl rfl rfl rfl rfl rfl rfl rfl rfl rfl | exact does_app _ hn tb_ok rfl ⟨rfl, _, _, _, rfl, rfl, rfl, rfl, rfl, rfl⟩ rfl rfl rfl rfl rfl rfl rfl (by simp only [List.length_cons, List.length_nil]; omega) | refine And.intro ?_ ?_))))
      · ((refine go_ret hn tb_ok rfl ?_ ⟨_, rfl, ?_⟩; ((first | exact trivial | (simp only [i64ok, true_and, and_true, Int.toNat_natCast]; omega) | (simp only [i64ok, true_and, and_true, Int.toNat_natCast] at *; omega)))))
        exact hno (by rw [chOk, hk]; rfl)
    · ((refine go_draw hn tb_ok mix_ok [.r (.dat (.bool (chanOk (e.chans.getD i dChan)))), .b false] rfl ?_ rfl ?_ ?_ ?_ ?_; ((first | exact trivial | (simp only [i64ok, true_and, and_true, Int.toNat_natCast]; omega) | (simp only [i64ok, true_and, and_true, Int.toNat_natCast] at *; omega))); rotate_left; (kernel_rfl); (kernel_rfl); rotate_left))
      · (((try simp only [andO, true_and, and_true, Int.toNat_natCast, i64ok, decide_eq_true_eq, decide_eq_false_iff_not, Bool.not_eq_true', Bool.not_eq_false']); (repeat' (first | exact trivial | (first | exact con_spec_MutexOk _ | exact con_spec_ChanOk _ | assumption) | assumption | omega | exact does_litz _ _ hn tb_ok rfl rfl rfl rfl rfl rfl rfl rfl rfl rfl rfl | exact does_app _ hn tb_ok rfl ⟨rfl, _, _, _, rfl, rfl, rfl, rfl, rfl, rfl⟩ rfl rfl rfl rfl rfl rfl rfl (by simp only [List.length_cons, List.length_nil]; omega) | refine And.intro ?_ ?_))))
      · ((refine go_cond hn tb_ok rfl ?_ (fun hc => ?_) (fun hc => ?_); ((first | exact trivial | (simp only [i64ok, true_and, and_true, Int.toNat_natCast]; omega) | (simp only [i64ok, true_and, and_true, Int.toNat_natCast] at *; omega))); all_goals (try (((try simp only [decide_eq_true_eq, decide_eq_false_iff_not, Bool.not_eq_true', Bool.not_eq_false', Bool.not_eq_eq_eq_not, Bool.not_true, Bool.not_false, Int.not_lt, Int.not_le, Int.toNat_natCast, beq_iff_eq, beq_eq_false_iff_ne, ne_eq] at hc); (try (first | simp only [rest_iff, rest_iff', isReg_iff, isReg_iff', isVal_iff, isVal_iff', isIn_iff, isIn_iff', isChan_iff, isChan_iff'] at hc | simp only [(fields_iff _).1, (fields_iff _).2.1, (fields_iff _).2.2, isReg_iff, isReg_iff', isVal_iff, isVal_iff', isIn_iff, isIn_iff', isChan_iff, isChan_iff'] at hc | skip)); try (exfalso; omega))))))
        · ((refine go_ret hn tb_ok rfl ?_ ⟨_, rfl, ?_⟩; ((first | exact trivial | (simp only [i64ok, true_and, and_true, Int.toNat_natCast]; omega) | (simp only [i64ok, true_and, and_true, Int.toNat_natCast] at *; omega)))))
          exact hno (by rw [chOk, decide_eq_false hc, Bool.and_false])
        · ((refine go_stop hn tb_ok rfl ?_ ⟨i + 1, ⟨?_, ?_⟩, ?_, ?_⟩; ((first | exact trivial | (simp only [i64ok, true_and, and_true, Int.toNat_natCast]; omega) | (simp only [i64ok, true_and, and_true, Int.toNat_natCast] at *; omega)))))
          · omega
          · exact upto hq (by rw [chOk, hk, decide_eq_true hc]; rfl)
          · show e.chans.length - (i + 1) < e.chans.length - i; omega
          · ((refine le_of [] ?_ ?_ rfl; ((repeat' (first | exact trivial | refine And.intro rfl ?_))); ((repeat' (first | exact trivial | refine And.intro rfl ?_)))))
  have hch := range_yes (m := e.chans.length) (f := chOk p e) (fun j hj => hq j (by omega))
  clear hc hq hi
  ((refine go_loop hn tb_ok rfl ?_ (fun (wI : Nat) wT wM => ((49, .dat (.int .i64 wI)) :: wT, wM)) (fun wI => wI ≤ e.mus.length ∧ (fun i => ∀ j < i, muOk e j = true) wI) (fun wI => e.mus.length - wI) 0 ⟨Nat.zero_le _, ?_⟩ ?_ ?_; ((first | exact trivial | (simp only [i64ok, true_and, and_true, Int.toNat_natCast]; omega) | (simp only [i64ok, true_and, and_true, Int.toNat_natCast] at *; omega)))))
  · intro j hj; omega
  · ((refine le_of [] ?_ ?_ rfl; ((repeat' (first | exact trivial | refine And.intro rfl ?_))); ((repeat' (first | exact trivial | refine And.intro rfl ?_)))))
  rintro i ⟨hi, hq⟩
  ((refine go_cond hn tb_ok rfl ?_ (fun hc => ?_) (fun hc => ?_); ((first | exact trivial | (simp only [i64ok, true_and, and_true, Int.toNat_natCast]; omega) | (simp only [i64ok, true_and, and_true, Int.toNat_natCast] at *; omega))); all_goals (try (((try simp only [decide_eq_true_eq, decide_eq_false_iff_not, Bool.not_eq_true', Bool.not_eq_false', Bool.not_eq_eq_eq_not, Bool.not_true, Bool.not_false, Int.not_lt, Int.not_le, Int.toNat_natCast, beq_iff_eq, beq_eq_false_iff_ne, ne_eq] at hc); (try (first | simp only [rest_iff, rest_iff', isReg_iff, isReg_iff', isVal_iff, isVal_iff', isIn_iff, isIn_iff', isChan_iff, isChan_iff'] at hc | simp only [(fields_iff _).1, (fields_iff _).2.1, (fields_iff _).2.2, isReg_iff, isReg_iff', isVal_iff, isVal_iff', isIn_iff, isIn_iff', isChan_iff, isChan_iff'] at hc | skip)); try (exfalso; omega))))))
  · have hlt : i < e.mus.length := by omega
    (repeat' (first
  | (refine go_cond hn tb_ok rfl ?_ (fun hc => ?_) (fun hc => ?_); ((first | exact trivial | (simp only [i64ok, true_and, and_true, Int.toNat_natCast]; omega) | (simp only [i64ok, true_and, and_true, Int.toNat_natCast] at *; omega))); all_goals (try (((try simp only [decide_eq_true_eq, decide_eq_false_iff_not, Bool.not_eq_true', Bool.not_eq_false', Bool.not_eq_eq_eq_not, Bool.not_true, Bool.not_false, Int.not_lt, Int.not_le, Int.toNat_natCast, beq_iff_eq, beq_eq_false_iff_ne, ne_eq] at hc); (try (first | simp only [rest_iff, rest_iff', isReg_iff, isReg_iff', isVal_iff, isVal_iff', isIn_iff, isIn_iff', isChan_iff, isChan_iff'] at hc | simp only [(fields_iff _).1, (fields_iff _).2.1, (fields_iff _).2.2, isReg_iff, isReg_iff', isVal_iff, isVal_iff', isIn_iff, isIn_iff', isChan_iff, isChan_iff'] at hc | skip)); try (exfalso; omega)))))
  | (refine go_ret hn tb_ok rfl ?_ ⟨_, rfl, ?_⟩; ((first | exact trivial | (simp only [i64ok, true_and, and_true, Int.toNat_natCast]; omega) | (simp only [i64ok, true_and, and_true, Int.toNat_natCast] at *; omega))))
  | ((refine go_con hn tb_ok rfl ?_ rfl [] ⟨_, ?_, rfl, ?_, ?_, ?_, ?_⟩; ((first | exact trivial | (simp only [i64ok, true_and, and_true, Int.toNat_natCast]; omega) | (simp only [i64ok, true_and, and_true, Int.toNat_natCast] at *; omega))); rotate_left; ((first | exact con_spec_MutexOk _ | exact con_spec_ChanOk _ | assumption)); (rfl); (first | exact .inl rfl | exact .inr (fun id hi => lk3_ok hi))))))
    all_goals (try (
      refine congrArg (fun b => LV.dat (.bool b)) (Eq.symm ?_)
      rw [objOk, range_no (f := muOk e) hlt (by
        rw [muOk]
        first
          | (rw [hc]; rfl)
          | (rw [decide_eq_false (by omega), Bool.and_false])), Bool.and_false, Bool.and_false]))
    all_goals (
      ((refine go_stop hn tb_ok rfl ?_ ⟨i + 1, ⟨?_, ?_⟩, ?_, ?_⟩; ((first | exact trivial | (simp only [i64ok, true_and, and_true, Int.toNat_natCast]; omega) | (simp only [i64ok, true_and, and_true, Int.toNat_natCast] at *; omega)))))
      · omega
      · refine upto hq ?_
        rw [muOk, decide_eq_true (by omega), Bool.and_true]; assumption
      · show e.mus.length - (i + 1) < e.mus.length - i; omega
      · ((refine le_of [] ?_ ?_ rfl; ((repeat' (first | exact trivial | refine And.intro rfl ?_))); ((repeat' (first | exact trivial | refine And.intro rfl ?_))))))
  · have hmu := range_yes (m := e.mus.length) (f := muOk e) (fun j hj => hq j (by omega))
    ((refine go_ret hn tb_ok rfl ?_ ⟨_, rfl, ?_⟩; ((first | exact trivial | (simp only [i64ok, true_and, and_true, Int.toNat_natCast]; omega) | (simp only [i64ok, true_and, and_true, Int.toNat_natCast] at *; omega)))))
    rw [objOk, hhd, hch, hmu]; rfl
end Go.Proofs.YtjmefaihkblliaaGreat.Ab
/- All who wait, by the reference: walked by the abstract machine. Conditions: none. -/
namespace Go.Proofs.YtjmefaihkblliaaGreat.Ab
set_option linter.unusedVariables false
set_option linter.unusedSimpArgs false
set_option maxRecDepth 100000
def plS (k : Nat) (w : MWaiter) : MPlace := ⟨false, k, true, w⟩
def plR (k : Nat) (w : MWaiter) : MPlace := ⟨false, k, false, w⟩
def plM (k : Nat) (g : Int) : MPlace := ⟨true, k, false, ⟨g, -1, 0⟩⟩
def chPl (e : MEng) (k : Nat) : List MPlace := (e.chans.getD k dChan).sends.map (plS k) ++ (e.chans.getD k dChan).recvs.map (plR k)
def muPl (e : MEng) (k : Nat) : List MPlace := (e.mus.getD k dMutex).wait.map (plM k)
def allPl (e : MEng) : List MPlace := gatherN (chPl e) e.chans.length ++ gatherN (muPl e) e.mus.length
theorem gather_mono {α : Type} {f : Nat → List α} {i n : Nat} (h : i ≤ n) : (gatherN f i).length ≤ (gatherN f n).length := by
  induction n with
  | zero => have : i = 0 := by omega
            subst this; exact Nat.le_refl _
  | succ n ih =>
    by_cases e : i = n + 1
    · subst e; exact Nat.le_refl _
    · rw [gather_next, List.length_append]
      have := ih (by omega)
      omega
theorem take_next {α : Type} {l : List α} {d : α} {i : Nat} (h : i < l.length) : l.take (i + 1) = l.take i ++ [l.getD i d] := by
  rw [List.take_add_one, getD_of (d := d) h]; rfl
theorem con_spec_l09All (e : MEng) (hs : (allPl e).length ≤ 1048576) : Con Tryz.prog 123 [.dagg (cEng e)] (.dat (rows_Place (allPl e))) := by
  refine con_body (rs := [(.tmp 2, 170)]) tb_ok Tryz.func123 rfl rfl rfl (Nat.le_of_ble_eq_true rfl) fun ho x hn => ?_
  obtain ⟨hb1, hb2, hb3⟩ := okEng (ho (.dagg (cEng e)) (by simp))
  have hbc : ∀ k, k < e.chans.length → (e.chans.getD k dChan).sends.length ≤ (9223372036854775807 : Nat) ∧ (e.chans.getD k dChan).recvs.length ≤ (9223372036854775807 : Nat) := fun k hk =>
    have hm := mem_of_getD (d := dChan) hk
    ⟨(Okc.el (ho (.dagg (cEng e)) (by simp) (rows_Chan e.chans) (by simp [cEng])) hm (c := rows_Waiter _) (by simp [cChan])).len, (Okc.el (ho (.dagg (cEng e)) (by simp) (rows_Chan e.chans) (by simp [cEng])) hm (c := rows_Waiter _) (by simp [cChan])).len⟩
  have hbm : ∀ k, k < e.mus.length → (e.mus.getD k dMutex).wait.length ≤ (9223372036854775807 : Nat) := fun k hk =>
    (Okc.el (ho (.dagg (cEng e)) (by simp) (rows_Mutex e.mus) (by simp [cEng])) (mem_of_getD (d := dMutex) hk) (c := ints _) (by simp [cMutex])).len
  have htot : (gatherN (chPl e) e.chans.length).length + (gatherN (muPl e) e.mus.length).length ≤ 1048576 := by rw [← List.length_append]; exact hs
  ((refine go_lit hn tb_ok dPlace cPlace ([] : List MPlace) rfl ?_ rfl rfl rfl rfl rfl rfl rfl rfl rfl ?_; ((first | exact trivial | (simp only [i64ok, true_and, and_true, Int.toNat_natCast]; omega) | (simp only [i64ok, true_and, and_true, Int.toNat_natCast] at *; omega)))))
  ((refine go_loop hn tb_ok rfl ?_ (fun (wI : Nat) wT wM => ((18, .dat (.int .i64 wI)) :: (3, .own 100) :: ([(14, .no)] ++ wT), (100, some ((fun i => .row 199 6 dPlace cPlace (gatherN (chPl e) i)) wI)) :: ([(14, none)] ++ wM))) (fun wI => wI ≤ e.chans.length ∧ (fun _ => True) wI) (fun wI => e.chans.length - wI) 0 ⟨Nat.zero_le _, ?_⟩ (le_of [(100, 14), (14, 999)] ?_ ?_ rfl) ?_; ((first | exact trivial | (simp only [i64ok, true_and, and_true, Int.toNat_natCast]; omega) | (simp only [i64ok, true_and, and_true, Int.toNat_natCast] at *; omega)))))
  · trivial
  · (repeat' (first | exact trivial | refine And.intro rfl ?_))
  · (repeat' (first | exact trivial | refine And.intro rfl ?_))
  rintro i ⟨hi, _⟩
  ((refine go_cond hn tb_ok rfl ?_ (fun hc => ?_) (fun hc => ?_); ((first | exact trivial | (simp only [i64ok, true_and, and_true, Int.toNat_natCast]; omega) | (simp only [i64ok, true_and, and_true, Int.toNat_natCast] at *; omega))); all_goals (try (((try simp only [decide_eq_true_eq, decide_eq_false_iff_not, Bool.not_eq_true', Bool.not_eq_false', Bool.not_eq_eq_eq_not, Bool.not_true, Bool.not_false, Int.not_lt, Int.not_le, Int.toNat_natCast, beq_iff_eq, beq_eq_false_iff_ne, ne_eq] at hc); (try (first | simp only [rest_iff, rest_iff', isReg_iff, isReg_iff', isVal_iff, isVal_iff', isIn_iff, isIn_iff', isChan_iff, isChan_iff'] at hc | simp only [(fields_iff _).1, (fields_iff _).2.1, (fields_iff _).2.2, isReg_iff, isReg_iff', isVal_iff, isVal_iff', isIn_iff, isIn_iff', isChan_iff, isChan_iff'] at hc | skip)); try (exfalso; omega))))))
  · have hlt : i < e.chans.length := by omega
    obtain ⟨hbs, hbr⟩ := hbc i hlt
    have hnx := gather_next (chPl e) i
    have hm1 := gather_mono (f := chPl e) (i := i + 1) (n := e.chans.length) hlt
    rw [hnx, List.length_append, chPl, List.length_append, List.length_map, List.length_map] at hm1
    ((refine go_loop hn tb_ok rfl ?_ (fun (wI : Nat) wT wM => ((26, .dat (.int .i64 wI)) :: (3, .own 101) :: ([] ++ wT), (101, some ((fun j => .row 199 6 dPlace cPlace (gatherN (chPl e) i ++ ((e.chans.getD i dChan).sends.take j).map (plS i))) wI)) :: ([(100, none)] ++ wM))) (fun wI => wI ≤ ((e.chans.getD i dChan).sends.length) ∧ (fun _ => True) wI) (fun wI => ((e.chans.getD i dChan).sends.length) - wI) 0 ⟨Nat.zero_le _, ?_⟩ (le_of [(101, 100), (100, 999)] ?_ ?_ rfl) ?_; ((first | exact trivial | (simp only [i64ok, true_and, and_true, Int.toNat_natCast]; omega) | (simp only [i64ok, true_and, and_true, Int.toNat_natCast] at *; omega)))))
    · trivial
    · (repeat' (first | exact trivial | refine And.intro rfl ?_))
    · refine And.intro (congrArg (fun q => some (Blk.row 199 6 dPlace cPlace q)) ?_) ?_
      · simp
      · (repeat' (first | exact trivial | refine And.intro rfl ?_))
    rintro j ⟨hj, _⟩
    ((refine go_cond hn tb_ok rfl ?_ (fun hc => ?_) (fun hc => ?_); ((first | exact trivial | (simp only [i64ok, true_and, and_true, Int.toNat_natCast]; omega) | (simp only [i64ok, true_and, and_true, Int.toNat_natCast] at *; omega))); all_goals (try (((try simp only [decide_eq_true_eq, decide_eq_false_iff_not, Bool.not_eq_true', Bool.not_eq_false', Bool.not_eq_eq_eq_not, Bool.not_true, Bool.not_false, Int.not_lt, Int.not_le, Int.toNat_natCast, beq_iff_eq, beq_eq_false_iff_ne, ne_eq] at hc); (try (first | simp only [rest_iff, rest_iff', isReg_iff, isReg_iff', isVal_iff, isVal_iff', isIn_iff, isIn_iff', isChan_iff, isChan_iff'] at hc | simp only [(fields_iff _).1, (fields_iff _).2.1, (fields_iff _).2.2, isReg_iff, isReg_iff', isVal_iff, isVal_iff', isIn_iff, isIn_iff', isChan_iff, isChan_iff'] at hc | skip)); try (exfalso; omega))))))
    · have hltj : j < (e.chans.getD i dChan).sends.length := by omega
      ((refine go_lit hn tb_ok dPlace cPlace [plS i ((e.chans.getD i dChan).sends.getD j dWaiter)] rfl ?_ rfl rfl rfl rfl rfl rfl rfl rfl rfl ?_; ((first | exact trivial | (simp only [i64ok, true_and, and_true, Int.toNat_natCast]; omega) | (simp only [i64ok, true_and, and_true, Int.toNat_natCast] at *; omega)))))
      ((refine go_app hn tb_ok [plS i ((e.chans.getD i dChan).sends.getD j dWaiter)] rfl ?_ rfl rfl rfl rfl rfl rfl rfl rfl ?_ ?_; ((first | exact trivial | (simp only [i64ok, true_and, and_true, Int.toNat_natCast]; omega) | (simp only [i64ok, true_and, and_true, Int.toNat_natCast] at *; omega)))))
      · show (_ + 1) * 48 ≤ _
        rw [List.length_append, List.length_map, List.length_take]; omega
      ((refine go_stop hn tb_ok rfl ?_ ⟨j + 1, ⟨?_, ?_⟩, ?_, ?_⟩; ((first | exact trivial | (simp only [i64ok, true_and, and_true, Int.toNat_natCast]; omega) | (simp only [i64ok, true_and, and_true, Int.toNat_natCast] at *; omega)))))
      · omega
      · trivial
      · show (e.chans.getD i dChan).sends.length - (j + 1) < (e.chans.getD i dChan).sends.length - j; omega
      · ((refine le_of [(101, 35), (100, 999)] ?_ ?_ rfl; ((repeat' (first | exact trivial | refine And.intro rfl ?_))); ((repeat' (first | exact trivial | refine And.intro rfl ?_)))))
        refine And.intro (congrArg (fun q => some (Blk.row 199 6 dPlace cPlace q)) ?_) ?_
        · rw [take_next (d := dWaiter) hltj, List.map_append, List.append_assoc]; rfl
        · (repeat' (first | exact trivial | refine And.intro rfl ?_))
    have hej : j = (e.chans.getD i dChan).sends.length := by omega
    subst hej
    clear hc hj
    ((refine go_loop hn tb_ok rfl ?_ (fun (wI : Nat) wT wM => ((40, .dat (.int .i64 wI)) :: (3, .own 102) :: ([] ++ wT), (102, some ((fun j => .row 199 6 dPlace cPlace ((gatherN (chPl e) i ++ (e.chans.getD i dChan).sends.map (plS i)) ++ ((e.chans.getD i dChan).recvs.take j).map (plR i))) wI)) :: ([(101, none)] ++ wM))) (fun wI => wI ≤ ((e.chans.getD i dChan).recvs.length) ∧ (fun _ => True) wI) (fun wI => ((e.chans.getD i dChan).recvs.length) - wI) 0 ⟨Nat.zero_le _, ?_⟩ (le_of [(102, 101), (101, 999)] ?_ ?_ rfl) ?_; ((first | exact trivial | (simp only [i64ok, true_and, and_true, Int.toNat_natCast]; omega) | (simp only [i64ok, true_and, and_true, Int.toNat_natCast] at *; omega)))))
    · trivial
    · (repeat' (first | exact trivial | refine And.intro rfl ?_))
    · refine And.intro (congrArg (fun q => some (Blk.row 199 6 dPlace cPlace q)) ?_) ?_
      · simp
      · (repeat' (first | exact trivial | refine And.intro rfl ?_))
    rintro j ⟨hj, _⟩
    ((refine go_cond hn tb_ok rfl ?_ (fun hc => ?_) (fun hc => ?_); ((first | exact trivial | (simp only [i64ok, true_and, and_true, Int.toNat_natCast]; omega) | (simp only [i64ok, true_and, and_true, Int.toNat_natCast] at *; omega))); all_goals (try (((try simp only [decide_eq_true_eq, decide_eq_false_iff_not, Bool.not_eq_true', Bool.not_eq_false', Bool.not_eq_eq_eq_not, Bool.not_true, Bool.not_false, Int.not_lt, Int.not_le, Int.toNat_natCast, beq_iff_eq, beq_eq_false_iff_ne, ne_eq] at hc); (try (first | simp only [rest_iff, rest_iff', isReg_iff, isReg_iff', isVal_iff, isVal_iff', isIn_iff, isIn_iff', isChan_iff, isChan_iff'] at hc | simp only [(fields_iff _).1, (fields_iff _).2.1, (fields_iff _).2.2, isReg_iff, isReg_iff', isVal_iff, isVal_iff', isIn_iff, isIn_iff', isChan_iff, isChan_iff'] at hc | skip)); try (exfalso; omega))))))
    · have hltj : j < (e.chans.getD i dChan).recvs.length := by omega
      ((refine go_lit hn tb_ok dPlace cPlace [plR i ((e.chans.getD i dChan).recvs.getD j dWaiter)] rfl ?_ rfl rfl rfl rfl rfl rfl rfl rfl rfl ?_; ((first | exact trivial | (simp only [i64ok, true_and, and_true, Int.toNat_natCast]; omega) | (simp only [i64ok, true_and, and_true, Int.toNat_natCast] at *; omega)))))
      ((refine go_app hn tb_ok [plR i ((e.chans.getD i dChan).recvs.getD j dWaiter)] rfl ?_ rfl rfl rfl rfl rfl rfl rfl rfl ?_ ?_; ((first | exact trivial | (simp only [i64ok, true_and, and_true, Int.toNat_natCast]; omega) | (simp only [i64ok, true_and, and_true, Int.toNat_natCast] at *; omega)))))
      · show (_ + 1) * 48 ≤ _
        rw [List.length_append, List.length_append, List.length_map, List.length_map, List.length_take]; omega
      ((refine go_stop hn tb_ok rfl ?_ ⟨j + 1, ⟨?_, ?_⟩, ?_, ?_⟩; ((first | exact trivial | (simp only [i64ok, true_and, and_true, Int.toNat_natCast]; omega) | (simp only [i64ok, true_and, and_true, Int.toNat_natCast] at *; omega)))))
      · omega
      · trivial
      · show (e.chans.getD i dChan).recvs.length - (j + 1) < (e.chans.getD i dChan).recvs.length - j; omega
      · ((refine le_of [(102, 49), (101, 999)] ?_ ?_ rfl; ((repeat' (first | exact trivial | refine And.intro rfl ?_))); ((repeat' (first | exact trivial | refine And.intro rfl ?_)))))
        refine And.intro (congrArg (fun q => some (Blk.row 199 6 dPlace cPlace q)) ?_) ?_
        · rw [take_next (d := dWaiter) hltj, List.map_append, List.append_assoc]; rfl
        · (repeat' (first | exact trivial | refine And.intro rfl ?_))
    have hej : j = (e.chans.getD i dChan).recvs.length := by omega
    subst hej
    ((refine go_stop hn tb_ok rfl ?_ ⟨i + 1, ⟨?_, ?_⟩, ?_, ?_⟩; ((first | exact trivial | (simp only [i64ok, true_and, and_true, Int.toNat_natCast]; omega) | (simp only [i64ok, true_and, and_true, Int.toNat_natCast] at *; omega)))))
    · omega
    · trivial
    · show e.chans.length - (i + 1) < e.chans.length - i; omega
    · ((refine le_of [(100, 102), (14, 999)] ?_ ?_ rfl; ((repeat' (first | exact trivial | refine And.intro rfl ?_))); ((repeat' (first | exact trivial | refine And.intro rfl ?_)))))
      refine And.intro (congrArg (fun q => some (Blk.row 199 6 dPlace cPlace q)) ?_) ?_
      · rw [List.take_of_length_le (Nat.le_refl _), hnx, chPl, List.append_assoc]
      · (repeat' (first | exact trivial | refine And.intro rfl ?_))
  have hie : i = e.chans.length := by omega
  subst hie
  clear hc hi
  ((refine go_loop hn tb_ok rfl ?_ (fun (wI : Nat) wT wM => ((55, .dat (.int .i64 wI)) :: (3, .own 103) :: ([] ++ wT), (103, some ((fun i => .row 199 6 dPlace cPlace (gatherN (chPl e) e.chans.length ++ gatherN (muPl e) i)) wI)) :: ([(100, none)] ++ wM))) (fun wI => wI ≤ e.mus.length ∧ (fun _ => True) wI) (fun wI => e.mus.length - wI) 0 ⟨Nat.zero_le _, ?_⟩ (le_of [(103, 100), (100, 999)] ?_ ?_ rfl) ?_; ((first | exact trivial | (simp only [i64ok, true_and, and_true, Int.toNat_natCast]; omega) | (simp only [i64ok, true_and, and_true, Int.toNat_natCast] at *; omega)))))
  · trivial
  · (repeat' (first | exact trivial | refine And.intro rfl ?_))
  · refine And.intro (congrArg (fun q => some (Blk.row 199 6 dPlace cPlace q)) ?_) ?_
    · simp [gatherN]
    · (repeat' (first | exact trivial | refine And.intro rfl ?_))
  rintro i ⟨hi, _⟩
  ((refine go_cond hn tb_ok rfl ?_ (fun hc => ?_) (fun hc => ?_); ((first | exact trivial | (simp only [i64ok, true_and, and_true, Int.toNat_natCast]; omega) | (simp only [i64ok, true_and, and_true, Int.toNat_natCast] at *; omega))); all_goals (try (((try simp only [decide_eq_true_eq, decide_eq_false_iff_not, Bool.not_eq_true', Bool.not_eq_false', Bool.not_eq_eq_eq_not, Bool.not_true, Bool.not_false, Int.not_lt, Int.not_le, Int.toNat_natCast, beq_iff_eq, beq_eq_false_iff_ne, ne_eq] at hc); (try (first | simp only [rest_iff, rest_iff', isReg_iff, isReg_iff', isVal_iff, isVal_iff', isIn_iff, isIn_iff', isChan_iff, isChan_iff'] at hc | simp only [(fields_iff _).1, (fields_iff _).2.1, (fields_iff _).2.2, isReg_iff, isReg_iff', isVal_iff, isVal_iff', isIn_iff, isIn_iff', isChan_iff, isChan_iff'] at hc | skip)); try (exfalso; omega))))))
  · have hlt : i < e.mus.length := by omega
    have hbs := hbm i hlt
    have hnx := gather_next (muPl e) i
    have hm1 := gather_mono (f := muPl e) (i := i + 1) (n := e.mus.length) hlt
    rw [hnx, List.length_append, muPl, List.length_map] at hm1
    ((refine go_loop hn tb_ok rfl ?_ (fun (wI : Nat) wT wM => ((63, .dat (.int .i64 wI)) :: (3, .own 104) :: ([] ++ wT), (104, some ((fun j => .row 199 6 dPlace cPlace ((gatherN (chPl e) e.chans.length ++ gatherN (muPl e) i) ++ ((e.mus.getD i dMutex).wait.take j).map (plM i))) wI)) :: ([(103, none)] ++ wM))) (fun wI => wI ≤ ((e.mus.getD i dMutex).wait.length) ∧ (fun _ => True) wI) (fun wI => ((e.mus.getD i dMutex).wait.length) - wI) 0 ⟨Nat.zero_le _, ?_⟩ (le_of [(104, 103), (103, 999)] ?_ ?_ rfl) ?_; ((first | exact trivial | (simp only [i64ok, true_and, and_true, Int.toNat_natCast]; omega) | (simp only [i64ok, true_and, and_true, Int.toNat_natCast] at *; omega)))))
    · trivial
    · (repeat' (first | exact trivial | refine And.intro rfl ?_))
    · refine And.intro (congrArg (fun q => some (Blk.row 199 6 dPlace cPlace q)) ?_) ?_
      · simp
      · (repeat' (first | exact trivial | refine And.intro rfl ?_))
    rintro j ⟨hj, _⟩
    ((refine go_cond hn tb_ok rfl ?_ (fun hc => ?_) (fun hc => ?_); ((first | exact trivial | (simp only [i64ok, true_and, and_true, Int.toNat_natCast]; omega) | (simp only [i64ok, true_and, and_true, Int.toNat_natCast] at *; omega))); all_goals (try (((try simp only [decide_eq_true_eq, decide_eq_false_iff_not, Bool.not_eq_true', Bool.not_eq_false', Bool.not_eq_eq_eq_not, Bool.not_true, Bool.not_false, Int.not_lt, Int.not_le, Int.toNat_natCast, beq_iff_eq, beq_eq_false_iff_ne, ne_eq] at hc); (try (first | simp only [rest_iff, rest_iff', isReg_iff, isReg_iff', isVal_iff, isVal_iff', isIn_iff, isIn_iff', isChan_iff, isChan_iff'] at hc | simp only [(fields_iff _).1, (fields_iff _).2.1, (fields_iff _).2.2, isReg_iff, isReg_iff', isVal_iff, isVal_iff', isIn_iff, isIn_iff', isChan_iff, isChan_iff'] at hc | skip)); try (exfalso; omega))))))
    · have hltj : j < (e.mus.getD i dMutex).wait.length := by omega
      ((refine go_lit hn tb_ok dPlace cPlace [plM i ((e.mus.getD i dMutex).wait.getD j 0)] rfl ?_ rfl rfl rfl rfl rfl rfl rfl rfl rfl ?_; ((first | exact trivial | (simp only [i64ok, true_and, and_true, Int.toNat_natCast]; omega) | (simp only [i64ok, true_and, and_true, Int.toNat_natCast] at *; omega)))))
      ((refine go_app hn tb_ok [plM i ((e.mus.getD i dMutex).wait.getD j 0)] rfl ?_ rfl rfl rfl rfl rfl rfl rfl rfl ?_ ?_; ((first | exact trivial | (simp only [i64ok, true_and, and_true, Int.toNat_natCast]; omega) | (simp only [i64ok, true_and, and_true, Int.toNat_natCast] at *; omega)))))
      · show (_ + 1) * 48 ≤ _
        rw [List.length_append, List.length_append, List.length_map, List.length_take]; omega
      ((refine go_stop hn tb_ok rfl ?_ ⟨j + 1, ⟨?_, ?_⟩, ?_, ?_⟩; ((first | exact trivial | (simp only [i64ok, true_and, and_true, Int.toNat_natCast]; omega) | (simp only [i64ok, true_and, and_true, Int.toNat_natCast] at *; omega)))))
      · omega
      · trivial
      · show (e.mus.getD i dMutex).wait.length - (j + 1) < (e.mus.getD i dMutex).wait.length - j; omega
      · ((refine le_of [(104, 73), (103, 999)] ?_ ?_ rfl; ((repeat' (first | exact trivial | refine And.intro rfl ?_))); ((repeat' (first | exact trivial | refine And.intro rfl ?_)))))
        refine And.intro (congrArg (fun q => some (Blk.row 199 6 dPlace cPlace q)) ?_) ?_
        · rw [take_next (d := (0 : Int)) hltj, List.map_append, List.append_assoc]; rfl
        · (repeat' (first | exact trivial | refine And.intro rfl ?_))
    have hej : j = (e.mus.getD i dMutex).wait.length := by omega
    subst hej
    ((refine go_stop hn tb_ok rfl ?_ ⟨i + 1, ⟨?_, ?_⟩, ?_, ?_⟩; ((first | exact trivial | (simp only [i64ok, true_and, and_true, Int.toNat_natCast]; omega) | (simp only [i64ok, true_and, and_true, Int.toNat_natCast] at *; omega)))))
    · omega
    · trivial
    · show e.mus.length - (i + 1) < e.mus.length - i; omega
    · ((refine le_of [(103, 104), (100, 999)] ?_ ?_ rfl; ((repeat' (first | exact trivial | refine And.intro rfl ?_))); ((repeat' (first | exact trivial | refine And.intro rfl ?_)))))
      refine And.intro (congrArg (fun q => some (Blk.row 199 6 dPlace cPlace q)) ?_) ?_
      · rw [List.take_of_length_le (Nat.le_refl _), hnx, muPl, List.append_assoc]
      · (repeat' (first | exact trivial | refine And.intro rfl ?_))
  · have hie : i = e.mus.length := by omega
    subst hie
    ((refine go_ret hn tb_ok rfl ?_ ⟨_, rfl, ?_⟩; ((first | exact trivial | (simp only [i64ok, true_and, and_true, Int.toNat_natCast]; omega) | (simp only [i64ok, true_and, and_true, Int.toNat_natCast] at *; omega)))))
    rfl
end Go.Proofs.YtjmefaihkblliaaGreat.Ab
/- '==' of places, waiters, items, deeds; places as keys of a map. Conditions: none. -/
namespace Go.Proofs.YtjmefaihkblliaaGreat.Ab
open Go.RowKit
set_option linter.unusedVariables false
set_option linter.unusedSimpArgs false
set_option maxRecDepth 100000
theorem eqin_Waiter (d : Nat) (a0 a1 a2 b0 b1 b2 : Int) (w : World) : (Op.equalIn (d + 2) 197 (.agg #[.int .i64 a0, .int .i64 a1, .int .i64 a2]) (.agg #[.int .i64 b0, .int .i64 b1, .int .i64 b2])).run Tryz.prog w = .ok (a0 == b0 && (a1 == b1 && a2 == b2)) w := by
  have hS0 : Tryz.prog.underlying 197 = some (.struct (Tryz.prog.fieldsOf 197)) := by kernel_rfl
  have hp0 : Tryz.prog.stoodInHeld 197 = false := by kernel_rfl
  rw [run_equalIn_agg w (d + 1) 197 _ _ hS0 hp0]
  simp only [Program.fieldsOf, Tryz.underlying197]
  go_simp
  by_cases h0 : a0 = b0 <;> by_cases h1 : a1 = b1 <;> by_cases h2 : a2 = b2 <;> simp_all
theorem eqin_Place (d : Nat) (a0 : Bool) (a1 : Int) (a2 : Bool) (a3 a4 a5 : Int) (b0 : Bool) (b1 : Int) (b2 : Bool) (b3 b4 b5 : Int) (w : World) : (Op.equalIn (d + 3) 199 (.agg #[.bool a0, .int .i64 a1, .bool a2, .int .i64 a3, .int .i64 a4, .int .i64 a5]) (.agg #[.bool b0, .int .i64 b1, .bool b2, .int .i64 b3, .int .i64 b4, .int .i64 b5])).run Tryz.prog w = .ok (a0 == b0 && (a1 == b1 && (a2 == b2 && (a3 == b3 && (a4 == b4 && a5 == b5))))) w := by
  have hS0 : Tryz.prog.underlying 199 = some (.struct (Tryz.prog.fieldsOf 199)) := by kernel_rfl
  have hp0 : Tryz.prog.stoodInHeld 199 = false := by kernel_rfl
  rw [run_equalIn_agg w (d + 2) 199 _ _ hS0 hp0]
  simp only [Program.fieldsOf, Tryz.underlying199]
  have hW := eqin_Waiter d a3 a4 a5 b3 b4 b5 w
  generalize hE : (Op.equalIn (d + 2) 197 (.agg #[.int .i64 a3, .int .i64 a4, .int .i64 a5]) (.agg #[.int .i64 b3, .int .i64 b4, .int .i64 b5])) = E at hW
  go_simp
  by_cases h0 : a0 = b0 <;> by_cases h1 : a1 = b1 <;> by_cases h2 : a2 = b2 <;> by_cases h3 : a3 = b3 <;> by_cases h4 : a4 = b4 <;> by_cases h5 : a5 = b5 <;> simp [h0, h1, h2, h3, h4, h5]
theorem chk_int (b : Bool) (n : Nat) (t : TypeId) (q : IntKind) (v : Int) (w : World) (ht : Tryz.prog.underlying t = some (.int q)) : (Instr.checkKey b (n + 1) t (.int q v)).run Tryz.prog w = .ok () w := by
  unfold Instr.checkKey
  simp only [Sem.run_bind, run_underlying ht, Result.andThen_ok, Sem.run_pure]
theorem chk_bool (b : Bool) (n : Nat) (t : TypeId) (v : Bool) (w : World) (ht : Tryz.prog.underlying t = some .bool) : (Instr.checkKey b (n + 1) t (.bool v)).run Tryz.prog w = .ok () w := by
  unfold Instr.checkKey
  simp only [Sem.run_bind, run_underlying ht, Result.andThen_ok, Sem.run_pure]
theorem chk_Waiter (b : Bool) (n : Nat) (a0 a1 a2 : Int) (w : World) : (Instr.checkKey b (n + 2) 197 (.agg #[.int .i64 a0, .int .i64 a1, .int .i64 a2])).run Tryz.prog w = .ok () w := by
  unfold Instr.checkKey
  simp only [Sem.run_bind, run_underlying Tryz.underlying197, Result.andThen_ok]
  go_simp
  simp only [chk_int b n 3 .i64 _ _ Tryz.underlying3, Result.andThen_ok]
theorem eqok_Place : EqOk Tryz.prog 199 cPlace := by
  refine ⟨by kernel_rfl, fun x y w => ?_⟩
  refine (eqin_Place 9997 x.mutex x.obj x.send x.w.g x.w.cas x.w.val y.mutex y.obj y.send y.w.g y.w.cas y.w.val w).trans (congrArg (fun b => Result.ok b w) ?_)
  rw [Bool.eq_iff_iff]
  simp [MPlace.ext_iff, MWaiter.ext_iff]
def encP (x : MPlace) : Value := .agg ((cPlace x).map C.sv).toArray
theorem key_Place : KeyOk Tryz.prog 199 encP := by
  refine ⟨fun b x w => ?_, fun x y w => eqok_Place.eq x y w, ⟨_, Tryz.underlying199, fun x y => rfl⟩, fun x => ?_⟩
  · show (Instr.checkKey b (9997 + 3) 199 (.agg #[.bool x.mutex, .int .i64 x.obj, .bool x.send, .int .i64 x.w.g, .int .i64 x.w.cas, .int .i64 x.w.val])).run Tryz.prog w = _
    unfold Instr.checkKey
    simp only [Sem.run_bind, run_underlying Tryz.underlying199, Result.andThen_ok]
    go_simp
    simp only [chk_bool b 9998 4 _ _ Tryz.underlying4, chk_int b 9998 3 .i64 _ _ Tryz.underlying3, chk_Waiter b 9997, Result.andThen_ok]
  · show Instr.sameBits (9999 + 1) (.agg #[.bool x.mutex, .int .i64 x.obj, .bool x.send, .int .i64 x.w.g, .int .i64 x.w.cas, .int .i64 x.w.val]) (.agg #[.bool x.mutex, .int .i64 x.obj, .bool x.send, .int .i64 x.w.g, .int .i64 x.w.cas, .int .i64 x.w.val]) = true
    unfold Instr.sameBits
    simp [Instr.sameBits]
end Go.Proofs.YtjmefaihkblliaaGreat.Ab
/- How often a place is in a list, by the reference: walked by the abstract machine. Conditions: none. -/
namespace Go.Proofs.YtjmefaihkblliaaGreat.Ab
set_option linter.unusedVariables false
set_option linter.unusedSimpArgs false
set_option maxRecDepth 100000
def cntPl (l : List MPlace) (x : MPlace) : Nat := l.countP (fun y => decide (x = y))
theorem cnt_next {l : List MPlace} {x : MPlace} {i : Nat} (h : i < l.length) : cntPl (l.take (i + 1)) x = cntPl (l.take i) x + (if x = l.getD i dPlace then 1 else 0) := by
  rw [take_next (d := dPlace) h, cntPl, List.countP_append]
  simp [cntPl, List.countP_cons]
theorem cnt_le (l : List MPlace) (x : MPlace) : cntPl l x ≤ l.length := List.countP_le_length
theorem con_spec_l09Count (l : List MPlace) (p : MPlace) : Con Tryz.prog 183 [.dat (rows_Place l), .dagg (cPlace p)] (.dat (.int .i64 (cntPl l p))) := by
  refine con_body (rs := [(.tmp 4, 3)]) tb_ok Tryz.func183 rfl rfl rfl (Nat.le_of_ble_eq_true rfl) fun ho x hn => ?_
  have hb : l.length ≤ (9223372036854775807 : Nat) := Okc.len (ho (.dat (rows_Place l)) (by simp))
  refine go_loop hn tb_ok rfl ?_ (fun (wI : Nat) wT wM => ((10, .dat (.int .i64 wI)) :: (5, .dat (.int .i64 ((cntPl (l.take wI) p : Nat) : Int))) :: wT, wM)) (fun wI => wI ≤ l.length) (fun wI => l.length - wI) 0 (Nat.zero_le _) ?_ ?_
  · (first | exact trivial | (simp only [i64ok, true_and, and_true, Int.toNat_natCast]; omega) | (simp only [i64ok, true_and, and_true, Int.toNat_natCast] at *; omega))
  · ((refine le_of [] ?_ ?_ rfl; ((repeat' (first | exact trivial | refine And.intro rfl ?_))); ((repeat' (first | exact trivial | refine And.intro rfl ?_)))))
  rintro i hi
  ((refine go_cond hn tb_ok rfl ?_ (fun hc => ?_) (fun hc => ?_); ((first | exact trivial | (simp only [i64ok, true_and, and_true, Int.toNat_natCast]; omega) | (simp only [i64ok, true_and, and_true, Int.toNat_natCast] at *; omega))); all_goals (try (((try simp only [decide_eq_true_eq, decide_eq_false_iff_not, Bool.not_eq_true', Bool.not_eq_false', Bool.not_eq_eq_eq_not, Bool.not_true, Bool.not_false, Int.not_lt, Int.not_le, Int.toNat_natCast, beq_iff_eq, beq_eq_false_iff_ne, ne_eq] at hc); (try (first | simp only [rest_iff, rest_iff', isReg_iff, isReg_iff', isVal_iff, isVal_iff', isIn_iff, isIn_iff', isChan_iff, isChan_iff'] at hc | simp only [(fields_iff _).1, (fields_iff _).2.1, (fields_iff _).2.2, isReg_iff, isReg_iff', isVal_iff, isVal_iff', isIn_iff, isIn_iff', isChan_iff, isChan_iff'] at hc | skip)); try (exfalso; omega))))))
  · have hlt : i < l.length := by omega
    have hcn := cnt_next (x := p) hlt
    have hcl := cnt_le (l.take i) p
    rw [List.length_take] at hcl
    refine go_bad hn tb_ok rfl ?_ rfl (opw_eqS p (l.getD i dPlace) eqok_Place hn rfl rfl rfl (.inl rfl) rfl rfl ?_)
    · (first | exact trivial | (simp only [i64ok, true_and, and_true, Int.toNat_natCast]; omega) | (simp only [i64ok, true_and, and_true, Int.toNat_natCast] at *; omega))
    ((refine go_cond hn tb_ok rfl ?_ (fun hc => ?_) (fun hc => ?_); ((first | exact trivial | (simp only [i64ok, true_and, and_true, Int.toNat_natCast]; omega) | (simp only [i64ok, true_and, and_true, Int.toNat_natCast] at *; omega))); all_goals (try simp only [decide_eq_true_eq, decide_eq_false_iff_not, Bool.not_eq_true', Bool.not_eq_false', Int.not_lt, Int.not_le, Int.toNat_natCast] at hc)))
    · rw [eqRes, decide_eq_true_eq] at hc
      rw [if_pos hc] at hcn
      refine go_stop hn tb_ok rfl ?_ ⟨i + 1, ?_, ?_, ?_⟩
      · (first | exact trivial | (simp only [i64ok, true_and, and_true, Int.toNat_natCast]; omega) | (simp only [i64ok, true_and, and_true, Int.toNat_natCast] at *; omega))
      · show i + 1 ≤ l.length; omega
      · show l.length - (i + 1) < l.length - i; omega
      · rw [hcn]
        ((refine le_of [] ?_ ?_ rfl; ((repeat' (first | exact trivial | refine And.intro rfl ?_))); ((repeat' (first | exact trivial | refine And.intro rfl ?_)))))
    · rw [eqRes, decide_eq_false_iff_not] at hc
      rw [if_neg hc] at hcn
      refine go_stop hn tb_ok rfl ?_ ⟨i + 1, ?_, ?_, ?_⟩
      · (first | exact trivial | (simp only [i64ok, true_and, and_true, Int.toNat_natCast]; omega) | (simp only [i64ok, true_and, and_true, Int.toNat_natCast] at *; omega))
      · show i + 1 ≤ l.length; omega
      · show l.length - (i + 1) < l.length - i; omega
      · rw [hcn]
        ((refine le_of [] ?_ ?_ rfl; ((repeat' (first | exact trivial | refine And.intro rfl ?_))); ((repeat' (first | exact trivial | refine And.intro rfl ?_)))))
  · have hie : i = l.length := by omega
    subst hie
    ((refine go_ret hn tb_ok rfl ?_ ⟨_, rfl, ?_⟩; ((first | exact trivial | (simp only [i64ok, true_and, and_true, Int.toNat_natCast]; omega) | (simp only [i64ok, true_and, and_true, Int.toNat_natCast] at *; omega)))))
    rw [List.take_of_length_le (Nat.le_refl _)]; rfl
def sameB (a b : List MPlace) : Bool := a.all (fun x => decide (cntPl a x = cntPl b x)) && decide (a.length = b.length)
theorem con_spec_l09Same (a b : List MPlace) : Con Tryz.prog 122 [.dat (rows_Place a), .dat (rows_Place b)] (.dat (.bool (sameB a b))) := by
  refine con_body (rs := [(.tmp 4, 4)]) tb_ok Tryz.func122 rfl rfl rfl (Nat.le_of_ble_eq_true rfl) fun ho x hn => ?_
  have hb : a.length ≤ (9223372036854775807 : Nat) := Okc.len (ho (.dat (rows_Place a)) (by simp))
  have hb2 : b.length ≤ (9223372036854775807 : Nat) := Okc.len (ho (.dat (rows_Place b)) (by simp))
  ((refine go_loop hn tb_ok rfl ?_ (fun (wI : Nat) wT wM => ((9, .dat (.int .i64 wI)) :: wT, wM)) (fun wI => wI ≤ a.length ∧ (fun i => ∀ j < i, decide (cntPl a (a.getD j dPlace) = cntPl b (a.getD j dPlace)) = true) wI) (fun wI => a.length - wI) 0 ⟨Nat.zero_le _, ?_⟩ ?_ ?_; ((first | exact trivial | (simp only [i64ok, true_and, and_true, Int.toNat_natCast]; omega) | (simp only [i64ok, true_and, and_true, Int.toNat_natCast] at *; omega)))))
  · intro j hj; omega
  · ((refine le_of [] ?_ ?_ rfl; ((repeat' (first | exact trivial | refine And.intro rfl ?_))); ((repeat' (first | exact trivial | refine And.intro rfl ?_)))))
  rintro i ⟨hi, hq⟩
  ((refine go_cond hn tb_ok rfl ?_ (fun hc => ?_) (fun hc => ?_); ((first | exact trivial | (simp only [i64ok, true_and, and_true, Int.toNat_natCast]; omega) | (simp only [i64ok, true_and, and_true, Int.toNat_natCast] at *; omega))); all_goals (try (((try simp only [decide_eq_true_eq, decide_eq_false_iff_not, Bool.not_eq_true', Bool.not_eq_false', Bool.not_eq_eq_eq_not, Bool.not_true, Bool.not_false, Int.not_lt, Int.not_le, Int.toNat_natCast, beq_iff_eq, beq_eq_false_iff_ne, ne_eq] at hc); (try (first | simp only [rest_iff, rest_iff', isReg_iff, isReg_iff', isVal_iff, isVal_iff', isIn_iff, isIn_iff', isChan_iff, isChan_iff'] at hc | simp only [(fields_iff _).1, (fields_iff _).2.1, (fields_iff _).2.2, isReg_iff, isReg_iff', isVal_iff, isVal_iff', isIn_iff, isIn_iff', isChan_iff, isChan_iff'] at hc | skip)); try (exfalso; omega))))))
  · have hlt : i < a.length := by omega
    ((refine go_draw hn tb_ok mix_ok [.r (.dat (.int .i64 (cntPl a (a.getD i dPlace)))), .r (.dat (.int .i64 (cntPl b (a.getD i dPlace))))] rfl ?_ rfl ?_ ?_ ?_ ?_; ((first | exact trivial | (simp only [i64ok, true_and, and_true, Int.toNat_natCast]; omega) | (simp only [i64ok, true_and, and_true, Int.toNat_natCast] at *; omega))); rotate_left; (kernel_rfl); (kernel_rfl); rotate_left))
    · (((try simp only [andO, true_and, and_true, Int.toNat_natCast, i64ok, decide_eq_true_eq, decide_eq_false_iff_not, Bool.not_eq_true', Bool.not_eq_false']); (repeat' (first | exact trivial | (first | exact con_spec_l09Count _ _ | assumption) | assumption | omega | exact does_litz _ _ hn tb_ok rfl rfl rfl rfl rfl rfl rfl rfl rfl rfl rfl | exact does_app _ hn tb_ok rfl ⟨rfl, _, _, _, rfl, rfl, rfl, rfl, rfl, rfl⟩ rfl rfl rfl rfl rfl rfl rfl (by simp only [List.length_cons, List.length_nil]; omega) | refine And.intro ?_ ?_))))
    · ((refine go_cond hn tb_ok rfl ?_ (fun hc => ?_) (fun hc => ?_); ((first | exact trivial | (simp only [i64ok, true_and, and_true, Int.toNat_natCast]; omega) | (simp only [i64ok, true_and, and_true, Int.toNat_natCast] at *; omega))); all_goals (try simp only [decide_eq_true_eq, decide_eq_false_iff_not, Bool.not_eq_true', Bool.not_eq_false', Int.not_lt, Int.not_le, Int.toNat_natCast] at hc)))
      · ((refine go_ret hn tb_ok rfl ?_ ⟨_, rfl, ?_⟩; ((first | exact trivial | (simp only [i64ok, true_and, and_true, Int.toNat_natCast]; omega) | (simp only [i64ok, true_and, and_true, Int.toNat_natCast] at *; omega)))))
        refine congrArg (fun b => LV.dat (.bool b)) (Eq.symm ?_)
        rw [sameB, all_no (d := dPlace) hlt (decide_eq_false (by omega)), Bool.false_and]
      · ((refine go_stop hn tb_ok rfl ?_ ⟨i + 1, ⟨?_, ?_⟩, ?_, ?_⟩; ((first | exact trivial | (simp only [i64ok, true_and, and_true, Int.toNat_natCast]; omega) | (simp only [i64ok, true_and, and_true, Int.toNat_natCast] at *; omega)))))
        · omega
        · exact upto hq (decide_eq_true (by omega))
        · show a.length - (i + 1) < a.length - i; omega
        · ((refine le_of [] ?_ ?_ rfl; ((repeat' (first | exact trivial | refine And.intro rfl ?_))); ((repeat' (first | exact trivial | refine And.intro rfl ?_)))))
  · have h1 := all_yes (l := a) dPlace (f := fun x => decide (cntPl a x = cntPl b x)) (fun j hj => hq j (by omega))
    ((refine go_ret hn tb_ok rfl ?_ ⟨_, rfl, ?_⟩; ((first | exact trivial | (simp only [i64ok, true_and, and_true, Int.toNat_natCast]; omega) | (simp only [i64ok, true_and, and_true, Int.toNat_natCast] at *; omega)))))
    refine congrArg (fun b => LV.dat (.bool b)) (Eq.symm ?_)
    rw [sameB, h1, Bool.true_and]
    exact decide_eq_decide.2 (by omega)
end Go.Proofs.YtjmefaihkblliaaGreat.Ab
/- Is the engine right, by the reference: walked by the abstract machine. Conditions: none. -/
namespace Go.Proofs.YtjmefaihkblliaaGreat.Ab
set_option linter.unusedVariables false
set_option linter.unusedSimpArgs false
set_option maxRecDepth 100000
def gorPl (p : MProg) (e : MEng) (k : Nat) : List MPlace := if (e.gs.getD k dGor).state = 2 then placesOf p (e.gs.getD k dGor) k else []
def wantPl (p : MProg) (e : MEng) : List MPlace := gatherN (gorPl p e) e.gs.length
def gorFit (p : MProg) (e : MEng) (k : Nat) : Bool := gorOk0 p (e.gs.getD k dGor) && (!decide ((e.gs.getD k dGor).state = 2) || mayWait p (e.gs.getD k dGor))
def engHead (p : MProg) (e : MEng) : Bool := progOk p && (decide (1 ≤ e.gs.length ∧ e.gs.length ≤ 10) && objOk p e)
def engOk (p : MProg) (e : MEng) : Bool := engHead p e && ((List.range e.gs.length).all (gorFit p e) && sameB (wantPl p e) (allPl e))
theorem places_len {p : MProg} {g : MGor} {n : Int} (hp : progOk p = true) (hg : gorHead p g = true) : (placesOf p g n).length ≤ 4 := by
  unfold placesOf
  split
  · simp
  · split
    · simp
    · split
      · rename_i h11
        have hr := instr_a hp hg h11
        have hl := (prog_sel hp (k := (instrAt p g).a.toNat) (by omega)).1
        have := gather_len (casePl_len g n (p.sels.getD (instrAt p g).a.toNat dSelect).cases) (p.sels.getD (instrAt p g).a.toNat dSelect).cases.length
        unfold casesPl
        omega
      · split <;> simp
set_option maxHeartbeats 1000000 in
theorem con_spec_EngOk (p : MProg) (e : MEng) (hs : (allPl e).length ≤ 1048576) : Con Tryz.prog 60 [.dagg (cProg p), .dagg (cEng e)] (.dat (.bool (engOk p e))) := by
  refine con_body (rs := [(.tmp 4, 4)]) tb_ok Tryz.func60 rfl rfl rfl (Nat.le_of_ble_eq_true rfl) fun ho x hn => ?_
  obtain ⟨hb1, hb2, hb3⟩ := okEng (ho (.dagg (cEng e)) (by simp))
  have hob := con_spec_l09Objects p e
  have hal := con_spec_l09All e hs
  have hno : engHead p e = false → LV.dat (.bool false) = LV.dat (.bool (engOk p e)) := fun hh => by rw [engOk, hh, Bool.false_and]
  (repeat' (first
  | (refine go_cond hn tb_ok rfl ?_ (fun hc => ?_) (fun hc => ?_); ((first | exact trivial | (simp only [i64ok, true_and, and_true, Int.toNat_natCast]; omega) | (simp only [i64ok, true_and, and_true, Int.toNat_natCast] at *; omega))); all_goals (try (((try simp only [decide_eq_true_eq, decide_eq_false_iff_not, Bool.not_eq_true', Bool.not_eq_false', Bool.not_eq_eq_eq_not, Bool.not_true, Bool.not_false, Int.not_lt, Int.not_le, Int.toNat_natCast, beq_iff_eq, beq_eq_false_iff_ne, ne_eq] at hc); (try (first | simp only [rest_iff, rest_iff', isReg_iff, isReg_iff', isVal_iff, isVal_iff', isIn_iff, isIn_iff', isChan_iff, isChan_iff'] at hc | simp only [(fields_iff _).1, (fields_iff _).2.1, (fields_iff _).2.2, isReg_iff, isReg_iff', isVal_iff, isVal_iff', isIn_iff, isIn_iff', isChan_iff, isChan_iff'] at hc | skip)); try (exfalso; omega)))))
  | (refine go_ret hn tb_ok rfl ?_ ⟨_, rfl, ?_⟩; ((first | exact trivial | (simp only [i64ok, true_and, and_true, Int.toNat_natCast]; omega) | (simp only [i64ok, true_and, and_true, Int.toNat_natCast] at *; omega))))
  | ((refine go_con hn tb_ok rfl ?_ rfl [] ⟨_, ?_, rfl, ?_, ?_, ?_, ?_⟩; ((first | exact trivial | (simp only [i64ok, true_and, and_true, Int.toNat_natCast]; omega) | (simp only [i64ok, true_and, and_true, Int.toNat_natCast] at *; omega))); rotate_left; ((first | exact con_spec_l09Same _ _ | exact con_spec_l08Ok _ _ | exact con_spec_ProgOk _ | assumption)); (rfl); (first | exact .inl rfl | exact .inr (fun id hi => lk3_ok hi))))))
  all_goals (try (
    refine hno ?_
    rw [engHead]
    first
      | (rw [hc, Bool.false_and])
      | (rw [decide_eq_false (by omega), Bool.false_and, Bool.and_false])
      | (rw [hc, Bool.and_false, Bool.and_false])))
  have hhd : engHead p e = true := by
    rw [engHead, decide_eq_true (by omega)]
    simp only [Bool.true_and, Bool.and_eq_true]
    refine ⟨?_, ?_⟩ <;> assumption
  have hp : progOk p = true := by rw [engHead, Bool.and_eq_true] at hhd; exact hhd.1
  have hbad : ∀ {k}, k < e.gs.length → gorFit p e k = false → LV.dat (.bool false) = LV.dat (.bool (engOk p e)) := fun hk hh => by rw [engOk, range_no hk hh, Bool.false_and, Bool.and_false]
  clear hc
  ((refine go_lit hn tb_ok dPlace cPlace ([] : List MPlace) rfl ?_ rfl rfl rfl rfl rfl rfl rfl rfl rfl ?_; ((first | exact trivial | (simp only [i64ok, true_and, and_true, Int.toNat_natCast]; omega) | (simp only [i64ok, true_and, and_true, Int.toNat_natCast] at *; omega)))))
  ((refine go_loop hn tb_ok rfl ?_ (fun (wI : Nat) wT wM => ((33, .dat (.int .i64 wI)) :: (5, .own 100) :: ([(29, .no)] ++ wT), (100, some ((fun i => .row 199 6 dPlace cPlace (gatherN (gorPl p e) i)) wI)) :: ([(29, none)] ++ wM))) (fun wI => wI ≤ e.gs.length ∧ (fun i => (gatherN (gorPl p e) i).length ≤ 4 * i ∧ ∀ j < i, gorFit p e j = true) wI) (fun wI => e.gs.length - wI) 0 ⟨Nat.zero_le _, ?_⟩ (le_of [(100, 29), (29, 999)] ?_ ?_ rfl) ?_; ((first | exact trivial | (simp only [i64ok, true_and, and_true, Int.toNat_natCast]; omega) | (simp only [i64ok, true_and, and_true, Int.toNat_natCast] at *; omega)))))
  · exact ⟨by simp [gatherN], fun j hj => by omega⟩
  · (repeat' (first | exact trivial | refine And.intro rfl ?_))
  · (repeat' (first | exact trivial | refine And.intro rfl ?_))
  rintro i ⟨hi, hln, hq⟩
  ((refine go_cond hn tb_ok rfl ?_ (fun hc => ?_) (fun hc => ?_); ((first | exact trivial | (simp only [i64ok, true_and, and_true, Int.toNat_natCast]; omega) | (simp only [i64ok, true_and, and_true, Int.toNat_natCast] at *; omega))); all_goals (try (((try simp only [decide_eq_true_eq, decide_eq_false_iff_not, Bool.not_eq_true', Bool.not_eq_false', Bool.not_eq_eq_eq_not, Bool.not_true, Bool.not_false, Int.not_lt, Int.not_le, Int.toNat_natCast, beq_iff_eq, beq_eq_false_iff_ne, ne_eq] at hc); (try (first | simp only [rest_iff, rest_iff', isReg_iff, isReg_iff', isVal_iff, isVal_iff', isIn_iff, isIn_iff', isChan_iff, isChan_iff'] at hc | simp only [(fields_iff _).1, (fields_iff _).2.1, (fields_iff _).2.2, isReg_iff, isReg_iff', isVal_iff, isVal_iff', isIn_iff, isIn_iff', isChan_iff, isChan_iff'] at hc | skip)); try (exfalso; omega))))))
  · have hlt : i < e.gs.length := by omega
    have hnx := gather_next (gorPl p e) i
    ((refine go_con hn tb_ok rfl ?_ rfl [] ⟨_, ?_, rfl, ?_, ?_, ?_, ?_⟩; ((first | exact trivial | (simp only [i64ok, true_and, and_true, Int.toNat_natCast]; omega) | (simp only [i64ok, true_and, and_true, Int.toNat_natCast] at *; omega))); rotate_left; ((first | exact con_spec_l09Same _ _ | exact con_spec_l08Ok _ _ | exact con_spec_ProgOk _ | assumption)); (rfl); (first | exact .inl rfl | exact .inr (fun id hi => lk3_ok hi))))
    ((refine go_cond hn tb_ok rfl ?_ (fun hc => ?_) (fun hc => ?_); ((first | exact trivial | (simp only [i64ok, true_and, and_true, Int.toNat_natCast]; omega) | (simp only [i64ok, true_and, and_true, Int.toNat_natCast] at *; omega))); all_goals (try (((try simp only [decide_eq_true_eq, decide_eq_false_iff_not, Bool.not_eq_true', Bool.not_eq_false', Bool.not_eq_eq_eq_not, Bool.not_true, Bool.not_false, Int.not_lt, Int.not_le, Int.toNat_natCast, beq_iff_eq, beq_eq_false_iff_ne, ne_eq] at hc); (try (first | simp only [rest_iff, rest_iff', isReg_iff, isReg_iff', isVal_iff, isVal_iff', isIn_iff, isIn_iff', isChan_iff, isChan_iff'] at hc | simp only [(fields_iff _).1, (fields_iff _).2.1, (fields_iff _).2.2, isReg_iff, isReg_iff', isVal_iff, isVal_iff', isIn_iff, isIn_iff', isChan_iff, isChan_iff'] at hc | skip)); try (exfalso; omega))))))
    · ((refine go_ret hn tb_ok rfl ?_ ⟨_, rfl, ?_⟩; ((first | exact trivial | (simp only [i64ok, true_and, and_true, Int.toNat_natCast]; omega) | (simp only [i64ok, true_and, and_true, Int.toNat_natCast] at *; omega)))))
      exact hbad hlt (by rw [gorFit, hc, Bool.false_and])
    have hg0 := hc
    have hg : gorHead p (e.gs.getD i dGor) = true := by rw [gorOk0, Bool.and_eq_true] at hg0; exact hg0.1
    clear hc
    ((refine go_cond hn tb_ok rfl ?_ (fun hc => ?_) (fun hc => ?_); ((first | exact trivial | (simp only [i64ok, true_and, and_true, Int.toNat_natCast]; omega) | (simp only [i64ok, true_and, and_true, Int.toNat_natCast] at *; omega))); all_goals (try (((try simp only [decide_eq_true_eq, decide_eq_false_iff_not, Bool.not_eq_true', Bool.not_eq_false', Bool.not_eq_eq_eq_not, Bool.not_true, Bool.not_false, Int.not_lt, Int.not_le, Int.toNat_natCast, beq_iff_eq, beq_eq_false_iff_ne, ne_eq] at hc); (try (first | simp only [rest_iff, rest_iff', isReg_iff, isReg_iff', isVal_iff, isVal_iff', isIn_iff, isIn_iff', isChan_iff, isChan_iff'] at hc | simp only [(fields_iff _).1, (fields_iff _).2.1, (fields_iff _).2.2, isReg_iff, isReg_iff', isVal_iff, isVal_iff', isIn_iff, isIn_iff', isChan_iff, isChan_iff'] at hc | skip)); try (exfalso; omega))))))
    · have hpl : gorPl p e i = [] := if_neg (by omega)
      ((refine go_stop hn tb_ok rfl ?_ ⟨i + 1, ⟨?_, ?_⟩, ?_, ?_⟩; ((first | exact trivial | (simp only [i64ok, true_and, and_true, Int.toNat_natCast]; omega) | (simp only [i64ok, true_and, and_true, Int.toNat_natCast] at *; omega)))))
      · omega
      · refine ⟨by rw [hnx, hpl, List.append_nil]; omega, upto hq ?_⟩
        rw [gorFit, hg0, decide_eq_false (by omega)]; rfl
      · show e.gs.length - (i + 1) < e.gs.length - i; omega
      · ((refine le_of [(29, 999)] ?_ ?_ rfl; ((repeat' (first | exact trivial | refine And.intro rfl ?_))); ((repeat' (first | exact trivial | refine And.intro rfl ?_)))))
        refine And.intro (congrArg (fun q => some (Blk.row 199 6 dPlace cPlace q)) ?_) ?_
        · rw [hnx, hpl, List.append_nil]
        · (repeat' (first | exact trivial | refine And.intro rfl ?_))
    have hpl : gorPl p e i = placesOf p (e.gs.getD i dGor) i := if_pos (by omega)
    have h2 := hc
    have hmay := con_spec_l09May p (e.gs.getD i dGor) hp hg
    ((refine go_con hn tb_ok rfl ?_ rfl [] ⟨_, ?_, rfl, ?_, ?_, ?_, ?_⟩; ((first | exact trivial | (simp only [i64ok, true_and, and_true, Int.toNat_natCast]; omega) | (simp only [i64ok, true_and, and_true, Int.toNat_natCast] at *; omega))); rotate_left; ((first | exact con_spec_l09Same _ _ | exact con_spec_l08Ok _ _ | exact con_spec_ProgOk _ | assumption)); (rfl); (first | exact .inl rfl | exact .inr (fun id hi => lk3_ok hi))))
    ((refine go_cond hn tb_ok rfl ?_ (fun hc => ?_) (fun hc => ?_); ((first | exact trivial | (simp only [i64ok, true_and, and_true, Int.toNat_natCast]; omega) | (simp only [i64ok, true_and, and_true, Int.toNat_natCast] at *; omega))); all_goals (try (((try simp only [decide_eq_true_eq, decide_eq_false_iff_not, Bool.not_eq_true', Bool.not_eq_false', Bool.not_eq_eq_eq_not, Bool.not_true, Bool.not_false, Int.not_lt, Int.not_le, Int.toNat_natCast, beq_iff_eq, beq_eq_false_iff_ne, ne_eq] at hc); (try (first | simp only [rest_iff, rest_iff', isReg_iff, isReg_iff', isVal_iff, isVal_iff', isIn_iff, isIn_iff', isChan_iff, isChan_iff'] at hc | simp only [(fields_iff _).1, (fields_iff _).2.1, (fields_iff _).2.2, isReg_iff, isReg_iff', isVal_iff, isVal_iff', isIn_iff, isIn_iff', isChan_iff, isChan_iff'] at hc | skip)); try (exfalso; omega))))))
    · ((refine go_ret hn tb_ok rfl ?_ ⟨_, rfl, ?_⟩; ((first | exact trivial | (simp only [i64ok, true_and, and_true, Int.toNat_natCast]; omega) | (simp only [i64ok, true_and, and_true, Int.toNat_natCast] at *; omega)))))
      exact hbad hlt (by rw [gorFit, hc, decide_eq_true (by omega)]; simp)
    have hplc := con_spec_l09Places p (e.gs.getD i dGor) i hp hg
    have hl4 := places_len (n := (i : Int)) hp hg
    ((refine go_con hn tb_ok rfl ?_ rfl [] ⟨_, ?_, rfl, ?_, ?_, ?_, ?_⟩; ((first | exact trivial | (simp only [i64ok, true_and, and_true, Int.toNat_natCast]; omega) | (simp only [i64ok, true_and, and_true, Int.toNat_natCast] at *; omega))); rotate_left; ((first | exact con_spec_l09Same _ _ | exact con_spec_l08Ok _ _ | exact con_spec_ProgOk _ | assumption)); (rfl); (first | exact .inl rfl | exact .inr (fun id hi => lk3_ok hi))))
    ((refine go_app hn tb_ok (placesOf p (e.gs.getD i dGor) i) rfl ?_ rfl rfl rfl rfl rfl rfl rfl rfl ?_ ?_; ((first | exact trivial | (simp only [i64ok, true_and, and_true, Int.toNat_natCast]; omega) | (simp only [i64ok, true_and, and_true, Int.toNat_natCast] at *; omega)))))
    · show (_ + _) * 48 ≤ _; omega
    ((refine go_stop hn tb_ok rfl ?_ ⟨i + 1, ⟨?_, ?_⟩, ?_, ?_⟩; ((first | exact trivial | (simp only [i64ok, true_and, and_true, Int.toNat_natCast]; omega) | (simp only [i64ok, true_and, and_true, Int.toNat_natCast] at *; omega)))))
    · omega
    · refine ⟨by rw [hnx, hpl, List.length_append]; omega, upto hq ?_⟩
      rw [gorFit, hg0, hc]; simp
    · show e.gs.length - (i + 1) < e.gs.length - i; omega
    · ((refine le_of [(100, 54), (29, 999)] ?_ ?_ rfl; ((repeat' (first | exact trivial | refine And.intro rfl ?_))); ((repeat' (first | exact trivial | refine And.intro rfl ?_)))))
      refine And.intro (congrArg (fun q => some (Blk.row 199 6 dPlace cPlace q)) ?_) ?_
      · rw [hnx, hpl]
      · (repeat' (first | exact trivial | refine And.intro rfl ?_))
  · have hie : i = e.gs.length := by omega
    subst hie
    have hall := range_yes (m := e.gs.length) (f := gorFit p e) hq
    (repeat' (first
  | (refine go_cond hn tb_ok rfl ?_ (fun hc => ?_) (fun hc => ?_); ((first | exact trivial | (simp only [i64ok, true_and, and_true, Int.toNat_natCast]; omega) | (simp only [i64ok, true_and, and_true, Int.toNat_natCast] at *; omega))); all_goals (try (((try simp only [decide_eq_true_eq, decide_eq_false_iff_not, Bool.not_eq_true', Bool.not_eq_false', Bool.not_eq_eq_eq_not, Bool.not_true, Bool.not_false, Int.not_lt, Int.not_le, Int.toNat_natCast, beq_iff_eq, beq_eq_false_iff_ne, ne_eq] at hc); (try (first | simp only [rest_iff, rest_iff', isReg_iff, isReg_iff', isVal_iff, isVal_iff', isIn_iff, isIn_iff', isChan_iff, isChan_iff'] at hc | simp only [(fields_iff _).1, (fields_iff _).2.1, (fields_iff _).2.2, isReg_iff, isReg_iff', isVal_iff, isVal_iff', isIn_iff, isIn_iff', isChan_iff, isChan_iff'] at hc | skip)); try (exfalso; omega)))))
  | (refine go_ret hn tb_ok rfl ?_ ⟨_, rfl, ?_⟩; ((first | exact trivial | (simp only [i64ok, true_and, and_true, Int.toNat_natCast]; omega) | (simp only [i64ok, true_and, and_true, Int.toNat_natCast] at *; omega))))
  | ((refine go_con hn tb_ok rfl ?_ rfl [] ⟨_, ?_, rfl, ?_, ?_, ?_, ?_⟩; ((first | exact trivial | (simp only [i64ok, true_and, and_true, Int.toNat_natCast]; omega) | (simp only [i64ok, true_and, and_true, Int.toNat_natCast] at *; omega))); rotate_left; ((first | exact con_spec_l09Same _ _ | exact con_spec_l08Ok _ _ | exact con_spec_ProgOk _ | assumption)); (rfl); (first | exact .inl rfl | exact .inr (fun id hi => lk3_ok hi))))))
    rw [engOk, hhd, hall]
    rfl
end Go.Proofs.YtjmefaihkblliaaGreat.Ab
/- Is the engine right, by the program: its map, walked by the abstract machine. Conditions: none. -/
namespace Go.Proofs.YtjmefaihkblliaaGreat.Ab
set_option linter.unusedVariables false
set_option linter.unusedSimpArgs false
set_option maxRecDepth 100000
theorem map_ok : Tryz.prog.underlying 195 = some (.map 199 3) := by kernel_rfl
theorem zero_ok (w : World) : (zeroValue 3).run Tryz.prog w = .ok (.int .i64 0) w := by go_simp
structure Due (x : Cx) (b : Nat) (l : Ents MPlace) (c : Nat) (u v : List MPlace) : Prop where
  map : Priv x b (objE encP l c)
  good : GoodE l c
  val : ∀ y, valE y l = (cntPl u y : Int) - cntPl v y
theorem Due.inc {x x1 : Cx} {b : Nat} {l : Ents MPlace} {c : Nat} {u v : List MPlace} {y : MPlace} {n : Int} (h : Due x b l c u v) (hn : n = valE y l + 1) (hf : Fam x b (objE encP (setE y n (addE y c l)) (clkE y c l)) x1) : Due x1 b (setE y n (addE y c l)) (clkE y c l) (u ++ [y]) v := by
  refine ⟨hf.map, setE_good (addE_good h.good), fun z => ?_⟩
  rw [valE_set (addE_has l), valE_add]
  have h1 : cntPl (u ++ [y]) z = cntPl u z + (if z = y then 1 else 0) := by simp [cntPl, List.countP_append, List.countP_cons]
  rw [h1]
  have := h.val y
  have := h.val z
  split
  · rename_i hz; subst hz; omega
  · omega
theorem Due.dec {x x1 : Cx} {b : Nat} {l : Ents MPlace} {c : Nat} {u v : List MPlace} {y : MPlace} {n : Int} (h : Due x b l c u v) (hn : n = valE y l - 1) (hf : Fam x b (objE encP (setE y n (addE y c l)) (clkE y c l)) x1) : Due x1 b (setE y n (addE y c l)) (clkE y c l) u (v ++ [y]) := by
  refine ⟨hf.map, setE_good (addE_good h.good), fun z => ?_⟩
  rw [valE_set (addE_has l), valE_add]
  have h1 : cntPl (v ++ [y]) z = cntPl v z + (if z = y then 1 else 0) := by simp [cntPl, List.countP_append, List.countP_cons]
  rw [h1]
  have := h.val y
  have := h.val z
  split
  · rename_i hz; subst hz; omega
  · omega
theorem waitPl_gor {p : MProg} {e : MEng} {k : Nat} (h : gorOk p (e.gs.getD k dGor) = true) : waitPl p (e.gs.getD k dGor) k = gorPl p e k := by
  unfold waitPl gorPl
  by_cases h2 : (e.gs.getD k dGor).state = 2
  · rw [if_pos ⟨h, h2, by omega⟩, if_pos h2]
  · rw [if_neg (fun hh => h2 hh.2.1), if_neg h2]
theorem nodup_inj {α β : Type} {f : α → β} : ∀ {l : List α}, (l.map f).Nodup → ∀ {x y : α}, x ∈ l → y ∈ l → f x = f y → x = y
  | [], _, x, y, h, _, _ => by cases h
  | a :: l, hn, x, y, hx, hy, he => by
    rw [List.map_cons, List.nodup_cons] at hn
    rcases List.mem_cons.1 hx with rfl | hx
    · rcases List.mem_cons.1 hy with rfl | hy
      · rfl
      · exact absurd (List.mem_map.2 ⟨y, hy, he.symm⟩) hn.1
    · rcases List.mem_cons.1 hy with hya | hy
      · exact absurd (List.mem_map.2 ⟨x, hx, he.trans (congrArg f hya)⟩ : f a ∈ l.map f) hn.1
      · exact nodup_inj hn.2 hx hy he
theorem cntPl_count (l : List MPlace) (y : MPlace) : cntPl l y = l.count y := by
  rw [cntPl, List.count]
  congr 1
  funext x
  rw [Bool.eq_iff_iff, decide_eq_true_iff, beq_iff_eq]
  exact eq_comm
theorem perm_of_cnt {a b : List MPlace} (h : ∀ y ∈ a, a.count y = b.count y) (hl : a.length = b.length) : a.Perm b := by
  induction a generalizing b with
  | nil => rw [List.length_nil] at hl; rw [List.length_eq_zero_iff.1 hl.symm]
  | cons x a ih =>
    have h1 := h x List.mem_cons_self
    have hm : x ∈ b := List.count_pos_iff.1 (by rw [← h1, List.count_cons_self]; omega)
    have hp := List.perm_cons_erase hm
    refine (List.Perm.cons x (ih (fun y hy => ?_) ?_)).trans hp.symm
    · have h2 := h y (List.mem_cons_of_mem _ hy)
      rw [List.count_cons] at h2
      rw [List.count_erase]
      by_cases hxy : x = y
      · subst hxy; simp at h2 ⊢; omega
      · simp only [beq_iff_eq, hxy, fun e : y = x => hxy e.symm, if_false] at h2 ⊢
        omega
    · rw [List.length_erase_of_mem hm, ← hl, List.length_cons]; omega
theorem sameB_iff {a b : List MPlace} : sameB a b = true ↔ ∀ y, cntPl a y = cntPl b y := by
  rw [sameB, Bool.and_eq_true, List.all_eq_true, decide_eq_true_iff]
  constructor
  · rintro ⟨h1, h2⟩ y
    rw [cntPl_count, cntPl_count]
    refine List.Perm.count_eq (perm_of_cnt (fun y hy => ?_) h2) y
    have := h1 y hy
    rw [decide_eq_true_iff, cntPl_count, cntPl_count] at this
    exact this
  · intro h
    refine ⟨fun y _ => decide_eq_true (h y), ?_⟩
    exact (List.perm_iff_count.2 fun y => by rw [← cntPl_count, ← cntPl_count]; exact h y).length_eq
set_option maxHeartbeats 2000000 in
theorem con_impl_EngOk (p : MProg) (e : MEng) (hs : (allPl e).length ≤ 1048576) : Con Tryz.prog 69 [.dagg (cProg p), .dagg (cEng e)] (.dat (.bool (engOk p e))) := by
  refine con_body (rs := [(.tmp 4, 4)]) tb_ok Tryz.func69 rfl rfl rfl (Nat.le_of_ble_eq_true rfl) fun ho x hn => ?_
  obtain ⟨hb1, hb2, hb3⟩ := okEng (ho (.dagg (cEng e)) (by simp))
  have hno : engHead p e = false → LV.dat (.bool false) = LV.dat (.bool (engOk p e)) := fun hh => by rw [engOk, hh, Bool.false_and]
  (repeat' (first
  | (refine go_cond hn tb_ok rfl ?_ (fun hc => ?_) (fun hc => ?_); ((first | exact trivial | (simp only [i64ok, true_and, and_true, Int.toNat_natCast]; omega) | (simp only [i64ok, true_and, and_true, Int.toNat_natCast] at *; omega))); all_goals (try (((try simp only [decide_eq_true_eq, decide_eq_false_iff_not, Bool.not_eq_true', Bool.not_eq_false', Bool.not_eq_eq_eq_not, Bool.not_true, Bool.not_false, Int.not_lt, Int.not_le, Int.toNat_natCast, beq_iff_eq, beq_eq_false_iff_ne, ne_eq] at hc); (try (first | simp only [rest_iff, rest_iff', isReg_iff, isReg_iff', isVal_iff, isVal_iff', isIn_iff, isIn_iff', isChan_iff, isChan_iff'] at hc | simp only [(fields_iff _).1, (fields_iff _).2.1, (fields_iff _).2.2, isReg_iff, isReg_iff', isVal_iff, isVal_iff', isIn_iff, isIn_iff', isChan_iff, isChan_iff'] at hc | skip)); try (exfalso; omega)))))
  | (refine go_ret hn tb_ok rfl ?_ ⟨_, rfl, ?_⟩; ((first | exact trivial | (simp only [i64ok, true_and, and_true, Int.toNat_natCast]; omega) | (simp only [i64ok, true_and, and_true, Int.toNat_natCast] at *; omega))))
  | ((refine go_con hn tb_ok rfl ?_ rfl [] ⟨_, ?_, rfl, ?_, ?_, ?_, ?_⟩; ((first | exact trivial | (simp only [i64ok, true_and, and_true, Int.toNat_natCast]; omega) | (simp only [i64ok, true_and, and_true, Int.toNat_natCast] at *; omega))); rotate_left; ((first | exact con_impl_GorOk _ _ | exact con_impl_ProgOk _ | exact con_impl_MutexOk _ | exact con_impl_ChanOk _ | assumption)); (rfl); (first | exact .inl rfl | exact .inr (fun id hi => lk3_ok hi))))))
  all_goals (try (
    refine hno ?_
    rw [engHead]
    first
      | (rw [hc, Bool.false_and])
      | (rw [decide_eq_false (by omega), Bool.false_and, Bool.and_false])
      | (rw [objOk, show objHead p e = false from decide_eq_false (by omega), Bool.false_and, Bool.and_false, Bool.and_false])))
  have hp : progOk p = true := by assumption
  have hbad : ∀ {k}, k < e.gs.length → gorFit p e k = false → LV.dat (.bool false) = LV.dat (.bool (engOk p e)) := fun hk hh => by rw [engOk, range_no hk hh, Bool.false_and, Bool.and_false]
  have hlc : e.chans.length = p.caps.length := by omega
  have hlm : (e.mus.length : Int) = p.mus := by omega
  have hlg : 1 ≤ e.gs.length ∧ e.gs.length ≤ 10 := by omega
  clear hc
  refine go_bad hn tb_ok rfl ?_ rfl (opw_makeMap hn rfl rfl rfl fun x1 b hsib hpr hold => ?_)
  · (first | exact trivial | (simp only [i64ok, true_and, and_true, Int.toNat_natCast]; omega) | (simp only [i64ok, true_and, and_true, Int.toNat_natCast] at *; omega))
  have hn := hsib.n.trans hn
  clear hsib hold
  refine go_loopX hn tb_ok rfl ?_ (fun (y : Nat × Ents MPlace × Nat) wT wM => ((58, .dat (.int .i64 y.1)) :: wT, wM)) (fun y x => y.1 ≤ e.gs.length ∧ Due x b y.2.1 y.2.2 (gatherN (gorPl p e) y.1) [] ∧ (gatherN (gorPl p e) y.1).length ≤ 4 * y.1 ∧ ∀ j < y.1, gorFit p e j = true) (fun y => e.gs.length - y.1) (0, [], 0) ⟨Nat.zero_le _, ⟨hpr, ⟨by simp, by simp, fun e he => by cases he⟩, fun y => by simp [valE, cntPl, gatherN]⟩, by simp [gatherN], fun j hj => by cases hj⟩ ?_ ?_
  · (first | exact trivial | (simp only [i64ok, true_and, and_true, Int.toNat_natCast]; omega) | (simp only [i64ok, true_and, and_true, Int.toNat_natCast] at *; omega))
  · ((refine le_of [] ?_ ?_ rfl; ((repeat' (first | exact trivial | refine And.intro rfl ?_))); ((repeat' (first | exact trivial | refine And.intro rfl ?_)))))
  rintro ⟨i, l, c⟩ x2 hsib ⟨hi, hdue, hlen, hq⟩
  have hn := hsib.n.trans hn
  clear hsib hpr
  ((refine go_cond hn tb_ok rfl ?_ (fun hc => ?_) (fun hc => ?_); ((first | exact trivial | (simp only [i64ok, true_and, and_true, Int.toNat_natCast]; omega) | (simp only [i64ok, true_and, and_true, Int.toNat_natCast] at *; omega))); all_goals (try (((try simp only [decide_eq_true_eq, decide_eq_false_iff_not, Bool.not_eq_true', Bool.not_eq_false', Bool.not_eq_eq_eq_not, Bool.not_true, Bool.not_false, Int.not_lt, Int.not_le, Int.toNat_natCast, beq_iff_eq, beq_eq_false_iff_ne, ne_eq] at hc); (try (first | simp only [rest_iff, rest_iff', isReg_iff, isReg_iff', isVal_iff, isVal_iff', isIn_iff, isIn_iff', isChan_iff, isChan_iff'] at hc | simp only [(fields_iff _).1, (fields_iff _).2.1, (fields_iff _).2.2, isReg_iff, isReg_iff', isVal_iff, isVal_iff', isIn_iff, isIn_iff', isChan_iff, isChan_iff'] at hc | skip)); try (exfalso; omega))))))
  · have hlt : i < e.gs.length := by omega
    have hnx := gather_next (gorPl p e) i
    have hmw := con_impl_MayWait p (e.gs.getD i dGor)
    have hpc := con_impl_Places p (e.gs.getD i dGor) i
    have hsplit : gorOk p (e.gs.getD i dGor) = gorOk0 p (e.gs.getD i dGor) := by rw [gorOk, hp, Bool.true_and]
    have hgd : gorOk p (e.gs.getD i dGor) = true → gorHead p (e.gs.getD i dGor) = true := fun hk => by
      rw [hsplit, gorOk0, Bool.and_eq_true] at hk; exact hk.1
    have hbnd : gorOk p (e.gs.getD i dGor) = true → (gorPl p e i).length ≤ 4 := fun hk => by
      unfold gorPl
      split
      · exact places_len hp (hgd hk)
      · simp
    (repeat' (first
  | (refine go_cond hn tb_ok rfl ?_ (fun hc => ?_) (fun hc => ?_); ((first | exact trivial | (simp only [i64ok, true_and, and_true, Int.toNat_natCast]; omega) | (simp only [i64ok, true_and, and_true, Int.toNat_natCast] at *; omega))); all_goals (try (((try simp only [decide_eq_true_eq, decide_eq_false_iff_not, Bool.not_eq_true', Bool.not_eq_false', Bool.not_eq_eq_eq_not, Bool.not_true, Bool.not_false, Int.not_lt, Int.not_le, Int.toNat_natCast, beq_iff_eq, beq_eq_false_iff_ne, ne_eq] at hc); (try (first | simp only [rest_iff, rest_iff', isReg_iff, isReg_iff', isVal_iff, isVal_iff', isIn_iff, isIn_iff', isChan_iff, isChan_iff'] at hc | simp only [(fields_iff _).1, (fields_iff _).2.1, (fields_iff _).2.2, isReg_iff, isReg_iff', isVal_iff, isVal_iff', isIn_iff, isIn_iff', isChan_iff, isChan_iff'] at hc | skip)); try (exfalso; omega)))))
  | (refine go_ret hn tb_ok rfl ?_ ⟨_, rfl, ?_⟩; ((first | exact trivial | (simp only [i64ok, true_and, and_true, Int.toNat_natCast]; omega) | (simp only [i64ok, true_and, and_true, Int.toNat_natCast] at *; omega))))
  | ((refine go_con hn tb_ok rfl ?_ rfl [] ⟨_, ?_, rfl, ?_, ?_, ?_, ?_⟩; ((first | exact trivial | (simp only [i64ok, true_and, and_true, Int.toNat_natCast]; omega) | (simp only [i64ok, true_and, and_true, Int.toNat_natCast] at *; omega))); rotate_left; ((first | exact con_impl_GorOk _ _ | exact con_impl_ProgOk _ | exact con_impl_MutexOk _ | exact con_impl_ChanOk _ | assumption)); (rfl); (first | exact .inl rfl | exact .inr (fun id hi => lk3_ok hi))))))
    all_goals (try (
      refine hbad hlt ?_
      rw [gorFit, ← hsplit]
      first
        | (rw [hc, Bool.false_and])
        | (rename_i h1 _; rw [h1] at hc; rw [Bool.true_and] at hc; rw [hc, decide_eq_true (by assumption)]; simp)))
    all_goals (
      have hgk : gorOk p (e.gs.getD i dGor) = true := by assumption
      have hfit : gorFit p e i = true := by
        rw [gorFit, ← hsplit, hgk, Bool.true_and]
        first
          | (rw [decide_eq_false (by assumption)]; rfl)
          | (rw [hgk, Bool.true_and] at hc; rw [hc, Bool.or_true])
      have hl4 := hbnd hgk
      have hwp := waitPl_gor hgk
      clear hc
      rw [hwp]
      refine go_loopX hn tb_ok rfl ?_ (fun (y : Nat × Ents MPlace × Nat) wT wM => ((83, .dat (.int .i64 y.1)) :: wT, wM)) (fun y x => y.1 ≤ (gorPl p e i).length ∧ Due x b y.2.1 y.2.2 (gatherN (gorPl p e) i ++ (gorPl p e i).take y.1) []) (fun y => (gorPl p e i).length - y.1) (0, l, c) ⟨Nat.zero_le _, by simpa using hdue⟩ ?_ ?_
      · (first | exact trivial | (simp only [i64ok, true_and, and_true, Int.toNat_natCast]; omega) | (simp only [i64ok, true_and, and_true, Int.toNat_natCast] at *; omega))
      · ((refine le_of [] ?_ ?_ rfl; ((repeat' (first | exact trivial | refine And.intro rfl ?_))); ((repeat' (first | exact trivial | refine And.intro rfl ?_)))))
      rintro ⟨j, l1, c1⟩ x3 hsib ⟨hj, hd1⟩
      have hn := hsib.n.trans hn
      clear hsib
      ((refine go_cond hn tb_ok rfl ?_ (fun hc => ?_) (fun hc => ?_); ((first | exact trivial | (simp only [i64ok, true_and, and_true, Int.toNat_natCast]; omega) | (simp only [i64ok, true_and, and_true, Int.toNat_natCast] at *; omega))); all_goals (try (((try simp only [decide_eq_true_eq, decide_eq_false_iff_not, Bool.not_eq_true', Bool.not_eq_false', Bool.not_eq_eq_eq_not, Bool.not_true, Bool.not_false, Int.not_lt, Int.not_le, Int.toNat_natCast, beq_iff_eq, beq_eq_false_iff_ne, ne_eq] at hc); (try (first | simp only [rest_iff, rest_iff', isReg_iff, isReg_iff', isVal_iff, isVal_iff', isIn_iff, isIn_iff', isChan_iff, isChan_iff'] at hc | simp only [(fields_iff _).1, (fields_iff _).2.1, (fields_iff _).2.2, isReg_iff, isReg_iff', isVal_iff, isVal_iff', isIn_iff, isIn_iff', isChan_iff, isChan_iff'] at hc | skip)); try (exfalso; omega))))))
      · have hltj : j < (gorPl p e i).length := by omega
        have hv1 := hd1.val ((gorPl p e i).getD j dPlace)
        have hv2 := cnt_le (gatherN (gorPl p e) i ++ (gorPl p e i).take j) ((gorPl p e i).getD j dPlace)
        rw [List.length_append, List.length_take] at hv2
        ((refine go_incr hn tb_ok mix_ok rfl ?_ 2 rfl rfl (fun _ => rfl) rfl hd1.map hd1.good key_Place map_ok zero_ok rfl rfl rfl rfl rfl rfl rfl ((gorPl p e i).getD j dPlace) rfl (valE ((gorPl p e i).getD j dPlace) l1 + 1) rfl ?_ rfl rfl rfl rfl rfl rfl rfl rfl rfl rfl (fun _ _ _ _ _ h => sv_ok h rfl) rfl rfl rfl rfl rfl ?_ ?_ ?_ ?_; ((first | exact trivial | (simp only [i64ok, true_and, and_true, Int.toNat_natCast]; omega) | (simp only [i64ok, true_and, and_true, Int.toNat_natCast] at *; omega))); rotate_left; (kernel_rfl); (kernel_rfl); (kernel_rfl); rotate_left))
        · intro r hr
          cases hr
          rw [i64ok, hv1]
          simp [cntPl] at *
          omega
        intro x4 hf
        have hn := hf.sib.n.trans hn
        refine go_stop hn tb_ok rfl ?_ ⟨(j + 1, setE ((gorPl p e i).getD j dPlace) (valE ((gorPl p e i).getD j dPlace) l1 + 1) (addE ((gorPl p e i).getD j dPlace) c1 l1), clkE ((gorPl p e i).getD j dPlace) c1 l1), ⟨?_, ?_⟩, ?_, ?_⟩
        · (first | exact trivial | (simp only [i64ok, true_and, and_true, Int.toNat_natCast]; omega) | (simp only [i64ok, true_and, and_true, Int.toNat_natCast] at *; omega))
        · show j + 1 ≤ _; omega
        · have := hd1.inc (by rfl) hf
          rw [List.append_assoc, ← take_next hltj] at this
          exact this
        · show (gorPl p e i).length - (j + 1) < (gorPl p e i).length - j; omega
        · ((refine le_of [] ?_ ?_ rfl; ((repeat' (first | exact trivial | refine And.intro rfl ?_))); ((repeat' (first | exact trivial | refine And.intro rfl ?_)))))
      · have hje : j = (gorPl p e i).length := by omega
        subst hje
        refine go_stop hn tb_ok rfl ?_ ⟨(i + 1, l1, c1), ⟨?_, ?_, ?_, ?_⟩, ?_, ?_⟩
        · (first | exact trivial | (simp only [i64ok, true_and, and_true, Int.toNat_natCast]; omega) | (simp only [i64ok, true_and, and_true, Int.toNat_natCast] at *; omega))
        · show i + 1 ≤ _; omega
        · rw [List.take_of_length_le (Nat.le_refl _)] at hd1
          rw [hnx]; exact hd1
        · show (gatherN (gorPl p e) (i + 1)).length ≤ 4 * (i + 1)
          have hlen : (gatherN (gorPl p e) i).length ≤ 4 * i := hlen
          rw [hnx, List.length_append]; omega
        · exact upto hq hfit
        · show e.gs.length - (i + 1) < e.gs.length - i; omega
        · ((refine le_of [] ?_ ?_ rfl; ((repeat' (first | exact trivial | refine And.intro rfl ?_))); ((repeat' (first | exact trivial | refine And.intro rfl ?_))))))
  have hie : i = e.gs.length := by omega
  subst hie
  have hall := range_yes (m := e.gs.length) (f := gorFit p e) hq
  have hwl : (wantPl p e).length ≤ 40 := by
    have : (gatherN (gorPl p e) e.gs.length).length ≤ 4 * e.gs.length := hlen
    unfold wantPl; omega
  have hdw : Due x2 b l c (wantPl p e) [] := hdue
  have htot : (gatherN (chPl e) e.chans.length).length + (gatherN (muPl e) e.mus.length).length ≤ 1048576 := by rw [← List.length_append]; exact hs
  have hnoc : ∀ {k}, k < e.chans.length → chOk p e k = false → LV.dat (.bool false) = LV.dat (.bool (engOk p e)) := fun hk hh => hno (by
    rw [engHead, objOk, range_no hk hh]; simp)
  have hnom : ∀ {k}, k < e.mus.length → muOk e k = false → LV.dat (.bool false) = LV.dat (.bool (engOk p e)) := fun hk hh => hno (by
    rw [engHead, objOk, range_no (f := muOk e) hk hh]; simp)
  have hbc : ∀ k, k < e.chans.length → (e.chans.getD k dChan).sends.length ≤ (9223372036854775807 : Nat) ∧ (e.chans.getD k dChan).recvs.length ≤ (9223372036854775807 : Nat) := fun k hk =>
    have hm := mem_of_getD (d := dChan) hk
    ⟨(Okc.el (ho (.dagg (cEng e)) (by simp) (rows_Chan e.chans) (by simp [cEng])) hm (c := rows_Waiter _) (by simp [cChan])).len, (Okc.el (ho (.dagg (cEng e)) (by simp) (rows_Chan e.chans) (by simp [cEng])) hm (c := rows_Waiter _) (by simp [cChan])).len⟩
  have hbm : ∀ k, k < e.mus.length → (e.mus.getD k dMutex).wait.length ≤ (9223372036854775807 : Nat) := fun k hk =>
    (Okc.el (ho (.dagg (cEng e)) (by simp) (rows_Mutex e.mus) (by simp [cEng])) (mem_of_getD (d := dMutex) hk) (c := ints _) (by simp [cMutex])).len
  have hpc : p.caps.length ≤ (9223372036854775807 : Nat) := by omega
  clear hc hdue hq hi hlen hbad
  refine go_loopX hn tb_ok rfl ?_ (fun (y : Nat × Ents MPlace × Nat) wT wM => ((98, .dat (.int .i64 y.1)) :: wT, wM)) (fun y x => y.1 ≤ e.chans.length ∧ Due x b y.2.1 y.2.2 (wantPl p e) (gatherN (chPl e) y.1) ∧ ∀ j < y.1, chOk p e j = true) (fun y => e.chans.length - y.1) (0, l, c) ⟨Nat.zero_le _, hdw, fun j hj => by cases hj⟩ ?_ ?_
  · (first | exact trivial | (simp only [i64ok, true_and, and_true, Int.toNat_natCast]; omega) | (simp only [i64ok, true_and, and_true, Int.toNat_natCast] at *; omega))
  · ((refine le_of [] ?_ ?_ rfl; ((repeat' (first | exact trivial | refine And.intro rfl ?_))); ((repeat' (first | exact trivial | refine And.intro rfl ?_)))))
  rintro ⟨i, l2, c2⟩ x3 hsib ⟨hi, hd2, hq⟩
  have hn := hsib.n.trans hn
  clear hsib hdw
  ((refine go_cond hn tb_ok rfl ?_ (fun hc => ?_) (fun hc => ?_); ((first | exact trivial | (simp only [i64ok, true_and, and_true, Int.toNat_natCast]; omega) | (simp only [i64ok, true_and, and_true, Int.toNat_natCast] at *; omega))); all_goals (try (((try simp only [decide_eq_true_eq, decide_eq_false_iff_not, Bool.not_eq_true', Bool.not_eq_false', Bool.not_eq_eq_eq_not, Bool.not_true, Bool.not_false, Int.not_lt, Int.not_le, Int.toNat_natCast, beq_iff_eq, beq_eq_false_iff_ne, ne_eq] at hc); (try (first | simp only [rest_iff, rest_iff', isReg_iff, isReg_iff', isVal_iff, isVal_iff', isIn_iff, isIn_iff', isChan_iff, isChan_iff'] at hc | simp only [(fields_iff _).1, (fields_iff _).2.1, (fields_iff _).2.2, isReg_iff, isReg_iff', isVal_iff, isVal_iff', isIn_iff, isIn_iff', isChan_iff, isChan_iff'] at hc | skip)); try (exfalso; omega))))))
  · have hlt : i < e.chans.length := by omega
    obtain ⟨hbs, hbr⟩ := hbc i hlt
    have hnx := gather_next (chPl e) i
    have hm1 := gather_mono (f := chPl e) (i := i + 1) (n := e.chans.length) hlt
    rw [hnx, List.length_append, chPl, List.length_append, List.length_map, List.length_map] at hm1
    cases hk : chanOk (e.chans.getD i dChan)
    · ((refine go_draw hn tb_ok mix_ok [.r (.dat (.bool (chanOk (e.chans.getD i dChan)))), .b true] rfl ?_ rfl ?_ ?_ ?_ ?_; ((first | exact trivial | (simp only [i64ok, true_and, and_true, Int.toNat_natCast]; omega) | (simp only [i64ok, true_and, and_true, Int.toNat_natCast] at *; omega))); rotate_left; (kernel_rfl); (kernel_rfl); rotate_left))
      · (((try simp only [andO, true_and, and_true, Int.toNat_natCast, i64ok, decide_eq_true_eq, decide_eq_false_iff_not, Bool.not_eq_true', Bool.not_eq_false']); (repeat' (first | exact trivial | (first | exact con_impl_GorOk _ _ | exact con_impl_ProgOk _ | exact con_impl_MutexOk _ | exact con_impl_ChanOk _ | assumption) | assumption | omega | exact does_litz _ _ hn tb_ok rfl rfl rfl rfl rfl rfl rfl rfl rfl rfl rfl | exact does_app _ hn tb_ok rfl ⟨rfl, _, _, _, rfl, rfl, rfl, rfl, rfl, rfl⟩ rfl rfl rfl rfl rfl rfl rfl (by simp only [List.length_cons, List.length_nil]; omega) | refine And.intro ?_ ?_))))
      · (repeat' (first
  | (refine go_cond hn tb_ok rfl ?_ (fun hc => ?_) (fun hc => ?_); ((first | exact trivial | (simp only [i64ok, true_and, and_true, Int.toNat_natCast]; omega) | (simp only [i64ok, true_and, and_true, Int.toNat_natCast] at *; omega))); all_goals (try (((try simp only [decide_eq_true_eq, decide_eq_false_iff_not, Bool.not_eq_true', Bool.not_eq_false', Bool.not_eq_eq_eq_not, Bool.not_true, Bool.not_false, Int.not_lt, Int.not_le, Int.toNat_natCast, beq_iff_eq, beq_eq_false_iff_ne, ne_eq] at hc); (try (first | simp only [rest_iff, rest_iff', isReg_iff, isReg_iff', isVal_iff, isVal_iff', isIn_iff, isIn_iff', isChan_iff, isChan_iff'] at hc | simp only [(fields_iff _).1, (fields_iff _).2.1, (fields_iff _).2.2, isReg_iff, isReg_iff', isVal_iff, isVal_iff', isIn_iff, isIn_iff', isChan_iff, isChan_iff'] at hc | skip)); try (exfalso; omega)))))
  | (refine go_ret hn tb_ok rfl ?_ ⟨_, rfl, ?_⟩; ((first | exact trivial | (simp only [i64ok, true_and, and_true, Int.toNat_natCast]; omega) | (simp only [i64ok, true_and, and_true, Int.toNat_natCast] at *; omega))))
  | ((refine go_con hn tb_ok rfl ?_ rfl [] ⟨_, ?_, rfl, ?_, ?_, ?_, ?_⟩; ((first | exact trivial | (simp only [i64ok, true_and, and_true, Int.toNat_natCast]; omega) | (simp only [i64ok, true_and, and_true, Int.toNat_natCast] at *; omega))); rotate_left; ((first | exact con_impl_GorOk _ _ | exact con_impl_ProgOk _ | exact con_impl_MutexOk _ | exact con_impl_ChanOk _ | assumption)); (rfl); (first | exact .inl rfl | exact .inr (fun id hi => lk3_ok hi))))))
        exact hnoc hlt (by rw [chOk, hk]; rfl)
    ((refine go_draw hn tb_ok mix_ok [.r (.dat (.bool (chanOk (e.chans.getD i dChan)))), .b false] rfl ?_ rfl ?_ ?_ ?_ ?_; ((first | exact trivial | (simp only [i64ok, true_and, and_true, Int.toNat_natCast]; omega) | (simp only [i64ok, true_and, and_true, Int.toNat_natCast] at *; omega))); rotate_left; (kernel_rfl); (kernel_rfl); rotate_left))
    · (((try simp only [andO, true_and, and_true, Int.toNat_natCast, i64ok, decide_eq_true_eq, decide_eq_false_iff_not, Bool.not_eq_true', Bool.not_eq_false']); (repeat' (first | exact trivial | (first | exact con_impl_GorOk _ _ | exact con_impl_ProgOk _ | exact con_impl_MutexOk _ | exact con_impl_ChanOk _ | assumption) | assumption | omega | exact does_litz _ _ hn tb_ok rfl rfl rfl rfl rfl rfl rfl rfl rfl rfl rfl | exact does_app _ hn tb_ok rfl ⟨rfl, _, _, _, rfl, rfl, rfl, rfl, rfl, rfl⟩ rfl rfl rfl rfl rfl rfl rfl (by simp only [List.length_cons, List.length_nil]; omega) | refine And.intro ?_ ?_))))
    ((refine go_cond hn tb_ok rfl ?_ (fun hc => ?_) (fun hc => ?_); ((first | exact trivial | (simp only [i64ok, true_and, and_true, Int.toNat_natCast]; omega) | (simp only [i64ok, true_and, and_true, Int.toNat_natCast] at *; omega))); all_goals (try (((try simp only [decide_eq_true_eq, decide_eq_false_iff_not, Bool.not_eq_true', Bool.not_eq_false', Bool.not_eq_eq_eq_not, Bool.not_true, Bool.not_false, Int.not_lt, Int.not_le, Int.toNat_natCast, beq_iff_eq, beq_eq_false_iff_ne, ne_eq] at hc); (try (first | simp only [rest_iff, rest_iff', isReg_iff, isReg_iff', isVal_iff, isVal_iff', isIn_iff, isIn_iff', isChan_iff, isChan_iff'] at hc | simp only [(fields_iff _).1, (fields_iff _).2.1, (fields_iff _).2.2, isReg_iff, isReg_iff', isVal_iff, isVal_iff', isIn_iff, isIn_iff', isChan_iff, isChan_iff'] at hc | skip)); try (exfalso; omega))))))
    · ((refine go_ret hn tb_ok rfl ?_ ⟨_, rfl, ?_⟩; ((first | exact trivial | (simp only [i64ok, true_and, and_true, Int.toNat_natCast]; omega) | (simp only [i64ok, true_and, and_true, Int.toNat_natCast] at *; omega)))))
      exact hnoc hlt (by rw [chOk, decide_eq_false hc, Bool.and_false])
    have hfit : chOk p e i = true := by rw [chOk, hk, decide_eq_true hc]; rfl
    clear hc hk
    refine go_loopX hn tb_ok rfl ?_ (fun (y : Nat × Ents MPlace × Nat) wT wM => ((119, .dat (.int .i64 y.1)) :: wT, wM)) (fun y x => y.1 ≤ (e.chans.getD i dChan).sends.length ∧ Due x b y.2.1 y.2.2 (wantPl p e) (gatherN (chPl e) i ++ ((e.chans.getD i dChan).sends.take y.1).map (plS i))) (fun y => (e.chans.getD i dChan).sends.length - y.1) (0, l2, c2) ⟨Nat.zero_le _, by simpa using hd2⟩ ?_ ?_
    · (first | exact trivial | (simp only [i64ok, true_and, and_true, Int.toNat_natCast]; omega) | (simp only [i64ok, true_and, and_true, Int.toNat_natCast] at *; omega))
    · ((refine le_of [] ?_ ?_ rfl; ((repeat' (first | exact trivial | refine And.intro rfl ?_))); ((repeat' (first | exact trivial | refine And.intro rfl ?_)))))
    rintro ⟨j, l3, c3⟩ x4 hsib ⟨hj, hd3⟩
    have hn := hsib.n.trans hn
    clear hsib hd2
    ((refine go_cond hn tb_ok rfl ?_ (fun hc => ?_) (fun hc => ?_); ((first | exact trivial | (simp only [i64ok, true_and, and_true, Int.toNat_natCast]; omega) | (simp only [i64ok, true_and, and_true, Int.toNat_natCast] at *; omega))); all_goals (try (((try simp only [decide_eq_true_eq, decide_eq_false_iff_not, Bool.not_eq_true', Bool.not_eq_false', Bool.not_eq_eq_eq_not, Bool.not_true, Bool.not_false, Int.not_lt, Int.not_le, Int.toNat_natCast, beq_iff_eq, beq_eq_false_iff_ne, ne_eq] at hc); (try (first | simp only [rest_iff, rest_iff', isReg_iff, isReg_iff', isVal_iff, isVal_iff', isIn_iff, isIn_iff', isChan_iff, isChan_iff'] at hc | simp only [(fields_iff _).1, (fields_iff _).2.1, (fields_iff _).2.2, isReg_iff, isReg_iff', isVal_iff, isVal_iff', isIn_iff, isIn_iff', isChan_iff, isChan_iff'] at hc | skip)); try (exfalso; omega))))))
    · have hltj : j < (e.chans.getD i dChan).sends.length := by omega
      have hv1 := hd3.val (plS i ((e.chans.getD i dChan).sends.getD j dWaiter))
      dsimp only at hv1
      have hv2 := cnt_le (gatherN (chPl e) i ++ ((e.chans.getD i dChan).sends.take j).map (plS i)) (plS i ((e.chans.getD i dChan).sends.getD j dWaiter))
      have hv3 := cnt_le (wantPl p e) (plS i ((e.chans.getD i dChan).sends.getD j dWaiter))
      rw [List.length_append, List.length_map, List.length_take] at hv2
      ((refine go_incr hn tb_ok mix_ok rfl ?_ 4 rfl rfl (fun _ => rfl) rfl hd3.map hd3.good key_Place map_ok zero_ok rfl rfl rfl rfl rfl rfl rfl (plS i ((e.chans.getD i dChan).sends.getD j dWaiter)) rfl (valE (plS i ((e.chans.getD i dChan).sends.getD j dWaiter)) l3 - 1) rfl ?_ rfl rfl rfl rfl rfl rfl rfl rfl rfl rfl (fun _ _ _ _ _ h => sv_ok h rfl) rfl rfl rfl rfl rfl ?_ ?_ ?_ ?_; ((first | exact trivial | (simp only [i64ok, true_and, and_true, Int.toNat_natCast]; omega) | (simp only [i64ok, true_and, and_true, Int.toNat_natCast] at *; omega))); rotate_left; (kernel_rfl); (kernel_rfl); (kernel_rfl); rotate_left))
      · intro r hr
        cases hr
        rw [i64ok, hv1]
        omega
      intro x5 hf
      have hn := hf.sib.n.trans hn
      refine go_stop hn tb_ok rfl ?_ ⟨(j + 1, setE (plS i ((e.chans.getD i dChan).sends.getD j dWaiter)) (valE (plS i ((e.chans.getD i dChan).sends.getD j dWaiter)) l3 - 1) (addE (plS i ((e.chans.getD i dChan).sends.getD j dWaiter)) c3 l3), clkE (plS i ((e.chans.getD i dChan).sends.getD j dWaiter)) c3 l3), ⟨?_, ?_⟩, ?_, ?_⟩
      · (first | exact trivial | (simp only [i64ok, true_and, and_true, Int.toNat_natCast]; omega) | (simp only [i64ok, true_and, and_true, Int.toNat_natCast] at *; omega))
      · show j + 1 ≤ _; omega
      · have := hd3.dec (by rfl) hf
        rw [List.append_assoc, show [plS i ((e.chans.getD i dChan).sends.getD j dWaiter)] = [(e.chans.getD i dChan).sends.getD j dWaiter].map (plS i) from rfl, ← List.map_append, ← take_next hltj] at this
        exact this
      · show (e.chans.getD i dChan).sends.length - (j + 1) < (e.chans.getD i dChan).sends.length - j; omega
      · ((refine le_of [] ?_ ?_ rfl; ((repeat' (first | exact trivial | refine And.intro rfl ?_))); ((repeat' (first | exact trivial | refine And.intro rfl ?_)))))
    have hje : j = (e.chans.getD i dChan).sends.length := by omega
    subst hje
    have hd3 : Due x4 b l3 c3 (wantPl p e) (gatherN (chPl e) i ++ (e.chans.getD i dChan).sends.map (plS i)) := by
      have h := hd3
      rw [List.take_of_length_le (Nat.le_refl _)] at h
      exact h
    clear hc hj
    refine go_loopX hn tb_ok rfl ?_ (fun (y : Nat × Ents MPlace × Nat) wT wM => ((135, .dat (.int .i64 y.1)) :: wT, wM)) (fun y x => y.1 ≤ (e.chans.getD i dChan).recvs.length ∧ Due x b y.2.1 y.2.2 (wantPl p e) ((gatherN (chPl e) i ++ (e.chans.getD i dChan).sends.map (plS i)) ++ ((e.chans.getD i dChan).recvs.take y.1).map (plR i))) (fun y => (e.chans.getD i dChan).recvs.length - y.1) (0, l3, c3) ⟨Nat.zero_le _, by simpa using hd3⟩ ?_ ?_
    · (first | exact trivial | (simp only [i64ok, true_and, and_true, Int.toNat_natCast]; omega) | (simp only [i64ok, true_and, and_true, Int.toNat_natCast] at *; omega))
    · ((refine le_of [] ?_ ?_ rfl; ((repeat' (first | exact trivial | refine And.intro rfl ?_))); ((repeat' (first | exact trivial | refine And.intro rfl ?_)))))
    rintro ⟨j, l4, c4⟩ x5 hsib ⟨hj, hd4⟩
    have hn := hsib.n.trans hn
    clear hsib hd3
    ((refine go_cond hn tb_ok rfl ?_ (fun hc => ?_) (fun hc => ?_); ((first | exact trivial | (simp only [i64ok, true_and, and_true, Int.toNat_natCast]; omega) | (simp only [i64ok, true_and, and_true, Int.toNat_natCast] at *; omega))); all_goals (try (((try simp only [decide_eq_true_eq, decide_eq_false_iff_not, Bool.not_eq_true', Bool.not_eq_false', Bool.not_eq_eq_eq_not, Bool.not_true, Bool.not_false, Int.not_lt, Int.not_le, Int.toNat_natCast, beq_iff_eq, beq_eq_false_iff_ne, ne_eq] at hc); (try (first | simp only [rest_iff, rest_iff', isReg_iff, isReg_iff', isVal_iff, isVal_iff', isIn_iff, isIn_iff', isChan_iff, isChan_iff'] at hc | simp only [(fields_iff _).1, (fields_iff _).2.1, (fields_iff _).2.2, isReg_iff, isReg_iff', isVal_iff, isVal_iff', isIn_iff, isIn_iff', isChan_iff, isChan_iff'] at hc | skip)); try (exfalso; omega))))))
    · have hltj : j < (e.chans.getD i dChan).recvs.length := by omega
      have hv1 := hd4.val (plR i ((e.chans.getD i dChan).recvs.getD j dWaiter))
      dsimp only at hv1
      have hv2 := cnt_le ((gatherN (chPl e) i ++ (e.chans.getD i dChan).sends.map (plS i)) ++ ((e.chans.getD i dChan).recvs.take j).map (plR i)) (plR i ((e.chans.getD i dChan).recvs.getD j dWaiter))
      have hv3 := cnt_le (wantPl p e) (plR i ((e.chans.getD i dChan).recvs.getD j dWaiter))
      rw [List.length_append, List.length_append, List.length_map, List.length_map, List.length_take] at hv2
      ((refine go_incr hn tb_ok mix_ok rfl ?_ 4 rfl rfl (fun _ => rfl) rfl hd4.map hd4.good key_Place map_ok zero_ok rfl rfl rfl rfl rfl rfl rfl (plR i ((e.chans.getD i dChan).recvs.getD j dWaiter)) rfl (valE (plR i ((e.chans.getD i dChan).recvs.getD j dWaiter)) l4 - 1) rfl ?_ rfl rfl rfl rfl rfl rfl rfl rfl rfl rfl (fun _ _ _ _ _ h => sv_ok h rfl) rfl rfl rfl rfl rfl ?_ ?_ ?_ ?_; ((first | exact trivial | (simp only [i64ok, true_and, and_true, Int.toNat_natCast]; omega) | (simp only [i64ok, true_and, and_true, Int.toNat_natCast] at *; omega))); rotate_left; (kernel_rfl); (kernel_rfl); (kernel_rfl); rotate_left))
      · intro r hr
        cases hr
        rw [i64ok, hv1]
        omega
      intro x6 hf
      have hn := hf.sib.n.trans hn
      refine go_stop hn tb_ok rfl ?_ ⟨(j + 1, setE (plR i ((e.chans.getD i dChan).recvs.getD j dWaiter)) (valE (plR i ((e.chans.getD i dChan).recvs.getD j dWaiter)) l4 - 1) (addE (plR i ((e.chans.getD i dChan).recvs.getD j dWaiter)) c4 l4), clkE (plR i ((e.chans.getD i dChan).recvs.getD j dWaiter)) c4 l4), ⟨?_, ?_⟩, ?_, ?_⟩
      · (first | exact trivial | (simp only [i64ok, true_and, and_true, Int.toNat_natCast]; omega) | (simp only [i64ok, true_and, and_true, Int.toNat_natCast] at *; omega))
      · show j + 1 ≤ _; omega
      · have := hd4.dec (by rfl) hf
        rw [List.append_assoc, show [plR i ((e.chans.getD i dChan).recvs.getD j dWaiter)] = [(e.chans.getD i dChan).recvs.getD j dWaiter].map (plR i) from rfl, ← List.map_append, ← take_next hltj] at this
        exact this
      · show (e.chans.getD i dChan).recvs.length - (j + 1) < (e.chans.getD i dChan).recvs.length - j; omega
      · ((refine le_of [] ?_ ?_ rfl; ((repeat' (first | exact trivial | refine And.intro rfl ?_))); ((repeat' (first | exact trivial | refine And.intro rfl ?_)))))
    have hje : j = (e.chans.getD i dChan).recvs.length := by omega
    subst hje
    refine go_stop hn tb_ok rfl ?_ ⟨(i + 1, l4, c4), ⟨?_, ?_, ?_⟩, ?_, ?_⟩
    · (first | exact trivial | (simp only [i64ok, true_and, and_true, Int.toNat_natCast]; omega) | (simp only [i64ok, true_and, and_true, Int.toNat_natCast] at *; omega))
    · show i + 1 ≤ _; omega
    · have h := hd4
      rw [List.take_of_length_le (Nat.le_refl _), List.append_assoc] at h
      rw [hnx, chPl]; exact h
    · exact upto hq hfit
    · show e.chans.length - (i + 1) < e.chans.length - i; omega
    · ((refine le_of [] ?_ ?_ rfl; ((repeat' (first | exact trivial | refine And.intro rfl ?_))); ((repeat' (first | exact trivial | refine And.intro rfl ?_)))))
  have hie : i = e.chans.length := by omega
  subst hie
  have hallc := range_yes (m := e.chans.length) (f := chOk p e) hq
  have hdw : Due x3 b l2 c2 (wantPl p e) (gatherN (chPl e) e.chans.length ++ []) := by rw [List.append_nil]; exact hd2
  clear hc hd2 hq hi
  refine go_loopX hn tb_ok rfl ?_ (fun (y : Nat × Ents MPlace × Nat) wT wM => ((152, .dat (.int .i64 y.1)) :: wT, wM)) (fun y x => y.1 ≤ e.mus.length ∧ Due x b y.2.1 y.2.2 (wantPl p e) (gatherN (chPl e) e.chans.length ++ gatherN (muPl e) y.1) ∧ ∀ j < y.1, muOk e j = true) (fun y => e.mus.length - y.1) (0, l2, c2) ⟨Nat.zero_le _, by simpa [gatherN] using hdw, fun j hj => by cases hj⟩ ?_ ?_
  · (first | exact trivial | (simp only [i64ok, true_and, and_true, Int.toNat_natCast]; omega) | (simp only [i64ok, true_and, and_true, Int.toNat_natCast] at *; omega))
  · ((refine le_of [] ?_ ?_ rfl; ((repeat' (first | exact trivial | refine And.intro rfl ?_))); ((repeat' (first | exact trivial | refine And.intro rfl ?_)))))
  rintro ⟨i, l5, c5⟩ x4 hsib ⟨hi, hd5, hq⟩
  have hn := hsib.n.trans hn
  clear hsib hdw
  ((refine go_cond hn tb_ok rfl ?_ (fun hc => ?_) (fun hc => ?_); ((first | exact trivial | (simp only [i64ok, true_and, and_true, Int.toNat_natCast]; omega) | (simp only [i64ok, true_and, and_true, Int.toNat_natCast] at *; omega))); all_goals (try (((try simp only [decide_eq_true_eq, decide_eq_false_iff_not, Bool.not_eq_true', Bool.not_eq_false', Bool.not_eq_eq_eq_not, Bool.not_true, Bool.not_false, Int.not_lt, Int.not_le, Int.toNat_natCast, beq_iff_eq, beq_eq_false_iff_ne, ne_eq] at hc); (try (first | simp only [rest_iff, rest_iff', isReg_iff, isReg_iff', isVal_iff, isVal_iff', isIn_iff, isIn_iff', isChan_iff, isChan_iff'] at hc | simp only [(fields_iff _).1, (fields_iff _).2.1, (fields_iff _).2.2, isReg_iff, isReg_iff', isVal_iff, isVal_iff', isIn_iff, isIn_iff', isChan_iff, isChan_iff'] at hc | skip)); try (exfalso; omega))))))
  · have hlt : i < e.mus.length := by omega
    have hbs := hbm i hlt
    have hnx := gather_next (muPl e) i
    have hm1 := gather_mono (f := muPl e) (i := i + 1) (n := e.mus.length) hlt
    rw [hnx, List.length_append, muPl, List.length_map] at hm1
    (repeat' (first
  | (refine go_cond hn tb_ok rfl ?_ (fun hc => ?_) (fun hc => ?_); ((first | exact trivial | (simp only [i64ok, true_and, and_true, Int.toNat_natCast]; omega) | (simp only [i64ok, true_and, and_true, Int.toNat_natCast] at *; omega))); all_goals (try (((try simp only [decide_eq_true_eq, decide_eq_false_iff_not, Bool.not_eq_true', Bool.not_eq_false', Bool.not_eq_eq_eq_not, Bool.not_true, Bool.not_false, Int.not_lt, Int.not_le, Int.toNat_natCast, beq_iff_eq, beq_eq_false_iff_ne, ne_eq] at hc); (try (first | simp only [rest_iff, rest_iff', isReg_iff, isReg_iff', isVal_iff, isVal_iff', isIn_iff, isIn_iff', isChan_iff, isChan_iff'] at hc | simp only [(fields_iff _).1, (fields_iff _).2.1, (fields_iff _).2.2, isReg_iff, isReg_iff', isVal_iff, isVal_iff', isIn_iff, isIn_iff', isChan_iff, isChan_iff'] at hc | skip)); try (exfalso; omega)))))
  | (refine go_ret hn tb_ok rfl ?_ ⟨_, rfl, ?_⟩; ((first | exact trivial | (simp only [i64ok, true_and, and_true, Int.toNat_natCast]; omega) | (simp only [i64ok, true_and, and_true, Int.toNat_natCast] at *; omega))))
  | ((refine go_con hn tb_ok rfl ?_ rfl [] ⟨_, ?_, rfl, ?_, ?_, ?_, ?_⟩; ((first | exact trivial | (simp only [i64ok, true_and, and_true, Int.toNat_natCast]; omega) | (simp only [i64ok, true_and, and_true, Int.toNat_natCast] at *; omega))); rotate_left; ((first | exact con_impl_GorOk _ _ | exact con_impl_ProgOk _ | exact con_impl_MutexOk _ | exact con_impl_ChanOk _ | assumption)); (rfl); (first | exact .inl rfl | exact .inr (fun id hi => lk3_ok hi))))))
    all_goals (try (
      refine hnom hlt ?_
      rw [muOk]
      first
        | (rw [hc, Bool.false_and])
        | (rw [decide_eq_false (by omega), Bool.and_false])))
    have hfit : muOk e i = true := by
      rw [muOk, decide_eq_true (by omega), Bool.and_true]; assumption
    clear hc
    refine go_loopX hn tb_ok rfl ?_ (fun (y : Nat × Ents MPlace × Nat) wT wM => ((171, .dat (.int .i64 y.1)) :: wT, wM)) (fun y x => y.1 ≤ (e.mus.getD i dMutex).wait.length ∧ Due x b y.2.1 y.2.2 (wantPl p e) ((gatherN (chPl e) e.chans.length ++ gatherN (muPl e) i) ++ ((e.mus.getD i dMutex).wait.take y.1).map (plM i))) (fun y => (e.mus.getD i dMutex).wait.length - y.1) (0, l5, c5) ⟨Nat.zero_le _, by simpa using hd5⟩ ?_ ?_
    · (first | exact trivial | (simp only [i64ok, true_and, and_true, Int.toNat_natCast]; omega) | (simp only [i64ok, true_and, and_true, Int.toNat_natCast] at *; omega))
    · ((refine le_of [] ?_ ?_ rfl; ((repeat' (first | exact trivial | refine And.intro rfl ?_))); ((repeat' (first | exact trivial | refine And.intro rfl ?_)))))
    rintro ⟨j, l6, c6⟩ x5 hsib ⟨hj, hd6⟩
    have hn := hsib.n.trans hn
    clear hsib hd5
    ((refine go_cond hn tb_ok rfl ?_ (fun hc => ?_) (fun hc => ?_); ((first | exact trivial | (simp only [i64ok, true_and, and_true, Int.toNat_natCast]; omega) | (simp only [i64ok, true_and, and_true, Int.toNat_natCast] at *; omega))); all_goals (try (((try simp only [decide_eq_true_eq, decide_eq_false_iff_not, Bool.not_eq_true', Bool.not_eq_false', Bool.not_eq_eq_eq_not, Bool.not_true, Bool.not_false, Int.not_lt, Int.not_le, Int.toNat_natCast, beq_iff_eq, beq_eq_false_iff_ne, ne_eq] at hc); (try (first | simp only [rest_iff, rest_iff', isReg_iff, isReg_iff', isVal_iff, isVal_iff', isIn_iff, isIn_iff', isChan_iff, isChan_iff'] at hc | simp only [(fields_iff _).1, (fields_iff _).2.1, (fields_iff _).2.2, isReg_iff, isReg_iff', isVal_iff, isVal_iff', isIn_iff, isIn_iff', isChan_iff, isChan_iff'] at hc | skip)); try (exfalso; omega))))))
    · have hltj : j < (e.mus.getD i dMutex).wait.length := by omega
      have hv1 := hd6.val (plM i ((e.mus.getD i dMutex).wait.getD j 0))
      dsimp only at hv1
      have hv2 := cnt_le ((gatherN (chPl e) e.chans.length ++ gatherN (muPl e) i) ++ ((e.mus.getD i dMutex).wait.take j).map (plM i)) (plM i ((e.mus.getD i dMutex).wait.getD j 0))
      have hv3 := cnt_le (wantPl p e) (plM i ((e.mus.getD i dMutex).wait.getD j 0))
      rw [List.length_append, List.length_append, List.length_map, List.length_take] at hv2
      ((refine go_incr hn tb_ok mix_ok rfl ?_ 5 rfl rfl (fun _ => rfl) rfl hd6.map hd6.good key_Place map_ok zero_ok rfl rfl rfl rfl rfl rfl rfl (plM i ((e.mus.getD i dMutex).wait.getD j 0)) rfl (valE (plM i ((e.mus.getD i dMutex).wait.getD j 0)) l6 - 1) rfl ?_ rfl rfl rfl rfl rfl rfl rfl rfl rfl rfl (fun _ _ _ _ _ h => sv_ok h rfl) rfl rfl rfl rfl rfl ?_ ?_ ?_ ?_; ((first | exact trivial | (simp only [i64ok, true_and, and_true, Int.toNat_natCast]; omega) | (simp only [i64ok, true_and, and_true, Int.toNat_natCast] at *; omega))); rotate_left; (kernel_rfl); (kernel_rfl); (kernel_rfl); rotate_left))
      · intro r hr
        cases hr
        rw [i64ok, hv1]
        omega
      intro x6 hf
      have hn := hf.sib.n.trans hn
      refine go_stop hn tb_ok rfl ?_ ⟨(j + 1, setE (plM i ((e.mus.getD i dMutex).wait.getD j 0)) (valE (plM i ((e.mus.getD i dMutex).wait.getD j 0)) l6 - 1) (addE (plM i ((e.mus.getD i dMutex).wait.getD j 0)) c6 l6), clkE (plM i ((e.mus.getD i dMutex).wait.getD j 0)) c6 l6), ⟨?_, ?_⟩, ?_, ?_⟩
      · (first | exact trivial | (simp only [i64ok, true_and, and_true, Int.toNat_natCast]; omega) | (simp only [i64ok, true_and, and_true, Int.toNat_natCast] at *; omega))
      · show j + 1 ≤ _; omega
      · have := hd6.dec (by rfl) hf
        rw [List.append_assoc, show [plM i ((e.mus.getD i dMutex).wait.getD j 0)] = [(e.mus.getD i dMutex).wait.getD j 0].map (plM i) from rfl, ← List.map_append, ← take_next hltj] at this
        exact this
      · show (e.mus.getD i dMutex).wait.length - (j + 1) < (e.mus.getD i dMutex).wait.length - j; omega
      · ((refine le_of [] ?_ ?_ rfl; ((repeat' (first | exact trivial | refine And.intro rfl ?_))); ((repeat' (first | exact trivial | refine And.intro rfl ?_)))))
    have hje : j = (e.mus.getD i dMutex).wait.length := by omega
    subst hje
    refine go_stop hn tb_ok rfl ?_ ⟨(i + 1, l6, c6), ⟨?_, ?_, ?_⟩, ?_, ?_⟩
    · (first | exact trivial | (simp only [i64ok, true_and, and_true, Int.toNat_natCast]; omega) | (simp only [i64ok, true_and, and_true, Int.toNat_natCast] at *; omega))
    · show i + 1 ≤ _; omega
    · have h := hd6
      rw [List.take_of_length_le (Nat.le_refl _), List.append_assoc] at h
      rw [hnx, muPl]; exact h
    · exact upto hq hfit
    · show e.mus.length - (i + 1) < e.mus.length - i; omega
    · ((refine le_of [] ?_ ?_ rfl; ((repeat' (first | exact trivial | refine And.intro rfl ?_))); ((repeat' (first | exact trivial | refine And.intro rfl ?_)))))
  have hie : i = e.mus.length := by omega
  subst hie
  have hallm := range_yes (m := e.mus.length) (f := muOk e) hq
  have hdw : Due x4 b l5 c5 (wantPl p e) (allPl e) := hd5
  have hhd : engHead p e = true := by
    rw [engHead, hp, decide_eq_true hlg, objOk, show objHead p e = true from decide_eq_true ⟨hlc, hlm⟩, hallc, hallm]; rfl
  clear hc hd5 hq hi
  -- the map, entry after entry
  refine go_bad hn tb_ok rfl ?_ rfl (opw_range hn rfl rfl rfl rfl hdw.map map_ok fun x5 r hsib hit hold => ?_)
  · (first | exact trivial | (simp only [i64ok, true_and, and_true, Int.toNat_natCast]; omega) | (simp only [i64ok, true_and, and_true, Int.toNat_natCast] at *; omega))
  have hn := hsib.n.trans hn
  have hmp := hold _ _ hdw.map
  have hgood := hdw.good
  have hval := hdw.val
  clear hsib hold hdw
  have hyes : engOk p e = decide (∀ x ∈ l5, x.2.1 = 0) := by
    rw [engOk, hhd, hall, Bool.true_and, Bool.true_and, Bool.eq_iff_iff, sameB_iff, decide_eq_true_iff, valE_all hgood.keys]
    exact forall_congr' fun y => by rw [hval y]; omega
  refine go_loopX hn tb_ok rfl ?_ (fun (y : Array Nat) wT wM => (wT, wM)) (fun y x => Priv x r (.mapIter (some b) c5 y c5) ∧ Priv x b (objE encP l5 c5) ∧ ∀ x ∈ l5, x.2.2 ∈ y.toList → x.2.1 = 0) (fun y => (leftOf (l5.map (ent encP)).toArray y).size) #[] ⟨hit, hmp, fun x _ h => by cases h⟩ ?_ ?_
  · (first | exact trivial | (simp only [i64ok, true_and, and_true, Int.toNat_natCast]; omega) | (simp only [i64ok, true_and, and_true, Int.toNat_natCast] at *; omega))
  · ((refine le_of [] ?_ ?_ rfl; ((repeat' (first | exact trivial | refine And.intro rfl ?_))); ((repeat' (first | exact trivial | refine And.intro rfl ?_)))))
  rintro y x6 hsib ⟨hit1, hmp1, hz⟩
  have hn := hsib.n.trans hn
  clear hsib hit hmp
  have hbrn : ∀ x ∈ (l5.map (ent encP)).toArray.toList, x.born < c5 := fun x hx => by
    simp only [List.mem_map] at hx
    obtain ⟨e0, he0, rfl⟩ := hx
    exact hgood.born e0 he0
  refine go_bad hn tb_ok rfl ?_ rfl (opw_next hn rfl rfl rfl rfl hit1 hmp1 hbrn ?_ ?_)
  · (first | exact trivial | (simp only [i64ok, true_and, and_true, Int.toNat_natCast]; omega) | (simp only [i64ok, true_and, and_true, Int.toNat_natCast] at *; omega))
  · intro hz0 x7 hsib hold
    have hn := hsib.n.trans hn
    have hall0 : ∀ x ∈ l5, x.2.1 = 0 := fun x0 hx0 => hz x0 hx0 (by
      have := all_seen _ _ hz0 (ent encP x0) (List.mem_map.2 ⟨x0, hx0, rfl⟩)
      have this : y.contains x0.2.2 = true := this
      simpa using this)
    (repeat' (first
  | (refine go_cond hn tb_ok rfl ?_ (fun hc => ?_) (fun hc => ?_); ((first | exact trivial | (simp only [i64ok, true_and, and_true, Int.toNat_natCast]; omega) | (simp only [i64ok, true_and, and_true, Int.toNat_natCast] at *; omega))); all_goals (try (((try simp only [decide_eq_true_eq, decide_eq_false_iff_not, Bool.not_eq_true', Bool.not_eq_false', Bool.not_eq_eq_eq_not, Bool.not_true, Bool.not_false, Int.not_lt, Int.not_le, Int.toNat_natCast, beq_iff_eq, beq_eq_false_iff_ne, ne_eq] at hc); (try (first | simp only [rest_iff, rest_iff', isReg_iff, isReg_iff', isVal_iff, isVal_iff', isIn_iff, isIn_iff', isChan_iff, isChan_iff'] at hc | simp only [(fields_iff _).1, (fields_iff _).2.1, (fields_iff _).2.2, isReg_iff, isReg_iff', isVal_iff, isVal_iff', isIn_iff, isIn_iff', isChan_iff, isChan_iff'] at hc | skip)); try (exfalso; omega)))))
  | (refine go_ret hn tb_ok rfl ?_ ⟨_, rfl, ?_⟩; ((first | exact trivial | (simp only [i64ok, true_and, and_true, Int.toNat_natCast]; omega) | (simp only [i64ok, true_and, and_true, Int.toNat_natCast] at *; omega))))
  | ((refine go_con hn tb_ok rfl ?_ rfl [] ⟨_, ?_, rfl, ?_, ?_, ?_, ?_⟩; ((first | exact trivial | (simp only [i64ok, true_and, and_true, Int.toNat_natCast]; omega) | (simp only [i64ok, true_and, and_true, Int.toNat_natCast] at *; omega))); rotate_left; ((first | exact con_impl_GorOk _ _ | exact con_impl_ProgOk _ | exact con_impl_MutexOk _ | exact con_impl_ChanOk _ | assumption)); (rfl); (first | exact .inl rfl | exact .inr (fun id hi => lk3_ok hi))))))
    rw [hyes, decide_eq_true hall0]; rfl
  · intro e0 he0 x7 hsib hit2 hold
    have hn := hsib.n.trans hn
    have hne : b ≠ r := fun h => by
      subst h
      have := hit1.at_.symm.trans hmp1.at_
      cases this
    have hmp2 := hold b _ hne hmp1
    have hle := he0
    unfold leftOf at hle
    simp only [Array.toList_filter, List.mem_filter, List.mem_map] at hle
    obtain ⟨⟨x0, hx0, rfl⟩, hnew⟩ := hle
    refine go_bad hn tb_ok rfl ?_ rfl (opw_entry hn rfl rfl rfl rfl hit2 hmp2 (e := ent encP x0) (by simp only [List.mem_map]; exact ⟨x0, hx0, rfl⟩) (by
      show ((l5.map (ent encP)).map (·.born)).Nodup
      rw [List.map_map]; exact hgood.stamps) rfl ?_)
    · (first | exact trivial | (simp only [i64ok, true_and, and_true, Int.toNat_natCast]; omega) | (simp only [i64ok, true_and, and_true, Int.toNat_natCast] at *; omega))
    ((refine go_cond hn tb_ok rfl ?_ (fun hc => ?_) (fun hc => ?_); ((first | exact trivial | (simp only [i64ok, true_and, and_true, Int.toNat_natCast]; omega) | (simp only [i64ok, true_and, and_true, Int.toNat_natCast] at *; omega))); all_goals (try (((try simp only [decide_eq_true_eq, decide_eq_false_iff_not, Bool.not_eq_true', Bool.not_eq_false', Bool.not_eq_eq_eq_not, Bool.not_true, Bool.not_false, Int.not_lt, Int.not_le, Int.toNat_natCast, beq_iff_eq, beq_eq_false_iff_ne, ne_eq] at hc); (try (first | simp only [rest_iff, rest_iff', isReg_iff, isReg_iff', isVal_iff, isVal_iff', isIn_iff, isIn_iff', isChan_iff, isChan_iff'] at hc | simp only [(fields_iff _).1, (fields_iff _).2.1, (fields_iff _).2.2, isReg_iff, isReg_iff', isVal_iff, isVal_iff', isIn_iff, isIn_iff', isChan_iff, isChan_iff'] at hc | skip)); try (exfalso; omega))))))
    · (repeat' (first
  | (refine go_cond hn tb_ok rfl ?_ (fun hc => ?_) (fun hc => ?_); ((first | exact trivial | (simp only [i64ok, true_and, and_true, Int.toNat_natCast]; omega) | (simp only [i64ok, true_and, and_true, Int.toNat_natCast] at *; omega))); all_goals (try (((try simp only [decide_eq_true_eq, decide_eq_false_iff_not, Bool.not_eq_true', Bool.not_eq_false', Bool.not_eq_eq_eq_not, Bool.not_true, Bool.not_false, Int.not_lt, Int.not_le, Int.toNat_natCast, beq_iff_eq, beq_eq_false_iff_ne, ne_eq] at hc); (try (first | simp only [rest_iff, rest_iff', isReg_iff, isReg_iff', isVal_iff, isVal_iff', isIn_iff, isIn_iff', isChan_iff, isChan_iff'] at hc | simp only [(fields_iff _).1, (fields_iff _).2.1, (fields_iff _).2.2, isReg_iff, isReg_iff', isVal_iff, isVal_iff', isIn_iff, isIn_iff', isChan_iff, isChan_iff'] at hc | skip)); try (exfalso; omega)))))
  | (refine go_ret hn tb_ok rfl ?_ ⟨_, rfl, ?_⟩; ((first | exact trivial | (simp only [i64ok, true_and, and_true, Int.toNat_natCast]; omega) | (simp only [i64ok, true_and, and_true, Int.toNat_natCast] at *; omega))))
  | ((refine go_con hn tb_ok rfl ?_ rfl [] ⟨_, ?_, rfl, ?_, ?_, ?_, ?_⟩; ((first | exact trivial | (simp only [i64ok, true_and, and_true, Int.toNat_natCast]; omega) | (simp only [i64ok, true_and, and_true, Int.toNat_natCast] at *; omega))); rotate_left; ((first | exact con_impl_GorOk _ _ | exact con_impl_ProgOk _ | exact con_impl_MutexOk _ | exact con_impl_ChanOk _ | assumption)); (rfl); (first | exact .inl rfl | exact .inr (fun id hi => lk3_ok hi))))))
      rw [hyes, decide_eq_false (fun h => hc (h x0 hx0))]; rfl
    · refine go_stop hn tb_ok rfl ?_ ⟨y.push x0.2.2, ⟨hit2, hmp2, fun x1 hx1 hin => ?_⟩, ?_, ?_⟩
      · (first | exact trivial | (simp only [i64ok, true_and, and_true, Int.toNat_natCast]; omega) | (simp only [i64ok, true_and, and_true, Int.toNat_natCast] at *; omega))
      · rw [Array.toList_push, List.mem_append, List.mem_singleton] at hin
        rcases hin with hin | hin
        · exact hz x1 hx1 hin
        · have : x1 = x0 := nodup_inj hgood.stamps hx1 hx0 hin
          rw [this]; exact hc
      · exact left_shrinks _ _ _ he0
      · ((refine le_of [] ?_ ?_ rfl; ((repeat' (first | exact trivial | refine And.intro rfl ?_))); ((repeat' (first | exact trivial | refine And.intro rfl ?_)))))
end Go.Proofs.YtjmefaihkblliaaGreat.Ab

/- For every argument the law FnExactCodeWord returns true: the program's CodeWord returns what the reference's CodeWord returns. Conditions: none. -/
import Derived.Test.YtplkfpjcfalifaaPFnExactCodeWordx1
namespace Go.Proofs.Ytplkfpjcfalifaa.Pure
open Go.RowKit Go.Proofs.Ytplkfpjcfalifaa.PFnExactCodeWord Go.Proofs.YtplkfpjcfalifaaW.PrintWords Go.Proofs.YtplkfpjcfalifaaW.PrintLast

/-- YOURS: ∀ (a0 : Int), (Lit.int .i64 a0).wf = true → laws_FnExactCodeWord.f a0 = some true
What it reaches (each with k first where it has rounds; `.mono`: more rounds tell the same; `.l0`, ..: its loops, with `.mono_l`): spec_CodeWord.f, impl_CodeWord.f, laws_FnExactCodeWord.f -/
theorem FnExactCodeWord : laws_FnExactCodeWord.Pure := by
  intro a0 _
  unfold laws_FnExactCodeWord.f
  by_cases h0 : a0 < 1
  · have e : spec_CodeWord.f a0 = some (⟨#[]⟩ : ByteArray) := by unfold spec_CodeWord.f; rw [if_pos h0]
    have g : impl_CodeWord.f a0 = some (⟨#[]⟩ : ByteArray) := by
      unfold impl_CodeWord.f
      rw [if_neg (by omega), if_neg (by omega), if_neg (by omega), if_neg (by omega)]
    rw [e, g]; simp only [Option.bind_some, if_true]
  · by_cases h1 : a0 > 4
    · have e : spec_CodeWord.f a0 = some (⟨#[]⟩ : ByteArray) := by unfold spec_CodeWord.f; rw [if_neg h0, if_pos h1]
      have g : impl_CodeWord.f a0 = some (⟨#[]⟩ : ByteArray) := by
        unfold impl_CodeWord.f
        rw [if_neg (by omega), if_neg (by omega), if_neg (by omega), if_neg (by omega)]
      rw [e, g]; simp only [Option.bind_some, if_true]
    · obtain rfl | rfl | rfl | rfl : a0 = 1 ∨ a0 = 2 ∨ a0 = 3 ∨ a0 = 4 := by omega
      all_goals decide +kernel

end Go.Proofs.Ytplkfpjcfalifaa.Pure

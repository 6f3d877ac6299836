/- For every argument the law FnExactStateWord returns true: the program's StateWord returns what the reference's StateWord returns. Conditions: none. -/
import Derived.Test.YtplkfpjcfalifaaPFnExactStateWordx1
namespace Go.Proofs.Ytplkfpjcfalifaa.Pure
open Go.RowKit Go.Proofs.Ytplkfpjcfalifaa.PFnExactStateWord Go.Proofs.YtplkfpjcfalifaaW.PrintWords Go.Proofs.YtplkfpjcfalifaaW.PrintLast

/-- YOURS: ∀ (a0 : Int), (Lit.int .i64 a0).wf = true → laws_FnExactStateWord.f a0 = some true
What it reaches (each with k first where it has rounds; `.mono`: more rounds tell the same; `.l0`, ..: its loops, with `.mono_l`): spec_StateWord.f, impl_StateWord.f, laws_FnExactStateWord.f -/
theorem FnExactStateWord : laws_FnExactStateWord.Pure := by
  intro a0 _
  unfold laws_FnExactStateWord.f
  by_cases h0 : a0 < 0
  · have e : spec_StateWord.f a0 = some (⟨#[]⟩ : ByteArray) := by unfold spec_StateWord.f; rw [if_pos h0]
    have g : impl_StateWord.f a0 = some (⟨#[]⟩ : ByteArray) := by
      unfold impl_StateWord.f
      rw [if_neg (by omega), if_neg (by omega), if_neg (by omega), if_neg (by omega)]
    rw [e, g]; simp only [Option.bind_some, if_true]
  · by_cases h1 : a0 > 3
    · have e : spec_StateWord.f a0 = some (⟨#[]⟩ : ByteArray) := by unfold spec_StateWord.f; rw [if_neg h0, if_pos h1]
      have g : impl_StateWord.f a0 = some (⟨#[]⟩ : ByteArray) := by
        unfold impl_StateWord.f
        rw [if_neg (by omega), if_neg (by omega), if_neg (by omega), if_neg (by omega)]
      rw [e, g]; simp only [Option.bind_some, if_true]
    · obtain rfl | rfl | rfl | rfl : a0 = 0 ∨ a0 = 1 ∨ a0 = 2 ∨ a0 = 3 := by omega
      all_goals decide +kernel

end Go.Proofs.Ytplkfpjcfalifaa.Pure

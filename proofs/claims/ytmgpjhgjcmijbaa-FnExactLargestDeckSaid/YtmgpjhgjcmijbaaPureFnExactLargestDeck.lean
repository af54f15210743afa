/- LargestDeck: both functions answer the same at every number. -/
import Derived.Test.YtmgpjhgjcmijbaaF7
import Derived.Test.YtmgpjhgjcmijbaaM
namespace Go.Proofs.Ytmgpjhgjcmijbaa.Pure
open Go.RowKit Go.Proofs.Ytmgpjhgjcmijbaa.F Go.Proofs.YtmgpjhgjcmijbaaW.PrintWords Go.Proofs.YtmgpjhgjcmijbaaW.PrintLast Go.Proofs.YtmgpjhgjcmijbaaW.PrintMore
set_option linter.unusedVariables false
set_option linter.unusedSimpArgs false
theorem FnExactLargestDeck : laws_FnExactLargestDeck.Pure := by
  intro a0 h0
  refine ⟨10, ?_⟩
  by_cases h : 1 ≤ a0 ∧ a0 ≤ 4
  · obtain ⟨n, rfl⟩ := Int.eq_ofNat_of_zero_le (show 0 ≤ a0 by omega)
    have key : ∀ n : Fin 5, 1 ≤ n.1 → laws_FnExactLargestDeck.f 10 (n.1 : Int) = some true := by decide +kernel
    exact key ⟨n, by omega⟩ (by simp; omega)
  · have e : spec_LargestDeck.f 10 a0 = some (-1) := by
      unfold spec_LargestDeck.f spec_l01In.f
      by_cases c : a0 ≥ 1
      · rw [if_pos c, decide_eq_false (by omega)]; rfl
      · rw [if_neg c]; rfl
    have e2 : impl_LargestDeck.f a0 = some (-1) := by
      unfold impl_LargestDeck.f
      by_cases c : a0 < 1
      · rw [if_pos c]
      · rw [if_neg c, if_pos (by omega)]
    unfold laws_FnExactLargestDeck.f
    rw [e, e2]
    rfl
end Go.Proofs.Ytmgpjhgjcmijbaa.Pure

/- RoundsOf: both functions answer the same at every number. -/
import Derived.Test.YtmgpjhgjcmijbaaF13
import Derived.Test.YtmgpjhgjcmijbaaM
namespace Go.Proofs.Ytmgpjhgjcmijbaa.Pure
open Go.RowKit Go.Proofs.Ytmgpjhgjcmijbaa.F Go.Proofs.YtmgpjhgjcmijbaaW.PrintWords Go.Proofs.YtmgpjhgjcmijbaaW.PrintLast Go.Proofs.YtmgpjhgjcmijbaaW.PrintMore
set_option linter.unusedVariables false
set_option linter.unusedSimpArgs false
theorem FnExactRoundsOf : laws_FnExactRoundsOf.Pure := by
  intro a0 h0
  refine ⟨20, ?_⟩
  by_cases h : 1 ≤ a0 ∧ a0 ≤ 12
  · obtain ⟨n, rfl⟩ := Int.eq_ofNat_of_zero_le (show 0 ≤ a0 by omega)
    have key : ∀ n : Fin 13, 1 ≤ n.1 → laws_FnExactRoundsOf.f 20 (n.1 : Int) = some true := by decide +kernel
    exact key ⟨n, by omega⟩ (by simp; omega)
  · have e : spec_RoundsOf.f 20 a0 = some (-1) := by
      unfold spec_RoundsOf.f spec_l01In.f
      by_cases c : a0 ≥ 1
      · rw [if_pos c, decide_eq_false (by omega)]; rfl
      · rw [if_neg c]; rfl
    have e2 : impl_RoundsOf.f 20 a0 = some (-1) := by
      unfold impl_RoundsOf.f
      by_cases c : a0 < 1
      · rw [if_pos c]
      · rw [if_neg c, if_pos (by omega)]
    unfold laws_FnExactRoundsOf.f
    rw [e, e2]
    rfl
end Go.Proofs.Ytmgpjhgjcmijbaa.Pure

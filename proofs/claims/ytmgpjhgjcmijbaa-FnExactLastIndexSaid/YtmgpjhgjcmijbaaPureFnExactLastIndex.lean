/- LastIndex: both functions answer the same at every pair of numbers. -/
import Derived.Test.YtmgpjhgjcmijbaaF61
import Derived.Test.YtmgpjhgjcmijbaaGDuck
import Derived.Test.YtmgpjhgjcmijbaaM
namespace Go.Proofs.Ytmgpjhgjcmijbaa.Pure
open Go.RowKit Go.Proofs.Ytmgpjhgjcmijbaa.F Go.Proofs.YtmgpjhgjcmijbaaW.PrintWords Go.Proofs.YtmgpjhgjcmijbaaW.PrintLast Go.Proofs.YtmgpjhgjcmijbaaW.PrintMore
set_option linter.unusedVariables false
set_option linter.unusedSimpArgs false
theorem FnExactLastIndex : laws_FnExactLastIndex.Pure := by
  intro a0 a1 h0 h1
  refine ⟨60, ?_⟩
  by_cases h : 1 ≤ a0 ∧ a0 ≤ 12 ∧ 0 ≤ a1 ∧ a1 ≤ 1
  · obtain ⟨n, rfl⟩ := Int.eq_ofNat_of_zero_le (show 0 ≤ a0 by omega)
    obtain ⟨m, rfl⟩ := Int.eq_ofNat_of_zero_le (show 0 ≤ a1 by omega)
    have key : ∀ n : Fin 13, ∀ m : Fin 2, 1 ≤ n.1 → laws_FnExactLastIndex.f 60 (n.1 : Int) (m.1 : Int) = some true := by decide +kernel
    exact key ⟨n, by omega⟩ ⟨m, by omega⟩ (by simp; omega)
  · have e : spec_LastIndex.f 60 a0 a1 = some (-1) := by
      unfold spec_LastIndex.f
      rw [l09_no a0 a1 h]; rfl
    have e2 : impl_LastIndex.f 60 a0 a1 = some (-1) := by
      unfold impl_LastIndex.f
      rw [isDuck_no 55 a0 a1 h]; rfl
    unfold laws_FnExactLastIndex.f
    rw [e, e2]
    rfl
end Go.Proofs.Ytmgpjhgjcmijbaa.Pure

/- DealOrder: both functions answer the same at every pair of numbers. -/
import Derived.Test.YtclmicogljidkaaF38
import Derived.Test.YtclmicogljidkaaGDuck
import Derived.Test.YtclmicogljidkaaM
namespace Go.Proofs.Ytclmicogljidkaa.Pure
open Go.RowKit Go.Proofs.Ytclmicogljidkaa.F Go.Proofs.YtclmicogljidkaaW.PrintWords Go.Proofs.YtclmicogljidkaaW.PrintLast Go.Proofs.YtclmicogljidkaaW.PrintMore
set_option linter.unusedVariables false
set_option linter.unusedSimpArgs false
theorem FnExactDealOrder : laws_FnExactDealOrder.Pure := by
  intro a0 a1 h0 h1
  refine ⟨60, ?_⟩
  by_cases h : 1 ≤ a0 ∧ a0 ≤ 12 ∧ 0 ≤ a1 ∧ a1 ≤ 1
  · obtain ⟨n, rfl⟩ := Int.eq_ofNat_of_zero_le (show 0 ≤ a0 by omega)
    obtain ⟨m, rfl⟩ := Int.eq_ofNat_of_zero_le (show 0 ≤ a1 by omega)
    have key : ∀ n : Fin 13, ∀ m : Fin 2, 1 ≤ n.1 → laws_FnExactDealOrder.f 60 (n.1 : Int) (m.1 : Int) = some true := by decide +kernel
    exact key ⟨n, by omega⟩ ⟨m, by omega⟩ (by simp; omega)
  · have e : spec_DealOrder.f 60 a0 a1 = some [] := by
      unfold spec_DealOrder.f
      rw [l09_no a0 a1 h]; rfl
    have e2 : impl_DealOrder.f 60 a0 a1 = some [] := by
      unfold impl_DealOrder.f
      rw [isDuck_no 55 a0 a1 h]; rfl
    unfold laws_FnExactDealOrder.f
    rw [e, e2]
    rfl
end Go.Proofs.Ytclmicogljidkaa.Pure

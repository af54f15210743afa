import Derived.Test.YtfnllojppkjgcaaZFnExactDeBruijn7
import Derived.Test.YtfnllojppkjgcaaZFnExactDeBruijn4
section
/- DeBruijn: both functions answer the same at every number. -/
namespace Go.Proofs.Ytfnllojppkjgcaa.Pure
open Go.RowKit Go.Proofs.Ytfnllojppkjgcaa.F Go.Proofs.YtfnllojppkjgcaaW.PrintWords Go.Proofs.YtfnllojppkjgcaaW.PrintLast Go.Proofs.YtfnllojppkjgcaaW.PrintMore
set_option linter.unusedVariables false
set_option linter.unusedSimpArgs false
theorem FnExactDeBruijn : laws_FnExactDeBruijn.Pure := by
  intro a0 h0
  refine ⟨300, ?_⟩
  by_cases h : 1 ≤ a0 ∧ a0 ≤ 6
  · obtain ⟨n, rfl⟩ := Int.eq_ofNat_of_zero_le (show 0 ≤ a0 by omega)
    have key : ∀ n : Fin 7, 1 ≤ n.1 → laws_FnExactDeBruijn.f 300 (n.1 : Int) = some true := by decide +kernel
    exact key ⟨n, by omega⟩ (by simp; omega)
  · have e : spec_DeBruijn.f 300 a0 = some ([], 0, false) := by
      unfold spec_DeBruijn.f spec_l01In.f
      by_cases c : a0 ≥ 1
      · rw [if_pos c, decide_eq_false (by omega)]; rfl
      · rw [if_neg c]; rfl
    have e2 : ∀ k, impl_DeBruijn.f (k + 1) a0 = some ([], 0, false) := by
      intro k
      unfold impl_DeBruijn.f
      by_cases c : a0 < 1
      · rw [if_pos c]; rfl
      · rw [if_neg c, decide_eq_true (show a0 > 6 by omega)]; rfl
    unfold laws_FnExactDeBruijn.f
    rw [e, e2 299]
    have e3 : (impl_DeBruijn.f 299 a0) = some ([], 0, false) := e2 298
    have e4 : laws_eqStack.f 300 [] 0 [] 0 = some true := rfl
    simp only [Option.bind_some, e4, if_true, bne_self_eq_false]
    show laws_FnExactDeBruijn.j0 (299 + 1) a0 false false [] 0 [] 0 = some true
    simp only [laws_FnExactDeBruijn.j0, e3]
    rfl
end Go.Proofs.Ytfnllojppkjgcaa.Pure
end

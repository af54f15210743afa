/- LastByPower: both functions answer the same at every pair of numbers. -/
import Derived.Test.YtmgpjhgjcmijbaaF44
import Derived.Test.YtmgpjhgjcmijbaaM
namespace Go.Proofs.Ytmgpjhgjcmijbaa.Pure
open Go.RowKit Go.Proofs.Ytmgpjhgjcmijbaa.F Go.Proofs.YtmgpjhgjcmijbaaW.PrintWords Go.Proofs.YtmgpjhgjcmijbaaW.PrintLast Go.Proofs.YtmgpjhgjcmijbaaW.PrintMore
set_option linter.unusedVariables false
set_option linter.unusedSimpArgs false
theorem isDuck_no (k : Nat) (a0 a1 : Int) (h : ¬ (1 ≤ a0 ∧ a0 ≤ 12 ∧ 0 ≤ a1 ∧ a1 ≤ 1)) : impl_isDuck.f (k + 5) a0 a1 = some false := by
  unfold impl_isDuck.f impl_MoveOk.f
  by_cases c1 : a0 < 1
  · rw [if_pos c1]; rfl
  · rw [if_neg c1]
    by_cases c2 : a0 > 12
    · rw [if_pos c2]; rfl
    · rw [if_neg c2]
      by_cases c3 : a1 < 0
      · rw [decide_eq_true c3]; rfl
      · rw [decide_eq_false c3]
        have c4 : decide (a1 ≤ 1) = false := decide_eq_false (by omega)
        simp [impl_MoveOk.j0, impl_MoveOk.j1, impl_MoveOk.j2, c4]
theorem FnExactLastByPower : laws_FnExactLastByPower.Pure := by
  intro a0 a1 h0 h1
  refine ⟨20, ?_⟩
  by_cases h : 1 ≤ a0 ∧ a0 ≤ 12 ∧ 0 ≤ a1 ∧ a1 ≤ 1
  · obtain ⟨n, rfl⟩ := Int.eq_ofNat_of_zero_le (show 0 ≤ a0 by omega)
    obtain ⟨m, rfl⟩ := Int.eq_ofNat_of_zero_le (show 0 ≤ a1 by omega)
    have key : ∀ n : Fin 13, ∀ m : Fin 2, 1 ≤ n.1 → laws_FnExactLastByPower.f 20 (n.1 : Int) (m.1 : Int) = some true := by decide +kernel
    exact key ⟨n, by omega⟩ ⟨m, by omega⟩ (by simp; omega)
  · have e : spec_LastByPower.f 20 a0 a1 = some (-1) := by
      have : spec_l09Ok.f a0 a1 = some false := by
        unfold spec_l09Ok.f spec_l01In.f
        by_cases c : a0 ≥ 1
        · rw [if_pos c]
          by_cases c2 : a0 ≤ 12
          · rw [decide_eq_true c2]
            by_cases c3 : a1 ≥ 0
            · rw [if_pos c3, decide_eq_false (show ¬ a1 ≤ 1 by omega)]; rfl
            · rw [if_neg c3]; rfl
          · rw [decide_eq_false c2]; rfl
        · rw [if_neg c]; rfl
      unfold spec_LastByPower.f
      rw [this]; rfl
    have e2 : impl_LastByPower.f 20 a0 a1 = some (-1) := by
      unfold impl_LastByPower.f
      rw [isDuck_no 15 a0 a1 h]; rfl
    unfold laws_FnExactLastByPower.f
    rw [e, e2]
    rfl
end Go.Proofs.Ytmgpjhgjcmijbaa.Pure

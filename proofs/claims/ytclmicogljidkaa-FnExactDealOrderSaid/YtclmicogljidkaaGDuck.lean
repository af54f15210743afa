/- When there is no ducking deal. -/
import Derived.Test.YtclmicogljidkaaF28
import Derived.Test.YtclmicogljidkaaF34
import Derived.Test.YtclmicogljidkaaF35
import Derived.Test.YtclmicogljidkaaM
namespace Go.Proofs.Ytclmicogljidkaa.F
open Go.RowKit Go.Proofs.YtclmicogljidkaaW.PrintWords Go.Proofs.YtclmicogljidkaaW.PrintLast Go.Proofs.YtclmicogljidkaaW.PrintMore
set_option linter.unusedVariables false
set_option linter.unusedSimpArgs false
theorem isDuck_no (k : Nat) (a0 a1 : Int) (h : ¬ (1 ≤ a0 ∧ a0 ≤ 12 ∧ 0 ≤ a1 ∧ a1 ≤ 1)) : impl_isDuck.f (k + 5) a0 a1 = some false := by
  unfold impl_isDuck.f impl_MoveOk.f
  by_cases c1 : a0 < 1
  · rw [if_pos c1]; rfl
  · rw [if_neg c1]
    by_cases c2 : a0 > 12
    · rw [if_pos c2]; rfl
    · rw [if_neg c2]
      by_cases c3 : a1 < 0
      · rw [decide_eq_true c3]; rfl
      · rw [decide_eq_false c3]
        have c4 : decide (a1 ≤ 1) = false := decide_eq_false (by omega)
        simp [impl_MoveOk.j0, impl_MoveOk.j1, impl_MoveOk.j2, c4]
theorem l09_no (a0 a1 : Int) (h : ¬ (1 ≤ a0 ∧ a0 ≤ 12 ∧ 0 ≤ a1 ∧ a1 ≤ 1)) : spec_l09Ok.f a0 a1 = some false := by
  unfold spec_l09Ok.f spec_l01In.f
  by_cases c : a0 ≥ 1
  · rw [if_pos c]
    by_cases c2 : a0 ≤ 12
    · rw [decide_eq_true c2]
      by_cases c3 : a1 ≥ 0
      · rw [if_pos c3, decide_eq_false (show ¬ a1 ≤ 1 by omega)]; rfl
      · rw [if_neg c3]; rfl
    · rw [decide_eq_false c2]; rfl
  · rw [if_neg c]; rfl
end Go.Proofs.Ytclmicogljidkaa.F

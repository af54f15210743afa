/- HallViolation: both functions answer the same at every pair of numbers. -/
import Derived.Test.YtmgpjhgjcmijbaaF76
import Derived.Test.YtmgpjhgjcmijbaaM
namespace Go.Proofs.Ytmgpjhgjcmijbaa.Pure
open Go.RowKit Go.Proofs.Ytmgpjhgjcmijbaa.F Go.Proofs.YtmgpjhgjcmijbaaW.PrintWords Go.Proofs.YtmgpjhgjcmijbaaW.PrintLast Go.Proofs.YtmgpjhgjcmijbaaW.PrintMore
set_option linter.unusedVariables false
set_option linter.unusedSimpArgs false
theorem FnExactHallViolation : laws_FnExactHallViolation.Pure := by
  intro a0 a1 h0 h1
  by_cases h : 1 ≤ a0 ∧ a0 ≤ 8 ∧ 1 ≤ a1 ∧ a1 ≤ 4
  · refine ⟨500, ?_⟩
    obtain ⟨n, rfl⟩ := Int.eq_ofNat_of_zero_le (show 0 ≤ a0 by omega)
    obtain ⟨m, rfl⟩ := Int.eq_ofNat_of_zero_le (show 0 ≤ a1 by omega)
    have key : ∀ n : Fin 9, ∀ m : Fin 5, 1 ≤ n.1 → 1 ≤ m.1 → laws_FnExactHallViolation.f 500 (n.1 : Int) (m.1 : Int) = some true := by decide +kernel
    exact key ⟨n, by omega⟩ ⟨m, by omega⟩ (by simp; omega) (by simp; omega)
  · refine ⟨500, ?_⟩
    have e2 : impl_HallViolation.f 500 a0 a1 = some false := by
      unfold impl_HallViolation.f
      by_cases c1 : a0 < 1
      · simp only [if_pos c1]; try rfl
      · by_cases c2 : a0 > 8
        · simp only [if_neg c1, if_pos c2]; try rfl
        · by_cases c3 : a1 < 1
          · simp only [if_neg c1, if_neg c2, if_pos c3]; try rfl
          · have c4 : a1 > 4 := by omega
            simp only [if_neg c1, if_neg c2, if_neg c3, if_pos c4, decide_eq_true c4]; try rfl
    have e : spec_HallViolation.f 500 a0 a1 = some false := by
      unfold spec_HallViolation.f
      by_cases c : 1 ≤ a1 ∧ a1 ≤ 4
      · have i1 : spec_l01In.f a1 1 4 = some true := by
          unfold spec_l01In.f
          rw [if_pos c.1, decide_eq_true c.2]
        have i2 : spec_l01In.f a0 1 8 = some false := by
          unfold spec_l01In.f
          by_cases d : a0 ≥ 1
          · rw [if_pos d, decide_eq_false (by omega)]
          · rw [if_neg d]
        rw [i1]
        unfold spec_HandsOf.f spec_MessagesOf.f
        rw [i2]
        rfl
      · have i1 : spec_l01In.f a1 1 4 = some false := by
          unfold spec_l01In.f
          by_cases d : a1 ≥ 1
          · rw [if_pos d, decide_eq_false (by omega)]
          · rw [if_neg d]
        rw [i1]; rfl
    unfold laws_FnExactHallViolation.f
    rw [e, e2]
    rfl
end Go.Proofs.Ytmgpjhgjcmijbaa.Pure

/- FaroTo: both functions answer the same at every pair of numbers. -/
import Derived.Test.YtmgpjhgjcmijbaaF22
import Derived.Test.YtmgpjhgjcmijbaaGLaws
import Derived.Test.YtmgpjhgjcmijbaaM
namespace Go.Proofs.Ytmgpjhgjcmijbaa.Pure
open Go.RowKit Go.Proofs.Ytmgpjhgjcmijbaa.F Go.Proofs.YtmgpjhgjcmijbaaW.PrintWords Go.Proofs.YtmgpjhgjcmijbaaW.PrintLast Go.Proofs.YtmgpjhgjcmijbaaW.PrintMore
set_option linter.unusedVariables false
set_option linter.unusedSimpArgs false
theorem l08_no (a0 : Int) (h : ¬ (2 ≤ a0 ∧ a0 ≤ 12 ∧ a0 % 2 = 0)) : spec_l08Ok.f a0 = some false ∧ impl_isPaired.f a0 = some false := by
  unfold spec_l08Ok.f impl_isPaired.f spec_l01In.f
  by_cases h1 : 2 ≤ a0
  · by_cases h2 : a0 ≤ 12
    · have h3 : ¬ a0 % 2 = 0 := fun h3 => h ⟨h1, h2, h3⟩
      have h4 : Int.tmod a0 2 = a0 % 2 := Int.tmod_eq_emod_of_nonneg (by omega)
      simp [h1, h2, h4]; omega
    · simp [h1, h2]
  · simp [h1]
theorem glue (a0 a1 : Int) (h1 : ∀ k, impl_FaroTo.f (k + 2) a0 a1 = some ([], false)) (h2 : ∀ k, spec_FaroTo.f (k + 2) a0 a1 = some ([], false)) : ∃ k, laws_FnExactFaroTo.f k a0 a1 = some true := by
  refine Ev.rounds (g := fun k => laws_FnExactFaroTo.f k a0 a1) ?_
  unfold laws_FnExactFaroTo.f
  have e1 : Ev (fun k => impl_FaroTo.f k a0 a1) ([], false) := Ev.step (f := fun k => impl_FaroTo.f (k + 1) a0 a1) (fun _ => rfl) (Ev.step (f := fun _ => some ([], false)) (fun k => h1 k) (Ev.now _))
  have e2 : Ev (fun k => spec_FaroTo.f k a0 a1) ([], false) := Ev.step (f := fun k => spec_FaroTo.f (k + 1) a0 a1) (fun _ => rfl) (Ev.step (f := fun _ => some ([], false)) (fun k => h2 k) (Ev.now _))
  refine Ev.bind e2 (Ev.bind e1 (Ev.bind (eqIntS_same [] (by simp)) ?_))
  simp only [if_true, bne_self_eq_false]
  have g := heldIntS_ev 0 1 (by omega) (by omega) (by omega)
  have n1 : ¬ (1 + ((0 : Nat) : Int) < 0) := by omega
  refine Ev.succ ?_
  simp only [laws_FnExactFaroTo.j0, Bool.false_eq_true, if_false]
  refine Ev.bind (markIntS_ev [] 1 (by simp) (by omega) (by omega)) (Ev.bind g ?_)
  simp only [if_neg n1, List.length_nil, if_true]
  refine Ev.bind e1 (Ev.bind (eqIntS_same [] (by simp)) ?_)
  simp only [if_true, bne_self_eq_false]
  refine Ev.succ ?_
  simp only [laws_FnExactFaroTo.j1, Bool.false_eq_true, if_false]
  refine Ev.bind g ?_
  simp only [if_neg n1, if_true]
  exact Ev.now _
theorem FnExactFaroTo : laws_FnExactFaroTo.Pure := by
  intro a0 a1 w0 w1
  by_cases h : 2 ≤ a0 ∧ a0 ≤ 12 ∧ a0 % 2 = 0
  · obtain ⟨h1, h2, h3⟩ := h
    by_cases hb : 0 ≤ a1 ∧ a1 < a0
    · refine ⟨40, ?_⟩
      obtain ⟨n, rfl⟩ := Int.eq_ofNat_of_zero_le (show 0 ≤ a0 by omega)
      obtain ⟨m, rfl⟩ := Int.eq_ofNat_of_zero_le hb.1
      have key : ∀ n : Fin 13, ∀ m : Fin 13, 2 ≤ n.1 → n.1 % 2 = 0 → m.1 < n.1 → laws_FnExactFaroTo.f 40 n.1 m.1 = some true := by decide +kernel
      exact key ⟨n, by omega⟩ ⟨m, by omega⟩ (by simp; omega) (by simp; omega) (by simp; omega)
    · have e1 : spec_l08Ok.f a0 = some true ∧ impl_isPaired.f a0 = some true := by
        have h4 : Int.tmod a0 2 = a0 % 2 := Int.tmod_eq_emod_of_nonneg (by omega)
        unfold spec_l08Ok.f impl_isPaired.f spec_l01In.f
        simp [h1, h2, h4]; omega
      have hw : wrap64 (a0 - 1) = a0 - 1 := w64_id (by omega) (by omega)
      have e2 : spec_l01In.f a1 0 (a0 - 1) = some false := by
        unfold spec_l01In.f
        split <;> simp; omega
      refine glue a0 a1 (fun k => ?_) (fun k => ?_)
      · unfold impl_FaroTo.f
        rw [e1.2]
        simp only [Option.bind_some, if_true]
        by_cases c : a1 < 0
        · rw [if_pos c]; rfl
        · rw [if_neg c, decide_eq_true (show a1 ≥ a0 by omega)]; rfl
      · unfold spec_FaroTo.f
        rw [e1.1]
        simp only [Option.bind_some, if_true, hw, e2]
        rfl
  · obtain ⟨e1, e2⟩ := l08_no a0 h
    refine glue a0 a1 (fun k => ?_) (fun k => ?_)
    · unfold impl_FaroTo.f
      rw [e2]; rfl
    · unfold spec_FaroTo.f
      rw [e1]; rfl
end Go.Proofs.Ytmgpjhgjcmijbaa.Pure

/- HandsOf: both functions make the same hands at every pair of numbers. -/
import Derived.Test.YtmgpjhgjcmijbaaF46
import Derived.Test.YtmgpjhgjcmijbaaF48
import Derived.Test.YtmgpjhgjcmijbaaF49
import Derived.Test.YtmgpjhgjcmijbaaF50
import Derived.Test.YtmgpjhgjcmijbaaF51
import Derived.Test.YtmgpjhgjcmijbaaF52
import Derived.Test.YtmgpjhgjcmijbaaM
namespace Go.Proofs.Ytmgpjhgjcmijbaa.Pure
open Go.RowKit Go.Proofs.Ytmgpjhgjcmijbaa.F Go.Proofs.YtmgpjhgjcmijbaaW.PrintWords Go.Proofs.YtmgpjhgjcmijbaaW.PrintLast Go.Proofs.YtmgpjhgjcmijbaaW.PrintMore
set_option linter.unusedVariables false
set_option linter.unusedSimpArgs false
def chk (n m : Int) : Option Bool := (spec_HandsOf.f 500 n m).bind fun r => (impl_HandsOf.f 500 n m).bind fun r2 => (laws_eqIntSS.f 500 r r).bind fun e => (laws_markIntSS.f 500 r 1).bind fun q => (laws_heldIntSS.f 500 q.2 1).bind fun h => some (decide (r = r2) && e && decide (h = q.1) && decide (0 ≤ q.1))
theorem of_chk (n m : Int) (h : chk n m = some true) : ∃ (k : Nat) (r : List (List Int)) (m1 : Int) (m2 : List (List Int)),
    spec_HandsOf.f k n m = some r ∧ impl_HandsOf.f k n m = some r ∧ laws_eqIntSS.f k r r = some true ∧ laws_markIntSS.f k r 1 = some (m1, m2) ∧ laws_heldIntSS.f k m2 1 = some m1 ∧ 0 ≤ m1 := by
  unfold chk at h
  obtain ⟨r, h1, h⟩ := Option.bind_eq_some_iff.mp h
  obtain ⟨r2, h2, h⟩ := Option.bind_eq_some_iff.mp h
  obtain ⟨e, h3, h⟩ := Option.bind_eq_some_iff.mp h
  obtain ⟨⟨q1, q2⟩, h4, h⟩ := Option.bind_eq_some_iff.mp h
  obtain ⟨g, h5, h⟩ := Option.bind_eq_some_iff.mp h
  have h := Option.some.inj h
  simp only [Bool.and_eq_true, decide_eq_true_eq] at h
  obtain ⟨⟨⟨rfl, rfl⟩, rfl⟩, h6⟩ := h
  exact ⟨500, _, _, _, h1, h2, h3, h4, h5, h6⟩
theorem FnExactHandsOf : laws_FnExactHandsOf.Pure := by
  intro a0 a1 h0 h1
  refine of_chk a0 a1 ?_
  by_cases h : 1 ≤ a0 ∧ a0 ≤ 8 ∧ 1 ≤ a1 ∧ a1 ≤ a0
  · obtain ⟨n, rfl⟩ := Int.eq_ofNat_of_zero_le (show 0 ≤ a0 by omega)
    obtain ⟨m, rfl⟩ := Int.eq_ofNat_of_zero_le (show 0 ≤ a1 by omega)
    have key : ∀ n : Fin 9, ∀ m : Fin 9, 1 ≤ n.1 → 1 ≤ m.1 → m.1 ≤ n.1 → chk (n.1 : Int) (m.1 : Int) = some true := by decide +kernel
    exact key ⟨n, by omega⟩ ⟨m, by omega⟩ (by simp; omega) (by simp; omega) (by simp; omega)
  · have e : spec_HandsOf.f 500 a0 a1 = some [] := by
      unfold spec_HandsOf.f spec_l01In.f
      by_cases c1 : a0 ≥ 1
      · rw [if_pos c1]
        by_cases c2 : a0 ≤ 8
        · rw [decide_eq_true c2]
          by_cases c3 : a1 ≥ 1
          · rw [if_pos c3, decide_eq_false (show ¬ a1 ≤ a0 by omega)]; rfl
          · rw [if_neg c3]; rfl
        · rw [decide_eq_false c2]; rfl
      · rw [if_neg c1]; rfl
    have e2 : impl_HandsOf.f 500 a0 a1 = some [] := by
      unfold impl_HandsOf.f
      by_cases c1 : a0 < 1
      · simp only [if_pos c1]; try rfl
      · by_cases c2 : a0 > 8
        · simp only [if_neg c1, if_pos c2]; try rfl
        · by_cases c3 : a1 < 1
          · simp only [if_neg c1, if_neg c2, if_pos c3]; try rfl
          · have c4 : a1 > a0 := by omega
            simp only [if_neg c1, if_neg c2, if_neg c3, if_pos c4, decide_eq_true c4]; try rfl
    unfold chk
    rw [e, e2]
    rfl
end Go.Proofs.Ytmgpjhgjcmijbaa.Pure

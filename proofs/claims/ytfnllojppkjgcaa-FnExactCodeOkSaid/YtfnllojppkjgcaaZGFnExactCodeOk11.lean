import Derived.Test.YtfnllojppkjgcaaZGFnExactCodeOk10
import Derived.Test.YtfnllojppkjgcaaZGFnExactCodeOk9
import Derived.Test.YtfnllojppkjgcaaZGFnExactCodeOk4
section
namespace Go.Proofs.Ytfnllojppkjgcaa.F
open Go.RowKit Go.Proofs.YtfnllojppkjgcaaW.PrintWords
/-- What is to be shown of numbers and lists. -/
def laws_FnExactCodeOk.Pure : Prop := ∀ (a0_0 : Int) (l0_1 : List (List (Int))) (l0_2 : List (List (Int))), (((Lit.int .i64 a0_0).wf = true) ∧ (l0_1.length * 24 ≤ 140737488351232 ∧ l0_1.length ≤ maxLen ∧ ∀ yl0_1 ∈ l0_1, (yl0_1.length * 8 ≤ 140737488351232 ∧ yl0_1.length ≤ maxLen ∧ ∀ yyl0_1 ∈ yl0_1, ((Lit.int .i64 yyl0_1).wf = true))) ∧ (l0_2.length * 24 ≤ 140737488351232 ∧ l0_2.length ≤ maxLen ∧ ∀ yl0_2 ∈ l0_2, (yl0_2.length * 8 ≤ 140737488351232 ∧ yl0_2.length ≤ maxLen ∧ ∀ yyl0_2 ∈ yl0_2, ((Lit.int .i64 yyl0_2).wf = true)))) → ∃ k, laws_FnExactCodeOk.f k a0_0 l0_1 l0_2 = some true
end Go.Proofs.Ytfnllojppkjgcaa.F
end
section
/- CodeOk: both checks answer the same. -/
namespace Go.Proofs.Ytfnllojppkjgcaa.Pure
open Go.RowKit Go.Proofs.Ytfnllojppkjgcaa.F Go.Proofs.YtfnllojppkjgcaaW.PrintWords Go.Proofs.YtfnllojppkjgcaaW.PrintLast Go.Proofs.YtfnllojppkjgcaaW.PrintMore
set_option linter.unusedVariables false
set_option linter.unusedSimpArgs false
theorem FnExactCodeOk : laws_FnExactCodeOk.Pure := by
  intro d H S hq
  obtain ⟨_, ⟨h1, h2, h3⟩, ⟨s1, s2, s3⟩⟩ := hq
  obtain ⟨r, hsz, hr⟩ := szCode_ev d H S (by omega) (by omega) (fun x hx => by have := h3 x hx; omega) (fun x hx => by have := s3 x hx; omega)
  have main2 : Ev (fun k => laws_FnExactCodeOk.f k d H S) true := by
    unfold laws_FnExactCodeOk.f
    refine Ev.bind hsz ?_
    by_cases c : r < 0
    · simp only [if_pos c]
      exact Ev.now _
    · obtain ⟨b1, b2⟩ := hr.resolve_left c
      have hx : ∀ x ∈ H, x.length ≤ 1048576 := fun x hx => by have := total_mem H x hx; omega
      have hx2 : ∀ x ∈ S, x.length ≤ 1048576 := fun x hx => by have := total_mem S x hx; omega
      obtain ⟨b, hs, hi, _⟩ := code_both d H S (by omega) (by omega) hx hx2
      have ht := toCode_ev d H S (by omega) (by omega) hx hx2
      have he := eqCode_ev d H S (by omega) (by omega) hx hx2
      simp only [if_neg c]
      repeat' first
        | exact Ev.now _
        | with_reducible refine Ev.bind hs ?_
        | with_reducible refine Ev.bind hi ?_
        | with_reducible refine Ev.bind ht ?_
        | with_reducible refine Ev.bind he ?_
        | simp only [if_true, if_false, Bool.not_true, bne_self_eq_false, Bool.false_eq_true, neg1, neg2, neg3]
  exact main2.imp fun K hK => hK K (Nat.le_refl _)
end Go.Proofs.Ytfnllojppkjgcaa.Pure
end

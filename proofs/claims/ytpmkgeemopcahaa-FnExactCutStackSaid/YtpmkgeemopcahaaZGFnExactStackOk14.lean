import Derived.Test.YtpmkgeemopcahaaZGFnExactStackOk13
import Derived.Test.YtpmkgeemopcahaaZGFnExactStackOk5
import Derived.Test.YtpmkgeemopcahaaZGFnExactStackOk7
import Derived.Test.YtpmkgeemopcahaaZGFnExactStackOk3
section
namespace Go.Proofs.Ytpmkgeemopcahaa.F
open Go.RowKit Go.Proofs.YtpmkgeemopcahaaW.PrintWords
/-- What is to be shown of numbers and lists. -/
def laws_FnExactCutStack.Pure : Prop := ∀ (l0_0 : List (Int)) (a0_1 : Int) (a1 : Int), ((l0_0.length * 8 ≤ 140737488351232 ∧ l0_0.length ≤ maxLen ∧ ∀ yl0_0 ∈ l0_0, ((Lit.int .i64 yl0_0).wf = true)) ∧ ((Lit.int .i64 a0_1).wf = true)) → (((Lit.int .i64 a1).wf = true)) → ∃ k, laws_FnExactCutStack.f k l0_0 a0_1 a1 = some true
end Go.Proofs.Ytpmkgeemopcahaa.F
end
section
/- CutStack: both functions answer the same. -/
namespace Go.Proofs.Ytpmkgeemopcahaa.Pure
open Go.RowKit Go.Proofs.Ytpmkgeemopcahaa.F Go.Proofs.YtpmkgeemopcahaaW.PrintWords Go.Proofs.YtpmkgeemopcahaaW.PrintLast Go.Proofs.YtpmkgeemopcahaaW.PrintMore
set_option linter.unusedVariables false
set_option linter.unusedSimpArgs false
theorem FnExactCutStack : laws_FnExactCutStack.Pure := by
  intro l w a hq ha
  obtain ⟨⟨h1, h2, h3⟩, h4⟩ := hq
  have main2 : Ev (fun k => laws_FnExactCutStack.f k l w a) true := by
    unfold laws_FnExactCutStack.f
    simp only [szStack_eq l w (by omega), Option.bind_some]
    by_cases c : (1048576 : Int) - l.length < 0
    · simp only [if_pos c, if_pos (show (-1 : Int) < 0 by omega)]
      exact Ev.now _
    · simp only [if_neg c]
      have ht := toStack_ev l w (by omega)
      obtain ⟨r, v, b, e1, e2, e3⟩ := cutStack_both l w a (by omega)
      have he := eqStack_self r v (by omega)
      have hs := eqStack_self l w (by omega)
      have hm := markStack_ev l w 1 (by omega) (by omega) (by omega)
      have hmi := markStack_ev r v 1 (by omega) (by omega) (by omega)
      have hh := heldStack_ev r.length v 1 (by omega) (by omega) (by omega)
      refine Ev.bind ht (Ev.bind e1 (Ev.bind ht (Ev.bind e2 ?_)))
      refine Ev.bind he ?_
      simp only [if_true, bne_self_eq_false]
      refine Ev.succ ?_
      simp only [laws_FnExactCutStack.j0, Bool.false_eq_true, if_false]
      refine Ev.bind ht (Ev.bind hs ?_)
      simp only [if_true]
      refine Ev.bind hm ?_
      simp only [neg1, if_false]
      refine Ev.bind he ?_
      simp only [if_true, bne_self_eq_false]
      refine Ev.succ ?_
      simp only [laws_FnExactCutStack.j1, Bool.false_eq_true, if_false]
      refine Ev.bind hmi (Ev.bind hh ?_)
      simp only [neg1, if_false, if_true]
      refine Ev.bind ht (Ev.bind e2 (Ev.bind he ?_))
      simp only [if_true, bne_self_eq_false]
      refine Ev.succ ?_
      simp only [laws_FnExactCutStack.j2, Bool.false_eq_true, if_false]
      refine Ev.bind hh ?_
      simp only [neg1, if_false, if_true]
      exact Ev.now _
  exact main2.imp fun K hK => hK K (Nat.le_refl _)
end Go.Proofs.Ytpmkgeemopcahaa.Pure
end

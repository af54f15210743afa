import Derived.Test.YtpmkgeemopcahaaZGFnExactStackOk9
import Derived.Test.YtpmkgeemopcahaaZGFnExactStackOk5
import Derived.Test.YtpmkgeemopcahaaZGFnExactStackOk7
import Derived.Test.YtpmkgeemopcahaaZGFnExactStackOk3
section
namespace Go.Proofs.Ytpmkgeemopcahaa.F
open Go.RowKit Go.Proofs.YtpmkgeemopcahaaW.PrintWords
/-- What is to be shown of numbers and lists. -/
def laws_FnExactFindWindow.Pure : Prop := ∀ (l0_0 : List (Int)) (a0_1 : Int) (l1 : List (Int)), ((l0_0.length * 8 ≤ 140737488351232 ∧ l0_0.length ≤ maxLen ∧ ∀ yl0_0 ∈ l0_0, ((Lit.int .i64 yl0_0).wf = true)) ∧ ((Lit.int .i64 a0_1).wf = true)) → ((l1.length * 8 ≤ 140737488351232 ∧ l1.length ≤ maxLen ∧ ∀ yl1 ∈ l1, ((Lit.int .i64 yl1).wf = true))) → ∃ k, laws_FnExactFindWindow.f k l0_0 a0_1 l1 = some true
end Go.Proofs.Ytpmkgeemopcahaa.F
end
section
/- FindWindow: both functions answer the same. -/
namespace Go.Proofs.Ytpmkgeemopcahaa.Pure
open Go.RowKit Go.Proofs.Ytpmkgeemopcahaa.F Go.Proofs.YtpmkgeemopcahaaW.PrintWords Go.Proofs.YtpmkgeemopcahaaW.PrintLast Go.Proofs.YtpmkgeemopcahaaW.PrintMore
set_option linter.unusedVariables false
set_option linter.unusedSimpArgs false
theorem FnExactFindWindow : laws_FnExactFindWindow.Pure := by
  intro l w x hq hx
  obtain ⟨⟨h1, h2, h3⟩, h4⟩ := hq
  obtain ⟨x1, x2, x3⟩ := hx
  have main2 : Ev (fun k => laws_FnExactFindWindow.f k l w x) true := by
    unfold laws_FnExactFindWindow.f
    by_cases hbig : (x.length : Int) > 1048576
    · simp only [if_pos hbig]
      exact Ev.now _
    simp only [if_neg hbig, szStack_eq l w (by omega), Option.bind_some]
    by_cases c : (1048576 : Int) - l.length < 0
    · simp only [if_pos c, if_pos (show (-1 : Int) < 0 by omega)]
      exact Ev.now _
    · simp only [if_neg c]
      have ht := toStack_ev l w (by omega)
      have hi := toIntS_ev x (by omega)
      obtain ⟨r, e1, e2⟩ := findWindow_both l w x (by omega)
      refine Ev.bind ht (Ev.bind hi (Ev.bind e1 (Ev.bind ht (Ev.bind hi (Ev.bind e2 ?_)))))
      simp only [if_true]
      refine Ev.bind ht (Ev.bind (eqStack_self l w (by omega)) ?_)
      simp only [if_true]
      refine Ev.bind hi (Ev.bind (eqIntS_same x (by omega)) ?_)
      simp only [if_true]
      exact Ev.now _
  exact main2.imp fun K hK => hK K (Nat.le_refl _)
end Go.Proofs.Ytpmkgeemopcahaa.Pure
end

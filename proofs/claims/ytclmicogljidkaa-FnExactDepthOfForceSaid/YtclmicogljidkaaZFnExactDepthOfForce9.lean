import Derived.Test.YtclmicogljidkaaZFnExactDepthOfForce5
import Derived.Test.YtclmicogljidkaaZFnExactDepthOfForce6
import Derived.Test.YtclmicogljidkaaZFnExactDepthOfForce7
import Derived.Test.YtclmicogljidkaaZFnExactDepthOfForce8
import Derived.Test.YtclmicogljidkaaM
/- DepthOfForce: both functions answer the same. -/
namespace Go.Proofs.Ytclmicogljidkaa.Pure
open Go.RowKit Go.Proofs.Ytclmicogljidkaa.F Go.Proofs.YtclmicogljidkaaW.PrintWords Go.Proofs.YtclmicogljidkaaW.PrintLast Go.Proofs.YtclmicogljidkaaW.PrintMore
set_option linter.unusedVariables false
set_option linter.unusedSimpArgs false
theorem FnExactDepthOfForce : laws_FnExactDepthOfForce.Pure := by
  intro l hq
  obtain ⟨h1, h2, h3⟩ := hq
  obtain ⟨r, hsz, hr⟩ := szNodeS_ev l 1048576 (by omega) (by omega) (by omega) (fun x hx => by have := h3 x hx; omega)
  have main2 : Ev (fun k => laws_FnExactDepthOfForce.f k l) true := by
    unfold laws_FnExactDepthOfForce.f
    refine Ev.bind hsz ?_
    by_cases c : r < 0
    · simp only [if_pos c]
      exact Ev.now _
    · have hb := hr.resolve_left c
      have hx : ∀ x ∈ l, x.f1.length ≤ 1048576 := fun x hx => by have := weighN_mem l x hx; omega
      have hx2 : ∀ x ∈ l.map conv, x.f1.length ≤ 1048576 := by
        intro x hx'
        obtain ⟨y, hy, rfl⟩ := List.mem_map.mp hx'
        exact hx y hy
      obtain ⟨q, hs, hi⟩ := depth_both (l.map conv) hx2
      have ht := toNodeS_ev l (by omega) (fun x hx' => by have := hx x hx'; omega)
      have he := eqNodeS_same (l.map conv) (by simp; omega) (fun x hx' => by have := hx2 x hx'; omega)
      simp only [if_neg c]
      repeat' first
        | exact Ev.now _
        | with_reducible refine Ev.bind hs ?_
        | with_reducible refine Ev.bind hi ?_
        | with_reducible refine Ev.bind ht ?_
        | with_reducible refine Ev.bind he ?_
        | simp only [if_true, if_false, Bool.not_true, bne_self_eq_false, Bool.false_eq_true]
  exact main2.imp fun K hK => hK K (Nat.le_refl _)
end Go.Proofs.Ytclmicogljidkaa.Pure

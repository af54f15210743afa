import Derived.Test.YtdnedgkanglgjaaZGFnExactPileRound12
import Derived.Test.YtdnedgkanglgjaaZGFnExactPileRound8
import Derived.Test.YtdnedgkanglgjaaZGFnExactPileRound4
section
/- IndexAfter: both functions tell the same. -/
namespace Go.Proofs.Ytdnedgkanglgjaa.Pure
open Go.RowKit Go.Proofs.Ytdnedgkanglgjaa.F Go.Proofs.YtdnedgkanglgjaaW.PrintWords Go.Proofs.YtdnedgkanglgjaaW.PrintLast Go.Proofs.YtdnedgkanglgjaaW.PrintMore
set_option linter.unusedVariables false
set_option linter.unusedSimpArgs false
theorem FnExactIndexAfter : laws_FnExactIndexAfter.Pure := by
  intro n p i q hn hp _ _
  obtain ⟨r, h1, h2⟩ := indexAfter_ex n p i q (wf64 hn) (wf64 hp)
  refine Ev.rounds (g := fun k => laws_FnExactIndexAfter.f k n p i q) ?_
  unfold laws_FnExactIndexAfter.f
  refine Ev.bind h1 (Ev.bind h2 ?_)
  simp only [if_true]
  exact Ev.now _
end Go.Proofs.Ytdnedgkanglgjaa.Pure
end

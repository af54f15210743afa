import Derived.Test.YtdnedgkanglgjaaZGFnExactPileRound6
import Derived.Test.YtdnedgkanglgjaaZGFnExactPileRound8
import Derived.Test.YtdnedgkanglgjaaZGFnExactPileRound10
import Derived.Test.YtdnedgkanglgjaaZGFnExactPileRound4
section
/- PileRound: both functions make the same round. -/
namespace Go.Proofs.Ytdnedgkanglgjaa.Pure
open Go.RowKit Go.Proofs.Ytdnedgkanglgjaa.F Go.Proofs.YtdnedgkanglgjaaW.PrintWords Go.Proofs.YtdnedgkanglgjaaW.PrintLast Go.Proofs.YtdnedgkanglgjaaW.PrintMore
set_option linter.unusedVariables false
set_option linter.unusedSimpArgs false
theorem FnExactPileRound : laws_FnExactPileRound.Pure := by
  intro l a c p _ _ hw _ _ _
  refine Ev.rounds (g := fun n => laws_FnExactPileRound.f n l a c p) ?_
  unfold laws_FnExactPileRound.f
  by_cases h : (l.length : Int) > 1048576
  · simp only [if_pos h]
    exact Ev.now _
  · simp only [if_neg h]
    obtain ⟨r, hs, hi, _⟩ := round_ex l a c p (by omega) (fun x hx => (wf64 (hw x hx)).1)
    have hr := roundB_len r c p r 0
    generalize roundB r c p r 0 = R at hs hi hr
    repeat' first
      | exact Ev.now _
      | with_reducible refine Ev.bind hs ?_
      | with_reducible refine Ev.bind hi ?_
      | with_reducible refine Ev.bind (toIntS_ev _ (by omega)) ?_
      | with_reducible refine Ev.bind (eqIntS_same _ (by omega)) ?_
      | with_reducible refine Ev.bind (markIntS_ev _ _ (by omega) (by omega) (by omega)) ?_
      | with_reducible refine Ev.bind (heldIntS_ev _ _ (by omega) (by omega) (by omega)) ?_
      | simp only [if_true, if_false, Bool.not_true, bne_self_eq_false, Bool.false_eq_true, neg1, neg2, neg3]
      | (refine Ev.succ ?_; simp only [laws_FnExactPileRound.j0, laws_FnExactPileRound.j1, laws_FnExactPileRound.j2])
end Go.Proofs.Ytdnedgkanglgjaa.Pure
end

/- PilesOk: both functions answer the same at every pair of numbers. -/
import Derived.Test.YtmgpjhgjcmijbaaF4
import Derived.Test.YtmgpjhgjcmijbaaM
namespace Go.Proofs.Ytmgpjhgjcmijbaa.Pure
open Go.RowKit Go.Proofs.Ytmgpjhgjcmijbaa.F Go.Proofs.YtmgpjhgjcmijbaaW.PrintWords Go.Proofs.YtmgpjhgjcmijbaaW.PrintLast Go.Proofs.YtmgpjhgjcmijbaaW.PrintMore
set_option linter.unusedVariables false
set_option linter.unusedSimpArgs false
theorem FnExactPilesOk : laws_FnExactPilesOk.Pure := by
  intro a0 a1 h0 h1
  unfold laws_FnExactPilesOk.f spec_PilesOk.f impl_PilesOk.f spec_l01In.f
  by_cases c1 : a1 ≥ 2
  · have c5 : ¬ a1 = 0 := by omega
    by_cases c2 : a1 ≤ 4 <;> by_cases c3 : a0 ≥ a1 <;> by_cases c4 : a0 ≤ 12 <;> simp [c1, c2, c3, c4, c5]
  · simp [c1]
end Go.Proofs.Ytmgpjhgjcmijbaa.Pure

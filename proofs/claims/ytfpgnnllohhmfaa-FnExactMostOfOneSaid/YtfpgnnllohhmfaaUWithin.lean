/- 'lies in low..high' as the program has it. No condition. -/
import Derived.Test.YtfpgnnllohhmfaaQ0
import Derived.Test.YtfpgnnllohhmfaaQ2
import Derived.Test.YtfpgnnllohhmfaaUIn
namespace Go.Proofs.Ytfpgnnllohhmfaa.Pure
open Go.RowKit Go.Proofs.Ytfpgnnllohhmfaa.Q Go.Proofs.YtfpgnnllohhmfaaW.PrintWords Go.Proofs.YtfpgnnllohhmfaaW.PrintLast Go.Proofs.YtfpgnnllohhmfaaW.PrintMore
set_option linter.unusedVariables false
set_option linter.unusedSimpArgs false
theorem within_is (a lo hi : Int) : impl_within.f a lo hi = some (inB lo hi a) := by
  unfold impl_within.f inB
  by_cases h : lo ≤ a
  · rw [if_pos h, decide_eq_true h, Bool.true_and]
  · rw [if_neg h, decide_eq_false h, Bool.false_and]

end Go.Proofs.Ytfpgnnllohhmfaa.Pure

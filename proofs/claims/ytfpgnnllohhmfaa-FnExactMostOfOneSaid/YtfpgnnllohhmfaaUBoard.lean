/- A board is told alike by the program and the reference. No condition. -/
import Derived.Test.YtfpgnnllohhmfaaQ0
import Derived.Test.YtfpgnnllohhmfaaQ2
import Derived.Test.YtfpgnnllohhmfaaUWithin
namespace Go.Proofs.Ytfpgnnllohhmfaa.Pure
open Go.RowKit Go.Proofs.Ytfpgnnllohhmfaa.Q Go.Proofs.YtfpgnnllohhmfaaW.PrintWords Go.Proofs.YtfpgnnllohhmfaaW.PrintLast Go.Proofs.YtfpgnnllohhmfaaW.PrintMore
set_option linter.unusedVariables false
set_option linter.unusedSimpArgs false
theorem okW_in (a b x : Int) : okW a b x = inB a b x := rfl
def boardB (a b : Int) : Bool := inB 1 24 a && inB 1 24 b
theorem boardB_iff (a b : Int) : boardB a b = true ↔ (1 ≤ a ∧ a ≤ 24) ∧ 1 ≤ b ∧ b ≤ 24 := by simp [boardB, inB]
theorem good_is (a b : Int) : spec_bdGood.f a b = some (boardB a b) := by
  unfold spec_bdGood.f boardB
  rw [in_is, in_is]
  cases inB 1 24 a <;> rfl
theorem board_is (a b : Int) : impl_isBoard.f a b = some (boardB a b) := by
  unfold impl_isBoard.f boardB
  rw [within_is, within_is]
  cases inB 1 24 a <;> rfl

end Go.Proofs.Ytfpgnnllohhmfaa.Pure

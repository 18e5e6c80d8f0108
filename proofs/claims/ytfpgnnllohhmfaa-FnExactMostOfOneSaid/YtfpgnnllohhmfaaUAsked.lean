/- A board and pieces are told alike by the program and the reference. Condition: at most 1048576 pieces. -/
import Derived.Test.YtfpgnnllohhmfaaQ0
import Derived.Test.YtfpgnnllohhmfaaQ11
import Derived.Test.YtfpgnnllohhmfaaQ13
import Derived.Test.YtfpgnnllohhmfaaUPieces
namespace Go.Proofs.Ytfpgnnllohhmfaa.Pure
open Go.RowKit Go.Proofs.Ytfpgnnllohhmfaa.Q Go.Proofs.YtfpgnnllohhmfaaW.PrintWords Go.Proofs.YtfpgnnllohhmfaaW.PrintLast Go.Proofs.YtfpgnnllohhmfaaW.PrintMore
set_option linter.unusedVariables false
set_option linter.unusedSimpArgs false
theorem asked_is (a b : Int) (xs : List S38) (hn : xs.length ≤ 1048576) : Ev (fun k => spec_bdAsked.f k a b xs) (boardB a b && piecesB xs) := by
  unfold spec_bdAsked.f
  rw [good_is]
  cases boardB a b with
  | false => exact ev_some (ev_neg (by decide) (Ev.now _))
  | true => exact ev_some (ev_pos rfl (ev_ret (bdPieces_is xs hn)))
theorem areCut_is (a b : Int) (xs : List S38) : impl_areCut.f a b xs = some (boardB a b && piecesB xs) := by
  unfold impl_areCut.f
  rw [board_is, arePieces_is]
  cases boardB a b <;> rfl

end Go.Proofs.Ytfpgnnllohhmfaa.Pure

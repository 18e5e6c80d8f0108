/- For every list of pieces (whose numbers may be any): the program's ArePieces and the reference's return the same, and the list is not changed. Condition: what the law itself lets in. -/
import Derived.Test.YtfpgnnllohhmfaaQ0
import Derived.Test.YtfpgnnllohhmfaaQ4
import Derived.Test.YtfpgnnllohhmfaaUPieces
import Derived.Test.YtfpgnnllohhmfaaSFnExactArePieces
namespace Go.Proofs.Ytfpgnnllohhmfaa.Pure
open Go.RowKit Go.Proofs.Ytfpgnnllohhmfaa.Q Go.Proofs.YtfpgnnllohhmfaaW.PrintWords Go.Proofs.YtfpgnnllohhmfaaW.PrintLast Go.Proofs.YtfpgnnllohhmfaaW.PrintMore
set_option linter.unusedVariables false
set_option linter.unusedSimpArgs false
theorem FnExactArePieces : laws_FnExactArePieces.Pure := by
  intro xs hl
  refine Ev.rounds ?_
  unfold laws_FnExactArePieces.f
  rw [szPiece_is xs hl]
  refine ev_some ?_
  by_cases h : xs.length ≤ 1048576
  · rw [if_pos h]
    refine ev_neg (by omega) ?_
    have hc := toPiece_is xs h
    refine Ev.bind hc (Ev.bind (ev_ret (bdPieces_is _ (by simpa using h))) (Ev.bind hc ?_))
    simp only [arePieces_is, Option.bind_some]
    refine ev_neg (by simp) ?_
    exact Ev.bind hc (Ev.bind (eqPiece_is _ (by simp; omega)) (ev_pos rfl (Ev.now _)))
  · rw [if_neg h]
    exact ev_pos (by omega) (Ev.now _)

end Go.Proofs.Ytfpgnnllohhmfaa.Pure

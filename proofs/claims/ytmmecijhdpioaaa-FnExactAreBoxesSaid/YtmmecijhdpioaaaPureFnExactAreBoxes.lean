/- For every list of boxes (whose numbers may be any): the program's AreBoxes and the reference's return the same, and the list is not changed. Condition: what the law itself lets in. -/
import Derived.Test.YtmmecijhdpioaaaQ0
import Derived.Test.YtmmecijhdpioaaaQ6
import Derived.Test.YtmmecijhdpioaaaUBoxes
import Derived.Test.YtmmecijhdpioaaaSFnExactAreBoxes
namespace Go.Proofs.Ytmmecijhdpioaaa.Pure
open Go.RowKit Go.Proofs.Ytmmecijhdpioaaa.Q Go.Proofs.YtmmecijhdpioaaaW.PrintWords Go.Proofs.YtmmecijhdpioaaaW.PrintLast Go.Proofs.YtmmecijhdpioaaaW.PrintMore
set_option linter.unusedVariables false
set_option linter.unusedSimpArgs false
theorem FnExactAreBoxes : laws_FnExactAreBoxes.Pure := by
  intro xs hl
  refine Ev.rounds ?_
  unfold laws_FnExactAreBoxes.f
  rw [szBox_is xs hl]
  refine ev_some ?_
  by_cases h : xs.length ≤ 1048576
  · rw [if_pos h]
    refine ev_neg (by omega) ?_
    have hc := toBox_is xs h
    refine Ev.bind hc (Ev.bind (areBoxes_is _ (by simpa using h)) (Ev.bind hc ?_))
    simp only [impl_AreBoxes.f, Option.bind_some]
    refine ev_neg (by simp) ?_
    exact Ev.bind hc (Ev.bind (eqBox_is _ (by simp; omega)) (ev_pos rfl (Ev.now _)))
  · rw [if_neg h]
    exact ev_pos (by omega) (Ev.now _)

end Go.Proofs.Ytmmecijhdpioaaa.Pure

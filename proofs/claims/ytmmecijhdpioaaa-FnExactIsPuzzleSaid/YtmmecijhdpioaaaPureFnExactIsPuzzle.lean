/- For every puzzle (whose numbers may be any): the program's IsPuzzle and the reference's return the same, and the puzzle is not changed. Condition: what the law itself lets in. -/
import Derived.Test.YtmmecijhdpioaaaQ0
import Derived.Test.YtmmecijhdpioaaaQ11
import Derived.Test.YtmmecijhdpioaaaUPuzzle
import Derived.Test.YtmmecijhdpioaaaSFnExactIsPuzzle
namespace Go.Proofs.Ytmmecijhdpioaaa.Pure
open Go.RowKit Go.Proofs.Ytmmecijhdpioaaa.Q Go.Proofs.YtmmecijhdpioaaaW.PrintWords Go.Proofs.YtmmecijhdpioaaaW.PrintLast Go.Proofs.YtmmecijhdpioaaaW.PrintMore
set_option linter.unusedVariables false
set_option linter.unusedSimpArgs false
theorem FnExactIsPuzzle : laws_FnExactIsPuzzle.Pure := by
  intro t xs _ hl
  refine Ev.rounds ?_
  unfold laws_FnExactIsPuzzle.f
  rw [szPuzzle_is t xs hl]
  refine ev_some ?_
  by_cases h : xs.length ≤ 1048576
  · rw [if_pos h]
    refine ev_neg (by omega) ?_
    have hc := toPuzzle_is t xs h
    refine Ev.bind hc (Ev.bind (by unfold spec_IsPuzzle.f; exact ev_ret (pzGood_is t _ (by simpa using h))) (Ev.bind hc ?_))
    simp only [impl_IsPuzzle.f, Option.bind_some]
    refine ev_neg (by simp [puzzleB]) ?_
    exact Ev.bind hc (Ev.bind (eqPuzzle_is _ _ (by simp; omega)) (ev_pos rfl (Ev.now _)))
  · rw [if_neg h]
    exact ev_pos (by omega) (Ev.now _)

end Go.Proofs.Ytmmecijhdpioaaa.Pure

/- For every number of things and every clue (whose numbers may be any): the program's IsClue and the reference's return the same. No condition. -/
import Derived.Test.YtmmecijhdpioaaaQ0
import Derived.Test.YtmmecijhdpioaaaQ8
import Derived.Test.YtmmecijhdpioaaaUClue
import Derived.Test.YtmmecijhdpioaaaSFnExactIsClue
namespace Go.Proofs.Ytmmecijhdpioaaa.Pure
open Go.RowKit Go.Proofs.Ytmmecijhdpioaaa.Q Go.Proofs.YtmmecijhdpioaaaW.PrintWords Go.Proofs.YtmmecijhdpioaaaW.PrintLast Go.Proofs.YtmmecijhdpioaaaW.PrintMore
set_option linter.unusedVariables false
set_option linter.unusedSimpArgs false
theorem FnExactIsClue : laws_FnExactIsClue.Pure := by
  intro t a b c d _ _ _ _ _
  refine Ev.rounds ?_
  unfold laws_FnExactIsClue.f
  simp only [laws_toClue.f, Option.bind_some]
  have hi : Ev (fun k => impl_IsClue.f k t a b c d) (okClue t ⟨a, b, c, d⟩) := ev_at 2 (fun k => clue_f k t ⟨a, b, c, d⟩)
  have hs : Ev (fun k => spec_IsClue.f k t a b c d) (okClue t ⟨a, b, c, d⟩) := by
    unfold spec_IsClue.f
    rw [things_is]
    cases h : inB 2 4 t with
    | true => exact ev_some (ev_pos rfl (ev_ret (pz_is t ⟨a, b, c, d⟩ h)))
    | false =>
      have : okClue t ⟨a, b, c, d⟩ = false := by simp only [okClue, okW_in2, h, Bool.false_and]
      rw [this]
      exact ev_some (ev_neg (by decide) (Ev.now _))
  exact Ev.bind hs (Ev.bind hi (ev_neg (by simp) (Ev.now _)))

end Go.Proofs.Ytmmecijhdpioaaa.Pure

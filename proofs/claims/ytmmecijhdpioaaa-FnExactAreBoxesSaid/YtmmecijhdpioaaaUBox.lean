/- A box is told alike by the program and the reference. No condition. -/
import Derived.Test.YtmmecijhdpioaaaQ0
import Derived.Test.YtmmecijhdpioaaaQ1
import Derived.Test.YtmmecijhdpioaaaQ2
import Derived.Test.YtmmecijhdpioaaaQ3
import Derived.Test.YtmmecijhdpioaaaUAll
namespace Go.Proofs.Ytmmecijhdpioaaa.Pure
open Go.RowKit Go.Proofs.Ytmmecijhdpioaaa.Q Go.Proofs.YtmmecijhdpioaaaW.PrintWords Go.Proofs.YtmmecijhdpioaaaW.PrintLast Go.Proofs.YtmmecijhdpioaaaW.PrintMore
set_option linter.unusedVariables false
set_option linter.unusedSimpArgs false
theorem okW_in (a b x : Int) : okW a b x = inB a b x := rfl
def boxB (a b c : Int) : Bool := inB 1 50 a && (inB 1 50 b && inB 1 50 c)
theorem ne_good (a b c : Int) : Ev (fun k => spec_neGood.f k a b c) (boxB a b c) := by
  unfold spec_neGood.f
  refine ev_ret ?_
  have := all_is 1 50 [a, b, c] (by simp)
  simpa [boxB] using this
theorem im_box (a b c : Int) : impl_isBox.f a b c = some (boxB a b c) := by
  simp [impl_isBox.f, impl_Box_sides.f, impl_areWithin.f, boxB, okW_in]

end Go.Proofs.Ytmmecijhdpioaaa.Pure

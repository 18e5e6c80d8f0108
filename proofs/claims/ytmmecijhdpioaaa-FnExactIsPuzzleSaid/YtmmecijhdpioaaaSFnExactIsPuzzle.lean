-- Written by the session's program wip/myprint.py: the pure statement of loop.example/g01334/laws.FnExactIsPuzzle, and the walk that follows from it.
import Derived.Test.YtmmecijhdpioaaaQ11
namespace Go.Proofs.Ytmmecijhdpioaaa.Q
open Go.RowKit Go.Proofs.YtmmecijhdpioaaaW.PrintWords Go.Proofs.YtmmecijhdpioaaaW.PrintLast
set_option linter.unusedVariables false
/-- THE ONE PURE STATEMENT of laws_FnExactIsPuzzle. -/
def laws_FnExactIsPuzzle.Pure : Prop := ∀ (a0_0 : Int) (l0_1 : List (S40)), (Lit.int .i64 a0_0).wf = true → l0_1.length ≤ maxLen → ∃ k, laws_FnExactIsPuzzle.f k a0_0 l0_1 = some true
theorem laws_FnExactIsPuzzle.walk (P : laws_FnExactIsPuzzle.Pure) (a0_0 : Int) (A0_1 : Option Addr) (c0_1 : Nat) (l0_1 : List (S40)) (w : World) (w0_0 : (Lit.int .i64 a0_0).wf = true) (w0_1 : l0_1.length ≤ maxLen) (hr0_1 : Kd.C k40 w A0_1 l0_1.length l0_1) (hc0_1 : l0_1.length ≤ c0_1) :
    Calls Try.prog 7 #[.agg #[.int .i64 a0_0, .slice A0_1 l0_1.length c0_1]] w fun e w' => e = .returned (.bool true) ∧ Below w.heap.size w w' := by
  obtain ⟨k, h⟩ := P a0_0 l0_1 w0_0 w0_1
  exact (laws_FnExactIsPuzzle.calls k a0_0 A0_1 c0_1 l0_1 true w hr0_1 hc0_1 rfl h).mono fun e w' he => ⟨he.1, he.2⟩
end Go.Proofs.Ytmmecijhdpioaaa.Q

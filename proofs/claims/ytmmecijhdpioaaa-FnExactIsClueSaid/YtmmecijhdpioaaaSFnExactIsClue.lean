-- Written by the session's program wip/myprint.py: the pure statement of loop.example/g01334/laws.FnExactIsClue, and the walk that follows from it.
import Derived.Test.YtmmecijhdpioaaaQ8
namespace Go.Proofs.Ytmmecijhdpioaaa.Q
open Go.RowKit Go.Proofs.YtmmecijhdpioaaaW.PrintWords Go.Proofs.YtmmecijhdpioaaaW.PrintLast
set_option linter.unusedVariables false
/-- THE ONE PURE STATEMENT of laws_FnExactIsClue. -/
def laws_FnExactIsClue.Pure : Prop := ∀ (a0 : Int) (a1_0 : Int) (a1_1 : Int) (a1_2 : Int) (a1_3 : Int), (Lit.int .i64 a0).wf = true → (Lit.int .i64 a1_0).wf = true → (Lit.int .i64 a1_1).wf = true → (Lit.int .i64 a1_2).wf = true → (Lit.int .i64 a1_3).wf = true → ∃ k, laws_FnExactIsClue.f k a0 a1_0 a1_1 a1_2 a1_3 = some true
theorem laws_FnExactIsClue.walk (P : laws_FnExactIsClue.Pure) (a0 : Int) (a1_0 : Int) (a1_1 : Int) (a1_2 : Int) (a1_3 : Int) (w : World) (w0 : (Lit.int .i64 a0).wf = true) (w1_0 : (Lit.int .i64 a1_0).wf = true) (w1_1 : (Lit.int .i64 a1_1).wf = true) (w1_2 : (Lit.int .i64 a1_2).wf = true) (w1_3 : (Lit.int .i64 a1_3).wf = true)  :
    Calls Try.prog 6 #[.int .i64 a0, .agg #[.int .i64 a1_0, .int .i64 a1_1, .int .i64 a1_2, .int .i64 a1_3]] w fun e w' => e = .returned (.bool true) ∧ Below w.heap.size w w' := by
  obtain ⟨k, h⟩ := P a0 a1_0 a1_1 a1_2 a1_3 w0 w1_0 w1_1 w1_2 w1_3
  exact (laws_FnExactIsClue.calls k a0 a1_0 a1_1 a1_2 a1_3 true w  rfl h).mono fun e w' he => ⟨he.1, he.2⟩
end Go.Proofs.Ytmmecijhdpioaaa.Q

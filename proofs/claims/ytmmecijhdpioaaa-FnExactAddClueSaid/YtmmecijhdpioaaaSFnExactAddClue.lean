-- Written by the session's program wip/myprint.py: the pure statement of loop.example/g01334/laws.FnExactAddClue, and the walk that follows from it.
import Derived.Test.YtmmecijhdpioaaaX7
namespace Go.Proofs.Ytmmecijhdpioaaa.X
open Go.RowKit Go.Proofs.YtmmecijhdpioaaaW.PrintWords Go.Proofs.YtmmecijhdpioaaaW.PrintLast
set_option linter.unusedVariables false
/-- THE ONE PURE STATEMENT of laws_FnExactAddClue. -/
def laws_FnExactAddClue.Pure : Prop := ∀ (a0_0 : Int) (l0_1 : List (S40)) (a1_0 : Int) (a1_1 : Int) (a1_2 : Int) (a1_3 : Int), (Lit.int .i64 a0_0).wf = true → l0_1.length ≤ maxLen → (Lit.int .i64 a1_0).wf = true → (Lit.int .i64 a1_1).wf = true → (Lit.int .i64 a1_2).wf = true → (Lit.int .i64 a1_3).wf = true → ∃ k, laws_FnExactAddClue.f k a0_0 l0_1 a1_0 a1_1 a1_2 a1_3 = some true
theorem laws_FnExactAddClue.walk (P : laws_FnExactAddClue.Pure) (a0_0 : Int) (A0_1 : Option Addr) (c0_1 : Nat) (l0_1 : List (S40)) (a1_0 : Int) (a1_1 : Int) (a1_2 : Int) (a1_3 : Int) (w : World) (w0_0 : (Lit.int .i64 a0_0).wf = true) (w0_1 : l0_1.length ≤ maxLen) (w1_0 : (Lit.int .i64 a1_0).wf = true) (w1_1 : (Lit.int .i64 a1_1).wf = true) (w1_2 : (Lit.int .i64 a1_2).wf = true) (w1_3 : (Lit.int .i64 a1_3).wf = true) (hr0_1 : Kd.C k40 w A0_1 l0_1.length l0_1) (hc0_1 : l0_1.length ≤ c0_1) :
    Calls Try.prog 8 #[.agg #[.int .i64 a0_0, .slice A0_1 l0_1.length c0_1], .agg #[.int .i64 a1_0, .int .i64 a1_1, .int .i64 a1_2, .int .i64 a1_3]] w fun e w' => e = .returned (.bool true) ∧ Below w.heap.size w w' := by
  obtain ⟨k, h⟩ := P a0_0 l0_1 a1_0 a1_1 a1_2 a1_3 w0_0 w0_1 w1_0 w1_1 w1_2 w1_3
  exact (laws_FnExactAddClue.calls k a0_0 A0_1 c0_1 l0_1 a1_0 a1_1 a1_2 a1_3 true w hr0_1 hc0_1 rfl h).mono fun e w' he => ⟨he.1, he.2⟩
end Go.Proofs.Ytmmecijhdpioaaa.X

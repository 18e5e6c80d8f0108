-- Written by the session's program wip/myprint.py: the pure statement of loop.example/g01334/laws.FnExactMostOfOne, and the walk that follows from it.
import Derived.Test.YtfpgnnllohhmfaaQ20
namespace Go.Proofs.Ytfpgnnllohhmfaa.Q
open Go.RowKit Go.Proofs.YtfpgnnllohhmfaaW.PrintWords Go.Proofs.YtfpgnnllohhmfaaW.PrintLast
set_option linter.unusedVariables false
/-- THE ONE PURE STATEMENT of laws_FnExactMostOfOne. -/
def laws_FnExactMostOfOne.Pure : Prop := ∀ (a0 : Int) (a1 : Int) (a2_0 : Int) (a2_1 : Int) (a2_2 : Int) (a3 : Bool), (Lit.int .i64 a0).wf = true → (Lit.int .i64 a1).wf = true → (Lit.int .i64 a2_0).wf = true → (Lit.int .i64 a2_1).wf = true → (Lit.int .i64 a2_2).wf = true → ∃ k, laws_FnExactMostOfOne.f k a0 a1 a2_0 a2_1 a2_2 a3 = some true
theorem laws_FnExactMostOfOne.walk (P : laws_FnExactMostOfOne.Pure) (a0 : Int) (a1 : Int) (a2_0 : Int) (a2_1 : Int) (a2_2 : Int) (a3 : Bool) (w : World) (w0 : (Lit.int .i64 a0).wf = true) (w1 : (Lit.int .i64 a1).wf = true) (w2_0 : (Lit.int .i64 a2_0).wf = true) (w2_1 : (Lit.int .i64 a2_1).wf = true) (w2_2 : (Lit.int .i64 a2_2).wf = true)  :
    Calls Try.prog 8 #[.int .i64 a0, .int .i64 a1, .agg #[.int .i64 a2_0, .int .i64 a2_1, .int .i64 a2_2], .bool a3] w fun e w' => e = .returned (.bool true) ∧ Below w.heap.size w w' := by
  obtain ⟨k, h⟩ := P a0 a1 a2_0 a2_1 a2_2 a3 w0 w1 w2_0 w2_1 w2_2
  exact (laws_FnExactMostOfOne.calls k a0 a1 a2_0 a2_1 a2_2 a3 true w  rfl h).mono fun e w' he => ⟨he.1, he.2⟩
end Go.Proofs.Ytfpgnnllohhmfaa.Q

-- Written by the session's program wip/myprint.py: the pure statement of loop.example/g01334/laws.FnExactDropClue, and the walk that follows from it.
import Derived.Test.YtccpfhedcnmmbaaL7
namespace Go.Proofs.Ytccpfhedcnmmbaa.L
open Go.RowKit Go.Proofs.YtccpfhedcnmmbaaW.PrintWords Go.Proofs.YtccpfhedcnmmbaaW.PrintLast
set_option linter.unusedVariables false
/-- THE ONE PURE STATEMENT of laws_FnExactDropClue. -/
def laws_FnExactDropClue.Pure : Prop := ∀ (a0_0 : Int) (l0_1 : List (S30)) (a1 : Int), (Lit.int .i64 a0_0).wf = true → l0_1.length ≤ maxLen → (Lit.int .i64 a1).wf = true → ∃ k, laws_FnExactDropClue.f k a0_0 l0_1 a1 = some true
theorem laws_FnExactDropClue.walk (P : laws_FnExactDropClue.Pure) (a0_0 : Int) (A0_1 : Option Addr) (c0_1 : Nat) (l0_1 : List (S30)) (a1 : Int) (w : World) (w0_0 : (Lit.int .i64 a0_0).wf = true) (w0_1 : l0_1.length ≤ maxLen) (w1 : (Lit.int .i64 a1).wf = true) (hr0_1 : Kd.C k30 w A0_1 l0_1.length l0_1) (hc0_1 : l0_1.length ≤ c0_1) :
    Calls Try.prog 9 #[.agg #[.int .i64 a0_0, .slice A0_1 l0_1.length c0_1], .int .i64 a1] w fun e w' => e = .returned (.bool true) ∧ Below w.heap.size w w' := by
  obtain ⟨k, h⟩ := P a0_0 l0_1 a1 w0_0 w0_1 w1
  exact (laws_FnExactDropClue.calls k a0_0 A0_1 c0_1 l0_1 a1 true w hr0_1 hc0_1 rfl h).mono fun e w' he => ⟨he.1, he.2⟩
end Go.Proofs.Ytccpfhedcnmmbaa.L

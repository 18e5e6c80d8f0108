-- Written by the session's program wip/myprint.py: the pure statement of loop.example/g01334/laws.FnExactValueTable, and the walk that follows from it.
import Derived.Test.YtfpgnnllohhmfaaQ8
namespace Go.Proofs.Ytfpgnnllohhmfaa.Q
open Go.RowKit Go.Proofs.YtfpgnnllohhmfaaW.PrintWords Go.Proofs.YtfpgnnllohhmfaaW.PrintLast
set_option linter.unusedVariables false
/-- THE ONE PURE STATEMENT of laws_FnExactValueTable. -/
def laws_FnExactValueTable.Pure : Prop := ∀ (a0 : Int) (l1 : List (S36)) (a2 : Bool), (Lit.int .i64 a0).wf = true → l1.length ≤ maxLen → ∃ k, laws_FnExactValueTable.f k a0 l1 a2 = some true
theorem laws_FnExactValueTable.walk (P : laws_FnExactValueTable.Pure) (a0 : Int) (A1 : Option Addr) (c1 : Nat) (l1 : List (S36)) (a2 : Bool) (w : World) (w0 : (Lit.int .i64 a0).wf = true) (w1 : l1.length ≤ maxLen) (hr1 : Kd.C k36 w A1 l1.length l1) (hc1 : l1.length ≤ c1) :
    Calls Try.prog 12 #[.int .i64 a0, .slice A1 l1.length c1, .bool a2] w fun e w' => e = .returned (.bool true) ∧ Below w.heap.size w w' := by
  obtain ⟨k, h⟩ := P a0 l1 a2 w0 w1
  exact (laws_FnExactValueTable.calls k a0 A1 c1 l1 a2 true w hr1 hc1 rfl h).mono fun e w' he => ⟨he.1, he.2⟩
end Go.Proofs.Ytfpgnnllohhmfaa.Q

-- Written by the session's program wip/myprint.py: the pure statement of loop.example/g01334/laws.FnExactTurnPieces, and the walk that follows from it.
import Derived.Test.YtfpgnnllohhmfaaX3
namespace Go.Proofs.Ytfpgnnllohhmfaa.X
open Go.RowKit Go.Proofs.YtfpgnnllohhmfaaW.PrintWords Go.Proofs.YtfpgnnllohhmfaaW.PrintLast
set_option linter.unusedVariables false
/-- THE ONE PURE STATEMENT of laws_FnExactTurnPieces. -/
def laws_FnExactTurnPieces.Pure : Prop := ∀ (l0 : List (S36)), l0.length ≤ maxLen → ∃ k, laws_FnExactTurnPieces.f k l0 = some true
theorem laws_FnExactTurnPieces.walk (P : laws_FnExactTurnPieces.Pure) (A0 : Option Addr) (c0 : Nat) (l0 : List (S36)) (w : World) (w0 : l0.length ≤ maxLen) (hr0 : Kd.C k36 w A0 l0.length l0) (hc0 : l0.length ≤ c0) :
    Calls Try.prog 4 #[.slice A0 l0.length c0] w fun e w' => e = .returned (.bool true) ∧ Below w.heap.size w w' := by
  obtain ⟨k, h⟩ := P l0 w0
  exact (laws_FnExactTurnPieces.calls k A0 c0 l0 true w hr0 hc0 rfl h).mono fun e w' he => ⟨he.1, he.2⟩
end Go.Proofs.Ytfpgnnllohhmfaa.X

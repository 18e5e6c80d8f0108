-- Written by the session's program wip/myprint.py: the pure statement of loop.example/g01334/laws.FnExactAreBoxes, and the walk that follows from it.
import Derived.Test.YtmmecijhdpioaaaQ6
namespace Go.Proofs.Ytmmecijhdpioaaa.Q
open Go.RowKit Go.Proofs.YtmmecijhdpioaaaW.PrintWords Go.Proofs.YtmmecijhdpioaaaW.PrintLast
set_option linter.unusedVariables false
/-- THE ONE PURE STATEMENT of laws_FnExactAreBoxes. -/
def laws_FnExactAreBoxes.Pure : Prop := ∀ (l0 : List (S23)), l0.length ≤ maxLen → ∃ k, laws_FnExactAreBoxes.f k l0 = some true
theorem laws_FnExactAreBoxes.walk (P : laws_FnExactAreBoxes.Pure) (A0 : Option Addr) (c0 : Nat) (l0 : List (S23)) (w : World) (w0 : l0.length ≤ maxLen) (hr0 : Kd.C k23 w A0 l0.length l0) (hc0 : l0.length ≤ c0) :
    Calls Try.prog 5 #[.slice A0 l0.length c0] w fun e w' => e = .returned (.bool true) ∧ Below w.heap.size w w' := by
  obtain ⟨k, h⟩ := P l0 w0
  exact (laws_FnExactAreBoxes.calls k A0 c0 l0 true w hr0 hc0 rfl h).mono fun e w' he => ⟨he.1, he.2⟩
end Go.Proofs.Ytmmecijhdpioaaa.Q

-- Written by the session's program wip/myprint.py: the pure statement of loop.example/g01334/laws.FnExactBoxesText, and the walk that follows from it.
import Derived.Test.YtobjafpfbbgnhaaDoorL4
namespace Go.Proofs.YtobjafpfbbgnhaaDoor.L
open Go.RowKit Go.Proofs.YtobjafpfbbgnhaaDoorW.PrintWords Go.Proofs.YtobjafpfbbgnhaaDoorW.PrintLast
set_option linter.unusedVariables false
/-- THE ONE PURE STATEMENT of laws_FnExactBoxesText. -/
def laws_FnExactBoxesText.Pure : Prop := ∀ (l0 : List (S56)), l0.length ≤ maxLen → ∃ k, laws_FnExactBoxesText.f k l0 = some true
theorem laws_FnExactBoxesText.walk (P : laws_FnExactBoxesText.Pure) (A0 : Option Addr) (c0 : Nat) (l0 : List (S56)) (w : World) (w0 : l0.length ≤ maxLen) (hr0 : Kd.C k56 w A0 l0.length l0) (hc0 : l0.length ≤ c0) :
    Calls Tryd.prog 4 #[.slice A0 l0.length c0] w fun e w' => e = .returned (.bool true) ∧ Below w.heap.size w w' := by
  obtain ⟨k, h⟩ := P l0 w0
  exact (laws_FnExactBoxesText.calls k A0 c0 l0 true w hr0 hc0 rfl h).mono fun e w' he => ⟨he.1, he.2⟩
end Go.Proofs.YtobjafpfbbgnhaaDoor.L

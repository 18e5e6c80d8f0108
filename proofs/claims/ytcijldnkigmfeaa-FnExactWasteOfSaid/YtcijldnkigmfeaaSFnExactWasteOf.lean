-- Written by the session's program wip/myprint.py: the pure statement of loop.example/g01334/laws.FnExactWasteOf, and the walk that follows from it.
import Derived.Test.YtcijldnkigmfeaaM10
namespace Go.Proofs.Ytcijldnkigmfeaa.M
open Go.RowKit Go.Proofs.YtcijldnkigmfeaaW.PrintWords Go.Proofs.YtcijldnkigmfeaaW.PrintLast
set_option linter.unusedVariables false
/-- THE ONE PURE STATEMENT of laws_FnExactWasteOf. -/
def laws_FnExactWasteOf.Pure : Prop := ∀ (a0 : Int) (a1 : Int) (l2 : List (S33)) (a3 : Bool), (Lit.int .i64 a0).wf = true → (Lit.int .i64 a1).wf = true → l2.length ≤ maxLen → ∃ k, laws_FnExactWasteOf.f k a0 a1 l2 a3 = some true
theorem laws_FnExactWasteOf.walk (P : laws_FnExactWasteOf.Pure) (a0 : Int) (a1 : Int) (A2 : Option Addr) (c2 : Nat) (l2 : List (S33)) (a3 : Bool) (w : World) (w0 : (Lit.int .i64 a0).wf = true) (w1 : (Lit.int .i64 a1).wf = true) (w2 : l2.length ≤ maxLen) (hr2 : Kd.C k33 w A2 l2.length l2) (hc2 : l2.length ≤ c2) :
    Calls Try.prog 13 #[.int .i64 a0, .int .i64 a1, .slice A2 l2.length c2, .bool a3] w fun e w' => e = .returned (.bool true) ∧ Below w.heap.size w w' := by
  obtain ⟨k, h⟩ := P a0 a1 l2 a3 w0 w1 w2
  exact (laws_FnExactWasteOf.calls k a0 a1 A2 c2 l2 a3 true w hr2 hc2 rfl h).mono fun e w' he => ⟨he.1, he.2⟩
end Go.Proofs.Ytcijldnkigmfeaa.M

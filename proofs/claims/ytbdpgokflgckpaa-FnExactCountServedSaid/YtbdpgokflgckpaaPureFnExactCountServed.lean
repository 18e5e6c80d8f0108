/- For every whole number: the program's CountServed and the reference's return the same two results. No condition. -/
import Derived.Test.YtbdpgokflgckpaaPFnExactCountServedx1
namespace Go.Proofs.Ytbdpgokflgckpaa.Pure
open Go.RowKit Go.Proofs.Ytbdpgokflgckpaa.PFnExactCountServed Go.Proofs.YtbdpgokflgckpaaW.PrintWords Go.Proofs.YtbdpgokflgckpaaW.PrintLast

theorem FnExactCountServed : laws_FnExactCountServed.Pure := by
  intro a0 _
  by_cases h : 0 ≤ a0 ∧ a0 ≤ 8
  · refine ⟨40, ?_⟩
    obtain ⟨h0, h1⟩ := h
    obtain rfl | rfl | rfl | rfl | rfl | rfl | rfl | rfl | rfl : a0 = 0 ∨ a0 = 1 ∨ a0 = 2 ∨ a0 = 3 ∨ a0 = 4 ∨ a0 = 5 ∨ a0 = 6 ∨ a0 = 7 ∨ a0 = 8 := by omega
    all_goals decide +kernel
  · refine ⟨0, ?_⟩
    have e1 : spec_l1In.f a0 0 8 = some false := by
      unfold spec_l1In.f
      split
      · exact congrArg some (decide_eq_false (by omega))
      · rfl
    have e2 : impl_within.f a0 0 8 = some false := by
      unfold impl_within.f
      split
      · exact congrArg some (decide_eq_false (by omega))
      · rfl
    unfold laws_FnExactCountServed.f spec_CountServed.f impl_CountServed.f
    rw [e1, e2]
    rfl

end Go.Proofs.Ytbdpgokflgckpaa.Pure

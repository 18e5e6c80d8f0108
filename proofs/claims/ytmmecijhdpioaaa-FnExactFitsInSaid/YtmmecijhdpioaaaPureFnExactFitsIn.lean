/- For all two boxes: the program's FitsIn and the reference's return the same two results. No condition. -/
import Derived.Test.YtmmecijhdpioaaaQ0
import Derived.Test.YtmmecijhdpioaaaQ4
import Derived.Test.YtmmecijhdpioaaaUBox
import Derived.Test.YtmmecijhdpioaaaSFnExactFitsIn
namespace Go.Proofs.Ytmmecijhdpioaaa.Pure
open Go.RowKit Go.Proofs.Ytmmecijhdpioaaa.Q Go.Proofs.YtmmecijhdpioaaaW.PrintWords Go.Proofs.YtmmecijhdpioaaaW.PrintLast Go.Proofs.YtmmecijhdpioaaaW.PrintMore
set_option linter.unusedVariables false
set_option linter.unusedSimpArgs false
def lessB (a b c x y z : Int) : Bool := decide (a < x) && (decide (b < y) && decide (c < z))
theorem less_is (a b c x y z : Int) (k : Nat) : impl_less.f (k + 4) [a, b, c] [x, y, z] = some (lessB a b c x y z) := by
  have r0 : ∀ p q r : Int, rd [p, q, r] 0 = p := fun _ _ _ => by simp [rd]
  have r1 : ∀ p q r : Int, rd [p, q, r] 1 = q := fun _ _ _ => by simp [rd]
  have r2 : ∀ p q r : Int, rd [p, q, r] 2 = r := fun _ _ _ => by simp [rd]
  have e0 : wrap64 (0 + 1) = 1 := w64 (i := 0 + 1) (by omega) (by omega)
  have e1 : wrap64 (1 + 1) = 2 := w64 (i := 1 + 1) (by omega) (by omega)
  have e2 : wrap64 (2 + 1) = 3 := w64 (i := 2 + 1) (by omega) (by omega)
  simp only [impl_less.f, impl_less.l0, List.length_cons, List.length_nil, e0, e1, e2, r0, r1, r2, lessB]
  by_cases h0 : a < x
  · by_cases h1 : b < y
    · by_cases h2 : c < z
      · simp [h0, h1, h2, show ¬ x ≤ a by omega, show ¬ y ≤ b by omega, show ¬ z ≤ c by omega]
      · simp [h0, h1, h2, show ¬ x ≤ a by omega, show ¬ y ≤ b by omega, show z ≤ c by omega]
    · simp [h0, h1, show ¬ x ≤ a by omega, show y ≤ b by omega]
  · simp [h0, show x ≤ a by omega]
theorem fits_law (a b c x y z : Int) (p q : Bool) (hs : Ev (fun k => spec_FitsIn.f k a b c x y z) (p, q)) (hi : Ev (fun k => impl_FitsIn.f k a b c x y z) (p, q)) : Ev (fun k => laws_FnExactFitsIn.f k a b c x y z) true := by
  unfold laws_FnExactFitsIn.f
  simp only [laws_toBox.f, Option.bind_some]
  refine Ev.bind hs (Ev.bind hi (ev_neg (by simp) (ev_neg (by simp) (Ev.now _))))
theorem FnExactFitsIn : laws_FnExactFitsIn.Pure := by
  intro a b c x y z _ _ _ _ _ _
  refine Ev.rounds ?_
  cases h : boxB a b c with
  | true =>
    cases g : boxB x y z with
    | true =>
      refine fits_law a b c x y z (lessB a b c x y z) true ?_ ?_
      · unfold spec_FitsIn.f
        refine Ev.bind (h ▸ ne_good a b c) (ev_pos rfl (Ev.bind (g ▸ ne_good x y z) (ev_pos rfl ?_)))
        unfold lessB
        by_cases h0 : a < x
        · refine ev_pos h0 ?_
          rw [decide_eq_true h0, Bool.true_and]
          by_cases h1 : b < y
          · refine ev_pos h1 ?_
            rw [decide_eq_true h1, Bool.true_and]
            exact Ev.now _
          · refine ev_neg h1 ?_
            rw [decide_eq_false h1, Bool.false_and]
            exact Ev.now _
        · refine ev_neg h0 ?_
          rw [decide_eq_false h0, Bool.false_and]
          exact Ev.now _
      · refine ev_at 5 (fun k => ?_)
        simp [impl_FitsIn.f, im_box, h, g, impl_FitsIn.j0, impl_Box_sides.f, less_is]
    | false =>
      refine fits_law a b c x y z false false ?_ ?_
      · unfold spec_FitsIn.f
        exact Ev.bind (h ▸ ne_good a b c) (ev_pos rfl (Ev.bind (g ▸ ne_good x y z) (ev_neg (by decide) (Ev.now _))))
      · refine ev_at 5 (fun k => ?_)
        simp [impl_FitsIn.f, im_box, h, g, impl_FitsIn.j0]
  | false =>
    refine fits_law a b c x y z false false ?_ ?_
    · unfold spec_FitsIn.f
      exact Ev.bind (h ▸ ne_good a b c) (ev_neg (by decide) (Ev.now _))
    · refine ev_at 5 (fun k => ?_)
      simp [impl_FitsIn.f, im_box, h, impl_FitsIn.j0]

end Go.Proofs.Ytmmecijhdpioaaa.Pure

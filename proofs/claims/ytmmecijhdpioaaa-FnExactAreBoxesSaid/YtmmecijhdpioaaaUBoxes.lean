/- A list of boxes is told alike by the program and the reference. Condition: at most 1048576 elements. -/
import Derived.Test.YtmmecijhdpioaaaQ0
import Derived.Test.YtmmecijhdpioaaaQ4
import Derived.Test.YtmmecijhdpioaaaQ5
import Derived.Test.YtmmecijhdpioaaaUBox
import Derived.Test.YtmmecijhdpioaaaUBoxS
namespace Go.Proofs.Ytmmecijhdpioaaa.Pure
open Go.RowKit Go.Proofs.Ytmmecijhdpioaaa.Q Go.Proofs.YtmmecijhdpioaaaW.PrintWords Go.Proofs.YtmmecijhdpioaaaW.PrintLast Go.Proofs.YtmmecijhdpioaaaW.PrintMore
set_option linter.unusedVariables false
set_option linter.unusedSimpArgs false
theorem okBox_is (b : S26) : okBox b = boxB b.f0 b.f1 b.f2 := rfl
theorem neAll_l0 (xs : List S26) (hn : xs.length ≤ 1048576) (d : Nat) : ∀ i : Nat, xs.length - i = d → i ≤ xs.length →
    Ev (fun k => spec_neAll.l0 k xs (xs.length : Int) (i : Int)) ((xs.drop i).all okBox) := by
  induction d with
  | zero =>
    intro i hd hle
    obtain rfl : i = xs.length := by omega
    rw [List.drop_length]
    exact ev_at 1 (fun k => by simp only [spec_neAll.l0]; rw [if_neg (by omega)]; rfl)
  | succ d ih =>
    intro i hd hle
    have hlt : i < xs.length := by omega
    have hr : rd_T26 xs (i : Int) = xs[i] := by simp [rd_T26, hlt]
    rw [cons_drop xs i hlt, List.all_cons]
    refine Ev.step (f := fun k => (spec_neGood.f k xs[i].f0 xs[i].f1 xs[i].f2).bind fun t => if t = true then spec_neAll.l0 k xs (xs.length : Int) ((i + 1 : Nat) : Int) else some false) (fun k => ?_) ?_
    · simp only [spec_neAll.l0]
      rw [if_pos (by omega), if_pos (by omega), if_pos (by omega), hr, w64 (by omega) (by omega)]
      rfl
    · have hg := ne_good xs[i].f0 xs[i].f1 xs[i].f2
      cases hb : okBox xs[i] with
      | true =>
        rw [okBox_is] at hb
        exact Ev.bind (hb ▸ hg) (ev_pos rfl (ih (i + 1) (by omega) (by omega)))
      | false =>
        rw [okBox_is] at hb
        exact Ev.bind (hb ▸ hg) (ev_neg (by decide) (Ev.now _))
theorem areBoxes_is (xs : List S26) (hn : xs.length ≤ 1048576) : Ev (fun k => spec_AreBoxes.f k xs) (okW 1 7 (xs.length : Int) && xs.all okBox) := by
  unfold spec_AreBoxes.f
  refine ev_ret ?_
  unfold spec_neAll.f
  rw [in_is, okW_in]
  cases inB 1 7 (xs.length : Int) with
  | true => exact ev_some (ev_pos rfl (by simpa using neAll_l0 xs hn _ 0 rfl (Nat.zero_le _)))
  | false => exact ev_some (ev_neg (by decide) (Ev.now _))

end Go.Proofs.Ytmmecijhdpioaaa.Pure

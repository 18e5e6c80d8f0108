/- What the laws do with slices of Box: a copy, a comparison with itself, its size. Condition: at most 1048576 elements. -/
import Derived.Test.YtmmecijhdpioaaaQ0
import Derived.Test.YtmmecijhdpioaaaQ1
import Derived.Test.YtmmecijhdpioaaaQ4
import Derived.Test.YtmmecijhdpioaaaQ6
import Derived.Test.YtmmecijhdpioaaaUBase
namespace Go.Proofs.Ytmmecijhdpioaaa.Pure
open Go.RowKit Go.Proofs.Ytmmecijhdpioaaa.Q Go.Proofs.YtmmecijhdpioaaaW.PrintWords Go.Proofs.YtmmecijhdpioaaaW.PrintLast Go.Proofs.YtmmecijhdpioaaaW.PrintMore
set_option linter.unusedVariables false
set_option linter.unusedSimpArgs false
def convBox (s : S23) : S26 := ⟨s.f0, s.f1, s.f2⟩
theorem convBox_step (xs : List S23) (i : Nat) (h : i < xs.length) : ((xs.take i).map convBox ++ List.replicate (xs.length - i) z26).set i (convBox xs[i]) = (xs.take (i + 1)).map convBox ++ List.replicate (xs.length - (i + 1)) z26 := by
  have e : xs.length - i = (xs.length - (i + 1)) + 1 := by omega
  rw [List.set_append_right _ _ (by simp; omega), e, List.replicate_succ]
  have e2 : i - (List.map convBox (List.take i xs)).length = 0 := by simp; omega
  rw [e2, List.set_cons_zero, List.take_succ_eq_append_getElem h, List.map_append]
  simp
theorem toBox_l0 (xs : List S23) (hn : xs.length ≤ 1048576) (d : Nat) : ∀ i : Nat, xs.length - i = d → i ≤ xs.length →
    Ev (fun k => laws_toBoxS.l0 k xs ((xs.take i).map convBox ++ List.replicate (xs.length - i) z26) (i : Int)) (xs.map convBox) := by
  induction d with
  | zero =>
    intro i hd hle
    obtain rfl : i = xs.length := by omega
    exact ev_at 1 (fun k => by simp only [laws_toBoxS.l0]; rw [if_neg (by omega)]; simp)
  | succ d ih =>
    intro i hd hle
    have hlt : i < xs.length := by omega
    have hr : rd_T23 xs (i : Int) = xs[i] := by simp [rd_T23, hlt]
    refine Ev.step (f := fun k => laws_toBoxS.l0 k xs ((xs.take (i + 1)).map convBox ++ List.replicate (xs.length - (i + 1)) z26) ((i + 1 : Nat) : Int)) (fun k => ?_) (ih (i + 1) (by omega) (by omega))
    simp only [laws_toBoxS.l0, laws_toBox.f, Option.bind_some]
    rw [if_pos (by omega), if_pos (by omega), if_pos (by simp; omega), hr, w64 (by omega) (by omega), Int.toNat_natCast, ← convBox_step xs i hlt]
    rfl
theorem toBox_is (xs : List S23) (hn : xs.length ≤ 1048576) : Ev (fun k => laws_toBoxS.f k xs) (xs.map convBox) := by
  unfold laws_toBoxS.f
  refine ev_pos (by omega) (ev_pos (by simp; omega) ?_)
  have := toBox_l0 xs hn _ 0 rfl (Nat.zero_le _)
  simpa using this
theorem eqBox_self (x : S26) : laws_eqBox.f x.f0 x.f1 x.f2 x.f0 x.f1 x.f2 = some true := by simp [laws_eqBox.f]
theorem eqBox_l0 (xs : List S26) (hn : xs.length ≤ 1048577) (d : Nat) : ∀ i : Nat, xs.length - i = d → i ≤ xs.length → Ev (fun k => laws_eqBoxS.l0 k xs xs (i : Int)) true := by
  induction d with
  | zero =>
    intro i hd hle
    exact ev_at 1 (fun k => by simp only [laws_eqBoxS.l0]; rw [if_neg (by omega)])
  | succ d ih =>
    intro i hd hle
    refine Ev.step (f := fun k => laws_eqBoxS.l0 k xs xs ((i + 1 : Nat) : Int)) (fun k => ?_) (ih (i + 1) (by omega) (by omega))
    simp only [laws_eqBoxS.l0]
    rw [if_pos (by omega), if_pos (by omega), if_pos (by omega), eqBox_self, w64 (by omega) (by omega)]
    rfl
theorem eqBox_is (xs : List S26) (hn : xs.length ≤ 1048577) : Ev (fun k => laws_eqBoxS.f k xs xs) true := by
  unfold laws_eqBoxS.f
  exact ev_pos rfl (eqBox_l0 xs hn _ 0 rfl (Nat.zero_le _))
theorem szBox_is (xs : List S23) (hn : xs.length ≤ maxLen) : laws_szBoxS.f xs 1048576 = some (if xs.length ≤ 1048576 then 1048576 - (xs.length : Int) else -1) := by
  unfold maxLen at hn
  unfold laws_szBoxS.f
  rw [w64 (by omega) (by omega)]
  by_cases h : xs.length ≤ 1048576
  · rw [if_neg (by omega), if_pos h]
  · rw [if_pos (by omega), if_neg h]

end Go.Proofs.Ytmmecijhdpioaaa.Pure

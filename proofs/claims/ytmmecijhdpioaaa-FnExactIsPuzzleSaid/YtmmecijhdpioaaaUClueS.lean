/- What the laws do with slices of Clue: a copy, a comparison with itself, its size. Condition: at most 1048576 elements. -/
import Derived.Test.YtmmecijhdpioaaaQ0
import Derived.Test.YtmmecijhdpioaaaQ11
import Derived.Test.YtmmecijhdpioaaaQ7
import Derived.Test.YtmmecijhdpioaaaQ8
import Derived.Test.YtmmecijhdpioaaaQ9
import Derived.Test.YtmmecijhdpioaaaUBase
namespace Go.Proofs.Ytmmecijhdpioaaa.Pure
open Go.RowKit Go.Proofs.Ytmmecijhdpioaaa.Q Go.Proofs.YtmmecijhdpioaaaW.PrintWords Go.Proofs.YtmmecijhdpioaaaW.PrintLast Go.Proofs.YtmmecijhdpioaaaW.PrintMore
set_option linter.unusedVariables false
set_option linter.unusedSimpArgs false
def convClue (s : S40) : S42 := ⟨s.f0, s.f1, s.f2, s.f3⟩
theorem convClue_step (xs : List S40) (i : Nat) (h : i < xs.length) : ((xs.take i).map convClue ++ List.replicate (xs.length - i) z42).set i (convClue xs[i]) = (xs.take (i + 1)).map convClue ++ List.replicate (xs.length - (i + 1)) z42 := by
  have e : xs.length - i = (xs.length - (i + 1)) + 1 := by omega
  rw [List.set_append_right _ _ (by simp; omega), e, List.replicate_succ]
  have e2 : i - (List.map convClue (List.take i xs)).length = 0 := by simp; omega
  rw [e2, List.set_cons_zero, List.take_succ_eq_append_getElem h, List.map_append]
  simp
theorem toClue_l0 (xs : List S40) (hn : xs.length ≤ 1048576) (d : Nat) : ∀ i : Nat, xs.length - i = d → i ≤ xs.length →
    Ev (fun k => laws_toClueS.l0 k xs ((xs.take i).map convClue ++ List.replicate (xs.length - i) z42) (i : Int)) (xs.map convClue) := by
  induction d with
  | zero =>
    intro i hd hle
    obtain rfl : i = xs.length := by omega
    exact ev_at 1 (fun k => by simp only [laws_toClueS.l0]; rw [if_neg (by omega)]; simp)
  | succ d ih =>
    intro i hd hle
    have hlt : i < xs.length := by omega
    have hr : rd_T40 xs (i : Int) = xs[i] := by simp [rd_T40, hlt]
    refine Ev.step (f := fun k => laws_toClueS.l0 k xs ((xs.take (i + 1)).map convClue ++ List.replicate (xs.length - (i + 1)) z42) ((i + 1 : Nat) : Int)) (fun k => ?_) (ih (i + 1) (by omega) (by omega))
    simp only [laws_toClueS.l0, laws_toClue.f, Option.bind_some]
    rw [if_pos (by omega), if_pos (by omega), if_pos (by simp; omega), hr, w64 (by omega) (by omega), Int.toNat_natCast, ← convClue_step xs i hlt]
    rfl
theorem toClue_is (xs : List S40) (hn : xs.length ≤ 1048576) : Ev (fun k => laws_toClueS.f k xs) (xs.map convClue) := by
  unfold laws_toClueS.f
  refine ev_pos (by omega) (ev_pos (by simp; omega) ?_)
  have := toClue_l0 xs hn _ 0 rfl (Nat.zero_le _)
  simpa using this
theorem eqClue_self (x : S42) : laws_eqClue.f x.f0 x.f1 x.f2 x.f3 x.f0 x.f1 x.f2 x.f3 = some true := by simp [laws_eqClue.f]
theorem eqClue_l0 (xs : List S42) (hn : xs.length ≤ 1048577) (d : Nat) : ∀ i : Nat, xs.length - i = d → i ≤ xs.length → Ev (fun k => laws_eqClueS.l0 k xs xs (i : Int)) true := by
  induction d with
  | zero =>
    intro i hd hle
    exact ev_at 1 (fun k => by simp only [laws_eqClueS.l0]; rw [if_neg (by omega)])
  | succ d ih =>
    intro i hd hle
    refine Ev.step (f := fun k => laws_eqClueS.l0 k xs xs ((i + 1 : Nat) : Int)) (fun k => ?_) (ih (i + 1) (by omega) (by omega))
    simp only [laws_eqClueS.l0]
    rw [if_pos (by omega), if_pos (by omega), if_pos (by omega), eqClue_self, w64 (by omega) (by omega)]
    rfl
theorem eqClue_is (xs : List S42) (hn : xs.length ≤ 1048577) : Ev (fun k => laws_eqClueS.f k xs xs) true := by
  unfold laws_eqClueS.f
  exact ev_pos rfl (eqClue_l0 xs hn _ 0 rfl (Nat.zero_le _))
theorem szClue_is (xs : List S40) (hn : xs.length ≤ maxLen) : laws_szClueS.f xs 1048576 = some (if xs.length ≤ 1048576 then 1048576 - (xs.length : Int) else -1) := by
  unfold maxLen at hn
  unfold laws_szClueS.f
  rw [w64 (by omega) (by omega)]
  by_cases h : xs.length ≤ 1048576
  · rw [if_neg (by omega), if_pos h]
  · rw [if_pos (by omega), if_neg h]

end Go.Proofs.Ytmmecijhdpioaaa.Pure

/- A puzzle is told alike by the program and the reference. Condition: at most 1048576 clues. -/
import Derived.Test.YtmmecijhdpioaaaQ0
import Derived.Test.YtmmecijhdpioaaaQ10
import Derived.Test.YtmmecijhdpioaaaQ11
import Derived.Test.YtmmecijhdpioaaaQ8
import Derived.Test.YtmmecijhdpioaaaQ9
import Derived.Test.YtmmecijhdpioaaaUClue
import Derived.Test.YtmmecijhdpioaaaUClueS
namespace Go.Proofs.Ytmmecijhdpioaaa.Pure
open Go.RowKit Go.Proofs.Ytmmecijhdpioaaa.Q Go.Proofs.YtmmecijhdpioaaaW.PrintWords Go.Proofs.YtmmecijhdpioaaaW.PrintLast Go.Proofs.YtmmecijhdpioaaaW.PrintMore
set_option linter.unusedVariables false
set_option linter.unusedSimpArgs false
theorem toPuzzle_is (t : Int) (xs : List S40) (hn : xs.length ≤ 1048576) : Ev (fun k => laws_toPuzzle.f k t xs) (t, xs.map convClue) := by
  unfold laws_toPuzzle.f
  exact Ev.bind (toClue_is xs hn) (Ev.now _)
theorem eqPuzzle_is (t : Int) (xs : List S42) (hn : xs.length ≤ 1048577) : Ev (fun k => laws_eqPuzzle.f k t xs t xs) true := by
  unfold laws_eqPuzzle.f
  exact ev_pos rfl (Ev.bind (eqClue_is xs hn) (ev_pos rfl (Ev.now _)))
theorem szPuzzle_is (t : Int) (xs : List S40) (hn : xs.length ≤ maxLen) : laws_szPuzzle.f t xs 1048576 = some (if xs.length ≤ 1048576 then 1048576 - (xs.length : Int) else -1) := by
  unfold laws_szPuzzle.f
  rw [szClue_is xs hn]
  by_cases h : xs.length ≤ 1048576
  · rw [if_pos h]
    simp only [Option.bind_some]
    rw [if_neg (by omega)]
  · rw [if_neg h]
    rfl
theorem pzGood_l0 (t : Int) (ht : inB 2 4 t = true) (xs : List S42) (hn : xs.length ≤ 1048576) (d : Nat) : ∀ i : Nat, xs.length - i = d → i ≤ xs.length →
    Ev (fun k => spec_pzGood.l0 k xs (xs.length : Int) (i : Int) t xs) ((xs.drop i).all (okClue t)) := by
  induction d with
  | zero =>
    intro i hd hle
    obtain rfl : i = xs.length := by omega
    rw [List.drop_length]
    exact ev_at 1 (fun k => by simp only [spec_pzGood.l0]; rw [if_neg (by omega)]; rfl)
  | succ d ih =>
    intro i hd hle
    have hlt : i < xs.length := by omega
    have hr : rd_T42 xs (i : Int) = xs[i] := by simp [rd_T42, hlt]
    rw [cons_drop xs i hlt, List.all_cons]
    refine Ev.step (f := fun k => (spec_pzClue.f k t xs[i].f0 xs[i].f1 xs[i].f2 xs[i].f3).bind fun t1 => if t1 = true then spec_pzGood.l0 k xs (xs.length : Int) ((i + 1 : Nat) : Int) t xs else some false) (fun k => ?_) ?_
    · simp only [spec_pzGood.l0]
      rw [if_pos (by omega), if_pos (by omega), if_pos (by omega), hr, w64 (by omega) (by omega)]
      rfl
    · have hg := pz_is t xs[i] ht
      cases hb : okClue t xs[i] with
      | true => exact Ev.bind (hb ▸ hg) (ev_pos rfl (ih (i + 1) (by omega) (by omega)))
      | false => exact Ev.bind (hb ▸ hg) (ev_neg (by decide) (Ev.now _))
def puzzleB (t : Int) (xs : List S42) : Bool := okW 2 4 t && (decide ((xs.length : Int) ≤ 6) && xs.all (okClue t))
theorem pzGood_is (t : Int) (xs : List S42) (hn : xs.length ≤ 1048576) : Ev (fun k => spec_pzGood.f k t xs) (puzzleB t xs) := by
  unfold spec_pzGood.f puzzleB
  rw [things_is, okW_in2]
  cases ht : inB 2 4 t with
  | true =>
    refine ev_some (ev_pos rfl ?_)
    by_cases h6 : (xs.length : Int) > 6
    · rw [decide_eq_true h6, decide_eq_false (show ¬ (xs.length : Int) ≤ 6 by omega)]
      exact ev_at 1 (fun k => by simp only [spec_pzGood.j0]; rfl)
    · rw [decide_eq_false h6, decide_eq_true (show (xs.length : Int) ≤ 6 by omega)]
      refine Ev.step (f := fun k => spec_pzGood.l0 k xs (xs.length : Int) 0 t xs) (fun k => by simp only [spec_pzGood.j0]; rfl) ?_
      simpa using pzGood_l0 t ht xs hn _ 0 rfl (Nat.zero_le _)
  | false =>
    refine ev_some (ev_neg (by decide) ?_)
    exact ev_at 1 (fun k => by simp only [spec_pzGood.j0]; rfl)

end Go.Proofs.Ytmmecijhdpioaaa.Pure

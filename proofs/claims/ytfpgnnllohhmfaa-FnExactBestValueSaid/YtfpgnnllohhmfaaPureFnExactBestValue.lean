/- For every board and every list of pieces (whose numbers may be any): the program's BestValue and the reference's return the same two results, and the list is not changed. Condition: what the law itself lets in. -/
import Derived.Test.YtfpgnnllohhmfaaQ0
import Derived.Test.YtfpgnnllohhmfaaQ21
import Derived.Test.YtfpgnnllohhmfaaUValues
import Derived.Test.YtfpgnnllohhmfaaSFnExactBestValue
namespace Go.Proofs.Ytfpgnnllohhmfaa.Pure
open Go.RowKit Go.Proofs.Ytfpgnnllohhmfaa.Q Go.Proofs.YtfpgnnllohhmfaaW.PrintWords Go.Proofs.YtfpgnnllohhmfaaW.PrintLast Go.Proofs.YtfpgnnllohhmfaaW.PrintMore
set_option linter.unusedVariables false
set_option linter.unusedSimpArgs false
theorem asked_is (a b : Int) (xs : List S38) (hn : xs.length ≤ 1048576) : Ev (fun k => spec_bdAsked.f k a b xs) (boardB a b && piecesB xs) := by
  unfold spec_bdAsked.f
  rw [good_is]
  cases boardB a b with
  | false => exact ev_some (ev_neg (by decide) (Ev.now _))
  | true => exact ev_some (ev_pos rfl (ev_ret (bdPieces_is xs hn)))
theorem areCut_is (a b : Int) (xs : List S38) : impl_areCut.f a b xs = some (boardB a b && piecesB xs) := by
  unfold impl_areCut.f
  rw [board_is, arePieces_is]
  cases boardB a b <;> rfl
theorem best_law (a b : Int) (xs : List S36) (tn : Bool) (h : xs.length ≤ 1048576) (x : Int) (ok : Bool) (hs : Ev (fun k => spec_BestValue.f k a b (xs.map convPiece) tn) (x, ok)) (hi : impl_BestValue.f a b (xs.map convPiece) tn = some (x, ok)) : Ev (fun k => laws_FnExactBestValue.f k a b xs tn) true := by
  have hc := toPiece_is xs h
  unfold laws_FnExactBestValue.f
  rw [szPiece_is xs (by unfold maxLen; omega), if_pos h]
  refine ev_some (ev_neg (by omega) (Ev.bind hc (Ev.bind hs (Ev.bind hc ?_))))
  rw [hi]
  have hb : ¬ (ok != ok) = true := by cases ok <;> decide
  exact ev_some (ev_pos rfl (ev_neg hb (Ev.bind hc (Ev.bind (eqPiece_is _ (by simp; omega)) (ev_pos rfl (Ev.now _))))))
theorem FnExactBestValue : laws_FnExactBestValue.Pure := by
  intro a b xs tn _ _ hl
  refine Ev.rounds ?_
  by_cases h : xs.length ≤ 1048576
  · have hn : (xs.map convPiece).length ≤ 1048576 := by simpa using h
    cases hq : (boardB a b && piecesB (xs.map convPiece)) with
    | false =>
      refine best_law a b xs tn h 0 false ?_ ?_
      · unfold spec_BestValue.f
        exact Ev.bind (hq ▸ asked_is a b _ hn) (ev_neg (by decide) (Ev.now _))
      · simp [impl_BestValue.f, areCut_is, hq]
    | true =>
      have hb := (boardB_iff a b).1 (Bool.and_eq_true_iff.1 hq).1
      obtain ⟨m, rfl⟩ := Int.eq_ofNat_of_zero_le (show 0 ≤ a by omega)
      obtain ⟨n, rfl⟩ := Int.eq_ofNat_of_zero_le (show 0 ≤ b by omega)
      refine best_law _ _ xs tn h (cvN (whN (xs.map convPiece) tn) m n) true ?_ ?_
      · unfold spec_BestValue.f
        refine Ev.bind (hq ▸ asked_is _ _ _ hn) (ev_pos rfl (Ev.bind (bdValues_is m n _ tn (by omega) (by omega) hn) ?_))
        rw [rows_len, rows_all _ _ _ m n (by omega) (Nat.le_refl _) (Nat.le_refl _), tab_len, rd_tab _ _ _ (by omega), valV_pos _ _ _ _ (by omega)]
        exact ev_pos (by omega) (ev_pos (by omega) (ev_pos (by omega) (ev_pos (by omega) (Ev.now _))))
      · simp only [impl_BestValue.f, areCut_is, hq, Option.bind_some, if_true]
  · unfold laws_FnExactBestValue.f
    rw [szPiece_is xs hl, if_neg h]
    exact ev_some (ev_pos (by omega) (Ev.now _))

end Go.Proofs.Ytfpgnnllohhmfaa.Pure

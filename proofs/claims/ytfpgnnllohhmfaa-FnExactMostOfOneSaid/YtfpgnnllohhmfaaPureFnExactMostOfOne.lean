/- For every board and every piece: the program's MostOfOne and the reference's return the same two results. No condition. -/
import Derived.Test.YtfpgnnllohhmfaaQ0
import Derived.Test.YtfpgnnllohhmfaaQ20
import Derived.Test.YtfpgnnllohhmfaaUValues
import Derived.Test.YtfpgnnllohhmfaaUAsked
import Derived.Test.YtfpgnnllohhmfaaSFnExactMostOfOne
namespace Go.Proofs.Ytfpgnnllohhmfaa.Pure
open Go.RowKit Go.Proofs.Ytfpgnnllohhmfaa.Q Go.Proofs.YtfpgnnllohhmfaaW.PrintWords Go.Proofs.YtfpgnnllohhmfaaW.PrintLast Go.Proofs.YtfpgnnllohhmfaaW.PrintMore
set_option linter.unusedVariables false
set_option linter.unusedSimpArgs false
theorem most_law (a b p q v : Int) (tn : Bool) (x : Int) (ok : Bool) (hs : Ev (fun k => spec_MostOfOne.f k a b p q v tn) (x, ok)) (hi : impl_MostOfOne.f a b p q v tn = some (x, ok)) : Ev (fun k => laws_FnExactMostOfOne.f k a b p q v tn) true := by
  unfold laws_FnExactMostOfOne.f
  simp only [laws_toPiece.f, Option.bind_some]
  refine Ev.bind hs ?_
  rw [hi]
  have hb : ¬ (ok != ok) = true := by cases ok <;> decide
  exact ev_some (ev_pos rfl (ev_neg hb (Ev.now _)))
theorem FnExactMostOfOne : laws_FnExactMostOfOne.Pure := by
  intro a b p q v tn _ _ _ _ _
  refine Ev.rounds ?_
  cases hq : (boardB a b && piecesB [⟨p, q, v⟩]) with
  | false =>
    refine most_law a b p q v tn 0 false ?_ ?_
    · unfold spec_MostOfOne.f
      exact Ev.bind (hq ▸ asked_is a b _ (by simp)) (ev_neg (by decide) (Ev.now _))
    · simp [impl_MostOfOne.f, areCut_is, hq]
  | true =>
    have hb := (boardB_iff a b).1 (Bool.and_eq_true_iff.1 hq).1
    obtain ⟨m, rfl⟩ := Int.eq_ofNat_of_zero_le (show 0 ≤ a by omega)
    obtain ⟨n, rfl⟩ := Int.eq_ofNat_of_zero_le (show 0 ≤ b by omega)
    refine most_law _ _ p q v tn (cvN (whN [⟨p, q, 1⟩] tn) m n) true ?_ ?_
    · unfold spec_MostOfOne.f
      refine Ev.bind (hq ▸ asked_is _ _ _ (by simp)) (ev_pos rfl (Ev.bind (bdValues_is m n [⟨p, q, 1⟩] tn (by omega) (by omega) (by simp)) ?_))
      rw [rows_len, rows_all _ _ _ m n (by omega) (Nat.le_refl _) (Nat.le_refl _), tab_len, rd_tab _ _ _ (by omega), valV_pos _ _ _ _ (by omega)]
      exact ev_pos (by omega) (ev_pos (by omega) (ev_pos (by omega) (ev_pos (by omega) (Ev.now _))))
    · simp only [impl_MostOfOne.f, areCut_is, hq, Option.bind_some, if_true]

end Go.Proofs.Ytfpgnnllohhmfaa.Pure

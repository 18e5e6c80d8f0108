/- A list of pieces is told alike by the program and the reference. Condition: at most 1048576 elements. -/
import Derived.Test.YtfpgnnllohhmfaaQ0
import Derived.Test.YtfpgnnllohhmfaaQ2
import Derived.Test.YtfpgnnllohhmfaaQ3
import Derived.Test.YtfpgnnllohhmfaaUBoard
import Derived.Test.YtfpgnnllohhmfaaUPieceS
namespace Go.Proofs.Ytfpgnnllohhmfaa.Pure
open Go.RowKit Go.Proofs.Ytfpgnnllohhmfaa.Q Go.Proofs.YtfpgnnllohhmfaaW.PrintWords Go.Proofs.YtfpgnnllohhmfaaW.PrintLast Go.Proofs.YtfpgnnllohhmfaaW.PrintMore
set_option linter.unusedVariables false
set_option linter.unusedSimpArgs false
theorem okPiece_is (b : S38) : okPiece b = (boardB b.f0 b.f1 && inB 0 1000 b.f2) := rfl
theorem bdPieces_l0 (xs : List S38) (hn : xs.length ≤ 1048576) (d : Nat) : ∀ i : Nat, xs.length - i = d → i ≤ xs.length →
    Ev (fun k => spec_bdPieces.l0 k xs (xs.length : Int) (i : Int)) ((xs.drop i).all okPiece) := by
  induction d with
  | zero =>
    intro i hd hle
    obtain rfl : i = xs.length := by omega
    rw [List.drop_length]
    exact ev_at 1 (fun k => by simp only [spec_bdPieces.l0]; rw [if_neg (by omega)]; rfl)
  | succ d ih =>
    intro i hd hle
    have hlt : i < xs.length := by omega
    have hr : rd_T38 xs (i : Int) = xs[i] := by simp [rd_T38, hlt]
    rw [cons_drop xs i hlt, List.all_cons, okPiece_is]
    cases h1 : boardB xs[i].f0 xs[i].f1 with
    | false =>
      refine ev_at 1 (fun k => ?_)
      simp only [spec_bdPieces.l0]
      rw [if_pos (by omega), if_pos (by omega), if_pos (by omega), hr, good_is, h1]
      rfl
    | true =>
      cases h2 : inB 0 1000 xs[i].f2 with
      | false =>
        refine ev_at 1 (fun k => ?_)
        simp only [spec_bdPieces.l0]
        rw [if_pos (by omega), if_pos (by omega), if_pos (by omega), hr, good_is, h1, in_is, h2]
        rfl
      | true =>
        refine Ev.step (f := fun k => spec_bdPieces.l0 k xs (xs.length : Int) ((i + 1 : Nat) : Int)) (fun k => ?_) (ih (i + 1) (by omega) (by omega))
        simp only [spec_bdPieces.l0]
        rw [if_pos (by omega), if_pos (by omega), if_pos (by omega), hr, good_is, h1, in_is, h2, w64 (by omega) (by omega)]
        rfl
def piecesB (xs : List S38) : Bool := inB 1 4 (xs.length : Int) && xs.all okPiece
theorem bdPieces_is (xs : List S38) (hn : xs.length ≤ 1048576) : Ev (fun k => spec_bdPieces.f k xs) (piecesB xs) := by
  unfold spec_bdPieces.f piecesB
  rw [in_is]
  cases inB 1 4 (xs.length : Int) with
  | true => exact ev_some (ev_pos rfl (by simpa using bdPieces_l0 xs hn _ 0 rfl (Nat.zero_le _)))
  | false => exact ev_some (ev_neg (by decide) (Ev.now _))
theorem arePieces_is (xs : List S38) : impl_ArePieces.f xs = some (piecesB xs) := rfl

end Go.Proofs.Ytfpgnnllohhmfaa.Pure

/- What the laws do with slices of Piece: a copy, a comparison with itself, its size. Condition: at most 1048576 elements. -/
import Derived.Test.YtfpgnnllohhmfaaQ0
import Derived.Test.YtfpgnnllohhmfaaQ2
import Derived.Test.YtfpgnnllohhmfaaQ4
import Derived.Test.YtfpgnnllohhmfaaUBase
namespace Go.Proofs.Ytfpgnnllohhmfaa.Pure
open Go.RowKit Go.Proofs.Ytfpgnnllohhmfaa.Q Go.Proofs.YtfpgnnllohhmfaaW.PrintWords Go.Proofs.YtfpgnnllohhmfaaW.PrintLast Go.Proofs.YtfpgnnllohhmfaaW.PrintMore
set_option linter.unusedVariables false
set_option linter.unusedSimpArgs false
def convPiece (s : S36) : S38 := ⟨s.f0, s.f1, s.f2⟩
theorem convPiece_step (xs : List S36) (i : Nat) (h : i < xs.length) : ((xs.take i).map convPiece ++ List.replicate (xs.length - i) z38).set i (convPiece xs[i]) = (xs.take (i + 1)).map convPiece ++ List.replicate (xs.length - (i + 1)) z38 := by
  have e : xs.length - i = (xs.length - (i + 1)) + 1 := by omega
  rw [List.set_append_right _ _ (by simp; omega), e, List.replicate_succ]
  have e2 : i - (List.map convPiece (List.take i xs)).length = 0 := by simp; omega
  rw [e2, List.set_cons_zero, List.take_succ_eq_append_getElem h, List.map_append]
  simp
theorem toPiece_l0 (xs : List S36) (hn : xs.length ≤ 1048576) (d : Nat) : ∀ i : Nat, xs.length - i = d → i ≤ xs.length →
    Ev (fun k => laws_toPieceS.l0 k xs ((xs.take i).map convPiece ++ List.replicate (xs.length - i) z38) (i : Int)) (xs.map convPiece) := by
  induction d with
  | zero =>
    intro i hd hle
    obtain rfl : i = xs.length := by omega
    exact ev_at 1 (fun k => by simp only [laws_toPieceS.l0]; rw [if_neg (by omega)]; simp)
  | succ d ih =>
    intro i hd hle
    have hlt : i < xs.length := by omega
    have hr : rd_T36 xs (i : Int) = xs[i] := by simp [rd_T36, hlt]
    refine Ev.step (f := fun k => laws_toPieceS.l0 k xs ((xs.take (i + 1)).map convPiece ++ List.replicate (xs.length - (i + 1)) z38) ((i + 1 : Nat) : Int)) (fun k => ?_) (ih (i + 1) (by omega) (by omega))
    simp only [laws_toPieceS.l0, laws_toPiece.f, Option.bind_some]
    rw [if_pos (by omega), if_pos (by omega), if_pos (by simp; omega), hr, w64 (by omega) (by omega), Int.toNat_natCast, ← convPiece_step xs i hlt]
    rfl
theorem toPiece_is (xs : List S36) (hn : xs.length ≤ 1048576) : Ev (fun k => laws_toPieceS.f k xs) (xs.map convPiece) := by
  unfold laws_toPieceS.f
  refine ev_pos (by omega) (ev_pos (by simp; omega) ?_)
  have := toPiece_l0 xs hn _ 0 rfl (Nat.zero_le _)
  simpa using this
theorem eqPiece_self (x : S38) : laws_eqPiece.f x.f0 x.f1 x.f2 x.f0 x.f1 x.f2 = some true := by simp [laws_eqPiece.f]
theorem eqPiece_l0 (xs : List S38) (hn : xs.length ≤ 1048577) (d : Nat) : ∀ i : Nat, xs.length - i = d → i ≤ xs.length → Ev (fun k => laws_eqPieceS.l0 k xs xs (i : Int)) true := by
  induction d with
  | zero =>
    intro i hd hle
    exact ev_at 1 (fun k => by simp only [laws_eqPieceS.l0]; rw [if_neg (by omega)])
  | succ d ih =>
    intro i hd hle
    refine Ev.step (f := fun k => laws_eqPieceS.l0 k xs xs ((i + 1 : Nat) : Int)) (fun k => ?_) (ih (i + 1) (by omega) (by omega))
    simp only [laws_eqPieceS.l0]
    rw [if_pos (by omega), if_pos (by omega), if_pos (by omega), eqPiece_self, w64 (by omega) (by omega)]
    rfl
theorem eqPiece_is (xs : List S38) (hn : xs.length ≤ 1048577) : Ev (fun k => laws_eqPieceS.f k xs xs) true := by
  unfold laws_eqPieceS.f
  exact ev_pos rfl (eqPiece_l0 xs hn _ 0 rfl (Nat.zero_le _))
theorem szPiece_is (xs : List S36) (hn : xs.length ≤ maxLen) : laws_szPieceS.f xs 1048576 = some (if xs.length ≤ 1048576 then 1048576 - (xs.length : Int) else -1) := by
  unfold maxLen at hn
  unfold laws_szPieceS.f
  rw [w64 (by omega) (by omega)]
  by_cases h : xs.length ≤ 1048576
  · rw [if_neg (by omega), if_pos h]
  · rw [if_pos (by omega), if_neg h]

end Go.Proofs.Ytfpgnnllohhmfaa.Pure

/- Tables whose rows are filled one after the other, each from its beginning on. No condition. -/
import Derived.Test.YtfpgnnllohhmfaaQ0
import Derived.Test.YtfpgnnllohhmfaaUTab
namespace Go.Proofs.Ytfpgnnllohhmfaa.Pure
open Go.RowKit Go.Proofs.Ytfpgnnllohhmfaa.Q Go.Proofs.YtfpgnnllohhmfaaW.PrintWords Go.Proofs.YtfpgnnllohhmfaaW.PrintLast Go.Proofs.YtfpgnnllohhmfaaW.PrintMore
set_option linter.unusedVariables false
set_option linter.unusedSimpArgs false
def rowsT (a b : Nat) (V : Nat → Nat → Int) (w h : Nat) : List (List Int) := tab (a + 1) fun i => if i = 0 then [] else if i < w then tab (b + 1) (fun j => V i j) else if i = w then tab (b + 1) (fun j => if j < h then V i j else 0) else []
theorem rows_len (a b : Nat) (V : Nat → Nat → Int) (w h : Nat) : (rowsT a b V w h).length = a + 1 := tab_len _ _
theorem rows_old (a b : Nat) (V : Nat → Nat → Int) (w h i : Nat) (h0 : 0 < i) (h1 : i < w) (h2 : i ≤ a) : rd_L4 (rowsT a b V w h) (i : Int) = tab (b + 1) (fun j => V i j) := by
  simp only [rd_L4, rowsT, Int.toNat_natCast]
  rw [tab_get _ _ _ (by omega), if_neg (by omega), if_pos h1]
theorem rows_cur (a b : Nat) (V : Nat → Nat → Int) (w h : Nat) (h0 : 0 < w) (h2 : w ≤ a) : rd_L4 (rowsT a b V w h) (w : Int) = tab (b + 1) (fun j => if j < h then V w j else 0) := by
  simp only [rd_L4, rowsT, Int.toNat_natCast]
  rw [tab_get _ _ _ (by omega), if_neg (by omega), if_neg (by omega), if_pos rfl]
theorem rows_set (a b : Nat) (V : Nat → Nat → Int) (w h : Nat) (h0 : 0 < w) : (rowsT a b V w h).set w ((tab (b + 1) (fun j => if j < h then V w j else 0)).set h (V w h)) = rowsT a b V w (h + 1) := by
  refine tab_set _ _ _ _ _ (fun _ => ?_) (fun j _ hj => ?_)
  · rw [if_neg (by omega), if_neg (by omega), if_pos rfl]
    refine (tab_set _ _ (fun j => if j < h + 1 then V w j else 0) _ _ (fun _ => if_pos (by omega)) (fun j _ hj => ?_)).symm
    by_cases h1 : j < h
    · rw [if_pos h1, if_pos (by omega)]
    · rw [if_neg h1, if_neg (by omega)]
  · by_cases h1 : j = 0
    · rw [if_pos h1, if_pos h1]
    · rw [if_neg h1, if_neg h1, if_neg hj, if_neg hj]
theorem rows_next (a b : Nat) (V : Nat → Nat → Int) (hV : ∀ i, V i 0 = 0) (w : Nat) : (rowsT a b V w (b + 1)).set (w + 1) (List.replicate (b + 1) 0) = rowsT a b V (w + 1) 1 := by
  refine tab_set _ _ _ _ _ (fun _ => ?_) (fun j _ hj => ?_)
  · rw [if_neg (by omega), if_neg (by omega), if_pos rfl, tab_rep]
    refine tab_ext _ _ _ (fun j _ => ?_)
    by_cases h1 : j < 1
    · obtain rfl : j = 0 := by omega
      rw [if_pos h1, hV]
    · rw [if_neg h1]
  · by_cases h1 : j = 0
    · rw [if_pos h1, if_pos h1]
    · rw [if_neg h1, if_neg h1]
      by_cases h2 : j < w
      · rw [if_pos h2, if_pos (by omega)]
      · rw [if_neg h2]
        by_cases h3 : j = w
        · subst h3
          rw [if_pos rfl, if_pos (by omega)]
          exact tab_ext _ _ _ (fun i hi => if_pos hi)
        · rw [if_neg h3, if_neg (by omega), if_neg (by omega)]
theorem rows_none (a b : Nat) (V : Nat → Nat → Int) : List.replicate (a + 1) [] = rowsT a b V 0 (b + 1) := by
  rw [tab_rep]
  refine tab_ext _ _ _ (fun j _ => ?_)
  by_cases h1 : j = 0
  · rw [if_pos h1]
  · rw [if_neg h1, if_neg (by omega), if_neg (by omega)]
theorem rows_all (a b : Nat) (V : Nat → Nat → Int) (i j : Nat) (h0 : 0 < i) (h1 : i ≤ a) (h2 : j ≤ b) : rd_L4 (rowsT a b V a (b + 1)) (i : Int) = tab (b + 1) (fun j => V i j) := by
  by_cases h : i < a
  · exact rows_old a b V a (b + 1) i h0 h h1
  · obtain rfl : i = a := by omega
    rw [rows_cur i b V i (b + 1) h0 (Nat.le_refl _)]
    exact tab_ext _ _ _ (fun j hj => if_pos hj)

end Go.Proofs.Ytfpgnnllohhmfaa.Pure

/- What the laws do with slices of whole numbers: marks laid and looked at. Condition: at most 1048577 elements. -/
import Derived.Test.YtekabbefflclaaaQ0
import Derived.Test.YtekabbefflclaaaQ14
import Derived.Test.YtekabbefflclaaaUIntS
namespace Go.Proofs.Ytekabbefflclaaa.Pure
open Go.RowKit Go.Proofs.Ytekabbefflclaaa.Q Go.Proofs.YtekabbefflclaaaW.PrintWords Go.Proofs.YtekabbefflclaaaW.PrintLast Go.Proofs.YtekabbefflclaaaW.PrintMore
set_option linter.unusedVariables false
set_option linter.unusedSimpArgs false
def marks (m : Int) (n : Nat) : List Int := tab n fun j => m + (j : Int)
theorem marks_length (m : Int) (n : Nat) : (marks m n).length = n := tab_len _ _
theorem rd_marks (m : Int) (n i : Nat) (h : i < n) : rd (marks m n) (i : Int) = m + (i : Int) := rd_tab _ _ _ h
theorem markS_l0 (xs : List Int) (m : Int) (hm : 0 ≤ m ∧ m ≤ 1000000000) (hn : xs.length ≤ 1048577) (d : Nat) : ∀ i : Nat, xs.length - i = d → i ≤ xs.length →
    Ev (fun k => laws_markIntS.l0 k (tab xs.length fun j => if j < i then m + (j : Int) else xs.getD j 0) (m + (i : Int)) (i : Int)) (m + (xs.length : Int), marks m xs.length) := by
  induction d with
  | zero =>
    intro i hi hle
    obtain rfl : i = xs.length := by omega
    refine ev_at 1 (fun k => ?_)
    simp only [laws_markIntS.l0]
    rw [if_neg (by rw [tab_len]; omega)]
    rw [tab_ext _ _ (fun j => m + (j : Int)) (fun j hj => if_pos hj)]
    rfl
  | succ d ih =>
    intro i hi hle
    refine Ev.step (f := fun k => laws_markIntS.l0 k (tab xs.length fun j => if j < i + 1 then m + (j : Int) else xs.getD j 0) (m + ((i + 1 : Nat) : Int)) ((i + 1 : Nat) : Int)) (fun k => ?_) (ih (i + 1) (by omega) (by omega))
    simp only [laws_markIntS.l0]
    rw [if_pos (by rw [tab_len]; omega), if_pos (by omega), w64 (by omega) (by omega), w64 (by omega) (by omega), Int.toNat_natCast, tab_set _ _ (fun j => if j < i + 1 then m + (j : Int) else xs.getD j 0) _ _ (fun _ => if_pos (by omega)) (fun j _ hj => by
      by_cases h : j < i
      · rw [if_pos h, if_pos (by omega)]
      · rw [if_neg h, if_neg (by omega)])]
    congr 1
    omega
theorem markIntS_is (xs : List Int) (m : Int) (hm : 0 ≤ m ∧ m ≤ 1000000000) (hn : xs.length ≤ 1048577) : Ev (fun k => laws_markIntS.f k xs m) (m + (xs.length : Int), marks m xs.length) := by
  have h := markS_l0 xs m hm hn _ 0 rfl (Nat.zero_le _)
  have e : (tab xs.length fun j => if j < 0 then m + (j : Int) else xs.getD j 0) = xs := by
    apply List.ext_getElem
    · simp [tab]
    · intro j h1 h2
      simp [tab, h2]
  rw [e] at h
  simpa [laws_markIntS.f] using h
theorem heldS_l0 (n : Nat) (m : Int) (hm : 0 ≤ m ∧ m ≤ 1000000000) (hn : n ≤ 1048577) (d : Nat) : ∀ i : Nat, n - i = d → i ≤ n →
    Ev (fun k => laws_heldIntS.l0 k (marks m n) (m + (i : Int)) (i : Int)) (m + (n : Int)) := by
  induction d with
  | zero =>
    intro i hi hle
    obtain rfl : i = n := by omega
    refine ev_at 1 (fun k => ?_)
    simp only [laws_heldIntS.l0]
    rw [if_neg (by simp [marks_length])]
  | succ d ih =>
    intro i hi hle
    refine Ev.step (f := fun k => laws_heldIntS.l0 k (marks m n) (m + ((i + 1 : Nat) : Int)) ((i + 1 : Nat) : Int)) (fun k => ?_) (ih (i + 1) (by omega) (by omega))
    simp only [laws_heldIntS.l0]
    rw [if_pos (by rw [marks_length]; omega), if_pos (by omega), if_pos (rd_marks m n i (by omega)), w64 (by omega) (by omega), w64 (by omega) (by omega)]
    congr 1
    omega
theorem heldIntS_is (n : Nat) (m : Int) (hm : 0 ≤ m ∧ m ≤ 1000000000) (hn : n ≤ 1048577) : Ev (fun k => laws_heldIntS.f k (marks m n) m) (m + (n : Int)) := by
  have h := heldS_l0 n m hm hn _ 0 rfl (Nat.zero_le _)
  simpa [laws_heldIntS.f] using h

end Go.Proofs.Ytekabbefflclaaa.Pure

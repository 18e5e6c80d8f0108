/- What the laws do with slices of whole numbers: a copy, a comparison with itself. Condition: at most 1048577 elements. -/
import Derived.Test.YtekabbefflclaaaQ0
import Derived.Test.YtekabbefflclaaaQ10
import Derived.Test.YtekabbefflclaaaQ12
import Derived.Test.YtekabbefflclaaaUTab
namespace Go.Proofs.Ytekabbefflclaaa.Pure
open Go.RowKit Go.Proofs.Ytekabbefflclaaa.Q Go.Proofs.YtekabbefflclaaaW.PrintWords Go.Proofs.YtekabbefflclaaaW.PrintLast Go.Proofs.YtekabbefflclaaaW.PrintMore
set_option linter.unusedVariables false
set_option linter.unusedSimpArgs false
theorem toIntS_l0 (xs : List Int) (hn : xs.length ≤ 1048577) (d : Nat) : ∀ i : Nat, xs.length - i = d → i ≤ xs.length →
    Ev (fun k => laws_toIntS.l0 k xs (tab xs.length fun j => if j < i then xs.getD j 0 else 0) (i : Int)) xs := by
  induction d with
  | zero =>
    intro i hd hle
    obtain rfl : i = xs.length := by omega
    refine ev_at 1 (fun k => ?_)
    simp only [laws_toIntS.l0]
    rw [if_neg (by omega)]
    congr 1
    apply List.ext_getElem
    · simp [tab]
    · intro j h1 h2
      simp [tab, h2]
  | succ d ih =>
    intro i hd hle
    refine Ev.step (f := fun k => laws_toIntS.l0 k xs (tab xs.length fun j => if j < i + 1 then xs.getD j 0 else 0) ((i + 1 : Nat) : Int)) (fun k => ?_) (ih (i + 1) (by omega) (by omega))
    simp only [laws_toIntS.l0]
    rw [if_pos (by omega), if_pos (by omega), if_pos (by rw [tab_len]; omega), w64 (by omega) (by omega), Int.toNat_natCast, tab_set _ _ (fun j => if j < i + 1 then xs.getD j 0 else 0) _ _ (fun _ => by rw [if_pos (by omega)]; simp [rd]) (fun j _ hj => by
      by_cases h : j < i
      · rw [if_pos h, if_pos (by omega)]
      · rw [if_neg h, if_neg (by omega)])]
    rfl
theorem toIntS_is (xs : List Int) (hn : xs.length ≤ 1048577) : Ev (fun k => laws_toIntS.f k xs) xs := by
  unfold laws_toIntS.f
  refine ev_pos (by omega) (ev_pos (by rw [Int.toNat_natCast]; omega) ?_)
  have := toIntS_l0 xs hn _ 0 rfl (Nat.zero_le _)
  simpa [tab_rep] using this
theorem eqIntS_l0 (xs : List Int) (hn : xs.length ≤ 1048577) (d : Nat) : ∀ i : Nat, xs.length - i = d → Ev (fun k => laws_eqIntS.l0 k xs xs (i : Int)) true := by
  induction d with
  | zero =>
    intro i hi
    refine ev_at 1 (fun k => ?_)
    simp only [laws_eqIntS.l0]
    rw [if_neg (by omega)]
  | succ d ih =>
    intro i hi
    refine Ev.step (f := fun k => laws_eqIntS.l0 k xs xs ((i + 1 : Nat) : Int)) (fun k => ?_) (ih (i + 1) (by omega))
    simp only [laws_eqIntS.l0]
    rw [if_pos (by omega), if_pos (by omega), if_pos (by omega), if_pos True.intro, w64 (by omega) (by omega)]
    rfl
theorem eqIntS_is (xs : List Int) (hn : xs.length ≤ 1048577) : Ev (fun k => laws_eqIntS.f k xs xs) true := by
  unfold laws_eqIntS.f
  exact ev_pos rfl (eqIntS_l0 xs hn _ 0 rfl)

end Go.Proofs.Ytekabbefflclaaa.Pure

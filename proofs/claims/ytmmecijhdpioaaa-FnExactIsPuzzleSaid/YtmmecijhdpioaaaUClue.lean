/- A clue is told alike by the program and the reference. No condition. -/
import Derived.Test.YtmmecijhdpioaaaQ0
import Derived.Test.YtmmecijhdpioaaaQ10
import Derived.Test.YtmmecijhdpioaaaQ6
import Derived.Test.YtmmecijhdpioaaaQ7
import Derived.Test.YtmmecijhdpioaaaQ8
import Derived.Test.YtmmecijhdpioaaaUIn
namespace Go.Proofs.Ytmmecijhdpioaaa.Pure
open Go.RowKit Go.Proofs.Ytmmecijhdpioaaa.Q Go.Proofs.YtmmecijhdpioaaaW.PrintWords Go.Proofs.YtmmecijhdpioaaaW.PrintLast Go.Proofs.YtmmecijhdpioaaaW.PrintMore
set_option linter.unusedVariables false
set_option linter.unusedSimpArgs false
theorem okW_in2 (a b x : Int) : okW a b x = inB a b x := rfl
theorem things_is (t : Int) : spec_pzThings.f t = some (inB 2 4 t) := by simp [spec_pzThings.f, in_is]
theorem pz_j1 (k : Nat) (q p : Bool) (kd a b c : Int) : spec_pzClue.j1 (k + 1) q p kd a b c = some (clueJ p q kd a b c) := by
  simp only [spec_pzClue.j1, in_is, clueJ, Option.bind_some, okW_in2]
  by_cases h0 : kd = 0
  · simp only [if_pos h0]; cases q <;> rfl
  by_cases h1 : kd = 1
  · simp only [if_neg h0, if_pos h1]; cases p <;> rfl
  by_cases h2 : kd = 2
  · simp only [if_neg h0, if_neg h1, if_pos h2]
    by_cases hb : b = 0
    · simp only [if_pos hb, hb]; cases inB 6 24 a <;> rfl
    · simp only [if_neg hb, beq_eq_false_iff_ne.mpr hb]; cases inB 6 24 a <;> rfl
  by_cases h3 : kd = 3
  · simp only [if_neg h0, if_neg h1, if_neg h2, if_pos h3]
    by_cases hb : b = 0
    · simp only [if_pos hb, hb]; cases inB 1 24 a <;> rfl
    · simp only [if_neg hb, beq_eq_false_iff_ne.mpr hb]; cases inB 1 24 a <;> rfl
  by_cases h4 : kd = 4
  · simp only [if_neg h0, if_neg h1, if_neg h2, if_neg h3, if_pos h4]; cases p <;> rfl
  by_cases h5 : kd = 5
  · simp only [if_neg h0, if_neg h1, if_neg h2, if_neg h3, if_neg h4, if_pos h5]; cases q <;> rfl
  · simp only [if_neg h0, if_neg h1, if_neg h2, if_neg h3, if_neg h4, if_neg h5]
theorem pair_is (t a b : Int) (h : inB 2 4 t = true) : pairB t a b = (inB 0 (t - 1) a && (inB 0 (t - 1) b && (a != b))) := by
  rw [inB_iff] at h
  rw [Bool.eq_iff_iff]
  simp [pairB, inB, bne_iff_ne]
  omega
theorem pz_is (t : Int) (x : S42) (h : inB 2 4 t = true) : Ev (fun k => spec_pzClue.f k t x.f0 x.f1 x.f2 x.f3) (okClue t x) := by
  have hp := pair_is t x.f1 x.f2 h
  have ht := (inB_iff 2 4 t).1 h
  refine ev_at 2 (fun k => ?_)
  have j0 : ∀ q : Bool, spec_pzClue.j0 (k + 2) t q x.f0 x.f1 x.f2 x.f3 = some (clueJ (pairB t x.f1 x.f2) q x.f0 x.f1 x.f2 x.f3) := by
    intro q
    simp only [spec_pzClue.j0, in_is, Option.bind_some, pz_j1]
    rw [w64 (by omega) (by omega), hp]
    cases inB 0 (t - 1) x.f1 with
    | true => cases inB 0 (t - 1) x.f2 <;> rfl
    | false => rfl
  simp only [spec_pzClue.f, j0, okClue, okW_in2, h, Bool.true_and]
  by_cases ha : x.f1 = 0
  · rw [if_pos ha, ha]; rfl
  · rw [if_neg ha, beq_eq_false_iff_ne.mpr ha, Bool.false_and]

end Go.Proofs.Ytmmecijhdpioaaa.Pure

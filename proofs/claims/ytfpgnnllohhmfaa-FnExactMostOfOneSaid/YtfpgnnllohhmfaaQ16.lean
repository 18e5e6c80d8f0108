-- Written by the session's program wip/myprint.py (over the kit's print); the given parts by hand.
import Derived.Test.YtfpgnnllohhmfaaQ0
namespace Go.Proofs.Ytfpgnnllohhmfaa.Q
open Go.RowKit Go.Proofs.YtfpgnnllohhmfaaW.PrintWords Go.Proofs.YtfpgnnllohhmfaaW.PrintLast Go.Proofs.YtfpgnnllohhmfaaW.PrintMore
attribute [local go_sem] max2_int min2_int max_two min_two max_three min_three max_four min_four   -- for this text's walks alone
set_option linter.unusedVariables false
set_option linter.unusedSimpArgs false

-- given: part boardmemo
/-! ### a map over boards -/
def boardKv (a b : Int) : Value := .agg #[.int .i64 a, .int .i64 b]
def boardKl (a b : Int) : Lit := .string (keyBytes [.int .i64 a, .int .i64 b])
theorem boardLaid : laidOutB Try.prog = true := by kernel_rfl
theorem boardKey (a b : Int) (ha : 0 ≤ a) (ha' : a ≤ 24) (hb : 0 ≤ b) (hb' : b ≤ 24) : keyOf Try.prog 69 (boardKv a b) = some (boardKl a b) := by
  have hk : Try.prog.keyType 69 = true := by kernel_rfl
  have hc : Try.prog.cellsOf 69 = 2 := by kernel_rfl
  have hc3 : Try.prog.cellsOf 3 = 1 := by kernel_rfl
  have hsz : ∃ m, Try.prog.types.size = m + 1 := ⟨Try.prog.types.size - 1, by kernel_rfl⟩
  have hu := Try.underlying69
  have hi := Try.underlying3
  have wa : (Lit.int .i64 a).wf = true := WalkArith.wf_i64 (by omega)
  have wb : (Lit.int .i64 b).wf = true := WalkArith.wf_i64 (by omega)
  obtain ⟨m, hm⟩ := hsz
  unfold keyOf boardKv boardKl
  simp only [hu]
  rw [if_pos (by simp [hk, Value.formed, hu, hc]), hm]
  unfold Program.keyLits
  simp only [hu, Value.cells]
  rw [if_pos ⟨by rw [hc]; rfl, by kernel_rfl⟩]
  simp [List.mapM_cons, hc3, Program.keyLits, hi, wa, wb]

end Go.Proofs.Ytfpgnnllohhmfaa.Q

-- Written by the session's program wip/myprint.py (over the kit's print); the given parts by hand.
import Derived.Test.YtfpgnnllohhmfaaQ0
import Derived.Test.YtfpgnnllohhmfaaQ15
import Derived.Test.YtfpgnnllohhmfaaQ16
import Derived.Test.YtfpgnnllohhmfaaQ17
namespace Go.Proofs.Ytfpgnnllohhmfaa.Q
open Go.RowKit Go.Proofs.YtfpgnnllohhmfaaW.PrintWords Go.Proofs.YtfpgnnllohhmfaaW.PrintLast Go.Proofs.YtfpgnnllohhmfaaW.PrintMore
attribute [local go_sem] max2_int min2_int max_two min_two max_three min_three max_four min_four   -- for this text's walks alone
set_option linter.unusedVariables false
set_option linter.unusedSimpArgs false

-- given: loop.example/g01334/impl.cutterOf

theorem cutterOf_calls (A0 : Option Addr) (n c0 : Nat) (tn : Bool) (V : Int → Int → Value) (w : World) :
    Calls Try.prog 69 #[.slice A0 n c0, .bool tn] w fun e w' => ∃ B, e = .returned (.agg #[.slice A0 n c0, .bool tn, .map (some B)]) ∧ Below w.heap.size w w' ∧ w.heap.size ≤ B ∧ Memo Try.prog 69 boardKl 24 V w' B := by
  have hu := Try.underlying80
  have hmm := @run_makeMap Try.prog
  have hh := Memo.made (w.alloc (.cells #[.slice A0 n c0, .bool tn, .map (some (w.heap.size + 1))] 80)) Try.prog 69 boardKl 24 V
  rw [show (w.alloc (.cells #[.slice A0 n c0, .bool tn, .map (some (w.heap.size + 1))] 80)).heap.size = w.heap.size + 1 from by simp] at hh
  have HM := Aside0.mk hh
  clear hh
  go_enter Try.func69, Try.ntmps69
  go_wp2_with fail
  refine bodyPost_ret (results_cell_row rfl _ _ w.heap.size 80 #[.slice A0 n c0, .bool tn, .map (some (w.heap.size + 1))] (0, 0) _ rfl ((heap_alloc_old _ _ (by simp)).trans (heap_alloc_new _ _)) Try.underlying80 rfl (by kernel_rfl)) rfl ?_
  exact ⟨_, rfl, by repeat (first | exact Below.refl _ _ | apply below_alloc | apply pw_below_drewN), by simp, HM.out⟩
theorem below_of_grown {n B : Nat} {w w1 w2 : World} (h1 : Below n w w1) (hn : n ≤ w1.heap.size) (hB : n ≤ B) (h2 : w1.grownBy w2 (some B)) : Below n w w2 :=
  ⟨h2.os.trans h1.os, h2.tape.trans h1.tape, h2.output.trans h1.output, Nat.le_trans h1.size h2.size, fun k hk => (h2.block k (by omega) (by simp; omega)).trans (h1.block k hk)⟩
theorem cutter_value1 (A0 : Option Addr) (c0 : Nat) (l0 : List S38) (tn : Bool) (B : Nat) (a b : Int) (w : World) (h1 : 1 ≤ a) (h2 : a ≤ 24) (h3 : 1 ≤ b) (h4 : b ≤ 24)
    (hr : Kd.C k38 w A0 l0.length l0) (hm : Memo Try.prog 69 boardKl 24 (cutV l0 tn) w B) :
    Calls Try.prog 70 #[.agg #[.slice A0 l0.length c0, .bool tn, .map (some B)], .agg #[.int .i64 a, .int .i64 b]] w (cutPost l0 tn B a b w) :=
  cutter_value A0 c0 l0 tn B _ a b w (Nat.lt_succ_self _) h1 h2 h3 h4 hr hm

end Go.Proofs.Ytfpgnnllohhmfaa.Q

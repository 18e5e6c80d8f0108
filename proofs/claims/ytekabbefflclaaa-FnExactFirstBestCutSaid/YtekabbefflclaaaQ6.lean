-- Written by the session's program wip/myprint.py (over the kit's print); the given parts by hand.
import Derived.Test.YtekabbefflclaaaQ0
import Derived.Test.YtekabbefflclaaaQ4
import Derived.Test.YtekabbefflclaaaQ5
namespace Go.Proofs.Ytekabbefflclaaa.Q
open Go.RowKit Go.Proofs.YtekabbefflclaaaW.PrintWords Go.Proofs.YtekabbefflclaaaW.PrintLast Go.Proofs.YtekabbefflclaaaW.PrintMore
attribute [local go_sem] max2_int min2_int max_two min_two max_three min_three max_four min_four   -- for this text's walks alone
set_option linter.unusedVariables false
set_option linter.unusedSimpArgs false

-- given: loop.example/g01334/impl.cutsOf

theorem cutsOf_calls (A0 : Option Addr) (c0 : Nat) (ps : List Int) (V : Int → Int → Value) (w : World) :
    Calls Try.prog 24 #[.slice A0 ps.length c0] w fun e w' => ∃ B, e = .returned (.agg #[.slice A0 ps.length c0, .map (some B)]) ∧ Below w.heap.size w w' ∧ w.heap.size ≤ B ∧ Memo Try.prog 44 rodKl 60 V w' B := by
  have hu := Try.underlying40
  have hmm := @run_makeMap Try.prog
  have hh := Memo.made (w.alloc (.cells #[.slice A0 ps.length c0, .map (some (w.heap.size + 1))] 40)) Try.prog 44 rodKl 60 V
  rw [show (w.alloc (.cells #[.slice A0 ps.length c0, .map (some (w.heap.size + 1))] 40)).heap.size = w.heap.size + 1 from by simp] at hh
  have HM := Aside0.mk hh
  clear hh
  go_enter Try.func24, Try.ntmps24
  go_wp2_with fail
  refine bodyPost_ret (results_cell_row rfl _ _ w.heap.size 40 #[.slice A0 ps.length c0, .map (some (w.heap.size + 1))] (0, 0) _ rfl ((heap_alloc_old _ _ (by simp)).trans (heap_alloc_new _ _)) Try.underlying40 rfl (by kernel_rfl)) rfl ?_
  exact ⟨_, rfl, by repeat (first | exact Below.refl _ _ | apply below_alloc | apply pw_below_drewN), by simp, HM.out⟩
theorem below_of_grown {n B : Nat} {w w1 w2 : World} (h1 : Below n w w1) (hn : n ≤ w1.heap.size) (hB : n ≤ B) (h2 : w1.grownBy w2 (some B)) : Below n w w2 :=
  ⟨h2.os.trans h1.os, h2.tape.trans h1.tape, h2.output.trans h1.output, Nat.le_trans h1.size h2.size, fun k hk => (h2.block k (by omega) (by simp; omega)).trans (h1.block k hk)⟩
theorem cuts_of1 (ps : List Int) (hps : ps.length ≤ 60) (A0 : Option Addr) (c0 : Nat) (B : Nat) (least left : Int) (w : World) (h1 : 1 ≤ least) (h61 : least ≤ 61) (h0 : 0 ≤ left) (h60 : left ≤ 60)
    (hr : Kd.C (Kd.int .i64) w A0 ps.length ps) (hm : Memo Try.prog 44 rodKl 60 (rodV ps) w B) :
    Calls Try.prog 25 #[.agg #[.slice A0 ps.length c0, .map (some B)], .int .i64 least, .int .i64 left] w (rodPost ps B least left w) :=
  cuts_of ps hps A0 c0 B _ least left w (Nat.lt_succ_self _) h1 h61 h0 h60 hr hm

end Go.Proofs.Ytekabbefflclaaa.Q

-- Written by the session's program wip/myprint.py: the row of the law loop.example/g01334/laws.FnExactFitsIn, out of its pure statement and the walk.
import Derived.Test.YtmmecijhdpioaaaRows
import Derived.Test.YtmmecijhdpioaaaSFnExactFitsIn
import Derived.Test.YtmmecijhdpioaaaPureFnExactFitsIn
import Derived.WalkKit
import Derived.ProofKit
import Derived.OpenShut
import Derived.ShutString
import Derived.ChangeOld
import Derived.Below
import Derived.SizedLaws
import Derived.Deep.Slices
import Derived.Deep.Fields
import Derived.Lib.SmallJoins
import Derived.Carry
import Derived.Test.YtmmecijhdpioaaaWSized
namespace Go.Proofs.Ytmmecijhdpioaaa.fnExactFitsIn
open Go.ChangeShapes Go.WideShapes Go.ChangeAt Go.RowKit Go.Proofs.Ytmmecijhdpioaaa.Q Go.Proofs.YtmmecijhdpioaaaW.PrintWords
open Go.ChangeMaps (open_string shut_string)
set_option linter.unusedVariables false
theorem own : ownKnob Try.prog.godebug = none := by kernel_rfl
theorem laidOut : laidOutB Try.prog = true := by kernel_rfl
set_option maxRecDepth 100000 in
theorem lifted (os : Os) (started : os.Started) (H : Type) (enc : TypeId × Value → H) :
    ReturnsInHanded {} Try.checked os 4 .any (Rows.fnExactFitsInSpec.pre6 enc Try.prog Try.f4 Rows.fnExactFitsInRow.domain false) (Rows.fnExactFitsInSpec.post enc Try.prog Try.f4 false true false false) := by
  refine returnsInHanded_of_change_sized (C := Try.checked) own started (by kernel_rfl) Try.func4
    (ChangeSpec.witness6 (enc := enc) (C := Try.checked) false ⟨#[], #[.agg #[.int .i64 0, .int .i64 0, .int .i64 0], .agg #[.int .i64 0, .int .i64 0, .int .i64 0]], []⟩ 8 (by kernel_rfl) (by kernel_rfl) (by kernel_rfl) (by kernel_rfl)) ?_
  intro W base args ds gs before hval0 hW hcnd hsz0 _
  have hsz : (DataW.weightsEach Try.prog (Try.f4.params.toList ++ Rows.fnExactFitsInSpec.plain.varTypes Try.prog) (ds ++ gs)).all (· ≤ reachBytes) = true := hsz0
  have hval : ∀ (j : Nat) t v, Try.f4.params[j]? = some t → args[j]? = some v → Value.okWide Try.prog W .any base t v := hval0
  have hW' := hW
  obtain ⟨p, q, hA0, hV, rfl, hfz, hnd⟩ := hW
  have hA : DataW.TrodAll enc Try.prog W 0 (fun _ => true) true Try.f4.params.toList args.toList ds p := hA0
  rw [Try.params4] at hA hval hsz
  obtain ⟨v0, vs0, d0, ds0, p0, q0, hargs, rfl, rfl, h0, r0⟩ := trodAll_cons hA
  obtain ⟨v1, vs1, d1, ds1, p1, q1, rfl, rfl, rfl, h1, r1⟩ := trodAll_cons r0
  obtain ⟨rfl, rfl, rfl⟩ := trodAll_nil r1
  obtain rfl : args = #[v0, v1] := by cases args; simp_all
  obtain ⟨rfl, rfl⟩ := trodVars_none hV
  have k0 := h0
  have lt0 : ∀ x ∈ p0, x.block < W.heap.size := by obtain ⟨m, hm⟩ := k0; exact DataW.trod_lt m _ _ _ hm
  obtain ⟨c0_0, c0_1, c0_2, y0_0, y0_1, y0_2, m0, e0, hd0, hp0, t0_0, t0_1, t0_2⟩ := Joins.open_agg3 Try.underlying23 (by kernel_rfl) (by kernel_rfl) (hval 0 23 v0 rfl rfl) h0
  obtain ⟨a0_0, g0_0, _, w0_0⟩ := DataW.trod_int Try.underlying3 t0_0
  obtain rfl : c0_0 = .int .i64 a0_0 := by simpa using g0_0
  obtain ⟨a0_1, g0_1, _, w0_1⟩ := DataW.trod_int Try.underlying3 t0_1
  obtain rfl : c0_1 = .int .i64 a0_1 := by simpa using g0_1
  obtain ⟨a0_2, g0_2, _, w0_2⟩ := DataW.trod_int Try.underlying3 t0_2
  obtain rfl : c0_2 = .int .i64 a0_2 := by simpa using g0_2
  subst e0
  have k1 := h1
  have lt1 : ∀ x ∈ p1, x.block < W.heap.size := by obtain ⟨m, hm⟩ := k1; exact DataW.trod_lt m _ _ _ hm
  obtain ⟨c1_0, c1_1, c1_2, y1_0, y1_1, y1_2, m1, e1, hd1, hp1, t1_0, t1_1, t1_2⟩ := Joins.open_agg3 Try.underlying23 (by kernel_rfl) (by kernel_rfl) (hval 1 23 v1 rfl rfl) h1
  obtain ⟨a1_0, g1_0, _, w1_0⟩ := DataW.trod_int Try.underlying3 t1_0
  obtain rfl : c1_0 = .int .i64 a1_0 := by simpa using g1_0
  obtain ⟨a1_1, g1_1, _, w1_1⟩ := DataW.trod_int Try.underlying3 t1_1
  obtain rfl : c1_1 = .int .i64 a1_1 := by simpa using g1_1
  obtain ⟨a1_2, g1_2, _, w1_2⟩ := DataW.trod_int Try.underlying3 t1_2
  obtain rfl : c1_2 = .int .i64 a1_2 := by simpa using g1_2
  subst e1
  clear hA0 hval0 hsz0 hsz
  refine (laws_FnExactFitsIn.walk Pure.FnExactFitsIn a0_0 a0_1 a0_2 a1_0 a1_1 a1_2 W w0_0 w0_1 w0_2 w1_0 w1_1 w1_2 ).mono fun e W' ⟨he, bel⟩ => ?_
  subst he
  exact ⟨_, rfl, _, _, _, [], _, [], hW', trodAll_mk1 (shut_bool Try.underlying4 _), (trodAll_cons_mk (Below.trod laidOut (by kernel_rfl) (of_decide_eq_true (by kernel_rfl)) k0 bel lt0) (trodAll_cons_mk (Below.trod laidOut (by kernel_rfl) (of_decide_eq_true (by kernel_rfl)) k1 bel lt1) trodAll_mk0)), rfl, bel.frame _, fun h => by cases h⟩
theorem over : Rows.fnExactFitsInRow.holds Try.pinned (OpenSpec.ofChange Rows.fnExactFitsInSpec) :=
  OpenClaim.holds_of_wide 4 Try.f4 rfl rfl rfl rfl rfl rfl rfl ⟨rfl, rfl, rfl, rfl, rfl⟩ rfl rfl rfl rfl rfl (by kernel_rfl) Try.func4 (by kernel_rfl)
    (of_decide_eq_true (by kernel_rfl)) (by unfold Func.isWrapper; first | (rw [if_pos (by decide +kernel)]; kernel_rfl) | (rw [if_neg (by decide +kernel)]; exact ⟨rfl, rfl⟩))
    (fun os started H enc _ => lifted os started H enc)
theorem proved : Rows.FnExactFitsInSaid := over
#print axioms proved
end Go.Proofs.Ytmmecijhdpioaaa.fnExactFitsIn
namespace Go.Proofs.Ytmmecijhdpioaaa
/-- The row, under a short name, for the claim. -/
theorem fnExactFitsIn_holds : Rows.FnExactFitsInSaid := fnExactFitsIn.proved
end Go.Proofs.Ytmmecijhdpioaaa

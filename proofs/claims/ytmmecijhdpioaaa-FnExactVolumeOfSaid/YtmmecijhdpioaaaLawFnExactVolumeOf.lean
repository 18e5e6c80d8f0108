-- Written by the session's program wip/myprint.py: the row of the law loop.example/g01334/laws.FnExactVolumeOf, out of its pure statement and the walk.
import Derived.Test.YtmmecijhdpioaaaRows
import Derived.Test.YtmmecijhdpioaaaSFnExactVolumeOf
import Derived.Test.YtmmecijhdpioaaaPureFnExactVolumeOf
import Derived.WalkKit
import Derived.ProofKit
import Derived.OpenShut
import Derived.ShutString
import Derived.ChangeOld
import Derived.Below
import Derived.SizedLaws
import Derived.Deep.Slices
import Derived.Deep.Fields
import Derived.Lib.SmallJoins
import Derived.Carry
import Derived.Test.YtmmecijhdpioaaaWSized
namespace Go.Proofs.Ytmmecijhdpioaaa.fnExactVolumeOf
open Go.ChangeShapes Go.WideShapes Go.ChangeAt Go.RowKit Go.Proofs.Ytmmecijhdpioaaa.Q Go.Proofs.YtmmecijhdpioaaaW.PrintWords
open Go.ChangeMaps (open_string shut_string)
set_option linter.unusedVariables false
theorem own : ownKnob Try.prog.godebug = none := by kernel_rfl
theorem laidOut : laidOutB Try.prog = true := by kernel_rfl
set_option maxRecDepth 100000 in
theorem lifted (os : Os) (started : os.Started) (H : Type) (enc : TypeId × Value → H) :
    ReturnsInHanded {} Try.checked os 3 .any (Rows.fnExactVolumeOfSpec.pre6 enc Try.prog Try.f3 Rows.fnExactVolumeOfRow.domain false) (Rows.fnExactVolumeOfSpec.post enc Try.prog Try.f3 false true false false) := by
  refine returnsInHanded_of_change_sized (C := Try.checked) own started (by kernel_rfl) Try.func3
    (ChangeSpec.witness6 (enc := enc) (C := Try.checked) false ⟨#[], #[.agg #[.int .i64 0, .int .i64 0, .int .i64 0]], []⟩ 8 (by kernel_rfl) (by kernel_rfl) (by kernel_rfl) (by kernel_rfl)) ?_
  intro W base args ds gs before hval0 hW hcnd hsz0 _
  have hsz : (DataW.weightsEach Try.prog (Try.f3.params.toList ++ Rows.fnExactVolumeOfSpec.plain.varTypes Try.prog) (ds ++ gs)).all (· ≤ reachBytes) = true := hsz0
  have hval : ∀ (j : Nat) t v, Try.f3.params[j]? = some t → args[j]? = some v → Value.okWide Try.prog W .any base t v := hval0
  have hW' := hW
  obtain ⟨p, q, hA0, hV, rfl, hfz, hnd⟩ := hW
  have hA : DataW.TrodAll enc Try.prog W 0 (fun _ => true) true Try.f3.params.toList args.toList ds p := hA0
  rw [Try.params3] at hA hval hsz
  obtain ⟨v0, vs0, d0, ds0, p0, q0, hargs, rfl, rfl, h0, r0⟩ := trodAll_cons hA
  obtain ⟨rfl, rfl, rfl⟩ := trodAll_nil r0
  obtain rfl : args = #[v0] := by cases args; simp_all
  obtain ⟨rfl, rfl⟩ := trodVars_none hV
  have k0 := h0
  have lt0 : ∀ x ∈ p0, x.block < W.heap.size := by obtain ⟨m, hm⟩ := k0; exact DataW.trod_lt m _ _ _ hm
  obtain ⟨c0_0, c0_1, c0_2, y0_0, y0_1, y0_2, m0, e0, hd0, hp0, t0_0, t0_1, t0_2⟩ := Joins.open_agg3 Try.underlying23 (by kernel_rfl) (by kernel_rfl) (hval 0 23 v0 rfl rfl) h0
  obtain ⟨a0_0, g0_0, _, w0_0⟩ := DataW.trod_int Try.underlying3 t0_0
  obtain rfl : c0_0 = .int .i64 a0_0 := by simpa using g0_0
  obtain ⟨a0_1, g0_1, _, w0_1⟩ := DataW.trod_int Try.underlying3 t0_1
  obtain rfl : c0_1 = .int .i64 a0_1 := by simpa using g0_1
  obtain ⟨a0_2, g0_2, _, w0_2⟩ := DataW.trod_int Try.underlying3 t0_2
  obtain rfl : c0_2 = .int .i64 a0_2 := by simpa using g0_2
  subst e0
  clear hA0 hval0 hsz0 hsz
  refine (laws_FnExactVolumeOf.walk Pure.FnExactVolumeOf a0_0 a0_1 a0_2 W w0_0 w0_1 w0_2 ).mono fun e W' ⟨he, bel⟩ => ?_
  subst he
  exact ⟨_, rfl, _, _, _, [], _, [], hW', trodAll_mk1 (shut_bool Try.underlying4 _), (trodAll_cons_mk (Below.trod laidOut (by kernel_rfl) (of_decide_eq_true (by kernel_rfl)) k0 bel lt0) trodAll_mk0), rfl, bel.frame _, fun h => by cases h⟩
theorem over : Rows.fnExactVolumeOfRow.holds Try.pinned (OpenSpec.ofChange Rows.fnExactVolumeOfSpec) :=
  OpenClaim.holds_of_wide 3 Try.f3 rfl rfl rfl rfl rfl rfl rfl ⟨rfl, rfl, rfl, rfl, rfl⟩ rfl rfl rfl rfl rfl (by kernel_rfl) Try.func3 (by kernel_rfl)
    (of_decide_eq_true (by kernel_rfl)) (by unfold Func.isWrapper; first | (rw [if_pos (by decide +kernel)]; kernel_rfl) | (rw [if_neg (by decide +kernel)]; exact ⟨rfl, rfl⟩))
    (fun os started H enc _ => lifted os started H enc)
theorem proved : Rows.FnExactVolumeOfSaid := over
#print axioms proved
end Go.Proofs.Ytmmecijhdpioaaa.fnExactVolumeOf
namespace Go.Proofs.Ytmmecijhdpioaaa
/-- The row, under a short name, for the claim. -/
theorem fnExactVolumeOf_holds : Rows.FnExactVolumeOfSaid := fnExactVolumeOf.proved
end Go.Proofs.Ytmmecijhdpioaaa

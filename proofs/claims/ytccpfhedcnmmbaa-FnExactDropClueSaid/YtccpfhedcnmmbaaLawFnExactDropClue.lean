-- Written by the session's program wip/myprint.py: the row of the law loop.example/g01334/laws.FnExactDropClue, out of its pure statement and the walk.
import Derived.Test.YtccpfhedcnmmbaaRows
import Derived.Test.YtccpfhedcnmmbaaSFnExactDropClue
import Derived.Test.YtccpfhedcnmmbaaPureFnExactDropClue
import Derived.WalkKit
import Derived.ProofKit
import Derived.OpenShut
import Derived.ShutString
import Derived.ChangeOld
import Derived.Below
import Derived.SizedLaws
import Derived.Deep.Slices
import Derived.Deep.Fields
import Derived.Lib.SmallJoins
import Derived.Carry
import Derived.Test.YtccpfhedcnmmbaaWSized
namespace Go.Proofs.Ytccpfhedcnmmbaa.fnExactDropClue
open Go.ChangeShapes Go.WideShapes Go.ChangeAt Go.RowKit Go.Proofs.Ytccpfhedcnmmbaa.L Go.Proofs.YtccpfhedcnmmbaaW.PrintWords
open Go.ChangeMaps (open_string shut_string)
set_option linter.unusedVariables false
set_option linter.unusedSimpArgs false
set_option maxRecDepth 100000
theorem own : ownKnob Try.prog.godebug = none := by kernel_rfl
theorem laidOut : laidOutB Try.prog = true := by kernel_rfl
instance inh30 : Inhabited S30 := ⟨z30⟩
theorem cell30 : Try.prog.cellsOf 30 = 4 := by kernel_rfl
theorem cellf3 : Try.prog.cellsOf 3 = 1 := by kernel_rfl
theorem read30 {H : Type} {enc : TypeId × Value → H} {W : World} {base : Nat} {spare : Nat → Bool} {held : Bool} {fuel : Nat} {v : Value} {y : DataW H × List MemPlace} (h : DataW.trod enc Try.prog W base spare held fuel 45 [v] = some y) :
    ∃ (A0 : Option Addr) (c0 : Nat) (l : List S30), v = .slice A0 l.length c0 ∧ l.length ≤ c0 ∧ l.length ≤ maxLen ∧ Kd.C k30 W A0 l.length l := by
  rcases Deep.open_slice Try.underlying45 h with ⟨hcs, _⟩ | ⟨x, len, cap, m, n, D, Pl, hcs, hb, hl, hm, hmm, hx, hi⟩
  · obtain rfl : v = .slice none 0 0 := by simpa using hcs
    exact ⟨none, 0, [], rfl, Nat.le_refl _, Nat.zero_le _, Kd.C_nil _ _⟩
  · obtain rfl : v = .slice (some x) len cap := by simpa using hcs
    have hex : ∀ i, i < len → ∃ s : S30, ∀ (j : Nat) (u : Value), [.int .i64 s.f0, .int .i64 s.f1, .int .i64 s.f2, .int .i64 s.f3][j]? = some u → W.cell? (x.add (i * 4 + j)) = some u := by
      intro i hil
      obtain ⟨cs', hc, ht'⟩ := hi i (by split at hmm <;> omega)
      rw [cell30] at hc
      obtain ⟨xs, n', _, _, hlen, hxl, hf⟩ := DataW.trod_struct Try.underlying30 ht'
      rw [cell30] at hlen
      obtain ⟨_, hcl, hat⟩ := World.cells?_some hc
      have hxl : xs.length = 4 := hxl
      match cs', hlen with
      | [c0, c1, c2, c3], _ =>
        have t0 : DataW.trod enc Try.prog W base spare held n' 3 (([c0, c1, c2, c3].drop 0).take (Try.prog.cellsOf 3)) = xs[0]? := hf 0 _ rfl
        simp only [cellf3, List.drop_succ_cons, List.drop_zero, List.take_succ_cons, List.take_zero] at t0
        have t1 : DataW.trod enc Try.prog W base spare held n' 3 (([c0, c1, c2, c3].drop 1).take (Try.prog.cellsOf 3)) = xs[1]? := hf 1 _ rfl
        simp only [cellf3, List.drop_succ_cons, List.drop_zero, List.take_succ_cons, List.take_zero] at t1
        have t2 : DataW.trod enc Try.prog W base spare held n' 3 (([c0, c1, c2, c3].drop 2).take (Try.prog.cellsOf 3)) = xs[2]? := hf 2 _ rfl
        simp only [cellf3, List.drop_succ_cons, List.drop_zero, List.take_succ_cons, List.take_zero] at t2
        have t3 : DataW.trod enc Try.prog W base spare held n' 3 (([c0, c1, c2, c3].drop 3).take (Try.prog.cellsOf 3)) = xs[3]? := hf 3 _ rfl
        simp only [cellf3, List.drop_succ_cons, List.drop_zero, List.take_succ_cons, List.take_zero] at t3
        obtain ⟨b0, g0, _, _⟩ := DataW.trod_int Try.underlying3 (t0.trans (List.getElem?_eq_getElem (by omega)))
        obtain ⟨b1, g1, _, _⟩ := DataW.trod_int Try.underlying3 (t1.trans (List.getElem?_eq_getElem (by omega)))
        obtain ⟨b2, g2, _, _⟩ := DataW.trod_int Try.underlying3 (t2.trans (List.getElem?_eq_getElem (by omega)))
        obtain ⟨b3, g3, _, _⟩ := DataW.trod_int Try.underlying3 (t3.trans (List.getElem?_eq_getElem (by omega)))
        obtain rfl : c0 = .int .i64 b0 := by simpa using g0
        obtain rfl : c1 = .int .i64 b1 := by simpa using g1
        obtain rfl : c2 = .int .i64 b2 := by simpa using g2
        obtain rfl : c3 = .int .i64 b3 := by simpa using g3
        refine ⟨⟨b0, b1, b2, b3⟩, fun j u hj => ?_⟩
        have hjl : j < 4 := by have := (List.getElem?_eq_some_iff.1 hj).1; simpa using this
        rw [← Deep.add_add, hat j hjl]
        exact hj
    obtain ⟨f, hf⟩ := Deep.choose_lt hex
    refine ⟨some x, cap, (List.range len).map f, by simp, by simpa using hl, by simp; omega, by simp, by simp only [maxLen] at hm; simp; omega, fun _ => ⟨x, rfl, fun j p hj => ?_⟩⟩
    have hjl : j < len := by have := (List.getElem?_eq_some_iff.1 hj).1; simpa using this
    obtain rfl : f j = p := by simpa [hjl] using hj
    exact ⟨_, rfl, k30_mk W (f j), fun i u hu => hf j hjl i u hu⟩
set_option maxRecDepth 100000 in
theorem lifted (os : Os) (started : os.Started) (H : Type) (enc : TypeId × Value → H) :
    ReturnsInHanded {} Try.checked os 9 .any (Rows.fnExactDropClueSpec.pre6 enc Try.prog Try.f9 Rows.fnExactDropClueRow.domain false) (Rows.fnExactDropClueSpec.post enc Try.prog Try.f9 false true false false) := by
  refine returnsInHanded_of_change_sized (C := Try.checked) own started (by kernel_rfl) Try.func9
    (ChangeSpec.witness6 (enc := enc) (C := Try.checked) false ⟨#[], #[.agg #[.int .i64 0, .slice none 0 0], .int .i64 0], []⟩ 8 (by kernel_rfl) (by kernel_rfl) (by kernel_rfl) (by kernel_rfl)) ?_
  intro W base args ds gs before hval0 hW hcnd hsz0 _
  have hsz : (DataW.weightsEach Try.prog (Try.f9.params.toList ++ Rows.fnExactDropClueSpec.plain.varTypes Try.prog) (ds ++ gs)).all (· ≤ reachBytes) = true := hsz0
  have hval : ∀ (j : Nat) t v, Try.f9.params[j]? = some t → args[j]? = some v → Value.okWide Try.prog W .any base t v := hval0
  have hW' := hW
  obtain ⟨p, q, hA0, hV, rfl, hfz, hnd⟩ := hW
  have hA : DataW.TrodAll enc Try.prog W 0 (fun _ => true) true Try.f9.params.toList args.toList ds p := hA0
  rw [Try.params9] at hA hval hsz
  obtain ⟨v0, vs0, d0, ds0, p0, q0, hargs, rfl, rfl, h0, r0⟩ := trodAll_cons hA
  obtain ⟨v1, vs1, d1, ds1, p1, q1, rfl, rfl, rfl, h1, r1⟩ := trodAll_cons r0
  obtain ⟨rfl, rfl, rfl⟩ := trodAll_nil r1
  obtain rfl : args = #[v0, v1] := by cases args; simp_all
  obtain ⟨rfl, rfl⟩ := trodVars_none hV
  have k0 := h0
  have lt0 : ∀ x ∈ p0, x.block < W.heap.size := by obtain ⟨m, hm⟩ := k0; exact DataW.trod_lt m _ _ _ hm
  obtain ⟨c0_0, c0_1, y0_0, y0_1, m0, e0, hd0, hp0, t0_0, t0_1⟩ := Joins.open_agg2 Try.underlying47 (by kernel_rfl) (by kernel_rfl) (hval 0 47 v0 rfl rfl) h0
  obtain ⟨a0_0, g0_0, _, w0_0⟩ := DataW.trod_int Try.underlying3 t0_0
  obtain rfl : c0_0 = .int .i64 a0_0 := by simpa using g0_0
  obtain ⟨A0_1, c0_1', l0_1, rfl, hc0_1, w0_1, hr0_1⟩ := read30 t0_1
  subst e0
  obtain ⟨a1, rfl, rfl, rfl, w1⟩ := open_int Try.underlying3 (hval 1 3 v1 rfl rfl) h1
  clear hA0 hval0 hsz0 hsz
  refine (laws_FnExactDropClue.walk Pure.FnExactDropClue a0_0 A0_1 c0_1' l0_1 a1 W w0_0 w0_1 w1 hr0_1 hc0_1).mono fun e W' ⟨he, bel⟩ => ?_
  subst he
  exact ⟨_, rfl, _, _, _, [], _, [], hW', trodAll_mk1 (shut_bool Try.underlying4 _), (trodAll_cons_mk (Below.trod laidOut (by kernel_rfl) (of_decide_eq_true (by kernel_rfl)) k0 bel lt0) (trodAll_cons_mk (shut_int Try.underlying3 w1) trodAll_mk0)), rfl, bel.frame _, fun h => by cases h⟩
theorem over : Rows.fnExactDropClueRow.holds Try.pinned (OpenSpec.ofChange Rows.fnExactDropClueSpec) :=
  OpenClaim.holds_of_wide 9 Try.f9 rfl rfl rfl rfl rfl rfl rfl ⟨rfl, rfl, rfl, rfl, rfl⟩ rfl rfl rfl rfl rfl (by kernel_rfl) Try.func9 (by kernel_rfl)
    (of_decide_eq_true (by kernel_rfl)) (by unfold Func.isWrapper; first | (rw [if_pos (by decide +kernel)]; kernel_rfl) | (rw [if_neg (by decide +kernel)]; exact ⟨rfl, rfl⟩))
    (fun os started H enc _ => lifted os started H enc)
theorem proved : Rows.FnExactDropClueSaid := over
#print axioms proved
end Go.Proofs.Ytccpfhedcnmmbaa.fnExactDropClue
namespace Go.Proofs.Ytccpfhedcnmmbaa
/-- The row, under a short name, for the claim. -/
theorem fnExactDropClue_holds : Rows.FnExactDropClueSaid := fnExactDropClue.proved
end Go.Proofs.Ytccpfhedcnmmbaa

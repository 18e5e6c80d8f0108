-- Written by the session's program wip/myprint.py: the row of the law loop.example/g01334/laws.FnExactWasteOf, out of its pure statement and the walk.
import Derived.Test.YtcijldnkigmfeaaRows
import Derived.Test.YtcijldnkigmfeaaSFnExactWasteOf
import Derived.Test.YtcijldnkigmfeaaPureFnExactWasteOf
import Derived.WalkKit
import Derived.ProofKit
import Derived.OpenShut
import Derived.ShutString
import Derived.ChangeOld
import Derived.Below
import Derived.SizedLaws
import Derived.Deep.Slices
import Derived.Deep.Fields
import Derived.Lib.SmallJoins
import Derived.Carry
import Derived.Test.YtcijldnkigmfeaaWSized
namespace Go.Proofs.Ytcijldnkigmfeaa.fnExactWasteOf
open Go.ChangeShapes Go.WideShapes Go.ChangeAt Go.RowKit Go.Proofs.Ytcijldnkigmfeaa.M Go.Proofs.YtcijldnkigmfeaaW.PrintWords
open Go.ChangeMaps (open_string shut_string)
set_option linter.unusedVariables false
set_option linter.unusedSimpArgs false
set_option maxRecDepth 100000
theorem own : ownKnob Try.prog.godebug = none := by kernel_rfl
theorem laidOut : laidOutB Try.prog = true := by kernel_rfl
instance inh33 : Inhabited S33 := ⟨z33⟩
theorem cell33 : Try.prog.cellsOf 33 = 3 := by kernel_rfl
theorem cellf3 : Try.prog.cellsOf 3 = 1 := by kernel_rfl
theorem read33 {H : Type} {enc : TypeId × Value → H} {W : World} {base : Nat} {spare : Nat → Bool} {held : Bool} {fuel : Nat} {v : Value} {y : DataW H × List MemPlace} (h : DataW.trod enc Try.prog W base spare held fuel 22 [v] = some y) :
    ∃ (A0 : Option Addr) (c0 : Nat) (l : List S33), v = .slice A0 l.length c0 ∧ l.length ≤ c0 ∧ l.length ≤ maxLen ∧ Kd.C k33 W A0 l.length l := by
  rcases Deep.open_slice Try.underlying22 h with ⟨hcs, _⟩ | ⟨x, len, cap, m, n, D, Pl, hcs, hb, hl, hm, hmm, hx, hi⟩
  · obtain rfl : v = .slice none 0 0 := by simpa using hcs
    exact ⟨none, 0, [], rfl, Nat.le_refl _, Nat.zero_le _, Kd.C_nil _ _⟩
  · obtain rfl : v = .slice (some x) len cap := by simpa using hcs
    have hex : ∀ i, i < len → ∃ s : S33, ∀ (j : Nat) (u : Value), [.int .i64 s.f0, .int .i64 s.f1, .int .i64 s.f2][j]? = some u → W.cell? (x.add (i * 3 + j)) = some u := by
      intro i hil
      obtain ⟨cs', hc, ht'⟩ := hi i (by split at hmm <;> omega)
      rw [cell33] at hc
      obtain ⟨xs, n', _, _, hlen, hxl, hf⟩ := DataW.trod_struct Try.underlying33 ht'
      rw [cell33] at hlen
      obtain ⟨_, hcl, hat⟩ := World.cells?_some hc
      have hxl : xs.length = 3 := hxl
      match cs', hlen with
      | [c0, c1, c2], _ =>
        have t0 : DataW.trod enc Try.prog W base spare held n' 3 (([c0, c1, c2].drop 0).take (Try.prog.cellsOf 3)) = xs[0]? := hf 0 _ rfl
        simp only [cellf3, List.drop_succ_cons, List.drop_zero, List.take_succ_cons, List.take_zero] at t0
        have t1 : DataW.trod enc Try.prog W base spare held n' 3 (([c0, c1, c2].drop 1).take (Try.prog.cellsOf 3)) = xs[1]? := hf 1 _ rfl
        simp only [cellf3, List.drop_succ_cons, List.drop_zero, List.take_succ_cons, List.take_zero] at t1
        have t2 : DataW.trod enc Try.prog W base spare held n' 3 (([c0, c1, c2].drop 2).take (Try.prog.cellsOf 3)) = xs[2]? := hf 2 _ rfl
        simp only [cellf3, List.drop_succ_cons, List.drop_zero, List.take_succ_cons, List.take_zero] at t2
        obtain ⟨b0, g0, _, _⟩ := DataW.trod_int Try.underlying3 (t0.trans (List.getElem?_eq_getElem (by omega)))
        obtain ⟨b1, g1, _, _⟩ := DataW.trod_int Try.underlying3 (t1.trans (List.getElem?_eq_getElem (by omega)))
        obtain ⟨b2, g2, _, _⟩ := DataW.trod_int Try.underlying3 (t2.trans (List.getElem?_eq_getElem (by omega)))
        obtain rfl : c0 = .int .i64 b0 := by simpa using g0
        obtain rfl : c1 = .int .i64 b1 := by simpa using g1
        obtain rfl : c2 = .int .i64 b2 := by simpa using g2
        refine ⟨⟨b0, b1, b2⟩, fun j u hj => ?_⟩
        have hjl : j < 3 := by have := (List.getElem?_eq_some_iff.1 hj).1; simpa using this
        rw [← Deep.add_add, hat j hjl]
        exact hj
    obtain ⟨f, hf⟩ := Deep.choose_lt hex
    refine ⟨some x, cap, (List.range len).map f, by simp, by simpa using hl, by simp; omega, by simp, by simp only [maxLen] at hm; simp; omega, fun _ => ⟨x, rfl, fun j p hj => ?_⟩⟩
    have hjl : j < len := by have := (List.getElem?_eq_some_iff.1 hj).1; simpa using this
    obtain rfl : f j = p := by simpa [hjl] using hj
    exact ⟨_, rfl, k33_mk W (f j), fun i u hu => hf j hjl i u hu⟩
set_option maxRecDepth 100000 in
theorem lifted (os : Os) (started : os.Started) (H : Type) (enc : TypeId × Value → H) :
    ReturnsInHanded {} Try.checked os 13 .any (Rows.fnExactWasteOfSpec.pre6 enc Try.prog Try.f13 Rows.fnExactWasteOfRow.domain false) (Rows.fnExactWasteOfSpec.post enc Try.prog Try.f13 false true false false) := by
  refine returnsInHanded_of_change_sized (C := Try.checked) own started (by kernel_rfl) Try.func13
    (ChangeSpec.witness6 (enc := enc) (C := Try.checked) false ⟨#[], #[.int .i64 0, .int .i64 0, .slice none 0 0, .bool false], []⟩ 8 (by kernel_rfl) (by kernel_rfl) (by kernel_rfl) (by kernel_rfl)) ?_
  intro W base args ds gs before hval0 hW hcnd hsz0 _
  have hsz : (DataW.weightsEach Try.prog (Try.f13.params.toList ++ Rows.fnExactWasteOfSpec.plain.varTypes Try.prog) (ds ++ gs)).all (· ≤ reachBytes) = true := hsz0
  have hval : ∀ (j : Nat) t v, Try.f13.params[j]? = some t → args[j]? = some v → Value.okWide Try.prog W .any base t v := hval0
  have hW' := hW
  obtain ⟨p, q, hA0, hV, rfl, hfz, hnd⟩ := hW
  have hA : DataW.TrodAll enc Try.prog W 0 (fun _ => true) true Try.f13.params.toList args.toList ds p := hA0
  rw [Try.params13] at hA hval hsz
  obtain ⟨v0, vs0, d0, ds0, p0, q0, hargs, rfl, rfl, h0, r0⟩ := trodAll_cons hA
  obtain ⟨v1, vs1, d1, ds1, p1, q1, rfl, rfl, rfl, h1, r1⟩ := trodAll_cons r0
  obtain ⟨v2, vs2, d2, ds2, p2, q2, rfl, rfl, rfl, h2, r2⟩ := trodAll_cons r1
  obtain ⟨v3, vs3, d3, ds3, p3, q3, rfl, rfl, rfl, h3, r3⟩ := trodAll_cons r2
  obtain ⟨rfl, rfl, rfl⟩ := trodAll_nil r3
  obtain rfl : args = #[v0, v1, v2, v3] := by cases args; simp_all
  obtain ⟨rfl, rfl⟩ := trodVars_none hV
  obtain ⟨a0, rfl, rfl, rfl, w0⟩ := open_int Try.underlying3 (hval 0 3 v0 rfl rfl) h0
  obtain ⟨a1, rfl, rfl, rfl, w1⟩ := open_int Try.underlying3 (hval 1 3 v1 rfl rfl) h1
  have k2 := h2
  have lt2 : ∀ x ∈ p2, x.block < W.heap.size := by obtain ⟨m, hm⟩ := k2; exact DataW.trod_lt m _ _ _ hm
  obtain ⟨a2', len2, cap2, rfl⟩ := okWide_slice Try.underlying22 (hval 2 22 v2 rfl rfl)
  obtain ⟨fu2, hf2⟩ := h2
  obtain ⟨A2, c2', l2, e2, hc2, w2, hr2⟩ := read33 (by simpa [Value.cells] using hf2)
  simp only [Value.slice.injEq] at e2
  obtain ⟨rfl, rfl, rfl⟩ := e2
  obtain ⟨a3, rfl, rfl, rfl⟩ := open_bool Try.underlying4 (hval 3 4 v3 rfl rfl) h3
  clear hA0 hval0 hsz0 hsz
  refine (laws_FnExactWasteOf.walk Pure.FnExactWasteOf a0 a1 a2' cap2 l2 a3 W w0 w1 w2 hr2 hc2).mono fun e W' ⟨he, bel⟩ => ?_
  subst he
  exact ⟨_, rfl, _, _, _, [], _, [], hW', trodAll_mk1 (shut_bool Try.underlying4 _), (trodAll_cons_mk (shut_int Try.underlying3 w0) (trodAll_cons_mk (shut_int Try.underlying3 w1) (trodAll_cons_mk (Below.trod laidOut (by kernel_rfl) (of_decide_eq_true (by kernel_rfl)) k2 bel lt2) (trodAll_cons_mk (shut_bool Try.underlying4 _) trodAll_mk0)))), rfl, bel.frame _, fun h => by cases h⟩
theorem over : Rows.fnExactWasteOfRow.holds Try.pinned (OpenSpec.ofChange Rows.fnExactWasteOfSpec) :=
  OpenClaim.holds_of_wide 13 Try.f13 rfl rfl rfl rfl rfl rfl rfl ⟨rfl, rfl, rfl, rfl, rfl⟩ rfl rfl rfl rfl rfl (by kernel_rfl) Try.func13 (by kernel_rfl)
    (of_decide_eq_true (by kernel_rfl)) (by unfold Func.isWrapper; first | (rw [if_pos (by decide +kernel)]; kernel_rfl) | (rw [if_neg (by decide +kernel)]; exact ⟨rfl, rfl⟩))
    (fun os started H enc _ => lifted os started H enc)
theorem proved : Rows.FnExactWasteOfSaid := over
#print axioms proved
end Go.Proofs.Ytcijldnkigmfeaa.fnExactWasteOf
namespace Go.Proofs.Ytcijldnkigmfeaa
/-- The row, under a short name, for the claim. -/
theorem fnExactWasteOf_holds : Rows.FnExactWasteOfSaid := fnExactWasteOf.proved
end Go.Proofs.Ytcijldnkigmfeaa

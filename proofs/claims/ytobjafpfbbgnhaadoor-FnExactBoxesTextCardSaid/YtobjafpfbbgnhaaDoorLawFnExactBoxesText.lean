-- Written by the session's program wip/myprint.py: the row of the law loop.example/g01334/laws.FnExactBoxesText, out of its pure statement and the walk.
import Derived.Test.YtobjafpfbbgnhaaDoorRows
import Derived.Test.YtobjafpfbbgnhaaDoorSFnExactBoxesText
import Derived.Test.YtobjafpfbbgnhaaDoorPureFnExactBoxesText
import Derived.Test.YtobjafpfbbgnhaaDoorCards
import Derived.Test.YtobjafpfbbgnhaaDoorTie
import Derived.WalkKit
import Derived.LaidMore
import Derived.Lay
import Derived.SevenTiedAt
import Derived.Stop.Joined
import Derived.ProofKit
import Derived.OpenShut
import Derived.ShutString
import Derived.ChangeOld
import Derived.Below
import Derived.SizedLaws
import Derived.Deep.Slices
import Derived.Deep.Fields
import Derived.Lib.SmallJoins
import Derived.Carry
import Derived.Test.YtobjafpfbbgnhaaDoorWSized
namespace Go.Proofs.YtobjafpfbbgnhaaDoor.fnExactBoxesText
open Go.ChangeShapes Go.WideShapes Go.ChangeAt Go.RowKit Go.Proofs.YtobjafpfbbgnhaaDoor.L Go.Proofs.YtobjafpfbbgnhaaDoorW.PrintWords
open Go.ChangeMaps (open_string shut_string)
set_option linter.unusedVariables false
set_option linter.unusedSimpArgs false
set_option maxRecDepth 100000
theorem own : ownKnob Tryd.prog.godebug = none := by kernel_rfl
theorem laidOut : laidOutB Tryd.prog = true := by kernel_rfl
instance inh56 : Inhabited S56 := ⟨z56⟩
theorem cell56 : Tryd.prog.cellsOf 56 = 3 := by kernel_rfl
theorem cellf3 : Tryd.prog.cellsOf 3 = 1 := by kernel_rfl
theorem read56 {H : Type} {enc : TypeId × Value → H} {W : World} {base : Nat} {spare : Nat → Bool} {held : Bool} {fuel : Nat} {v : Value} {y : DataW H × List MemPlace} (h : DataW.trod enc Tryd.prog W base spare held fuel 30 [v] = some y) :
    ∃ (A0 : Option Addr) (c0 : Nat) (l : List S56), v = .slice A0 l.length c0 ∧ l.length ≤ c0 ∧ l.length ≤ maxLen ∧ Kd.C k56 W A0 l.length l := by
  rcases Deep.open_slice Tryd.underlying30 h with ⟨hcs, _⟩ | ⟨x, len, cap, m, n, D, Pl, hcs, hb, hl, hm, hmm, hx, hi⟩
  · obtain rfl : v = .slice none 0 0 := by simpa using hcs
    exact ⟨none, 0, [], rfl, Nat.le_refl _, Nat.zero_le _, Kd.C_nil _ _⟩
  · obtain rfl : v = .slice (some x) len cap := by simpa using hcs
    have hex : ∀ i, i < len → ∃ s : S56, ∀ (j : Nat) (u : Value), [.int .i64 s.f0, .int .i64 s.f1, .int .i64 s.f2][j]? = some u → W.cell? (x.add (i * 3 + j)) = some u := by
      intro i hil
      obtain ⟨cs', hc, ht'⟩ := hi i (by split at hmm <;> omega)
      rw [cell56] at hc
      obtain ⟨xs, n', _, _, hlen, hxl, hf⟩ := DataW.trod_struct Tryd.underlying56 ht'
      rw [cell56] at hlen
      obtain ⟨_, hcl, hat⟩ := World.cells?_some hc
      have hxl : xs.length = 3 := hxl
      match cs', hlen with
      | [c0, c1, c2], _ =>
        have t0 : DataW.trod enc Tryd.prog W base spare held n' 3 (([c0, c1, c2].drop 0).take (Tryd.prog.cellsOf 3)) = xs[0]? := hf 0 _ rfl
        simp only [cellf3, List.drop_succ_cons, List.drop_zero, List.take_succ_cons, List.take_zero] at t0
        have t1 : DataW.trod enc Tryd.prog W base spare held n' 3 (([c0, c1, c2].drop 1).take (Tryd.prog.cellsOf 3)) = xs[1]? := hf 1 _ rfl
        simp only [cellf3, List.drop_succ_cons, List.drop_zero, List.take_succ_cons, List.take_zero] at t1
        have t2 : DataW.trod enc Tryd.prog W base spare held n' 3 (([c0, c1, c2].drop 2).take (Tryd.prog.cellsOf 3)) = xs[2]? := hf 2 _ rfl
        simp only [cellf3, List.drop_succ_cons, List.drop_zero, List.take_succ_cons, List.take_zero] at t2
        obtain ⟨b0, g0, _, _⟩ := DataW.trod_int Tryd.underlying3 (t0.trans (List.getElem?_eq_getElem (by omega)))
        obtain ⟨b1, g1, _, _⟩ := DataW.trod_int Tryd.underlying3 (t1.trans (List.getElem?_eq_getElem (by omega)))
        obtain ⟨b2, g2, _, _⟩ := DataW.trod_int Tryd.underlying3 (t2.trans (List.getElem?_eq_getElem (by omega)))
        obtain rfl : c0 = .int .i64 b0 := by simpa using g0
        obtain rfl : c1 = .int .i64 b1 := by simpa using g1
        obtain rfl : c2 = .int .i64 b2 := by simpa using g2
        refine ⟨⟨b0, b1, b2⟩, fun j u hj => ?_⟩
        have hjl : j < 3 := by have := (List.getElem?_eq_some_iff.1 hj).1; simpa using this
        rw [← Deep.add_add, hat j hjl]
        exact hj
    obtain ⟨f, hf⟩ := Deep.choose_lt hex
    refine ⟨some x, cap, (List.range len).map f, by simp, by simpa using hl, by simp; omega, by simp, by simp only [maxLen] at hm; simp; omega, fun _ => ⟨x, rfl, fun j p hj => ?_⟩⟩
    have hjl : j < len := by have := (List.getElem?_eq_some_iff.1 hj).1; simpa using this
    obtain rfl : f j = p := by simpa [hjl] using hj
    exact ⟨_, rfl, k56_mk W (f j), fun i u hu => hf j hjl i u hu⟩
set_option maxRecDepth 100000 in
theorem lifted (os : Os) (started : os.Started) (H : Type) (enc : TypeId × Value → H) :
    ReturnsInHanded {} Tryd.checked os 4 .any (fun w args => (Rows.fnExactBoxesTextSpec.pre enc Tryd.prog Tryd.f4 Rows.fnExactBoxesTextRow.domain false w args ∧ laidMetH Tryd.prog Rows.fnExactBoxesTextRow.laid w) ∧ sizedMet enc Tryd.prog Tryd.f4 (OpenSpec.ofChange Rows.fnExactBoxesTextSpec) false w args) (Rows.fnExactBoxesTextSpec.post enc Tryd.prog Tryd.f4 false true false false) := by
  refine returnsInHanded_of_change_and (C := Tryd.checked) (X := fun w _ => laidMetH Tryd.prog Rows.fnExactBoxesTextRow.laid w) (fun _ _ _ hh h => h.of_heap hh) own started (by kernel_rfl) Tryd.func4
    (ChangeSpec.witness_shaped (enc := enc) (C := Tryd.checked) (os := os) (X := fun w _ => laidMetH Tryd.prog Rows.fnExactBoxesTextRow.laid w) false (World.laidAll Tryd.prog os Rows.fnExactBoxesTextRow.laid) #[.slice none 0 0] 8 (World.laidAll_os _ _ _) (World.shaped_of_ZipB (by kernel_rfl) (by kernel_rfl)) (by kernel_rfl) (by kernel_rfl) (by kernel_rfl) (by rw [MakeChecks.laidMetH_plain _ _ _ (by kernel_rfl)]; exact laidMet_laidAll _ (by kernel_rfl) (by kernel_rfl))) ?_
  intro W base args ds gs before hval0 hW hcnd hsz0 hL _
  have hsz : (DataW.weightsEach Tryd.prog (Tryd.f4.params.toList ++ Rows.fnExactBoxesTextSpec.plain.varTypes Tryd.prog) (ds ++ gs)).all (· ≤ reachBytes) = true := hsz0
  have hval : ∀ (j : Nat) t v, Tryd.f4.params[j]? = some t → args[j]? = some v → Value.okWide Tryd.prog W .any base t v := hval0
  have hW' := hW
  obtain ⟨p, q, hA0, hV, rfl, hfz, hnd⟩ := hW
  have hA : DataW.TrodAll enc Tryd.prog W 0 (fun _ => true) true Tryd.f4.params.toList args.toList ds p := hA0
  rw [Tryd.params4] at hA hval hsz
  obtain ⟨v0, vs0, d0, ds0, p0, q0, hargs, rfl, rfl, h0, r0⟩ := trodAll_cons hA
  obtain ⟨rfl, rfl, rfl⟩ := trodAll_nil r0
  obtain rfl : args = #[v0] := by cases args; simp_all
  obtain ⟨rfl, rfl⟩ := trodVars_none hV
  have k0 := h0
  have lt0 : ∀ x ∈ p0, x.block < W.heap.size := by obtain ⟨m, hm⟩ := k0; exact DataW.trod_lt m _ _ _ hm
  obtain ⟨a0', len0, cap0, rfl⟩ := okWide_slice Tryd.underlying30 (hval 0 30 v0 rfl rfl)
  obtain ⟨fu0, hf0⟩ := h0
  obtain ⟨A0, c0', l0, e0, hc0, w0, hr0⟩ := read56 (by simpa [Value.cells] using hf0)
  simp only [Value.slice.injEq] at e0
  obtain ⟨rfl, rfl, rfl⟩ := e0
  clear hA0 hval0 hsz0 hsz
  refine (laws_FnExactBoxesText.walk Pure.FnExactBoxesText a0' cap0 l0 W w0 hr0 hc0).mono fun e W' ⟨he, bel⟩ => ?_
  subst he
  exact ⟨_, rfl, _, _, _, [], _, [], hW', trodAll_mk1 (shut_bool Tryd.underlying4 _), (trodAll_cons_mk (Below.trod laidOut (by kernel_rfl) (of_decide_eq_true (by kernel_rfl)) k0 bel lt0) trodAll_mk0), rfl, bel.frame _, fun h => by cases h⟩
theorem over : Rows.fnExactBoxesTextRow.holds Tryd.pinned (OpenSpec.ofChange Rows.fnExactBoxesTextSpec) :=
  OpenClaim.holds_of_wide 4 Tryd.f4 rfl rfl rfl rfl rfl rfl rfl ⟨rfl, rfl, rfl, rfl, rfl⟩ rfl rfl rfl rfl rfl (by kernel_rfl) Tryd.func4 (by kernel_rfl)
    (of_decide_eq_true (by kernel_rfl)) (by unfold Func.isWrapper; first | (rw [if_pos (by decide +kernel)]; kernel_rfl) | (rw [if_neg (by decide +kernel)]; exact ⟨rfl, rfl⟩))
    (fun os started H enc _ => lifted os started H enc)
theorem proved : Rows.FnExactBoxesTextSaid := over
theorem card : Rows.FnExactBoxesTextCardSaid :=
  Claim7.holds_tied_plain_at .later [] [.data, .data, .data] true (true, "b68f20e94335cb7892fb5d7eea74d898095a34bf84dfe5d210b0b1d58e933351") true over (fun _ h => by cases h) (by kernel_rfl) (fun _ h => by cases h) fnExactBoxesText_row_tie rfl ⟨rfl, rfl⟩ (by kernel_rfl) rfl
    (fun f fn hf hfn => by
      obtain rfl : f = 4 := Option.some.inj ((show Tryd.prog.funcNamed "loop.example/g01334/laws.FnExactBoxesText" = some 4 by kernel_rfl).symm.trans hf) |>.symm
      obtain rfl : fn = Tryd.f4 := (Option.some.inj (Tryd.func4.symm.trans hfn)).symm
      exact ⟨by kernel_rfl, fun j t ht => by
        rw [Tryd.params4] at ht
        have hm : t ∈ [30] := by simpa using Array.mem_of_getElem? ht
        have hall : ([30].all fun u => !Tryd.prog.wantsStandIn u) = true := by kernel_rfl
        exact (show Tryd.prog.wantsStandIn t = false by simpa using List.all_eq_true.1 hall t hm)⟩)
    (by kernel_rfl)
#print axioms proved
end Go.Proofs.YtobjafpfbbgnhaaDoor.fnExactBoxesText
namespace Go.Proofs.YtobjafpfbbgnhaaDoor
/-- The row, under a short name, for the claim. -/
theorem fnExactBoxesText_holds : Rows.FnExactBoxesTextCardSaid := fnExactBoxesText.card
end Go.Proofs.YtobjafpfbbgnhaaDoor

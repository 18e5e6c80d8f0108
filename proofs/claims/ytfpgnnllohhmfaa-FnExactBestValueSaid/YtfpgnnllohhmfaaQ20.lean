-- Written by the session's program wip/myprint.py (over the kit's print); the given parts by hand.
import Derived.Test.YtfpgnnllohhmfaaQ0
import Derived.Test.YtfpgnnllohhmfaaQ13
import Derived.Test.YtfpgnnllohhmfaaQ17
import Derived.Test.YtfpgnnllohhmfaaQ18
namespace Go.Proofs.Ytfpgnnllohhmfaa.Q
open Go.RowKit Go.Proofs.YtfpgnnllohhmfaaW.PrintWords Go.Proofs.YtfpgnnllohhmfaaW.PrintLast Go.Proofs.YtfpgnnllohhmfaaW.PrintMore
attribute [local go_sem] max2_int min2_int max_two min_two max_three min_three max_four min_four   -- for this text's walks alone
set_option linter.unusedVariables false
set_option linter.unusedSimpArgs false

-- given: loop.example/g01334/impl.BestValue

/-! ### impl_BestValue: by hand -/
def impl_BestValue.f (a0 : Int) (a1 : Int) (l2 : List S38) (a3 : Bool) : Option (Int × Bool) :=
  (impl_areCut.f a0 a1 l2).bind fun p => if p = true then some (cvN (whN l2 a3) a0 a1, true) else some (0, false)
set_option maxHeartbeats 1000000 in
theorem impl_BestValue.calls (a0 : Int) (a1 : Int) (A2 : Option Addr) (c2 : Nat) (l2 : List S38) (a3 : Bool) (r1 : Int) (r2 : Bool) (w : World) (hr2 : Kd.C k38 w A2 l2.length l2) (hc2 : l2.length ≤ c2) (h : impl_BestValue.f a0 a1 l2 a3 = some (r1, r2)) :
    Calls Try.prog 35 #[.int .i64 a0, .int .i64 a1, .slice A2 l2.length c2, .bool a3] w fun e w' => e = .returned (.tuple #[.int .i64 r1, .bool r2]) ∧ Below w.heap.size w w' := by
  have HR0 := Aside0.mk hr2
  have HC0 := Aside0.mk hc2
  clear hr2 hc2
  cases hp : impl_areCut.f a0 a1 l2 with
  | none => simp [impl_BestValue.f, hp] at h
  | some p =>
    have HP := Aside0.mk hp
    cases p with
    | false =>
      simp [impl_BestValue.f, hp] at h
      obtain ⟨rfl, rfl⟩ := h
      clear hp
      go_enter Try.func35, Try.ntmps35
      go_wp2_with (go_at_call 68; refine (impl_areCut.calls a0 a1 A2 c2 l2 false _ HR0.out HC0.out HP.out).mono ?_; rintro e w1 ⟨rfl, hb1⟩; have HB1 := Aside0.mk hb1; clear hb1)
      go_ret2
      exact ⟨rfl, HB1.out⟩
    | true =>
      simp only [impl_BestValue.f, hp, Option.bind_some, if_true, Option.some.injEq, Prod.mk.injEq] at h
      obtain ⟨rfl, rfl⟩ := h
      clear hp
      have hin := areCut_in HP.out
      have i1 := hin.1.1
      have i2 := hin.1.2
      have i3 := hin.2.1
      have i4 := hin.2.2
      clear hin
      go_enter Try.func35, Try.ntmps35
      go_wp2_with (first | (go_at_call 68; refine (impl_areCut.calls a0 a1 A2 c2 l2 true _ HR0.out HC0.out HP.out).mono ?_; rintro e w1 ⟨rfl, hb1⟩; have HB1 := Aside0.mk hb1; clear hb1) | (go_at_call 69; refine (cutterOf_calls A2 l2.length c2 a3 (cutV l2 a3) _).mono ?_; rintro e w2 ⟨B, rfl, hb2, hB, hm⟩; have HB2 := Aside0.mk (HB1.out.trans (hb2.mono HB1.out.size)); have HBB := Aside0.mk (Nat.le_trans HB1.out.size hB); have HM := Aside0.mk hm; clear hb2 hB hm) | (go_at_call 70; refine (cutter_value1 A2 c2 l2 a3 B a0 a1 _ i1 i2 i3 i4 (Kd.C_below HR0.out HB2.out) HM.out).mono ?_; rintro e w3 ⟨rfl, hm3, hg3⟩; have HG3 := Aside0.mk hg3; clear hm3 hg3))
      go_ret2
      exact ⟨rfl, below_of_grown HB2.out HB2.out.size HBB.out HG3.out⟩

end Go.Proofs.Ytfpgnnllohhmfaa.Q

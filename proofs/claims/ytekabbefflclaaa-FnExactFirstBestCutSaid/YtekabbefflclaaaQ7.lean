-- Written by the session's program wip/myprint.py (over the kit's print); the given parts by hand.
import Derived.Test.YtekabbefflclaaaQ0
import Derived.Test.YtekabbefflclaaaQ1
import Derived.Test.YtekabbefflclaaaQ3
import Derived.Test.YtekabbefflclaaaQ5
import Derived.Test.YtekabbefflclaaaQ6
namespace Go.Proofs.Ytekabbefflclaaa.Q
open Go.RowKit Go.Proofs.YtekabbefflclaaaW.PrintWords Go.Proofs.YtekabbefflclaaaW.PrintLast Go.Proofs.YtekabbefflclaaaW.PrintMore
attribute [local go_sem] max2_int min2_int max_two min_two max_three min_three max_four min_four   -- for this text's walks alone
set_option linter.unusedVariables false
set_option linter.unusedSimpArgs false

-- given: loop.example/g01334/impl.CountBestCuts

/-! ### impl_CountBestCuts: by hand -/
def impl_CountBestCuts.f (l0 : List Int) (a1 : Int) : Option (Int × Bool) :=
  (impl_arePrices.f l0).bind fun p => if p = true then ((impl_isRod.f a1).bind fun q => if q = true then some ((cutN l0 1 a1.toNat).2, true) else some (0, false)) else some (0, false)
set_option maxHeartbeats 1000000 in
theorem impl_CountBestCuts.calls (A0 : Option Addr) (c0 : Nat) (l0 : List Int) (a1 : Int) (r1 : Int) (r2 : Bool) (w : World) (hr0 : Kd.C (Kd.int .i64) w A0 l0.length l0) (hc0 : l0.length ≤ c0) (h : impl_CountBestCuts.f l0 a1 = some (r1, r2)) :
    Calls Try.prog 14 #[.slice A0 l0.length c0, .int .i64 a1] w fun e w' => e = .returned (.tuple #[.int .i64 r1, .bool r2]) ∧ Below w.heap.size w w' := by
  have HR0 := Aside0.mk hr0
  have HC0 := Aside0.mk hc0
  clear hr0 hc0
  cases hp : impl_arePrices.f l0 with
  | none => simp [impl_CountBestCuts.f, hp] at h
  | some p =>
    have HP := Aside0.mk hp
    cases p with
    | false =>
      simp [impl_CountBestCuts.f, hp] at h
      obtain ⟨rfl, rfl⟩ := h
      clear hp
      go_enter Try.func14, Try.ntmps14
      go_wp2_with (go_at_call 22; refine (impl_arePrices.calls A0 c0 l0 false _ HR0.out HC0.out HP.out).mono ?_; rintro e w1 ⟨rfl, hb1⟩; have HB1 := Aside0.mk hb1; clear hb1)
      go_ret2
      exact ⟨rfl, HB1.out⟩
    | true =>
      simp only [impl_CountBestCuts.f, hp, Option.bind_some, if_true] at h
      clear hp
      cases hq : impl_isRod.f a1 with
      | none => simp [hq] at h
      | some q =>
        have HQ := Aside0.mk hq
        cases q with
        | false =>
          simp [hq] at h
          obtain ⟨rfl, rfl⟩ := h
          clear hq
          go_enter Try.func14, Try.ntmps14
          go_wp2_with (first | (go_at_call 22; refine (impl_arePrices.calls A0 c0 l0 true _ HR0.out HC0.out HP.out).mono ?_; rintro e w1 ⟨rfl, hb1⟩; have HB1 := Aside0.mk hb1; clear hb1) | (go_at_call 23; refine (impl_isRod.calls a1 false _ HQ.out).mono ?_; rintro e w' ⟨rfl, ⟨nd, rfl⟩⟩))
          go_ret2
          exact ⟨rfl, HB1.out.trans (by repeat (first | exact Below.refl _ _ | apply below_alloc | apply pw_below_drewN))⟩
        | true =>
          simp only [hq, Option.bind_some, if_true, Option.some.injEq, Prod.mk.injEq] at h
          obtain ⟨rfl, rfl⟩ := h
          have hlen : l0.length ≤ 60 := by
            have := HP.out
            unfold impl_arePrices.f impl_within.f at this
            by_cases c1 : 1 ≤ (l0.length : Int)
            · by_cases c2 : (l0.length : Int) ≤ 60
              · omega
              · simp [c1, c2] at this
            · simp [c1] at this
          have hrod : 1 ≤ a1 ∧ a1 ≤ 60 := by
            have := HQ.out
            unfold impl_isRod.f impl_within.f at this
            by_cases c1 : 1 ≤ a1
            · by_cases c2 : a1 ≤ 60
              · omega
              · simp [c1, c2] at this
            · simp [c1] at this
          clear hq
          go_enter Try.func14, Try.ntmps14
          go_wp2_with (first | (go_at_call 22; refine (impl_arePrices.calls A0 c0 l0 true _ HR0.out HC0.out HP.out).mono ?_; rintro e w1 ⟨rfl, hb1⟩; have HB1 := Aside0.mk hb1; clear hb1) | (go_at_call 23; refine (impl_isRod.calls a1 true _ HQ.out).mono ?_; rintro e w' ⟨rfl, ⟨nd, rfl⟩⟩) | (go_at_call 24; refine (cutsOf_calls A0 c0 l0 (rodV l0) _).mono ?_; rintro e w2 ⟨B, rfl, hb2, hB, hm⟩; have HB2 := Aside0.mk (HB1.out.trans ((by repeat (first | exact Below.refl _ _ | apply below_alloc | apply pw_below_drewN) : Below w.heap.size w1 _).trans (hb2.mono (by have := HB1.out.size; simp; omega)))); have HBB := Aside0.mk (Nat.le_trans HB1.out.size (Nat.le_trans (by simp) hB)); have HM := Aside0.mk hm; clear hb2 hB hm) | (go_at_call 25; refine (cuts_of1 l0 hlen A0 c0 B 1 a1 _ (by omega) (by omega) (by omega) (by omega) (Kd.C_below HR0.out (HB2.out.trans (by repeat (first | exact Below.refl _ _ | apply below_alloc | apply pw_below_drewN)))) (HM.out.below (by repeat (first | exact Below.refl _ _ | apply below_alloc | apply pw_below_drewN)))).mono ?_; rintro e w3 ⟨rfl, hm3, hg3⟩; have HG3 := Aside0.mk hg3; clear hm3 hg3; unfold rodRes))
          go_ret2
          refine ⟨rfl, below_of_grown (HB2.out.trans (by repeat (first | exact Below.refl _ _ | apply below_alloc | apply pw_below_drewN))) ?_ (Nat.le_trans (by simp) HBB.out) HG3.out⟩
          have := HB2.out.size
          simp
          omega

end Go.Proofs.Ytekabbefflclaaa.Q

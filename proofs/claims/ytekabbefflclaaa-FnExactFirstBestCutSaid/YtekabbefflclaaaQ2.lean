-- Written by the session's program wip/myprint.py (over the kit's print); the given parts by hand.
import Derived.Test.YtekabbefflclaaaQ0
import Derived.Test.YtekabbefflclaaaQ1
namespace Go.Proofs.Ytekabbefflclaaa.Q
open Go.RowKit Go.Proofs.YtekabbefflclaaaW.PrintWords Go.Proofs.YtekabbefflclaaaW.PrintLast Go.Proofs.YtekabbefflclaaaW.PrintMore
attribute [local go_sem] max2_int min2_int max_two min_two max_three min_three max_four min_four   -- for this text's walks alone
set_option linter.unusedVariables false
set_option linter.unusedSimpArgs false

-- given: loop.example/g01334/impl.areWithin

/-! ### impl_areWithin: by hand: slices.ContainsFunc over a closure that holds low and high -/
def impl_areWithin.f (l0 : List Int) (a1 : Int) (a2 : Int) : Option (Bool) := some (l0.all (okW a1 a2))
set_option maxHeartbeats 1000000 in
theorem impl_areWithin.closure (x lo hi : Int) (B1 B2 : Nat) (w : World) (h1 : w.cell? ⟨B1, 0, none⟩ = some (.int .i64 lo)) (h2 : w.cell? ⟨B2, 0, none⟩ = some (.int .i64 hi)) :
    Calls Try.prog 30 #[.int .i64 x, .pointer (some ⟨B1, 0, none⟩), .pointer (some ⟨B2, 0, none⟩)] w fun e w' => e = .returned (.bool (!(okW lo hi x))) ∧ Drawn0 w w' := by
  go_enter Try.func30, Try.ntmps30
  go_wp2_with (go_at_call 27; refine (impl_within.calls x lo hi (okW lo hi x) _ (okW_within lo hi x)).mono ?_; rintro e w' ⟨rfl, ⟨nd, rfl⟩⟩)
  go_ret
  exact ⟨rfl, by repeat (first | exact Drawn0.refl _ | apply Drawn0.step)⟩
set_option maxHeartbeats 400000 in
theorem impl_areWithin.index (A0 : Option Addr) (c0 : Nat) (l0 : List Int) (lo hi : Int) (B1 B2 : Nat) (w : World) (hr0 : Kd.C (Kd.int .i64) w A0 l0.length l0) (h1 : w.cell? ⟨B1, 0, none⟩ = some (.int .i64 lo)) (h2 : w.cell? ⟨B2, 0, none⟩ = some (.int .i64 hi)) :
    Calls Try.prog 31 #[.slice A0 l0.length c0, .func (.func 30) #[] #[.pointer (some ⟨B1, 0, none⟩), .pointer (some ⟨B2, 0, none⟩)]] w fun e w' => (∃ i : Int, e = .returned (.int .i64 i) ∧ decide (0 ≤ i) = !(l0.all (okW lo hi))) ∧ Drawn0 w w' := by
  have HR0 := Aside0.mk hr0
  have hl := hr0.2.1
  clear hr0
  have eg : ∀ (args : Array Value) (W : World), (callFunc 30 args).run Try.prog W = .ok (.enter 30 args) W := enters_of Try.func30 (by kernel_rfl) rfl
  go_enter Try.func31, Try.ntmps31
  go_wp2
  go_loopg [5, 8] l0.length (fun gg _ s8 wr => ∃ kk : Nat, kk ≤ l0.length ∧ l0.length - kk ≤ gg ∧ s8 = .int .i64 kk ∧ Aside0 (∀ j, j < kk → okW lo hi (l0.getD j 0) = true) ∧ Drawn0 w wr)
  case atStart => exact ⟨0, Nat.zero_le _, by omega, rfl, ⟨fun j hj => absurd hj (Nat.not_lt_zero _)⟩, Drawn0.refl _⟩
  case round =>
    obtain ⟨kk, hkk, hg, rfl, HA, ⟨m1, rfl⟩⟩ := hrel
    by_cases hlt : kk < l0.length
    · have hltz : (kk : Int) < (l0.length : Int) := by omega
      obtain ⟨ad, rfl, hx⟩ := Kd.at_int HR0.out (kk : Int) (by omega) hltz
      rw [show rd l0 (kk : Int) = l0.getD kk 0 by simp [rd], Int.toNat_natCast] at hx
      generalize hy : l0.getD kk 0 = y at hx
      have HY := Aside0.mk hy
      clear hy
      have hc1 : ((w.drewN m1).cell? ⟨B1, 0, none⟩) = some (.int .i64 lo) := h1
      have hc2 : ((w.drewN m1).cell? ⟨B2, 0, none⟩) = some (.int .i64 hi) := h2
      have hcall := impl_areWithin.closure y lo hi B1 B2 _ hc1 hc2
      clear hc1 hc2 h1 h2
      cases hq : okW lo hi y with
      | false =>
        rw [hq] at hcall
        have HQ := Aside0.mk hq
        clear hq
        go_wp2_with (go_at_call 30; refine hcall.mono ?_; rintro e w' ⟨rfl, ⟨nd, rfl⟩⟩)
        go_ret
        refine ⟨⟨_, rfl, ?_⟩, by repeat (first | exact Drawn0.refl _ | apply Drawn0.step)⟩
        rw [decide_eq_true (by omega), eq_comm, Bool.not_eq_true']
        rw [List.all_eq_false]
        refine ⟨l0.getD kk 0, ?_, ?_⟩
        · rw [List.getD_eq_getElem?_getD, List.getElem?_eq_getElem hlt]; exact List.getElem_mem _
        · rw [HY.out, HQ.out]; decide
      | true =>
        rw [hq] at hcall
        have HQ := Aside0.mk hq
        clear hq
        go_wp2_with (go_at_call 30; refine hcall.mono ?_; rintro e w' ⟨rfl, ⟨nd, rfl⟩⟩)
        go_roundg (l0.length - (kk + 1))
        case measure => omega
        case rel =>
          refine ⟨kk + 1, by omega, by omega, by go_num, ⟨fun j hj => ?_⟩, by repeat (first | exact Drawn0.refl _ | apply Drawn0.step)⟩
          by_cases e : j = kk
          · subst e; rw [HY.out]; exact HQ.out
          · exact HA.out j (by omega)
    · have hltz : ¬ (kk : Int) < (l0.length : Int) := by omega
      have hk : kk = l0.length := by omega
      subst hk
      go_wp2
      go_ret
      refine ⟨⟨_, rfl, ?_⟩, by repeat (first | exact Drawn0.refl _ | apply Drawn0.step)⟩
      rw [decide_eq_false (by omega), eq_comm, Bool.not_eq_false']
      rw [List.all_eq_true]
      intro x hx
      obtain ⟨i, hi, rfl⟩ := List.getElem_of_mem hx
      have := HA.out i hi
      rwa [List.getD_eq_getElem?_getD, List.getElem?_eq_getElem hi] at this
set_option maxHeartbeats 1000000 in
theorem impl_areWithin.contains (A0 : Option Addr) (c0 : Nat) (l0 : List Int) (lo hi : Int) (B1 B2 : Nat) (w : World) (hr0 : Kd.C (Kd.int .i64) w A0 l0.length l0) (h1 : w.cell? ⟨B1, 0, none⟩ = some (.int .i64 lo)) (h2 : w.cell? ⟨B2, 0, none⟩ = some (.int .i64 hi)) :
    Calls Try.prog 29 #[.slice A0 l0.length c0, .func (.func 30) #[] #[.pointer (some ⟨B1, 0, none⟩), .pointer (some ⟨B2, 0, none⟩)]] w fun e w' => e = .returned (.bool (!(l0.all (okW lo hi)))) ∧ Drawn0 w w' := by
  have hcall := impl_areWithin.index A0 c0 l0 lo hi B1 B2 w hr0 h1 h2
  clear hr0 h1 h2
  go_enter Try.func29, Try.ntmps29
  go_wp2_with (go_at_call 31; refine hcall.mono ?_; rintro e w' ⟨⟨i, rfl, hi⟩, ⟨nd, rfl⟩⟩; have HI := Aside0.mk hi; clear hi)
  go_ret
  refine ⟨?_, by repeat (first | exact Drawn0.refl _ | apply Drawn0.step)⟩
  rw [← HI.out]
  rfl
set_option maxHeartbeats 1000000 in
theorem impl_areWithin.calls (A0 : Option Addr) (c0 : Nat) (l0 : List Int) (a1 : Int) (a2 : Int) (r : Bool) (w : World) (hr0 : Kd.C (Kd.int .i64) w A0 l0.length l0) (hc0 : l0.length ≤ c0) (h : impl_areWithin.f l0 a1 a2 = some r) :
    Calls Try.prog 28 #[.slice A0 l0.length c0, .int .i64 a1, .int .i64 a2] w fun e w' => e = .returned (.bool r) ∧ Below w.heap.size w w' := by
  have hmf : ∀ (fn : Fn) (first cap : Array Value) (w : World), (Instr.makeFunc fn first cap).run Try.prog w = .ok (.func fn first cap) w := fun _ _ _ _ => rfl
  have HR0 := Aside0.mk hr0
  have HH := Aside0.mk h
  clear hr0 hc0 h
  go_enter Try.func28, Try.ntmps28
  go_wp2_with fail
  refine (impl_areWithin.contains A0 c0 l0 a1 a2 w.heap.size (w.heap.size + 1) _ (Kd.C_below HR0.out ?hb) ?h1 ?h2).mono ?_
  case hb => repeat (first | exact Below.refl _ _ | apply below_alloc | apply pw_below_drewN)
  case h1 => simp
  case h2 => simp
  rintro e w' ⟨rfl, ⟨nd, rfl⟩⟩
  go_wp2
  go_ret
  refine ⟨?_, by repeat (first | exact Below.refl _ _ | apply below_alloc | apply pw_below_drewN)⟩
  rw [← Option.some.inj HH.out]
  rfl

end Go.Proofs.Ytekabbefflclaaa.Q

-- Written by the session's program wip/myprint.py (over the kit's print); the given parts by hand.
import Derived.Test.YtmmecijhdpioaaaQ0
import Derived.Test.YtmmecijhdpioaaaQ1
import Derived.Test.YtmmecijhdpioaaaQ2
import Derived.Test.YtmmecijhdpioaaaQ8
namespace Go.Proofs.Ytmmecijhdpioaaa.Q
open Go.RowKit Go.Proofs.YtmmecijhdpioaaaW.PrintWords Go.Proofs.YtmmecijhdpioaaaW.PrintLast Go.Proofs.YtmmecijhdpioaaaW.PrintMore
attribute [local go_sem] max2_int min2_int max_two min_two max_three min_three max_four min_four   -- for this text's walks alone
set_option linter.unusedVariables false
set_option linter.unusedSimpArgs false

-- given: loop.example/g01334/impl.IsPuzzle

/-! ### impl_IsPuzzle: by hand -/
def clueJ (p q : Bool) (kd a b c : Int) : Bool :=
  if kd = 0 then q && okW 0 24 c else if kd = 1 then p && okW 0 1 c else if kd = 2 then okW 6 24 a && (b == 0 && okW 1 4 c) else if kd = 3 then okW 1 24 a && (b == 0 && okW 0 1 c)
  else if kd = 4 then p && okW 1 36 c else if kd = 5 then q && okW 1 6 c else false
def pairB (t a b : Int) : Bool := decide (0 ≤ a ∧ a < t ∧ 0 ≤ b ∧ b < t) && (a != b)
def okClue (t : Int) (x : S42) : Bool := okW 2 4 t && clueJ (pairB t x.f1 x.f2) (x.f1 == 0 && x.f2 == 0) x.f0 x.f1 x.f2 x.f3
theorem clue_j1 (k : Nat) (p q : Bool) (kd a b c : Int) : impl_IsClue.j1 (k + 1) p q kd a b c = some (clueJ p q kd a b c) := by
  simp only [impl_IsClue.j1, okW_within, clueJ, Option.bind_some]
  by_cases h0 : kd = 0
  · simp only [if_pos h0]; cases q <;> rfl
  by_cases h1 : kd = 1
  · simp only [if_neg h0, if_pos h1]; cases p <;> rfl
  by_cases h2 : kd = 2
  · simp only [if_neg h0, if_neg h1, if_pos h2]
    by_cases hb : b = 0
    · simp only [if_pos hb, hb]; cases okW 6 24 a <;> rfl
    · simp only [if_neg hb, beq_eq_false_iff_ne.mpr hb]; cases okW 6 24 a <;> rfl
  by_cases h3 : kd = 3
  · simp only [if_neg h0, if_neg h1, if_neg h2, if_pos h3]
    by_cases hb : b = 0
    · simp only [if_pos hb, hb]; cases okW 1 24 a <;> rfl
    · simp only [if_neg hb, beq_eq_false_iff_ne.mpr hb]; cases okW 1 24 a <;> rfl
  by_cases h4 : kd = 4
  · simp only [if_neg h0, if_neg h1, if_neg h2, if_neg h3, if_pos h4]; cases p <;> rfl
  by_cases h5 : kd = 5
  · simp only [if_neg h0, if_neg h1, if_neg h2, if_neg h3, if_neg h4, if_pos h5]; cases q <;> rfl
  · simp only [if_neg h0, if_neg h1, if_neg h2, if_neg h3, if_neg h4, if_neg h5]
theorem clue_j0 (k : Nat) (p : Bool) (kd a b c : Int) : impl_IsClue.j0 (k + 2) p kd a b c = some (clueJ p (a == 0 && b == 0) kd a b c) := by
  simp only [impl_IsClue.j0, clue_j1]
  by_cases ha : a = 0
  · simp [ha]
  · rw [if_neg ha, beq_eq_false_iff_ne.mpr ha, Bool.false_and]
theorem clue_f (k : Nat) (t : Int) (x : S42) : impl_IsClue.f (k + 2) t x.f0 x.f1 x.f2 x.f3 = some (okClue t x) := by
  simp only [impl_IsClue.f, okW_within, clue_j0, Option.bind_some, okClue, pairB]
  cases okW 2 4 t with
  | false => rfl
  | true =>
    simp only [if_true, Bool.true_and]
    by_cases h1 : x.f1 ≥ 0
    · by_cases h2 : x.f1 < t
      · by_cases h3 : x.f2 ≥ 0
        · by_cases h4 : x.f2 < t
          · rw [if_pos h1, if_pos h2, if_pos h3, if_pos h4, decide_eq_true (show 0 ≤ x.f1 ∧ x.f1 < t ∧ 0 ≤ x.f2 ∧ x.f2 < t from ⟨h1, h2, h3, h4⟩), Bool.true_and]
          · rw [if_pos h1, if_pos h2, if_pos h3, if_neg h4, decide_eq_false (fun h => h4 h.2.2.2), Bool.false_and]
        · rw [if_pos h1, if_pos h2, if_neg h3, decide_eq_false (fun h => h3 h.2.2.1), Bool.false_and]
      · rw [if_pos h1, if_neg h2, decide_eq_false (fun h => h2 h.2.1), Bool.false_and]
    · rw [if_neg h1, decide_eq_false (fun h => h1 h.1), Bool.false_and]
def impl_IsPuzzle.f (a0_0 : Int) (l0_1 : List S42) : Option (Bool) := some (okW 2 4 a0_0 && (decide ((l0_1.length : Int) ≤ 6) && l0_1.all (okClue a0_0)))
set_option maxHeartbeats 1000000 in
theorem impl_IsPuzzle.closure (x : S42) (t : Int) (B : Nat) (w : World) (h1 : w.cell? ⟨B, 0, none⟩ = some (.int .i64 t)) :
    Calls Try.prog 51 #[.agg #[.int .i64 x.f0, .int .i64 x.f1, .int .i64 x.f2, .int .i64 x.f3], .pointer (some ⟨B, 0, none⟩)] w fun e w' => e = .returned (.bool (!(okClue t x))) ∧ Below w.heap.size w w' := by
  have hu := Try.underlying42
  have hu2 := Try.underlying52
  have hB := World.block_lt_of_cell? w _ h1
  have h2 := ((below_alloc (Below.refl w.heap.size w) (.cells #[.int .i64 x.f0, .int .i64 x.f1, .int .i64 x.f2, .int .i64 x.f3] 42)).cell hB).trans h1
  go_enter Try.func51, Try.ntmps51
  go_wp2_with (go_at_call 22; refine (impl_IsClue.calls 2 t x.f0 x.f1 x.f2 x.f3 (okClue t x) _ (clue_f 0 t x)).mono ?_; rintro e w' ⟨rfl, hb⟩; have HB := Aside0.mk hb; clear hb)
  go_ret
  exact ⟨rfl, (below_alloc (Below.refl _ _) _).trans (HB.out.mono (by simp))⟩
set_option maxHeartbeats 1000000 in
theorem impl_IsPuzzle.index (A0 : Option Addr) (c0 : Nat) (l0 : List S42) (B : Nat) (w : World) (p : S42 → Bool) (hr0 : Kd.C k42 w A0 l0.length l0)
    (hc : ∀ (W : World), Below w.heap.size w W → ∀ x : S42, Calls Try.prog 51 #[.agg #[.int .i64 x.f0, .int .i64 x.f1, .int .i64 x.f2, .int .i64 x.f3], .pointer (some ⟨B, 0, none⟩)] W fun e w' => e = .returned (.bool (p x)) ∧ Below W.heap.size W w') :
    Calls Try.prog 62 #[.slice A0 l0.length c0, .func (.func 51) #[] #[.pointer (some ⟨B, 0, none⟩)]] w fun e w' => (∃ i : Int, e = .returned (.int .i64 i) ∧ decide (0 ≤ i) = l0.any p) ∧ Below w.heap.size w w' := by
  have hu := Try.underlying42
  have HR0 := Aside0.mk hr0
  have HCL := Aside0.mk hc
  have hl := hr0.2.1
  clear hr0 hc
  have eg : ∀ (args : Array Value) (W : World), (callFunc 51 args).run Try.prog W = .ok (.enter 51 args) W := enters_of Try.func51 (by kernel_rfl) rfl
  go_enter Try.func62, Try.ntmps62
  go_wp2
  go_loopg [5, 8] l0.length (fun gg _ s8 wr => ∃ kk : Nat, kk ≤ l0.length ∧ l0.length - kk ≤ gg ∧ s8 = .int .i64 kk ∧ Aside0 (∀ j, j < kk → p (l0.getD j z42) = false) ∧ Aside0 (Below w.heap.size w wr))
  case atStart => exact ⟨0, Nat.zero_le _, by omega, rfl, ⟨fun j hj => absurd hj (Nat.not_lt_zero _)⟩, ⟨Below.refl _ _⟩⟩
  case round =>
    obtain ⟨kk, hkk, hg, rfl, HA, HB⟩ := hrel
    by_cases hlt : kk < l0.length
    · have hltz : (kk : Int) < (l0.length : Int) := by omega
      obtain ⟨ad, rfl, hx0, hx1, hx2, hx3⟩ := at_T42 HR0.out (kk : Int) (by omega) hltz
      rw [show rd_T42 l0 (kk : Int) = l0.getD kk z42 by simp [rd_T42], Int.toNat_natCast] at hx0 hx1 hx2 hx3
      generalize hy : l0.getD kk z42 = y at hx0 hx1 hx2 hx3
      have HY := Aside0.mk hy
      clear hy
      replace hx0 := (HB.out.cell (World.block_lt_of_cell? w _ hx0)).trans hx0
      replace hx1 := (HB.out.cell (World.block_lt_of_cell? w _ hx1)).trans hx1
      replace hx2 := (HB.out.cell (World.block_lt_of_cell? w _ hx2)).trans hx2
      replace hx3 := (HB.out.cell (World.block_lt_of_cell? w _ hx3)).trans hx3
      have hcall := HCL.out _ HB.out y
      cases hq : p y with
      | true =>
        rw [hq] at hcall
        have HQ := Aside0.mk hq
        clear hq
        go_wp2_with (go_at_call 51; refine hcall.mono ?_; rintro e w' ⟨rfl, hb⟩; have HB2 := Aside0.mk hb; clear hb)
        go_ret
        refine ⟨⟨_, rfl, ?_⟩, HB.out.trans (HB2.out.mono HB.out.size)⟩
        rw [decide_eq_true (by omega), eq_comm, List.any_eq_true]
        refine ⟨l0.getD kk z42, ?_, ?_⟩
        · rw [List.getD_eq_getElem?_getD, List.getElem?_eq_getElem hlt]; exact List.getElem_mem _
        · rw [HY.out, HQ.out]
      | false =>
        rw [hq] at hcall
        have HQ := Aside0.mk hq
        clear hq
        go_wp2_with (go_at_call 51; refine hcall.mono ?_; rintro e w' ⟨rfl, hb⟩; have HB2 := Aside0.mk hb; clear hb)
        go_roundg (l0.length - (kk + 1))
        case measure => omega
        case rel =>
          refine ⟨kk + 1, by omega, by omega, by go_num, ⟨fun j hj => ?_⟩, ⟨HB.out.trans (HB2.out.mono HB.out.size)⟩⟩
          by_cases e : j = kk
          · subst e; rw [HY.out]; exact HQ.out
          · exact HA.out j (by omega)
    · have hltz : ¬ (kk : Int) < (l0.length : Int) := by omega
      have hk : kk = l0.length := by omega
      subst hk
      go_wp2
      go_ret
      refine ⟨⟨_, rfl, ?_⟩, HB.out⟩
      rw [decide_eq_false (by omega), eq_comm, List.any_eq_false]
      intro x hx
      obtain ⟨i, hi, rfl⟩ := List.getElem_of_mem hx
      have := HA.out i hi
      rw [List.getD_eq_getElem?_getD, List.getElem?_eq_getElem hi] at this
      simpa using this
set_option maxHeartbeats 1000000 in
theorem impl_IsPuzzle.contains (A0 : Option Addr) (c0 : Nat) (l0 : List S42) (B : Nat) (w : World) (p : S42 → Bool) (hr0 : Kd.C k42 w A0 l0.length l0)
    (hc : ∀ (W : World), Below w.heap.size w W → ∀ x : S42, Calls Try.prog 51 #[.agg #[.int .i64 x.f0, .int .i64 x.f1, .int .i64 x.f2, .int .i64 x.f3], .pointer (some ⟨B, 0, none⟩)] W fun e w' => e = .returned (.bool (p x)) ∧ Below W.heap.size W w') :
    Calls Try.prog 50 #[.slice A0 l0.length c0, .func (.func 51) #[] #[.pointer (some ⟨B, 0, none⟩)]] w fun e w' => e = .returned (.bool (l0.any p)) ∧ Below w.heap.size w w' := by
  have hcall := impl_IsPuzzle.index A0 c0 l0 B w p hr0 hc
  clear hr0 hc
  go_enter Try.func50, Try.ntmps50
  go_wp2_with (go_at_call 62; refine hcall.mono ?_; rintro e w' ⟨⟨i, rfl, hi⟩, hb⟩; have HI := Aside0.mk hi; have HB := Aside0.mk hb; clear hi hb)
  go_ret
  refine ⟨?_, HB.out⟩
  rw [← HI.out]
  rfl

set_option maxHeartbeats 2000000 in
theorem impl_IsPuzzle.calls (a0_0 : Int) (A0_1 : Option Addr) (c0_1 : Nat) (l0_1 : List (S42)) (r : Bool) (w : World) (hr0_1 : Kd.C k42 w A0_1 l0_1.length l0_1) (hc0_1 : l0_1.length ≤ c0_1) (h : impl_IsPuzzle.f a0_0 l0_1 = some r) :
    Calls Try.prog 26 #[.agg #[.int .i64 a0_0, .slice A0_1 l0_1.length c0_1]] w fun e w' => e = .returned (.bool r) ∧ Below w.heap.size w w' := by
  have hu := Try.underlying42
  have hu2 := Try.underlying52
  have hmf : ∀ (fn : Fn) (first cap : Array Value) (w : World), (Instr.makeFunc fn first cap).run Try.prog w = .ok (.func fn first cap) w := fun _ _ _ _ => rfl
  have HR0 := Aside0.mk hr0_1
  have HH := Aside0.mk (Option.some.inj h)
  clear hr0_1 hc0_1 h
  have hw := okW_within 2 4 a0_0
  cases hq : okW 2 4 a0_0 with
  | false =>
    rw [hq] at hw
    have HQ := Aside0.mk hq
    have HW := Aside0.mk hw
    clear hq hw
    go_enter Try.func26, Try.ntmps26
    go_wp2_with (go_at_call 41; refine (impl_within.calls a0_0 2 4 false _ HW.out).mono ?_; rintro e w' ⟨rfl, ⟨nd, rfl⟩⟩)
    go_ret
    refine ⟨?_, by repeat (first | exact Below.refl _ _ | apply below_alloc | apply pw_below_drewN)⟩
    rw [← HH.out, HQ.out]
    rfl
  | true =>
    rw [hq] at hw
    have HQ := Aside0.mk hq
    have HW := Aside0.mk hw
    clear hq hw
    by_cases h6 : (l0_1.length : Int) ≤ 6
    · have h6b : decide ((l0_1.length : Int) ≤ 6) = true := decide_eq_true h6
      have h6n : decide (l0_1.length ≤ 6) = true := decide_eq_true (by omega)
      go_enter Try.func26, Try.ntmps26
      go_wp2_with (first | (go_at_call 41; refine (impl_within.calls a0_0 2 4 true _ HW.out).mono ?_; rintro e w' ⟨rfl, ⟨nd, rfl⟩⟩) | (go_at_call 50; refine (impl_IsPuzzle.contains A0_1 c0_1 l0_1 w.heap.size _ (fun x => !(okClue a0_0 x)) (Kd.C_below HR0.out (by repeat (first | exact Below.refl _ _ | apply below_alloc | apply pw_below_drewN))) (fun W hW x => impl_IsPuzzle.closure x a0_0 w.heap.size W ((hW.cell (by simp)).trans (by simp)))).mono ?_; rintro e w' ⟨rfl, hb⟩; have HB := Aside0.mk hb; clear hb))
      go_ret
      refine ⟨?_, (by repeat (first | exact Below.refl _ _ | apply below_alloc | apply pw_below_drewN) : Below w.heap.size w _).trans (HB.out.mono (by simp))⟩
      rw [← HH.out, HQ.out, Bool.true_and, h6b, Bool.true_and, all_any]
      rfl
    · have h6b : decide ((l0_1.length : Int) ≤ 6) = false := decide_eq_false h6
      have h6n : decide (l0_1.length ≤ 6) = false := decide_eq_false (by omega)
      go_enter Try.func26, Try.ntmps26
      go_wp2_with (first | (go_at_call 41; refine (impl_within.calls a0_0 2 4 true _ HW.out).mono ?_; rintro e w' ⟨rfl, ⟨nd, rfl⟩⟩))
      go_ret
      refine ⟨?_, by repeat (first | exact Below.refl _ _ | apply below_alloc | apply pw_below_drewN)⟩
      rw [← HH.out, HQ.out, Bool.true_and, h6b, Bool.false_and]
      rfl

end Go.Proofs.Ytmmecijhdpioaaa.Q

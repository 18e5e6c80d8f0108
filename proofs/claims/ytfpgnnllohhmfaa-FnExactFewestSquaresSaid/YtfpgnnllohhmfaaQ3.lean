-- Written by the session's program wip/myprint.py (over the kit's print); the given parts by hand.
import Derived.Test.YtfpgnnllohhmfaaQ0
import Derived.Test.YtfpgnnllohhmfaaQ1
import Derived.Test.YtfpgnnllohhmfaaQ2
namespace Go.Proofs.Ytfpgnnllohhmfaa.Q
open Go.RowKit Go.Proofs.YtfpgnnllohhmfaaW.PrintWords Go.Proofs.YtfpgnnllohhmfaaW.PrintLast Go.Proofs.YtfpgnnllohhmfaaW.PrintMore
attribute [local go_sem] max2_int min2_int max_two min_two max_three min_three max_four min_four   -- for this text's walks alone
set_option linter.unusedVariables false
set_option linter.unusedSimpArgs false

/-! ### spec_FewestSquares: function 25 -/
def spec_FewestSquares.f (k : Nat) (a0 : Int) (a1 : Int) : Option (Int × Bool) := (spec_bdGood.f a0 a1).bind fun t125 => (if t125 = true then ((spec_bdSquares.f k a0 a1).bind fun t126 => (if 0 ≤ a0 then (if a0 < (t126.length : Int) then (if 0 ≤ a1 then (if a1 < ((rd_L1 t126 a0).length : Int) then (some (rd (rd_L1 t126 a0) a1, true)) else (none)) else (none)) else (none)) else (none))) else (some (0, false)))
theorem spec_FewestSquares.mono : ∀ a0 a1 k, LeO (spec_FewestSquares.f k a0 a1) (spec_FewestSquares.f (k + 1) a0 a1) := by
  intro a0 a1 k
  unfold spec_FewestSquares.f
  repeat' first
      | (with_reducible exact spec_bdSquares.mono _ _ _)
      | (with_reducible exact LeO.refl _)
      | (with_reducible exact LeO.none _)
      | (with_reducible refine LeO.ite ?_ ?_)
      | (with_reducible refine LeO.bind ?_ (fun _ => ?_))
      | exact spec_bdSquares.mono _ _ _
      | exact LeO.none _
      | refine LeO.ite ?_ ?_
      | refine LeO.bind ?_ (fun _ => ?_)
set_option maxHeartbeats 8000000 in
set_option maxRecDepth 100000 in
theorem spec_FewestSquares.calls (k : Nat) (a0 : Int) (a1 : Int) (r1 : Int) (r2 : Bool) (w : World) (h : spec_FewestSquares.f k a0 a1 = some (r1, r2)) :
    Calls Try.prog 25 #[.int .i64 a0, .int .i64 a1] w fun e w' => e = .returned (.tuple #[.int .i64 r1, .bool r2]) ∧ Below w.heap.size w w' := by
  have HB := Aside0.mk (Below.refl w.heap.size w)
  have H : ((spec_bdGood.f a0 a1).bind fun t125 => (if t125 = true then ((spec_bdSquares.f k a0 a1).bind fun t126 => (if 0 ≤ a0 then (if a0 < (t126.length : Int) then (if 0 ≤ a1 then (if a1 < ((rd_L1 t126 a0).length : Int) then (some (rd (rd_L1 t126 a0) a1, true)) else (none)) else (none)) else (none)) else (none))) else (some (0, false)))) = some (r1, r2) := h
  clear h
  replace H := Option.bind_eq_some_iff.mp H
  obtain ⟨t125, A30, H⟩ := H
  replace H : (if t125 = true then ((spec_bdSquares.f k a0 a1).bind fun t126 => (if 0 ≤ a0 then (if a0 < (t126.length : Int) then (if 0 ≤ a1 then (if a1 < ((rd_L1 t126 a0).length : Int) then (some (rd (rd_L1 t126 a0) a1, true)) else (none)) else (none)) else (none)) else (none))) else (some (0, false))) = some (r1, r2) := H
  have A3 := Aside0.mk A30
  clear A30
  by_cases c4 : t125 = true
  · subst c4
    have H1 : ((spec_bdSquares.f k a0 a1).bind fun t126 => (if 0 ≤ a0 then (if a0 < (t126.length : Int) then (if 0 ≤ a1 then (if a1 < ((rd_L1 t126 a0).length : Int) then (some (rd (rd_L1 t126 a0) a1, true)) else (none)) else (none)) else (none)) else (none))) = some (r1, r2) := by rw [if_pos rfl] at H; exact H
    clear H
    have H := H1
    clear H1
    replace H := Option.bind_eq_some_iff.mp H
    obtain ⟨t126, A50, H⟩ := H
    replace H : (if 0 ≤ a0 then (if a0 < (t126.length : Int) then (if 0 ≤ a1 then (if a1 < ((rd_L1 t126 a0).length : Int) then (some (rd (rd_L1 t126 a0) a1, true)) else (none)) else (none)) else (none)) else (none)) = some (r1, r2) := H
    have A5 := Aside0.mk A50
    clear A50
    by_cases c6 : 0 ≤ a0
    · rw [if_pos c6] at H
      have c6b0 : decide (0 ≤ a0) = true := decide_eq_true c6
      clear c6
      by_cases c7 : a0 < (t126.length : Int)
      · rw [if_pos c7] at H
        have c7b0 : decide (a0 < (t126.length : Int)) = true := decide_eq_true c7
        clear c7
        by_cases c8 : 0 ≤ a1
        · rw [if_pos c8] at H
          have c8b0 : decide (0 ≤ a1) = true := decide_eq_true c8
          clear c8
          by_cases c9 : a1 < ((rd_L1 t126 a0).length : Int)
          · rw [if_pos c9] at H
            have c9b0 : decide (a1 < ((rd_L1 t126 a0).length : Int)) = true := decide_eq_true c9
            clear c9
            simp only [Option.some.injEq, Prod.mk.injEq] at H
            obtain ⟨rfl, rfl⟩ := H
            go_enter Try.func25, Try.ntmps25
            go_wp2_with (first | ((with_reducible refine gate_callee (f := 58) rfl ?_); refine goesL_ (some 8) rfl rfl Try.func58 (by kernel_rfl) rfl #[.int .i64 a0, .int .i64 a1] rfl (by (try simp only [List.map_toArray, List.map_cons, List.map_nil]); first | done | rfl | (simp only [List.length_drop, List.length_take]; rfl)) ?_; (with_reducible refine (spec_bdGood.calls a0 a1 true _ A3.out).mono ?_); rintro e w' ⟨rfl, ⟨nd, rfl⟩⟩; refine ⟨_, rfl, ?_⟩) | ((with_reducible refine gate_callee (f := 59) rfl ?_); refine goesL_ (some 12) rfl rfl Try.func59 (by kernel_rfl) rfl #[.int .i64 a0, .int .i64 a1] rfl (by (try simp only [List.map_toArray, List.map_cons, List.map_nil]); first | done | rfl | (simp only [List.length_drop, List.length_take]; rfl)) ?_; (with_reducible refine (spec_bdSquares.calls k a0 a1 t126 _ A5.out).mono ?_); rintro e w10 ⟨v127, rfl, ho0, hb⟩; refine ⟨_, rfl, ?_⟩; have n0_ := Aside0.mk (Kd.S_lower ho0 (below_size (by repeat (first | (with_reducible first | exact HB.out | apply below_alloc | apply pw_below_drewN | apply below_drew1) | exact HB.out)))); have n1_ := Aside0.mk (below_step (by repeat (first | (with_reducible first | exact HB.out | apply below_alloc | apply pw_below_drewN | apply below_drew1) | exact HB.out)) hb); clear HB; have HO128 := n0_; have HB := n1_; clear n0_ n1_; (try clear hb); (try clear hb2); (try clear hk); (try clear hi); (try clear ho0); obtain ⟨Ao11, co11, eo11⟩ := Kd.S_slice HO128.out; subst eo11; have p129 : 0 ≤ (a0 : Int) := of_decide_eq_true (by first | (with_reducible assumption) | assumption); have q129 : a0 < (t126.length : Int) := of_decide_eq_true (by first | (with_reducible assumption) | assumption); obtain ⟨ad129, A129_0, c129_0, e129, hx129_0, hl129_0, hi129_0⟩ := at_L1 (Kd.S_reads' HO128.out).2.2 a0 p129 q129; cases e129; obtain ⟨ce129, hce129, hMe129, hcc129⟩ := Kd.S_get HO128.out [] a0 p129 (by first | exact q129 | exact of_decide_eq_true (by first | (with_reducible assumption) | assumption) | (have e_ := (Kd.S_reads' HO128.out).1; omega)); obtain ⟨ve129_0, rfl, ge129_0⟩ := hMe129; have hv129_0 := hcc129 0 _ rfl; rw [Nat.add_zero, show ((Kd.slice 3 (Kd.int .i64))).sz = 1 from rfl, Nat.mul_one] at hv129_0; replace hv129_0 := Option.some.inj (hv129_0.symm.trans hx129_0); rw [hv129_0] at ge129_0; have HL129_0 := Aside0.mk (show Kd.R (Kd.int .i64) 3 _ _ _ _ (rd_L1 t126 a0) from ge129_0); clear hv129_0 ge129_0; clear hcc129 hce129; have HR129_0 := Aside0.mk hi129_0; have HC129_0 := Aside0.mk hl129_0; clear hi129_0 hl129_0; replace p129 := eq_true p129; replace q129 := eq_true q129; have p130 : 0 ≤ (a1 : Int) := of_decide_eq_true (by first | (with_reducible assumption) | assumption); have q130 : a1 < ((rd_L1 t126 a0).length : Int) := of_decide_eq_true (by first | (with_reducible assumption) | assumption); obtain ⟨ad130, e130, hx130_0⟩ := Kd.at_int (by repeat (first | (with_reducible exact HR129_0.out) | (with_reducible refine Kd.C_alloc ?_ _) | (with_reducible refine Kd.C_drewN ?_ _) | (with_reducible refine Kd.C_drew ?_) | exact HR129_0.out)) a1 p130 q130; cases e130; replace p130 := eq_true p130; replace q130 := eq_true q130))
            go_ret2
            exact ⟨by first | rfl | (simp [errW_none, errW_some] <;> rfl) | (simp [*, errW_none, errW_some] <;> rfl), by repeat (first | (with_reducible first | exact HB.out | apply below_alloc | apply pw_below_drewN | apply below_drew1) | exact HB.out)⟩
          · rw [if_neg c9] at H
            exact absurd H (by simp)
        · rw [if_neg c8] at H
          exact absurd H (by simp)
      · rw [if_neg c7] at H
        exact absurd H (by simp)
    · rw [if_neg c6] at H
      exact absurd H (by simp)
  · replace c4 := Bool.eq_false_iff.mpr c4
    subst c4
    have H1 : (some (0, false)) = some (r1, r2) := by rw [if_neg (show ¬ (false = true) by decide)] at H; exact H
    clear H
    have H := H1
    clear H1
    simp only [Option.some.injEq, Prod.mk.injEq] at H
    obtain ⟨rfl, rfl⟩ := H
    go_enter Try.func25, Try.ntmps25
    go_wp2_with (first | ((with_reducible refine gate_callee (f := 58) rfl ?_); refine goesL_ (some 8) rfl rfl Try.func58 (by kernel_rfl) rfl #[.int .i64 a0, .int .i64 a1] rfl (by (try simp only [List.map_toArray, List.map_cons, List.map_nil]); first | done | rfl | (simp only [List.length_drop, List.length_take]; rfl)) ?_; (with_reducible refine (spec_bdGood.calls a0 a1 false _ A3.out).mono ?_); rintro e w' ⟨rfl, ⟨nd, rfl⟩⟩; refine ⟨_, rfl, ?_⟩))
    go_ret2
    exact ⟨by first | rfl | (simp [errW_none, errW_some] <;> rfl) | (simp [*, errW_none, errW_some] <;> rfl), by repeat (first | (with_reducible first | exact HB.out | apply below_alloc | apply pw_below_drewN | apply below_drew1) | exact HB.out)⟩

/-! ### impl_within: function 52 -/
def impl_within.f (a0 : Int) (a1 : Int) (a2 : Int) : Option (Bool) := if a1 ≤ a0 then (some (decide (a0 ≤ a2))) else (some false)
set_option maxHeartbeats 8000000 in
set_option maxRecDepth 100000 in
theorem impl_within.calls (a0 : Int) (a1 : Int) (a2 : Int) (r : Bool) (w : World) (h : impl_within.f a0 a1 a2 = some r) :
    Calls Try.prog 52 #[.int .i64 a0, .int .i64 a1, .int .i64 a2] w fun e w' => e = .returned (.bool r) ∧ Drawn0 w w' := by
  have H : (if a1 ≤ a0 then (some (decide (a0 ≤ a2))) else (some false)) = some r := h
  clear h
  by_cases c4 : a1 ≤ a0
  · rw [if_pos c4] at H
    have c4b0 : decide (a1 ≤ a0) = true := decide_eq_true c4
    clear c4
    obtain rfl := Option.some.inj H
    go_enter Try.func52, Try.ntmps52
    go_wp2
    go_ret
    exact ⟨by first | rfl | (simp; done) | (simp [*]; done), by repeat (first | exact Drawn0.refl _ | apply Drawn0.step)⟩
  · rw [if_neg c4] at H
    have c4b0 : decide (a1 ≤ a0) = false := decide_eq_false c4
    clear c4
    obtain rfl := Option.some.inj H
    go_enter Try.func52, Try.ntmps52
    go_wp2
    go_ret
    exact ⟨by first | rfl | (simp; done) | (simp [*]; done), by repeat (first | exact Drawn0.refl _ | apply Drawn0.step)⟩

/-! ### what 'within' says, by hand -/
theorem all_any {α : Type} (l : List α) (p : α → Bool) : l.all p = !(l.any fun x => !(p x)) := by
  induction l with
  | nil => rfl
  | cons a l ih => simp only [List.all_cons, List.any_cons, ih, Bool.not_or, Bool.not_not]
def okW (a1 a2 x : Int) : Bool := decide (a1 ≤ x) && decide (x ≤ a2)
theorem okW_within (a1 a2 x : Int) : impl_within.f x a1 a2 = some (okW a1 a2 x) := by
  unfold impl_within.f okW
  by_cases h : a1 ≤ x
  · simp [h]
  · simp [h]

/-! ### impl_isBoard: function 55 -/
def impl_isBoard.f (a0 : Int) (a1 : Int) : Option (Bool) := (impl_within.f a0 1 24).bind fun t131 => (if t131 = true then ((impl_within.f a1 1 24).bind fun t132 => (some t132)) else (some false))
set_option maxHeartbeats 8000000 in
set_option maxRecDepth 100000 in
theorem impl_isBoard.calls (a0 : Int) (a1 : Int) (r : Bool) (w : World) (h : impl_isBoard.f a0 a1 = some r) :
    Calls Try.prog 55 #[.int .i64 a0, .int .i64 a1] w fun e w' => e = .returned (.bool r) ∧ Drawn0 w w' := by
  have H : ((impl_within.f a0 1 24).bind fun t131 => (if t131 = true then ((impl_within.f a1 1 24).bind fun t132 => (some t132)) else (some false))) = some r := h
  clear h
  replace H := Option.bind_eq_some_iff.mp H
  obtain ⟨t131, A30, H⟩ := H
  replace H : (if t131 = true then ((impl_within.f a1 1 24).bind fun t132 => (some t132)) else (some false)) = some r := H
  have A3 := Aside0.mk A30
  clear A30
  by_cases c4 : t131 = true
  · subst c4
    have H1 : ((impl_within.f a1 1 24).bind fun t132 => (some t132)) = some r := by rw [if_pos rfl] at H; exact H
    clear H
    have H := H1
    clear H1
    replace H := Option.bind_eq_some_iff.mp H
    obtain ⟨t132, A50, H⟩ := H
    replace H : (some t132) = some r := H
    have A5 := Aside0.mk A50
    clear A50
    obtain rfl := Option.some.inj H
    go_enter Try.func55, Try.ntmps55
    go_wp2_with (first | ((with_reducible refine gate_callee (f := 52) rfl ?_); refine goesL_ (some 6) rfl rfl Try.func52 (by kernel_rfl) rfl #[.int .i64 a0, .int .i64 1, .int .i64 24] rfl (by (try simp only [List.map_toArray, List.map_cons, List.map_nil]); first | done | rfl | (simp only [List.length_drop, List.length_take]; rfl)) ?_; (with_reducible refine (impl_within.calls a0 1 24 true _ A3.out).mono ?_); rintro e w' ⟨rfl, ⟨nd, rfl⟩⟩; refine ⟨_, rfl, ?_⟩) | (go_at_call 52; (with_reducible refine (impl_within.calls a1 1 24 t132 _ A5.out).mono ?_); rintro e w' ⟨rfl, ⟨nd, rfl⟩⟩))
    go_ret
    exact ⟨by first | rfl | (simp; done) | (simp [*]; done), by repeat (first | exact Drawn0.refl _ | apply Drawn0.step)⟩
  · replace c4 := Bool.eq_false_iff.mpr c4
    subst c4
    have H1 : (some false) = some r := by rw [if_neg (show ¬ (false = true) by decide)] at H; exact H
    clear H
    have H := H1
    clear H1
    obtain rfl := Option.some.inj H
    go_enter Try.func55, Try.ntmps55
    go_wp2_with (first | ((with_reducible refine gate_callee (f := 52) rfl ?_); refine goesL_ (some 6) rfl rfl Try.func52 (by kernel_rfl) rfl #[.int .i64 a0, .int .i64 1, .int .i64 24] rfl (by (try simp only [List.map_toArray, List.map_cons, List.map_nil]); first | done | rfl | (simp only [List.length_drop, List.length_take]; rfl)) ?_; (with_reducible refine (impl_within.calls a0 1 24 false _ A3.out).mono ?_); rintro e w' ⟨rfl, ⟨nd, rfl⟩⟩; refine ⟨_, rfl, ?_⟩))
    go_ret
    exact ⟨by first | rfl | (simp; done) | (simp [*]; done), by repeat (first | exact Drawn0.refl _ | apply Drawn0.step)⟩

/-! ### impl_board_cuts: function 64 -/
mutual
def impl_board_cuts.j1 : Nat → Int → List (S63) → Int → Int → Option ((List (S63)))
  | 0, _, _, _, _ => none
  | k + 1, x1, x5, x134000, x134001 => impl_board_cuts.l1 k x1 x5 1 x134000 x134001
def impl_board_cuts.l1 : Nat → Int → List (S63) → Int → Int → Int → Option ((List (S63)))
  | 0, _, _, _, _, _ => none
  | k + 1, x1, x5, x7, x134000, x134001 => if x7 < x134001 then (if (wrap64 (x7 * x1)) ≤ x134001 then (if x5.length < 8796093022208 then (impl_board_cuts.l1 k x1 (x5 ++ [(⟨false, x7⟩ : S63)]) (wrap64 (x7 + 1)) x134000 x134001) else (none)) else (some x5)) else (some x5)
def impl_board_cuts.l0 : Nat → Int → List (S63) → Int → Int → Int → Option ((List (S63)))
  | 0, _, _, _, _, _ => none
  | k + 1, x1, x5, x6, x134000, x134001 => if x6 < x134000 then (if (wrap64 (x6 * x1)) ≤ x134000 then (if x5.length < 8796093022208 then (impl_board_cuts.l0 k x1 (x5 ++ [(⟨true, x6⟩ : S63)]) (wrap64 (x6 + 1)) x134000 x134001) else (none)) else (impl_board_cuts.j1 k x1 x5 x134000 x134001)) else (impl_board_cuts.j1 k x1 x5 x134000 x134001)
end
def impl_board_cuts.f (k : Nat) (a0_0 : Int) (a0_1 : Int) (a1 : Int) : Option ((List (S63))) := impl_board_cuts.l0 k a1 (([] : List (S63))) 1 a0_0 a0_1
theorem impl_board_cuts.mono_l : ∀ k, (∀ y0 y1 y2 y3, LeO (impl_board_cuts.j1 k y0 y1 y2 y3) (impl_board_cuts.j1 (k + 1) y0 y1 y2 y3)) ∧ (∀ y0 y1 y2 y3 y4, LeO (impl_board_cuts.l1 k y0 y1 y2 y3 y4) (impl_board_cuts.l1 (k + 1) y0 y1 y2 y3 y4)) ∧ (∀ y0 y1 y2 y3 y4, LeO (impl_board_cuts.l0 k y0 y1 y2 y3 y4) (impl_board_cuts.l0 (k + 1) y0 y1 y2 y3 y4))
  | 0 => ⟨fun _ _ _ _ r h => by simp [impl_board_cuts.j1] at h, fun _ _ _ _ _ r h => by simp [impl_board_cuts.l1] at h, fun _ _ _ _ _ r h => by simp [impl_board_cuts.l0] at h⟩
  | k + 1 => by
    obtain ⟨ih0, ih1, ih2⟩ := impl_board_cuts.mono_l k
    refine ⟨?_, ?_, ?_⟩
    · intro y0 y1 y2 y3
      unfold impl_board_cuts.j1
      repeat' first
      | (with_reducible exact ih0 _ _ _ _)
      | (with_reducible exact ih1 _ _ _ _ _)
      | (with_reducible exact ih2 _ _ _ _ _)
      | (with_reducible exact LeO.refl _)
      | (with_reducible exact LeO.none _)
      | (with_reducible refine LeO.ite ?_ ?_)
      | (with_reducible refine LeO.bind ?_ (fun _ => ?_))
      | exact ih0 _ _ _ _
      | exact ih1 _ _ _ _ _
      | exact ih2 _ _ _ _ _
      | exact LeO.none _
      | refine LeO.ite ?_ ?_
      | refine LeO.bind ?_ (fun _ => ?_)
    · intro y0 y1 y2 y3 y4
      unfold impl_board_cuts.l1
      repeat' first
      | (with_reducible exact ih0 _ _ _ _)
      | (with_reducible exact ih1 _ _ _ _ _)
      | (with_reducible exact ih2 _ _ _ _ _)
      | (with_reducible exact LeO.refl _)
      | (with_reducible exact LeO.none _)
      | (with_reducible refine LeO.ite ?_ ?_)
      | (with_reducible refine LeO.bind ?_ (fun _ => ?_))
      | exact ih0 _ _ _ _
      | exact ih1 _ _ _ _ _
      | exact ih2 _ _ _ _ _
      | exact LeO.none _
      | refine LeO.ite ?_ ?_
      | refine LeO.bind ?_ (fun _ => ?_)
    · intro y0 y1 y2 y3 y4
      unfold impl_board_cuts.l0
      repeat' first
      | (with_reducible exact ih0 _ _ _ _)
      | (with_reducible exact ih1 _ _ _ _ _)
      | (with_reducible exact ih2 _ _ _ _ _)
      | (with_reducible exact LeO.refl _)
      | (with_reducible exact LeO.none _)
      | (with_reducible refine LeO.ite ?_ ?_)
      | (with_reducible refine LeO.bind ?_ (fun _ => ?_))
      | exact ih0 _ _ _ _
      | exact ih1 _ _ _ _ _
      | exact ih2 _ _ _ _ _
      | exact LeO.none _
      | refine LeO.ite ?_ ?_
      | refine LeO.bind ?_ (fun _ => ?_)
theorem impl_board_cuts.mono : ∀ a0 a1 a2 k, LeO (impl_board_cuts.f k a0 a1 a2) (impl_board_cuts.f (k + 1) a0 a1 a2) := by
  intro a0 a1 a2 k
  obtain ⟨ih0, ih1, ih2⟩ := impl_board_cuts.mono_l k
  unfold impl_board_cuts.f
  repeat' first
      | (with_reducible exact ih0 _ _ _ _)
      | (with_reducible exact ih1 _ _ _ _ _)
      | (with_reducible exact ih2 _ _ _ _ _)
      | (with_reducible exact LeO.refl _)
      | (with_reducible exact LeO.none _)
      | (with_reducible refine LeO.ite ?_ ?_)
      | (with_reducible refine LeO.bind ?_ (fun _ => ?_))
      | exact ih0 _ _ _ _
      | exact ih1 _ _ _ _ _
      | exact ih2 _ _ _ _ _
      | exact LeO.none _
      | refine LeO.ite ?_ ?_
      | refine LeO.bind ?_ (fun _ => ?_)
set_option maxHeartbeats 8000000 in
set_option maxRecDepth 100000 in
theorem impl_board_cuts.calls (k : Nat) (a0_0 : Int) (a0_1 : Int) (a1 : Int) (r : List (S63)) (w : World) (h : impl_board_cuts.f k a0_0 a0_1 a1 = some r) :
    Calls Try.prog 64 #[.agg #[.int .i64 a0_0, .int .i64 a0_1], .int .i64 a1] w fun e w' => ∃ v0_ : Value, e = .returned (v0_) ∧ Kd.R k63 63 w' w.heap.size (fun _ => True) v0_ r ∧ Below w.heap.size w w' := by
  have hu69 := Try.underlying69
  have hu63 := Try.underlying63
  have HB := Aside0.mk (Below.refl w.heap.size w)
  have H : (impl_board_cuts.l0 k a1 (([] : List (S63))) 1 a0_0 a0_1) = some r := h
  clear h
  obtain ⟨y134, hy134⟩ : ∃ y_ : List (S63), y_ = (([] : List (S63))) := ⟨_, rfl⟩
  replace H : (impl_board_cuts.l0 k a1 y134 1 a0_0 a0_1) = some r := by first | (rw [hy134]; with_reducible exact H) | (have H2_ := (Option.bind_some _ _).symm.trans H; rw [hy134]; with_reducible exact H2_) | (have H2_ := (Option.bind_some _ _).symm.trans H; with_reducible exact H2_) | with_reducible exact H | (rw [hy134]; exact H) | exact H
  have Ny134 := Aside0.mk hy134
  clear hy134
  have HC3 := Aside0.mk H
  clear H
  go_enter Try.func64, Try.ntmps64
  go_upto_block 0 with (first | ((with_reducible refine gate_dst (N := 2) rfl ?_); refine box_event ?hg (N := 2) ?hd (cs := #[.int .i64 a0_0, .int .i64 a0_1]) (t := 69) ?hr ?_; (case hd => rfl); (case hg => rfl); (case hr => first | (go_simp; done) | (go_simp; rfl)); intro gb133 hg w4 hbox hb; have n0_ := Aside0.mk (below_step (by repeat (first | (with_reducible first | exact HB.out | apply below_alloc | apply pw_below_drewN | apply below_drew1) | exact HB.out)) hb); have n1_ := Aside0.mk (hbox); have n2_ := Aside0.mk ((by rw [hg]; exact (below_size (by repeat (first | (with_reducible first | exact HB.out | apply below_alloc | apply pw_below_drewN | apply below_drew1) | exact HB.out))) : w.heap.size ≤ gb133)); have n3_ := Aside0.mk ((by rw [hg]; exact (below_size (by repeat (first | (with_reducible first | exact HB.out | apply below_alloc | apply pw_below_drewN | apply below_drew1) | exact HB.out))) : w.heap.size ≤ gb133)); clear HB; have HB := n0_; have BK133 := n1_; have GW133 := n2_; have GE133 := n3_; clear n0_ n1_ n2_ n3_; clear hb hbox hg) | ((with_reducible refine gate_dst (N := 8) rfl ?_); refine Kd.R_lit k63 _ 63 ?hg (N := 8) ?hd (xs := ([] : List (S63))) (inner := []) (ok := fun _ => True) (okp := fun _ => True) ?hr ?hp (fun _ hk => hk) trivial (Below.refl _ _) (Nat.le_refl _) (by simp) ?_; (case hd => rfl); (case hg => rfl); (case hr => first | (go_simp; done) | (go_simp; rfl)); (case hp => exact (Reps.none _ _)); intro v135 w5 ho6 hb hg_ hnew_; clear hg_ hnew_; (first | rw [← Ny134.out] at ho6 | (simp only [Int.reduceToNat] at ho6; rw [← Ny134.out] at ho6)); have n0_ := Aside0.mk (Kd.R_lower ho6 (below_size (by repeat (first | (with_reducible first | exact HB.out | apply below_alloc | apply pw_below_drewN | apply below_drew1 | refine below_set ?_ GE133.out) | exact HB.out)))); have n1_ := Aside0.mk (blk_below (g := gb133) (o := .cells #[.int .i64 a0_0, .int .i64 a0_1] 69 (0, 0)) (by (with_reducible repeat (first | refine blk_drewN ?_ _ | refine blk_drew ?_ | refine blk_alloc ?_ _)); exact BK133.out) hb); have n2_ := Aside0.mk (below_step (by repeat (first | (with_reducible first | exact HB.out | apply below_alloc | apply pw_below_drewN | apply below_drew1 | refine below_set ?_ GE133.out) | exact HB.out)) hb); clear BK133; clear HB; have HO136 := n0_; have BK133 := n1_; have HB := n2_; clear n0_ n1_ n2_; clear hb ho6))
  (try simp only [Act.put, List.setIfInBounds_toArray, List.set_cons_zero, List.set_cons_succ])
  go_cut [5] (fun v5 wc => ∃ (kq : Nat) (x5_2 : List (S63)), Aside0 (impl_board_cuts.j1 kq a1 x5_2 a0_0 a0_1 = some r) ∧ Aside0 (kq ≤ k) ∧ Aside0 (Kd.R k63 63 wc w.heap.size (fun _ => True) v5 x5_2) ∧ Aside0 (wc.heap[gb133]? = some (.cells #[.int .i64 a0_0, .int .i64 a0_1] 69 (0, 0))) ∧ Aside0 (Below w.heap.size w wc))
  case first =>
    have H := HC3.out
    clear HC3
    have H' := Aside0.mk H
    clear H
    go_wp2
    go_loopg [5, 6] k (fun kq v5 v6 w' => ∃ (x5_1 : List (S63)) (x6_1 : Int), v6 = .int .i64 x6_1 ∧ Aside0 (impl_board_cuts.l0 kq a1 x5_1 x6_1 a0_0 a0_1 = some r) ∧ Aside0 (kq ≤ k) ∧ Aside0 (Kd.R k63 63 w' w.heap.size (fun _ => True) v5 x5_1) ∧ Aside0 (w'.heap[gb133]? = some (.cells #[.int .i64 a0_0, .int .i64 a0_1] 69 (0, 0))) ∧ Aside0 (Below w.heap.size w w'))
    case atStart => exact ⟨(y134), (1), (by first | rfl | (simp; done) | (simp [*]; done)), H', ⟨Nat.le_refl _⟩, ⟨by (with_reducible repeat (first | apply Kd.R_alloc | apply Kd.R_drewN | apply Kd.R_drew)); exact HO136.out⟩, ⟨by (with_reducible repeat (first | refine blk_drewN ?_ _ | refine blk_drew ?_ | refine blk_alloc ?_ _)); exact BK133.out⟩, ⟨by repeat (first | (with_reducible first | exact HB.out | apply below_alloc | apply pw_below_drewN | apply below_drew1 | refine below_set ?_ GE133.out) | exact HB.out)⟩⟩
    case round =>
      clear H'
      try clear p2
      try clear c6
      obtain ⟨x5_1, x6_1, rfl, HA, HK1, HO_5, BK133, HB⟩ := hrel
      cases gk with
      | zero => exact absurd HA.out (by simp [impl_board_cuts.l0])
      | succ k1 =>
        have H := HA.out
        clear HA
        simp only [impl_board_cuts.l0] at H
        by_cases c7 : x6_1 < a0_0
        · rw [if_pos c7] at H
          have c7b0 : decide (x6_1 < a0_0) = true := decide_eq_true c7
          clear c7
          (first | rw [c7b0] | (simp only [i64_w, i32_w]; rw [c7b0]) | skip)
          by_cases c8 : (wrap64 (x6_1 * a1)) ≤ a0_0
          · rw [if_pos c8] at H
            have c8b0 : decide ((wrap64 (x6_1 * a1)) ≤ a0_0) = true := decide_eq_true c8
            clear c8
            by_cases c9 : x5_1.length < 8796093022208
            · rw [if_pos c9] at H
              have LMc9 := Aside0.mk c9
              clear c9
              obtain ⟨y137, hy137⟩ : ∃ y_ : List (S63), y_ = (x5_1 ++ [(⟨true, x6_1⟩ : S63)]) := ⟨_, rfl⟩
              replace H : (impl_board_cuts.l0 k1 a1 y137 (wrap64 (x6_1 + 1)) a0_0 a0_1) = some r := by first | (rw [hy137]; with_reducible exact H) | (have H2_ := (Option.bind_some _ _).symm.trans H; rw [hy137]; with_reducible exact H2_) | (have H2_ := (Option.bind_some _ _).symm.trans H; with_reducible exact H2_) | with_reducible exact H | (rw [hy137]; exact H) | exact H
              have Ny137 := Aside0.mk hy137
              clear hy137
              have H' := Aside0.mk H
              clear H
              have hcz10_0 : wr.cell? ⟨gb133, 0, none⟩ = some (.int .i64 a0_0) := (blk_cell BK133.out 0).trans rfl
              have hcz10_1 : wr.cell? ⟨gb133, 1, none⟩ = some (.int .i64 a0_1) := (blk_cell BK133.out 1).trans rfl
              have hfz10_0 := blk_frozen BK133.out 0
              have hfz10_1 := blk_frozen BK133.out 1
              go_wp2_with (first | ((with_reducible refine gate_builtin (b := .append) (xs := #[.tmp 23, .tmp 26]) rfl ?_); at_builtin; refine Kd.R_append k63 (w0 := w) w.heap.size rfl (.tmp 23) (.tmp 26) 73 63 (.agg #[(.bool false), (.int .i64 0)]) 16 rfl Try.underlying73 info63 rfl (by decide) (by omega) u5 x5_1 (⟨true, x6_1⟩ : S63) [.bool true, .int .i64 x6_1] (fun _ => True) (fun _ => False) rfl rfl ?aP (fun _ hk => hk.elim) ?aF ?aO ?aB ?aS ?aL ?_; (case aP => exact k63_mkM _ _ _ (⟨true, x6_1⟩ : S63)); (case aB => exact (by repeat (first | (with_reducible first | exact HB.out | apply below_alloc | apply pw_below_drewN | apply below_drew1 | refine below_set ?_ GE133.out) | exact HB.out))); (case aF => exact (fun _ _ => trivial)); (case aO => exact (by (with_reducible repeat (first | apply Kd.R_alloc | apply Kd.R_drewN | apply Kd.R_drew)); exact HO_5.out)); (case aS => exact (below_size (by repeat (first | (with_reducible first | exact HB.out | apply below_alloc | apply pw_below_drewN | apply below_drew1 | refine below_set ?_ GE133.out) | exact HB.out)))); (case aL => have := LMc9.out; omega); intro v138 w11 ho hb hg hat; rw [← Ny137.out] at ho; have n0_ := Aside0.mk (blk_grown (g := gb133) (o := .cells #[.int .i64 a0_0, .int .i64 a0_1] 69 (0, 0)) (by (with_reducible repeat (first | refine blk_drewN ?_ _ | refine blk_drew ?_ | refine blk_alloc ?_ _)); exact BK133.out) hg (Kd.R_ne HO_5.out BK133.out (by decide))); have n1_ := Aside0.mk (hb); have n2_ := Aside0.mk (ho); clear BK133; clear HB; clear HO_5; have BK133 := n0_; have HB := n1_; have HO139 := n2_; clear n0_ n1_ n2_; clear ho hb hg hat))
              go_roundg k1
              case measure => have := HK1.out; omega
              case rel => exact ⟨(y137), (wrap64 (x6_1 + 1)), (by first | rfl | (simp; done) | (simp [*]; done)), H', ⟨by have := HK1.out; omega⟩, ⟨by (with_reducible repeat (first | apply Kd.R_alloc | apply Kd.R_drewN | apply Kd.R_drew)); exact HO139.out⟩, ⟨by (with_reducible repeat (first | refine blk_drewN ?_ _ | refine blk_drew ?_ | refine blk_alloc ?_ _)); exact BK133.out⟩, ⟨by repeat (first | (with_reducible first | exact HB.out | apply below_alloc | apply pw_below_drewN | apply below_drew1 | refine below_set ?_ GE133.out) | exact HB.out)⟩⟩
            · rw [if_neg c9] at H
              exact absurd H (by simp)
          · rw [if_neg c8] at H
            have c8b0 : decide ((wrap64 (x6_1 * a1)) ≤ a0_0) = false := decide_eq_false c8
            clear c8
            have H' := Aside0.mk H
            clear H
            have hcz12_0 : wr.cell? ⟨gb133, 0, none⟩ = some (.int .i64 a0_0) := (blk_cell BK133.out 0).trans rfl
            have hcz12_1 : wr.cell? ⟨gb133, 1, none⟩ = some (.int .i64 a0_1) := (blk_cell BK133.out 1).trans rfl
            have hfz12_0 := blk_frozen BK133.out 0
            have hfz12_1 := blk_frozen BK133.out 1
            go_wp2
            go_meet
            case rel => exact ⟨_, (x5_1), H', ⟨by have := HK1.out; first | omega | exact Nat.le_refl _⟩, ⟨by (with_reducible repeat (first | apply Kd.R_alloc | apply Kd.R_drewN | apply Kd.R_drew)); exact HO_5.out⟩, ⟨by (with_reducible repeat (first | refine blk_drewN ?_ _ | refine blk_drew ?_ | refine blk_alloc ?_ _)); exact BK133.out⟩, ⟨by repeat (first | (with_reducible first | exact HB.out | apply below_alloc | apply pw_below_drewN | apply below_drew1 | refine below_set ?_ GE133.out) | exact HB.out)⟩⟩
        · rw [if_neg c7] at H
          have c7b0 : decide (x6_1 < a0_0) = false := decide_eq_false c7
          clear c7
          (first | rw [c7b0] | (simp only [i64_w, i32_w]; rw [c7b0]) | skip)
          have H' := Aside0.mk H
          clear H
          have hcz13_0 : wr.cell? ⟨gb133, 0, none⟩ = some (.int .i64 a0_0) := (blk_cell BK133.out 0).trans rfl
          have hcz13_1 : wr.cell? ⟨gb133, 1, none⟩ = some (.int .i64 a0_1) := (blk_cell BK133.out 1).trans rfl
          have hfz13_0 := blk_frozen BK133.out 0
          have hfz13_1 := blk_frozen BK133.out 1
          go_wp2
          go_meet
          case rel => exact ⟨_, (x5_1), H', ⟨by have := HK1.out; first | omega | exact Nat.le_refl _⟩, ⟨by (with_reducible repeat (first | apply Kd.R_alloc | apply Kd.R_drewN | apply Kd.R_drew)); exact HO_5.out⟩, ⟨by (with_reducible repeat (first | refine blk_drewN ?_ _ | refine blk_drew ?_ | refine blk_alloc ?_ _)); exact BK133.out⟩, ⟨by repeat (first | (with_reducible first | exact HB.out | apply below_alloc | apply pw_below_drewN | apply below_drew1 | refine below_set ?_ GE133.out) | exact HB.out)⟩⟩
  case rest =>
    clear HC3
    try clear p2
    try clear c6
    try clear p6
    try clear c7
    try clear c7b0
    try clear c8
    try clear c8b0
    try clear c9
    try clear hcz10_0
    try clear hcz10_1
    try clear hcz12_0
    try clear hcz12_1
    try clear hcz13_0
    try clear hcz13_1
    try clear hfz10_0
    try clear hfz10_1
    try clear hfz12_0
    try clear hfz12_1
    try clear hfz13_0
    try clear hfz13_1
    try clear p2
    obtain ⟨kq, x5_2, HA, HJ2, HO_5, BK133, HB⟩ := hcut
    cases kq with
    | zero => exact absurd HA.out (by simp [impl_board_cuts.j1])
    | succ kj2 =>
      have H := HA.out
      clear HA
      simp only [impl_board_cuts.j1] at H
      have H' := Aside0.mk H
      clear H
      go_wp2
      go_loopg [5, 7] kj2 (fun kq v5 v7 w' => ∃ (x5_2 : List (S63)) (x7_2 : Int), v7 = .int .i64 x7_2 ∧ Aside0 (impl_board_cuts.l1 kq a1 x5_2 x7_2 a0_0 a0_1 = some r) ∧ Aside0 (kq ≤ kj2) ∧ Aside0 (Kd.R k63 63 w' w.heap.size (fun _ => True) v5 x5_2) ∧ Aside0 (w'.heap[gb133]? = some (.cells #[.int .i64 a0_0, .int .i64 a0_1] 69 (0, 0))) ∧ Aside0 (Below w.heap.size w w'))
      case atStart => exact ⟨(x5_2), (1), (by first | rfl | (simp; done) | (simp [*]; done)), H', ⟨Nat.le_refl _⟩, ⟨by (with_reducible repeat (first | apply Kd.R_alloc | apply Kd.R_drewN | apply Kd.R_drew)); exact HO_5.out⟩, ⟨by (with_reducible repeat (first | refine blk_drewN ?_ _ | refine blk_drew ?_ | refine blk_alloc ?_ _)); exact BK133.out⟩, ⟨by repeat (first | (with_reducible first | exact HB.out | apply below_alloc | apply pw_below_drewN | apply below_drew1 | refine below_set ?_ GE133.out) | exact HB.out)⟩⟩
      case round =>
        clear H'
        try clear p2
        try clear c6
        try clear p6
        try clear c7
        try clear c7b0
        try clear c8
        try clear c8b0
        try clear c9
        try clear hcz10_0
        try clear hcz10_1
        try clear hcz12_0
        try clear hcz12_1
        try clear hcz13_0
        try clear hcz13_1
        try clear hfz10_0
        try clear hfz10_1
        try clear hfz12_0
        try clear hfz12_1
        try clear hfz13_0
        try clear hfz13_1
        try clear p2
        try clear p6
        obtain ⟨x5_2, x7_2, rfl, HA, HK2, HO_5, BK133, HB⟩ := hrel
        cases gk with
        | zero => exact absurd HA.out (by simp [impl_board_cuts.l1])
        | succ k2 =>
          have H := HA.out
          clear HA
          simp only [impl_board_cuts.l1] at H
          by_cases c14 : x7_2 < a0_1
          · rw [if_pos c14] at H
            have c14b0 : decide (x7_2 < a0_1) = true := decide_eq_true c14
            clear c14
            by_cases c15 : (wrap64 (x7_2 * a1)) ≤ a0_1
            · rw [if_pos c15] at H
              have c15b0 : decide ((wrap64 (x7_2 * a1)) ≤ a0_1) = true := decide_eq_true c15
              clear c15
              by_cases c16 : x5_2.length < 8796093022208
              · rw [if_pos c16] at H
                have LMc16 := Aside0.mk c16
                clear c16
                obtain ⟨y140, hy140⟩ : ∃ y_ : List (S63), y_ = (x5_2 ++ [(⟨false, x7_2⟩ : S63)]) := ⟨_, rfl⟩
                replace H : (impl_board_cuts.l1 k2 a1 y140 (wrap64 (x7_2 + 1)) a0_0 a0_1) = some r := by first | (rw [hy140]; with_reducible exact H) | (have H2_ := (Option.bind_some _ _).symm.trans H; rw [hy140]; with_reducible exact H2_) | (have H2_ := (Option.bind_some _ _).symm.trans H; with_reducible exact H2_) | with_reducible exact H | (rw [hy140]; exact H) | exact H
                have Ny140 := Aside0.mk hy140
                clear hy140
                have H' := Aside0.mk H
                clear H
                have hcz17_0 : wr.cell? ⟨gb133, 0, none⟩ = some (.int .i64 a0_0) := (blk_cell BK133.out 0).trans rfl
                have hcz17_1 : wr.cell? ⟨gb133, 1, none⟩ = some (.int .i64 a0_1) := (blk_cell BK133.out 1).trans rfl
                have hfz17_0 := blk_frozen BK133.out 0
                have hfz17_1 := blk_frozen BK133.out 1
                go_wp2_with (first | ((with_reducible refine gate_builtin (b := .append) (xs := #[.tmp 42, .tmp 45]) rfl ?_); at_builtin; refine Kd.R_append k63 (w0 := w) w.heap.size rfl (.tmp 42) (.tmp 45) 73 63 (.agg #[(.bool false), (.int .i64 0)]) 16 rfl Try.underlying73 info63 rfl (by decide) (by omega) u5 x5_2 (⟨false, x7_2⟩ : S63) [.bool false, .int .i64 x7_2] (fun _ => True) (fun _ => False) rfl rfl ?aP (fun _ hk => hk.elim) ?aF ?aO ?aB ?aS ?aL ?_; (case aP => exact k63_mkM _ _ _ (⟨false, x7_2⟩ : S63)); (case aB => exact (by repeat (first | (with_reducible first | exact HB.out | apply below_alloc | apply pw_below_drewN | apply below_drew1 | refine below_set ?_ GE133.out) | exact HB.out))); (case aF => exact (fun _ _ => trivial)); (case aO => exact (by (with_reducible repeat (first | apply Kd.R_alloc | apply Kd.R_drewN | apply Kd.R_drew)); exact HO_5.out)); (case aS => exact (below_size (by repeat (first | (with_reducible first | exact HB.out | apply below_alloc | apply pw_below_drewN | apply below_drew1 | refine below_set ?_ GE133.out) | exact HB.out)))); (case aL => have := LMc16.out; omega); intro v141 w18 ho hb hg hat; rw [← Ny140.out] at ho; have n0_ := Aside0.mk (blk_grown (g := gb133) (o := .cells #[.int .i64 a0_0, .int .i64 a0_1] 69 (0, 0)) (by (with_reducible repeat (first | refine blk_drewN ?_ _ | refine blk_drew ?_ | refine blk_alloc ?_ _)); exact BK133.out) hg (Kd.R_ne HO_5.out BK133.out (by decide))); have n1_ := Aside0.mk (hb); have n2_ := Aside0.mk (ho); clear BK133; clear HB; clear HO_5; have BK133 := n0_; have HB := n1_; have HO142 := n2_; clear n0_ n1_ n2_; clear ho hb hg hat))
                go_roundg k2
                case measure => have := HJ2.out; have := HK2.out; omega
                case rel => exact ⟨(y140), (wrap64 (x7_2 + 1)), (by first | rfl | (simp; done) | (simp [*]; done)), H', ⟨by have := HJ2.out; have := HK2.out; omega⟩, ⟨by (with_reducible repeat (first | apply Kd.R_alloc | apply Kd.R_drewN | apply Kd.R_drew)); exact HO142.out⟩, ⟨by (with_reducible repeat (first | refine blk_drewN ?_ _ | refine blk_drew ?_ | refine blk_alloc ?_ _)); exact BK133.out⟩, ⟨by repeat (first | (with_reducible first | exact HB.out | apply below_alloc | apply pw_below_drewN | apply below_drew1 | refine below_set ?_ GE133.out) | exact HB.out)⟩⟩
              · rw [if_neg c16] at H
                exact absurd H (by simp)
            · rw [if_neg c15] at H
              have c15b0 : decide ((wrap64 (x7_2 * a1)) ≤ a0_1) = false := decide_eq_false c15
              clear c15
              obtain rfl := Option.some.inj H
              have hcz19_0 : wr.cell? ⟨gb133, 0, none⟩ = some (.int .i64 a0_0) := (blk_cell BK133.out 0).trans rfl
              have hcz19_1 : wr.cell? ⟨gb133, 1, none⟩ = some (.int .i64 a0_1) := (blk_cell BK133.out 1).trans rfl
              have hfz19_0 := blk_frozen BK133.out 0
              have hfz19_1 := blk_frozen BK133.out 1
              go_wp2
              go_ret
              exact ⟨_, by first | rfl | (simp [errW_none, errW_some] <;> rfl) | (simp [*, errW_none, errW_some] <;> rfl), by (with_reducible repeat (first | apply Kd.R_alloc | apply Kd.R_drewN | apply Kd.R_drew)); exact HO_5.out, by repeat (first | (with_reducible first | exact HB.out | apply below_alloc | apply pw_below_drewN | apply below_drew1 | refine below_set ?_ GE133.out) | exact HB.out)⟩
          · rw [if_neg c14] at H
            have c14b0 : decide (x7_2 < a0_1) = false := decide_eq_false c14
            clear c14
            obtain rfl := Option.some.inj H
            have hcz20_0 : wr.cell? ⟨gb133, 0, none⟩ = some (.int .i64 a0_0) := (blk_cell BK133.out 0).trans rfl
            have hcz20_1 : wr.cell? ⟨gb133, 1, none⟩ = some (.int .i64 a0_1) := (blk_cell BK133.out 1).trans rfl
            have hfz20_0 := blk_frozen BK133.out 0
            have hfz20_1 := blk_frozen BK133.out 1
            go_wp2
            go_ret
            exact ⟨_, by first | rfl | (simp [errW_none, errW_some] <;> rfl) | (simp [*, errW_none, errW_some] <;> rfl), by (with_reducible repeat (first | apply Kd.R_alloc | apply Kd.R_drewN | apply Kd.R_drew)); exact HO_5.out, by repeat (first | (with_reducible first | exact HB.out | apply below_alloc | apply pw_below_drewN | apply below_drew1 | refine below_set ?_ GE133.out) | exact HB.out)⟩


/-! ### all cuts of a board, as a list -/
def cutsL (a b sh : Nat) : List S63 := (List.range' 1 (min (a - 1) (a / sh))).map (fun (p : Nat) => (⟨true, (p : Int)⟩ : S63)) ++ (List.range' 1 (min (b - 1) (b / sh))).map (fun (p : Nat) => (⟨false, (p : Int)⟩ : S63))
theorem cuts_w64 {i : Int} (h0 : -9223372036854775808 ≤ i) (h1 : i ≤ 9223372036854775807) : wrap64 i = i := by
  unfold wrap64
  omega
theorem le_share (p sh a : Nat) (hs : 1 ≤ sh) : p ≤ a / sh ↔ p * sh ≤ a := Nat.le_div_iff_mul_le (by omega)
theorem cuts_mul (p sh a : Nat) (hp : p ≤ 24) (hs : sh ≤ 2) : wrap64 ((p : Int) * (sh : Int)) ≤ (a : Int) ↔ p * sh ≤ a := by
  have h1 : p * sh ≤ 24 * 2 := Nat.mul_le_mul hp hs
  have h2 : ((p : Int) * (sh : Int)) = ((p * sh : Nat) : Int) := by simp
  rw [h2, cuts_w64 (by omega) (by omega)]
  omega
theorem cuts_l1 (a b sh : Nat) (hb : b ≤ 24) (hs1 : 1 ≤ sh) (hs2 : sh ≤ 2) (d : Nat) : ∀ (p : Nat) (out : List S63) (k : Nat), min (b - 1) (b / sh) + 1 - p = d → 1 ≤ p → d < k → out.length + d ≤ 100 →
    impl_board_cuts.l1 k (sh : Int) out (p : Int) (a : Int) (b : Int) = some (out ++ (List.range' p d).map (fun (p : Nat) => (⟨false, (p : Int)⟩ : S63))) := by
  induction d with
  | zero =>
    intro p out k hd hp hk ho
    obtain ⟨q, rfl⟩ : ∃ q, k = q + 1 := ⟨k - 1, by omega⟩
    simp only [impl_board_cuts.l1]
    have hm := le_share p sh b hs1
    by_cases h : (p : Int) < (b : Int)
    · rw [if_pos h, if_neg (by rw [cuts_mul p sh b (by omega) hs2]; omega)]
      simp
    · rw [if_neg h]
      simp
  | succ d ih =>
    intro p out k hd hp hk ho
    obtain ⟨q, rfl⟩ : ∃ q, k = q + 1 := ⟨k - 1, by omega⟩
    have hm := le_share p sh b hs1
    simp only [impl_board_cuts.l1]
    rw [if_pos (by omega), if_pos (by rw [cuts_mul p sh b (by omega) hs2]; omega), if_pos (by omega), cuts_w64 (by omega) (by omega), show (p : Int) + 1 = ((p + 1 : Nat) : Int) from by omega, ih (p + 1) _ q (by omega) (by omega) (by omega) (by simp; omega), List.range'_succ]
    simp
theorem cuts_l0 (a b sh : Nat) (ha : a ≤ 24) (hb : b ≤ 24) (hs1 : 1 ≤ sh) (hs2 : sh ≤ 2) (d : Nat) : ∀ (p : Nat) (out : List S63) (k : Nat), min (a - 1) (a / sh) + 1 - p = d → 1 ≤ p → d + 40 < k → out.length + d ≤ 50 →
    impl_board_cuts.l0 k (sh : Int) out (p : Int) (a : Int) (b : Int) = some (out ++ (List.range' p d).map (fun (p : Nat) => (⟨true, (p : Int)⟩ : S63)) ++ (List.range' 1 (min (b - 1) (b / sh))).map (fun (p : Nat) => (⟨false, (p : Int)⟩ : S63))) := by
  induction d with
  | zero =>
    intro p out k hd hp hk ho
    obtain ⟨q, rfl⟩ : ∃ q, k = q + 1 := ⟨k - 1, by omega⟩
    obtain ⟨q2, rfl⟩ : ∃ q2, q = q2 + 1 := ⟨q - 1, by omega⟩
    have hmin : min (b - 1) (b / sh) ≤ 23 := Nat.le_trans (Nat.min_le_left _ _) (by omega)
    have hl := cuts_l1 a b sh hb hs1 hs2 _ 1 out q2 rfl (Nat.le_refl _) (by rw [Nat.add_sub_cancel]; omega) (by rw [Nat.add_sub_cancel]; omega)
    rw [Nat.add_sub_cancel] at hl
    simp only [impl_board_cuts.l0, impl_board_cuts.j1]
    have hm := le_share p sh a hs1
    by_cases h : (p : Int) < (a : Int)
    · rw [if_pos h, if_neg (by rw [cuts_mul p sh a (by omega) hs2]; omega)]
      simpa using hl
    · rw [if_neg h]
      simpa using hl
  | succ d ih =>
    intro p out k hd hp hk ho
    obtain ⟨q, rfl⟩ : ∃ q, k = q + 1 := ⟨k - 1, by omega⟩
    have hm := le_share p sh a hs1
    simp only [impl_board_cuts.l0]
    rw [if_pos (by omega), if_pos (by rw [cuts_mul p sh a (by omega) hs2]; omega), if_pos (by omega), cuts_w64 (by omega) (by omega), show (p : Int) + 1 = ((p + 1 : Nat) : Int) from by omega, ih (p + 1) _ q (by omega) (by omega) (by omega) (by simp; omega), List.range'_succ]
    simp
theorem cuts_is (a b sh : Nat) (ha : a ≤ 24) (hb : b ≤ 24) (hs1 : 1 ≤ sh) (hs2 : sh ≤ 2) : impl_board_cuts.f 100 (a : Int) (b : Int) (sh : Int) = some (cutsL a b sh) := by
  have hmin : min (a - 1) (a / sh) ≤ 23 := Nat.le_trans (Nat.min_le_left _ _) (by omega)
  have h := cuts_l0 a b sh ha hb hs1 hs2 _ 1 [] 100 rfl (Nat.le_refl _) (by rw [Nat.add_sub_cancel]; omega) (by rw [Nat.add_sub_cancel]; simp only [List.length_nil]; omega)
  rw [Nat.add_sub_cancel] at h
  simpa [impl_board_cuts.f, cutsL] using h
theorem cutsL_len (a b sh : Nat) (ha : a ≤ 24) (hb : b ≤ 24) : (cutsL a b sh).length ≤ 100 := by
  have h1 : min (b - 1) (b / sh) ≤ 23 := Nat.le_trans (Nat.min_le_left _ _) (by omega)
  have h2 : min (a - 1) (a / sh) ≤ 23 := Nat.le_trans (Nat.min_le_left _ _) (by omega)
  simp only [cutsL, List.length_append, List.length_map, List.length_range']
  omega
theorem cutsL_mem (a b sh : Nat) (c : S63) (h : c ∈ cutsL a b sh) : (c.f0 = true ∧ 1 ≤ c.f1 ∧ c.f1 < (a : Int)) ∨ (c.f0 = false ∧ 1 ≤ c.f1 ∧ c.f1 < (b : Int)) := by
  simp only [cutsL, List.mem_append, List.mem_map, List.mem_range'_1] at h
  rcases h with ⟨p, hp, rfl⟩ | ⟨p, hp, rfl⟩
  · left
    exact ⟨rfl, by simp; omega, by simp; omega⟩
  · right
    exact ⟨rfl, by simp; omega, by simp; omega⟩
/-- both boards of a cut -/
def partsOf (a b : Int) (c : S63) : (Int × Int) × (Int × Int) := if c.f0 then ((c.f1, b), (a - c.f1, b)) else ((a, c.f1), (a, b - c.f1))
theorem partsOf_in (a b sh : Int) (ha : 1 ≤ a) (hb : 1 ≤ b) (c : S63) (h : c ∈ cutsL a.toNat b.toNat sh.toNat) :
    (1 ≤ (partsOf a b c).1.1 ∧ (partsOf a b c).1.1 ≤ a ∧ 1 ≤ (partsOf a b c).1.2 ∧ (partsOf a b c).1.2 ≤ b ∧ (partsOf a b c).1.1 + (partsOf a b c).1.2 < a + b) ∧
    (1 ≤ (partsOf a b c).2.1 ∧ (partsOf a b c).2.1 ≤ a ∧ 1 ≤ (partsOf a b c).2.2 ∧ (partsOf a b c).2.2 ≤ b ∧ (partsOf a b c).2.1 + (partsOf a b c).2.2 < a + b) := by
  have hm := cutsL_mem _ _ _ c h
  unfold partsOf
  rcases hm with ⟨h0, h1, h2⟩ | ⟨h0, h1, h2⟩
  · rw [h0]; simp only [if_true]; omega
  · rw [h0]; simp only [Bool.false_eq_true, if_false]; omega

end Go.Proofs.Ytfpgnnllohhmfaa.Q

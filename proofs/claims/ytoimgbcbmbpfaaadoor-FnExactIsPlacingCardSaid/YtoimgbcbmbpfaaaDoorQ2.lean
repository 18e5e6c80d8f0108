-- Written by the session's program wip/myprint.py (over the kit's print); the given parts by hand.
import Derived.Test.YtoimgbcbmbpfaaaDoorQ0
import Derived.Test.YtoimgbcbmbpfaaaDoorQ1
namespace Go.Proofs.YtoimgbcbmbpfaaaDoor.Q
open Go.RowKit Go.Proofs.YtoimgbcbmbpfaaaDoorW.PrintWords Go.Proofs.YtoimgbcbmbpfaaaDoorW.PrintLast Go.Proofs.YtoimgbcbmbpfaaaDoorW.PrintMore
attribute [local go_sem] max2_int min2_int max_two min_two max_three min_three max_four min_four   -- for this text's walks alone
set_option linter.unusedVariables false
set_option linter.unusedSimpArgs false

/-! ### slices_Equal_int_int: function 58 -/
def slices_Equal_int_int.l0 : Nat → List Int → List Int → Int → Int → Option (Bool)
  | 0, _, _, _, _ => none
  | k + 1, x0, x1, x12, x13 => if x13 < x12 then (if 0 ≤ x13 then (if x13 < (x0.length : Int) then (if x13 < (x1.length : Int) then (if (rd x0 x13) = (rd x1 x13) then (slices_Equal_int_int.l0 k x0 x1 x12 (wrap64 (x13 + 1))) else (some false)) else (none)) else (none)) else (none)) else (some true)
def slices_Equal_int_int.f (k : Nat) (l0 : List Int) (l1 : List Int) : Option (Bool) := if (l0.length : Int) = (l1.length : Int) then (slices_Equal_int_int.l0 k l0 l1 (l0.length : Int) 0) else (some false)
theorem slices_Equal_int_int.mono_l : ∀ k, (∀ y0 y1 y2 y3, LeO (slices_Equal_int_int.l0 k y0 y1 y2 y3) (slices_Equal_int_int.l0 (k + 1) y0 y1 y2 y3))
  | 0 => fun _ _ _ _ r h => by simp [slices_Equal_int_int.l0] at h
  | k + 1 => by
    have ih0 := slices_Equal_int_int.mono_l k
    · intro y0 y1 y2 y3
      unfold slices_Equal_int_int.l0
      repeat' first
      | (with_reducible exact ih0 _ _ _ _)
      | (with_reducible exact LeO.refl _)
      | (with_reducible exact LeO.none _)
      | (with_reducible refine LeO.ite ?_ ?_)
      | (with_reducible refine LeO.bind ?_ (fun _ => ?_))
      | exact ih0 _ _ _ _
      | exact LeO.none _
      | refine LeO.ite ?_ ?_
      | refine LeO.bind ?_ (fun _ => ?_)
theorem slices_Equal_int_int.mono : ∀ a0 a1 k, LeO (slices_Equal_int_int.f k a0 a1) (slices_Equal_int_int.f (k + 1) a0 a1) := by
  intro a0 a1 k
  have ih0 := slices_Equal_int_int.mono_l k
  unfold slices_Equal_int_int.f
  repeat' first
      | (with_reducible exact ih0 _ _ _ _)
      | (with_reducible exact LeO.refl _)
      | (with_reducible exact LeO.none _)
      | (with_reducible refine LeO.ite ?_ ?_)
      | (with_reducible refine LeO.bind ?_ (fun _ => ?_))
      | exact ih0 _ _ _ _
      | exact LeO.none _
      | refine LeO.ite ?_ ?_
      | refine LeO.bind ?_ (fun _ => ?_)
set_option maxHeartbeats 8000000 in
set_option maxRecDepth 100000 in
theorem slices_Equal_int_int.calls (k : Nat) (A0 : Option Addr) (c0 : Nat) (l0 : List Int) (A1 : Option Addr) (c1 : Nat) (l1 : List Int) (r : Bool) (w : World) (hr0 : Kd.C (Kd.int .i64) w A0 l0.length l0) (hc0 : l0.length ≤ c0) (hr1 : Kd.C (Kd.int .i64) w A1 l1.length l1) (hc1 : l1.length ≤ c1) (h : slices_Equal_int_int.f k l0 l1 = some r) :
    Calls Tryd.prog 58 #[.slice A0 l0.length c0, .slice A1 l1.length c1] w fun e w' => e = .returned (.bool r) ∧ Drawn0 w w' := by
  have HR0 := Aside0.mk hr0
  have HC0 := Aside0.mk hc0
  clear hr0 hc0
  have HR1 := Aside0.mk hr1
  have HC1 := Aside0.mk hc1
  clear hr1 hc1
  have H : (if (l0.length : Int) = (l1.length : Int) then (slices_Equal_int_int.l0 k l0 l1 (l0.length : Int) 0) else (some false)) = some r := h
  clear h
  by_cases c3 : (l0.length : Int) = (l1.length : Int)
  · rw [if_pos c3] at H
    have c3b0 : ((l0.length : Int) == (l1.length : Int)) = true := beq_iff_eq.mpr c3
    have c3b1 : ((l0.length : Int) != (l1.length : Int)) = false := bne_eq_false_iff_eq.mpr c3
    have c3b2 : (l0.length == l1.length) = true := by first | simpa using c3 | (simp at c3 ⊢; omega)
    clear c3
    have H' := Aside0.mk H
    clear H
    go_enter Tryd.func58, Tryd.ntmps58
    go_wp2
    repeat (go_quiet (fail); try go_wp2)
    go_loopg [13] k (fun kq v13 w' => ∃ (x13_1 : Int), v13 = .int .i64 x13_1 ∧ Aside0 (slices_Equal_int_int.l0 kq l0 l1 (l0.length : Int) x13_1 = some r) ∧ Aside0 (kq ≤ k) ∧ Drawn0 w w')
    case atStart => exact ⟨(0), (by first | rfl | (simp; done) | (simp [*]; done)), H', ⟨Nat.le_refl _⟩, by repeat (first | exact Drawn0.refl _ | apply Drawn0.step)⟩
    case round =>
      clear H'
      try clear c1
      try clear p2
      try clear c3
      try clear c3b0
      try clear c3b1
      try clear c3b2
      obtain ⟨x13_1, rfl, HA, HK1, ⟨m1, rfl⟩⟩ := hrel
      cases gk with
      | zero => exact absurd HA.out (by simp [slices_Equal_int_int.l0])
      | succ k1 =>
        have H := HA.out
        clear HA
        simp only [slices_Equal_int_int.l0] at H
        by_cases c4 : x13_1 < (l0.length : Int)
        · rw [if_pos c4] at H
          have c4b0 : decide (x13_1 < (l0.length : Int)) = true := decide_eq_true c4
          clear c4
          by_cases c5 : 0 ≤ x13_1
          · rw [if_pos c5] at H
            have c5b0 : decide (0 ≤ x13_1) = true := decide_eq_true c5
            clear c5
            by_cases c6 : x13_1 < (l0.length : Int)
            · rw [if_pos c6] at H
              have c6b0 : decide (x13_1 < (l0.length : Int)) = true := decide_eq_true c6
              clear c6
              by_cases c7 : x13_1 < (l1.length : Int)
              · rw [if_pos c7] at H
                have c7b0 : decide (x13_1 < (l1.length : Int)) = true := decide_eq_true c7
                clear c7
                by_cases c8 : (rd l0 x13_1) = (rd l1 x13_1)
                · rw [if_pos c8] at H
                  have c8b0 : ((rd l0 x13_1) == (rd l1 x13_1)) = true := beq_iff_eq.mpr c8
                  have c8b1 : ((rd l0 x13_1) != (rd l1 x13_1)) = false := bne_eq_false_iff_eq.mpr c8
                  clear c8
                  have H' := Aside0.mk H
                  clear H
                  have p120 : 0 ≤ (x13_1 : Int) := of_decide_eq_true (by first | (with_reducible assumption) | assumption)
                  have q120 : x13_1 < (l0.length : Int) := of_decide_eq_true (by first | (with_reducible assumption) | assumption)
                  obtain ⟨ad120, e120, hx120_0⟩ := Kd.at_int HR0.out x13_1 p120 q120
                  cases e120
                  replace p120 := eq_true p120
                  replace q120 := eq_true q120
                  have p121 : 0 ≤ (x13_1 : Int) := of_decide_eq_true (by first | (with_reducible assumption) | assumption)
                  have q121 : x13_1 < (l1.length : Int) := of_decide_eq_true (by first | (with_reducible assumption) | assumption)
                  obtain ⟨ad121, e121, hx121_0⟩ := Kd.at_int HR1.out x13_1 p121 q121
                  cases e121
                  replace p121 := eq_true p121
                  replace q121 := eq_true q121
                  go_wp2
                  repeat (go_quiet (fail); try go_wp2)
                  go_roundg k1
                  case measure => have := HK1.out; omega
                  case rel => exact ⟨(wrap64 (x13_1 + 1)), (by first | rfl | (simp; done) | (simp [*]; done)), H', ⟨by have := HK1.out; omega⟩, by repeat (first | exact Drawn0.refl _ | apply Drawn0.step)⟩
                · rw [if_neg c8] at H
                  have c8b0 : ((rd l0 x13_1) == (rd l1 x13_1)) = false := beq_eq_false_iff_ne.mpr c8
                  have c8b1 : ((rd l0 x13_1) != (rd l1 x13_1)) = true := bne_iff_ne.mpr c8
                  obtain rfl := Option.some.inj H
                  have p120 : 0 ≤ (x13_1 : Int) := of_decide_eq_true (by first | (with_reducible assumption) | assumption)
                  have q120 : x13_1 < (l0.length : Int) := of_decide_eq_true (by first | (with_reducible assumption) | assumption)
                  obtain ⟨ad120, e120, hx120_0⟩ := Kd.at_int HR0.out x13_1 p120 q120
                  cases e120
                  replace p120 := eq_true p120
                  replace q120 := eq_true q120
                  have p121 : 0 ≤ (x13_1 : Int) := of_decide_eq_true (by first | (with_reducible assumption) | assumption)
                  have q121 : x13_1 < (l1.length : Int) := of_decide_eq_true (by first | (with_reducible assumption) | assumption)
                  obtain ⟨ad121, e121, hx121_0⟩ := Kd.at_int HR1.out x13_1 p121 q121
                  cases e121
                  replace p121 := eq_true p121
                  replace q121 := eq_true q121
                  go_wp2
                  repeat (go_quiet (fail); try go_wp2)
                  go_ret
                  exact ⟨by first | rfl | (simp; done) | (simp [*]; done), by repeat (first | exact Drawn0.refl _ | apply Drawn0.step)⟩
              · rw [if_neg c7] at H
                exact absurd H (by simp)
            · rw [if_neg c6] at H
              exact absurd H (by simp)
          · rw [if_neg c5] at H
            exact absurd H (by simp)
        · rw [if_neg c4] at H
          have c4b0 : decide (x13_1 < (l0.length : Int)) = false := decide_eq_false c4
          clear c4
          obtain rfl := Option.some.inj H
          go_wp2
          repeat (go_quiet (fail); try go_wp2)
          go_ret
          exact ⟨by first | rfl | (simp; done) | (simp [*]; done), by repeat (first | exact Drawn0.refl _ | apply Drawn0.step)⟩
  · rw [if_neg c3] at H
    have c3b0 : ((l0.length : Int) == (l1.length : Int)) = false := beq_eq_false_iff_ne.mpr c3
    have c3b1 : ((l0.length : Int) != (l1.length : Int)) = true := bne_iff_ne.mpr c3
    have c3b2 : (l0.length == l1.length) = false := by first | simpa using c3 | (simp at c3 ⊢; omega)
    obtain rfl := Option.some.inj H
    go_enter Tryd.func58, Tryd.ntmps58
    go_wp2
    repeat (go_quiet (fail); try go_wp2)
    go_ret
    exact ⟨by first | rfl | (simp; done) | (simp [*]; done), by repeat (first | exact Drawn0.refl _ | apply Drawn0.step)⟩

/-! ### slices_Index_int_int: function 73 -/
def slices_Index_int_int.l0 : Nat → List Int → Int → Int → Int → Option (Int)
  | 0, _, _, _, _ => none
  | k + 1, x0, x1, x7, x8 => if x8 < x7 then (if 0 ≤ x8 then (if x8 < (x0.length : Int) then (if x1 = (rd x0 x8) then (some x8) else (slices_Index_int_int.l0 k x0 x1 x7 (wrap64 (x8 + 1)))) else (none)) else (none)) else (some (-1))
def slices_Index_int_int.f (k : Nat) (l0 : List Int) (a1 : Int) : Option (Int) := slices_Index_int_int.l0 k l0 a1 (l0.length : Int) 0
theorem slices_Index_int_int.mono_l : ∀ k, (∀ y0 y1 y2 y3, LeO (slices_Index_int_int.l0 k y0 y1 y2 y3) (slices_Index_int_int.l0 (k + 1) y0 y1 y2 y3))
  | 0 => fun _ _ _ _ r h => by simp [slices_Index_int_int.l0] at h
  | k + 1 => by
    have ih0 := slices_Index_int_int.mono_l k
    · intro y0 y1 y2 y3
      unfold slices_Index_int_int.l0
      repeat' first
      | (with_reducible exact ih0 _ _ _ _)
      | (with_reducible exact LeO.refl _)
      | (with_reducible exact LeO.none _)
      | (with_reducible refine LeO.ite ?_ ?_)
      | (with_reducible refine LeO.bind ?_ (fun _ => ?_))
      | exact ih0 _ _ _ _
      | exact LeO.none _
      | refine LeO.ite ?_ ?_
      | refine LeO.bind ?_ (fun _ => ?_)
theorem slices_Index_int_int.mono : ∀ a0 a1 k, LeO (slices_Index_int_int.f k a0 a1) (slices_Index_int_int.f (k + 1) a0 a1) := by
  intro a0 a1 k
  have ih0 := slices_Index_int_int.mono_l k
  unfold slices_Index_int_int.f
  repeat' first
      | (with_reducible exact ih0 _ _ _ _)
      | (with_reducible exact LeO.refl _)
      | (with_reducible exact LeO.none _)
      | (with_reducible refine LeO.ite ?_ ?_)
      | (with_reducible refine LeO.bind ?_ (fun _ => ?_))
      | exact ih0 _ _ _ _
      | exact LeO.none _
      | refine LeO.ite ?_ ?_
      | refine LeO.bind ?_ (fun _ => ?_)
set_option maxHeartbeats 8000000 in
set_option maxRecDepth 100000 in
theorem slices_Index_int_int.calls (k : Nat) (A0 : Option Addr) (c0 : Nat) (l0 : List Int) (a1 : Int) (r : Int) (w : World) (hr0 : Kd.C (Kd.int .i64) w A0 l0.length l0) (hc0 : l0.length ≤ c0) (h : slices_Index_int_int.f k l0 a1 = some r) :
    Calls Tryd.prog 73 #[.slice A0 l0.length c0, .int .i64 a1] w fun e w' => e = .returned (.int .i64 r) ∧ Drawn0 w w' := by
  have HR0 := Aside0.mk hr0
  have HC0 := Aside0.mk hc0
  clear hr0 hc0
  have H : (slices_Index_int_int.l0 k l0 a1 (l0.length : Int) 0) = some r := h
  clear h
  have H' := Aside0.mk H
  clear H
  go_enter Tryd.func73, Tryd.ntmps73
  go_wp2
  go_loopg [8] k (fun kq v8 w' => ∃ (x8_1 : Int), v8 = .int .i64 x8_1 ∧ Aside0 (slices_Index_int_int.l0 kq l0 a1 (l0.length : Int) x8_1 = some r) ∧ Aside0 (kq ≤ k) ∧ Drawn0 w w')
  case atStart => exact ⟨(0), (by first | rfl | (simp; done) | (simp [*]; done)), H', ⟨Nat.le_refl _⟩, by repeat (first | exact Drawn0.refl _ | apply Drawn0.step)⟩
  case round =>
    clear H'
    try clear p2
    obtain ⟨x8_1, rfl, HA, HK1, ⟨m1, rfl⟩⟩ := hrel
    cases gk with
    | zero => exact absurd HA.out (by simp [slices_Index_int_int.l0])
    | succ k1 =>
      have H := HA.out
      clear HA
      simp only [slices_Index_int_int.l0] at H
      by_cases c3 : x8_1 < (l0.length : Int)
      · rw [if_pos c3] at H
        have c3b0 : decide (x8_1 < (l0.length : Int)) = true := decide_eq_true c3
        clear c3
        by_cases c4 : 0 ≤ x8_1
        · rw [if_pos c4] at H
          have c4b0 : decide (0 ≤ x8_1) = true := decide_eq_true c4
          clear c4
          by_cases c5 : x8_1 < (l0.length : Int)
          · rw [if_pos c5] at H
            have c5b0 : decide (x8_1 < (l0.length : Int)) = true := decide_eq_true c5
            clear c5
            by_cases c6 : a1 = (rd l0 x8_1)
            · rw [if_pos c6] at H
              have c6b0 : (a1 == (rd l0 x8_1)) = true := beq_iff_eq.mpr c6
              have c6b1 : (a1 != (rd l0 x8_1)) = false := bne_eq_false_iff_eq.mpr c6
              clear c6
              obtain rfl := Option.some.inj H
              have p122 : 0 ≤ (x8_1 : Int) := of_decide_eq_true (by first | (with_reducible assumption) | assumption)
              have q122 : x8_1 < (l0.length : Int) := of_decide_eq_true (by first | (with_reducible assumption) | assumption)
              obtain ⟨ad122, e122, hx122_0⟩ := Kd.at_int HR0.out x8_1 p122 q122
              cases e122
              replace p122 := eq_true p122
              replace q122 := eq_true q122
              go_wp2
              go_ret
              exact ⟨by first | rfl | (simp; done) | (simp [*]; done), by repeat (first | exact Drawn0.refl _ | apply Drawn0.step)⟩
            · rw [if_neg c6] at H
              have c6b0 : (a1 == (rd l0 x8_1)) = false := beq_eq_false_iff_ne.mpr c6
              have c6b1 : (a1 != (rd l0 x8_1)) = true := bne_iff_ne.mpr c6
              have H' := Aside0.mk H
              clear H
              have p122 : 0 ≤ (x8_1 : Int) := of_decide_eq_true (by first | (with_reducible assumption) | assumption)
              have q122 : x8_1 < (l0.length : Int) := of_decide_eq_true (by first | (with_reducible assumption) | assumption)
              obtain ⟨ad122, e122, hx122_0⟩ := Kd.at_int HR0.out x8_1 p122 q122
              cases e122
              replace p122 := eq_true p122
              replace q122 := eq_true q122
              go_wp2
              go_roundg k1
              case measure => have := HK1.out; omega
              case rel => exact ⟨(wrap64 (x8_1 + 1)), (by first | rfl | (simp; done) | (simp [*]; done)), H', ⟨by have := HK1.out; omega⟩, by repeat (first | exact Drawn0.refl _ | apply Drawn0.step)⟩
          · rw [if_neg c5] at H
            exact absurd H (by simp)
        · rw [if_neg c4] at H
          exact absurd H (by simp)
      · rw [if_neg c3] at H
        have c3b0 : decide (x8_1 < (l0.length : Int)) = false := decide_eq_false c3
        clear c3
        obtain rfl := Option.some.inj H
        go_wp2
        go_ret
        exact ⟨by first | rfl | (simp; done) | (simp [*]; done), by repeat (first | exact Drawn0.refl _ | apply Drawn0.step)⟩

/-! ### slices_Contains_int_int: function 72 -/
def slices_Contains_int_int.f (k : Nat) (l0 : List Int) (a1 : Int) : Option (Bool) := (slices_Index_int_int.f k l0 a1).bind fun t123 => (some (decide (t123 ≥ 0)))
theorem slices_Contains_int_int.mono : ∀ a0 a1 k, LeO (slices_Contains_int_int.f k a0 a1) (slices_Contains_int_int.f (k + 1) a0 a1) := by
  intro a0 a1 k
  unfold slices_Contains_int_int.f
  repeat' first
      | (with_reducible exact slices_Index_int_int.mono _ _ _)
      | (with_reducible exact LeO.refl _)
      | (with_reducible exact LeO.none _)
      | (with_reducible refine LeO.ite ?_ ?_)
      | (with_reducible refine LeO.bind ?_ (fun _ => ?_))
      | exact slices_Index_int_int.mono _ _ _
      | exact LeO.none _
      | refine LeO.ite ?_ ?_
      | refine LeO.bind ?_ (fun _ => ?_)
set_option maxHeartbeats 8000000 in
set_option maxRecDepth 100000 in
theorem slices_Contains_int_int.calls (k : Nat) (A0 : Option Addr) (c0 : Nat) (l0 : List Int) (a1 : Int) (r : Bool) (w : World) (hr0 : Kd.C (Kd.int .i64) w A0 l0.length l0) (hc0 : l0.length ≤ c0) (h : slices_Contains_int_int.f k l0 a1 = some r) :
    Calls Tryd.prog 72 #[.slice A0 l0.length c0, .int .i64 a1] w fun e w' => e = .returned (.bool r) ∧ Drawn0 w w' := by
  have HR0 := Aside0.mk hr0
  have HC0 := Aside0.mk hc0
  clear hr0 hc0
  have H : ((slices_Index_int_int.f k l0 a1).bind fun t123 => (some (decide (t123 ≥ 0)))) = some r := h
  clear h
  replace H := Option.bind_eq_some_iff.mp H
  obtain ⟨t123, A30, H⟩ := H
  replace H : (some (decide (t123 ≥ 0))) = some r := H
  have A3 := Aside0.mk A30
  clear A30
  obtain rfl := Option.some.inj H
  go_enter Tryd.func72, Tryd.ntmps72
  go_wp2_with (first | ((with_reducible refine gate_callee (f := 73) rfl ?_); refine goesL_ (some 7) rfl rfl Tryd.func73 (by kernel_rfl) rfl #[.slice A0 l0.length c0, .int .i64 a1] rfl (by (try simp only [List.map_toArray, List.map_cons, List.map_nil]); first | done | rfl | (simp only [List.length_drop, List.length_take]; rfl)) ?_; (with_reducible refine (slices_Index_int_int.calls k _ _ l0 a1 t123 _ ?side1 ?side2 A3.out).mono ?_); (case side1 => repeat (first | exact HR0.out | (with_reducible refine Kd.C_alloc ?_ _) | (with_reducible refine Kd.C_drewN ?_ _) | (with_reducible refine Kd.C_drew ?_))); (case side2 => exact HC0.out); rintro e w' ⟨rfl, ⟨nd, rfl⟩⟩; refine ⟨_, rfl, ?_⟩))
  go_ret
  exact ⟨by first | rfl | (simp; done) | (simp [*]; done), by repeat (first | exact Drawn0.refl _ | apply Drawn0.step)⟩

/-! ### impl_named: function 59 -/
def impl_named.l0 : Nat → List Int → List Int → List Int → Int → Int → Option (List Int)
  | 0, _, _, _, _, _ => none
  | k + 1, x3, x4, x9, x10, x11 => if x11 < x10 then (if 0 ≤ x11 then (if x11 < (x9.length : Int) then ((slices_Contains_int_int.f k x4 (rd x9 x11)).bind fun t131 => (if t131 = true then ((slices_Index_int_int.f k x4 (rd x9 x11)).bind fun t132 => (if x3.length < 17592186044416 then (impl_named.l0 k (x3 ++ [t132]) x4 x9 x10 (wrap64 (x11 + 1))) else (none))) else (if x4.length < 17592186044416 then ((some (x4 ++ [rd x9 x11] : List Int)).bind fun y136 => ((slices_Index_int_int.f k y136 (rd x9 x11)).bind fun t139 => (if x3.length < 17592186044416 then (impl_named.l0 k (x3 ++ [t139]) y136 x9 x10 (wrap64 (x11 + 1))) else (none)))) else (none)))) else (none)) else (none)) else (some x3)
def impl_named.f (k : Nat) (l0 : List Int) : Option (List Int) := impl_named.l0 k (([] : List Int)) (([] : List Int)) l0 (l0.length : Int) 0
theorem impl_named.mono_l : ∀ k, (∀ y0 y1 y2 y3 y4, LeO (impl_named.l0 k y0 y1 y2 y3 y4) (impl_named.l0 (k + 1) y0 y1 y2 y3 y4))
  | 0 => fun _ _ _ _ _ r h => by simp [impl_named.l0] at h
  | k + 1 => by
    have ih0 := impl_named.mono_l k
    · intro y0 y1 y2 y3 y4
      unfold impl_named.l0
      repeat' first
      | (with_reducible exact ih0 _ _ _ _ _)
      | (with_reducible exact slices_Contains_int_int.mono _ _ _)
      | (with_reducible exact slices_Index_int_int.mono _ _ _)
      | (with_reducible exact LeO.refl _)
      | (with_reducible exact LeO.none _)
      | (with_reducible refine LeO.ite ?_ ?_)
      | (with_reducible refine LeO.bind ?_ (fun _ => ?_))
      | exact ih0 _ _ _ _ _
      | exact slices_Contains_int_int.mono _ _ _
      | exact slices_Index_int_int.mono _ _ _
      | exact LeO.none _
      | refine LeO.ite ?_ ?_
      | refine LeO.bind ?_ (fun _ => ?_)
theorem impl_named.mono : ∀ a0 k, LeO (impl_named.f k a0) (impl_named.f (k + 1) a0) := by
  intro a0 k
  have ih0 := impl_named.mono_l k
  unfold impl_named.f
  repeat' first
      | (with_reducible exact ih0 _ _ _ _ _)
      | (with_reducible exact slices_Contains_int_int.mono _ _ _)
      | (with_reducible exact slices_Index_int_int.mono _ _ _)
      | (with_reducible exact LeO.refl _)
      | (with_reducible exact LeO.none _)
      | (with_reducible refine LeO.ite ?_ ?_)
      | (with_reducible refine LeO.bind ?_ (fun _ => ?_))
      | exact ih0 _ _ _ _ _
      | exact slices_Contains_int_int.mono _ _ _
      | exact slices_Index_int_int.mono _ _ _
      | exact LeO.none _
      | refine LeO.ite ?_ ?_
      | refine LeO.bind ?_ (fun _ => ?_)
set_option maxHeartbeats 8000000 in
set_option maxRecDepth 100000 in
theorem impl_named.calls (k : Nat) (A0 : Option Addr) (c0 : Nat) (l0 : List Int) (r : List Int) (w : World) (hr0 : Kd.C (Kd.int .i64) w A0 l0.length l0) (hc0 : l0.length ≤ c0) (h : impl_named.f k l0 = some r) :
    Calls Tryd.prog 59 #[.slice A0 l0.length c0] w fun e w' => ∃ v0_ : Value, e = .returned (v0_) ∧ Kd.R (Kd.int .i64) 3 w' w.heap.size (fun _ => True) v0_ r ∧ Below w.heap.size w w' := by
  have HR0 := Aside0.mk hr0
  have HC0 := Aside0.mk hc0
  clear hr0 hc0
  have HB := Aside0.mk (Below.refl w.heap.size w)
  have H : (impl_named.l0 k (([] : List Int)) (([] : List Int)) l0 (l0.length : Int) 0) = some r := h
  clear h
  obtain ⟨y124, hy124⟩ : ∃ y_ : List Int, y_ = (([] : List Int)) := ⟨_, rfl⟩
  replace H : (impl_named.l0 k y124 (([] : List Int)) l0 (l0.length : Int) 0) = some r := by first | (rw [hy124]; with_reducible exact H) | (have H2_ := (Option.bind_some _ _).symm.trans H; rw [hy124]; with_reducible exact H2_) | (have H2_ := (Option.bind_some _ _).symm.trans H; with_reducible exact H2_) | with_reducible exact H | (rw [hy124]; exact H) | exact H
  have Ny124 := Aside0.mk hy124
  clear hy124
  obtain ⟨y127, hy127⟩ : ∃ y_ : List Int, y_ = (([] : List Int)) := ⟨_, rfl⟩
  replace H : (impl_named.l0 k y124 y127 l0 (l0.length : Int) 0) = some r := by first | (rw [hy127]; with_reducible exact H) | (have H2_ := (Option.bind_some _ _).symm.trans H; rw [hy127]; with_reducible exact H2_) | (have H2_ := (Option.bind_some _ _).symm.trans H; with_reducible exact H2_) | with_reducible exact H | (rw [hy127]; exact H) | exact H
  have Ny127 := Aside0.mk hy127
  clear hy127
  have H' := Aside0.mk H
  clear H
  go_enter Tryd.func59, Tryd.ntmps59
  go_wp2_with (first | ((with_reducible refine gate_dst (N := 7) rfl ?_); refine Kd.R_lit (Kd.int .i64) _ 3 ?hg (N := 7) ?hd (xs := ([] : List Int)) (inner := []) (ok := fun _ => True) (okp := fun _ => True) ?hr ?hp (fun _ hk => hk) trivial (Below.refl _ _) (Nat.le_refl _) (by simp) ?_; (case hd => rfl); (case hg => rfl); (case hr => first | (go_simp; done) | (go_simp; rfl)); (case hp => exact (Reps.none _ _)); intro v125 w2 ho3 hb hg_ hnew_; clear hg_ hnew_; (first | rw [← Ny124.out] at ho3 | (simp only [Int.reduceToNat] at ho3; rw [← Ny124.out] at ho3)); have n0_ := Aside0.mk (Kd.R_lower ho3 (below_size (by repeat (first | (with_reducible first | exact HB.out | apply below_alloc | apply pw_below_drewN | apply below_drew1) | exact HB.out)))); have n1_ := Aside0.mk (below_step (by repeat (first | (with_reducible first | exact HB.out | apply below_alloc | apply pw_below_drewN | apply below_drew1) | exact HB.out)) hb); clear HB; have HO126 := n0_; have HB := n1_; clear n0_ n1_; clear hb ho3) | ((with_reducible refine gate_dst (N := 8) rfl ?_); refine Kd.R_lit (Kd.int .i64) _ 3 ?hg (N := 8) ?hd (xs := ([] : List Int)) (inner := []) (ok := fun _ => True) (okp := fun _ => True) ?hr ?hp (fun _ hk => hk) trivial (Below.refl _ _) (Nat.le_refl _) (by simp) ?_; (case hd => rfl); (case hg => rfl); (case hr => first | (go_simp; done) | (go_simp; rfl)); (case hp => exact (Reps.none _ _)); intro v128 w4 ho5 hb hg_ hnew_; clear hg_ hnew_; (first | rw [← Ny127.out] at ho5 | (simp only [Int.reduceToNat] at ho5; rw [← Ny127.out] at ho5)); have n0_ := Aside0.mk (Kd.R_elder' (by (with_reducible repeat (first | apply Kd.R_alloc | apply Kd.R_drewN | apply Kd.R_drew)); exact HO126.out) (Kd.R_base ho5) hb); have n1_ := Aside0.mk (Kd.R_lower (Kd.R_new' ho5 (Kd.R_lt (by (with_reducible repeat (first | apply Kd.R_alloc | apply Kd.R_drewN | apply Kd.R_drew)); exact HO126.out))) (below_size (by repeat (first | (with_reducible first | exact HB.out | apply below_alloc | apply pw_below_drewN | apply below_drew1) | exact HB.out)))); have n2_ := Aside0.mk (below_step (by repeat (first | (with_reducible first | exact HB.out | apply below_alloc | apply pw_below_drewN | apply below_drew1) | exact HB.out)) hb); clear HO126; clear HB; have HO126 := n0_; have HO129 := n1_; have HB := n2_; clear n0_ n1_ n2_; clear hb ho5))
  go_loopg [3, 4, 11] k (fun kq v3 v4 v11 w' => ∃ (x3_1 : List Int) (x4_1 : List Int) (x11_1 : Int), v11 = .int .i64 x11_1 ∧ Aside0 (impl_named.l0 kq x3_1 x4_1 l0 (l0.length : Int) x11_1 = some r) ∧ Aside0 (kq ≤ k) ∧ Aside0 (Kd.R (Kd.int .i64) 3 w' w.heap.size (fun k_ => some k_ ≠ (v4 : Value).ownBlock) v3 x3_1) ∧ Aside0 (Kd.R (Kd.int .i64) 3 w' w.heap.size (fun k_ => some k_ ≠ (v3 : Value).ownBlock) v4 x4_1) ∧ Aside0 (Below w.heap.size w w'))
  case atStart => exact ⟨(y124), (y127), (0), (by first | rfl | (simp; done) | (simp [*]; done)), H', ⟨Nat.le_refl _⟩, ⟨by (with_reducible repeat (first | apply Kd.R_alloc | apply Kd.R_drewN | apply Kd.R_drew)); exact Kd.R_mono HO126.out (fun _ hk => hk.2)⟩, ⟨by (with_reducible repeat (first | apply Kd.R_alloc | apply Kd.R_drewN | apply Kd.R_drew)); exact Kd.R_mono HO129.out (fun _ hk => hk.2)⟩, ⟨by repeat (first | (with_reducible first | exact HB.out | apply below_alloc | apply pw_below_drewN | apply below_drew1) | exact HB.out)⟩⟩
  case round =>
    clear H'
    try clear p2
    try clear c5
    obtain ⟨x3_1, x4_1, x11_1, rfl, HA, HK1, HO_3, HO_4, HB⟩ := hrel
    cases gk with
    | zero => exact absurd HA.out (by simp [impl_named.l0])
    | succ k1 =>
      have H := HA.out
      clear HA
      simp only [impl_named.l0] at H
      by_cases c6 : x11_1 < (l0.length : Int)
      · rw [if_pos c6] at H
        have c6b0 : decide (x11_1 < (l0.length : Int)) = true := decide_eq_true c6
        clear c6
        by_cases c7 : 0 ≤ x11_1
        · rw [if_pos c7] at H
          have c7b0 : decide (0 ≤ x11_1) = true := decide_eq_true c7
          clear c7
          by_cases c8 : x11_1 < (l0.length : Int)
          · rw [if_pos c8] at H
            have c8b0 : decide (x11_1 < (l0.length : Int)) = true := decide_eq_true c8
            clear c8
            replace H := Option.bind_eq_some_iff.mp H
            obtain ⟨t131, A90, H⟩ := H
            replace H : (if t131 = true then ((slices_Index_int_int.f k1 x4_1 (rd l0 x11_1)).bind fun t132 => (if x3_1.length < 17592186044416 then (impl_named.l0 k1 (x3_1 ++ [t132]) x4_1 l0 (l0.length : Int) (wrap64 (x11_1 + 1))) else (none))) else (if x4_1.length < 17592186044416 then ((some (x4_1 ++ [rd l0 x11_1] : List Int)).bind fun y136 => ((slices_Index_int_int.f k1 y136 (rd l0 x11_1)).bind fun t139 => (if x3_1.length < 17592186044416 then (impl_named.l0 k1 (x3_1 ++ [t139]) y136 l0 (l0.length : Int) (wrap64 (x11_1 + 1))) else (none)))) else (none))) = some r := H
            have A9 := Aside0.mk A90
            clear A90
            by_cases c10 : t131 = true
            · subst c10
              have H1 : ((slices_Index_int_int.f k1 x4_1 (rd l0 x11_1)).bind fun t132 => (if x3_1.length < 17592186044416 then (impl_named.l0 k1 (x3_1 ++ [t132]) x4_1 l0 (l0.length : Int) (wrap64 (x11_1 + 1))) else (none))) = some r := by rw [if_pos rfl] at H; exact H
              clear H
              have H := H1
              clear H1
              replace H := Option.bind_eq_some_iff.mp H
              obtain ⟨t132, A110, H⟩ := H
              replace H : (if x3_1.length < 17592186044416 then (impl_named.l0 k1 (x3_1 ++ [t132]) x4_1 l0 (l0.length : Int) (wrap64 (x11_1 + 1))) else (none)) = some r := H
              have A11 := Aside0.mk A110
              clear A110
              by_cases c12 : x3_1.length < 17592186044416
              · rw [if_pos c12] at H
                have LMc12 := Aside0.mk c12
                clear c12
                obtain ⟨y133, hy133⟩ : ∃ y_ : List Int, y_ = (x3_1 ++ [t132]) := ⟨_, rfl⟩
                replace H : (impl_named.l0 k1 y133 x4_1 l0 (l0.length : Int) (wrap64 (x11_1 + 1))) = some r := by first | (rw [hy133]; with_reducible exact H) | (have H2_ := (Option.bind_some _ _).symm.trans H; rw [hy133]; with_reducible exact H2_) | (have H2_ := (Option.bind_some _ _).symm.trans H; with_reducible exact H2_) | with_reducible exact H | (rw [hy133]; exact H) | exact H
                have Ny133 := Aside0.mk hy133
                clear hy133
                have H' := Aside0.mk H
                clear H
                have p130 : 0 ≤ (x11_1 : Int) := of_decide_eq_true (by first | (with_reducible assumption) | assumption)
                have q130 : x11_1 < (l0.length : Int) := of_decide_eq_true (by first | (with_reducible assumption) | assumption)
                obtain ⟨ad130, e130, hx130_0⟩ := Kd.at_int HR0.out x11_1 p130 q130
                cases e130
                replace hx130_0 := (HB.out.cell (World.block_lt_of_cell? w _ hx130_0)).trans hx130_0
                replace p130 := eq_true p130
                replace q130 := eq_true q130
                obtain ⟨Ao13, co13, eo13⟩ := Kd.R_slice HO_4.out
                subst eo13
                go_wp2_with (first | ((with_reducible refine gate_callee (f := 72) rfl ?_); refine goesL_ (some 17) rfl rfl Tryd.func72 (by kernel_rfl) rfl #[.slice Ao13 x4_1.length co13, .int .i64 (rd l0 x11_1)] rfl (by (try simp only [List.map_toArray, List.map_cons, List.map_nil]); first | done | rfl | (simp only [List.length_drop, List.length_take]; rfl)) ?_; (with_reducible refine (slices_Contains_int_int.calls k1 _ _ x4_1 (rd l0 x11_1) true _ ?side1 ?side2 A9.out).mono ?_); (case side1 => repeat (first | exact (Kd.R_reads' HO_4.out).2.2 | (with_reducible refine Kd.C_alloc ?_ _) | (with_reducible refine Kd.C_drewN ?_ _) | (with_reducible refine Kd.C_drew ?_))); (case side2 => exact (Kd.R_reads' HO_4.out).2.1); rintro e w' ⟨rfl, ⟨nd, rfl⟩⟩; refine ⟨_, rfl, ?_⟩) | ((with_reducible refine gate_callee (f := 73) rfl ?_); refine goesL_ (some 26) rfl rfl Tryd.func73 (by kernel_rfl) rfl #[.slice Ao13 x4_1.length co13, .int .i64 (rd l0 x11_1)] rfl (by (try simp only [List.map_toArray, List.map_cons, List.map_nil]); first | done | rfl | (simp only [List.length_drop, List.length_take]; rfl)) ?_; (with_reducible refine (slices_Index_int_int.calls k1 _ _ x4_1 (rd l0 x11_1) t132 _ ?side1 ?side2 A11.out).mono ?_); (case side1 => repeat (first | exact (Kd.R_reads' HO_4.out).2.2 | (with_reducible refine Kd.C_alloc ?_ _) | (with_reducible refine Kd.C_drewN ?_ _) | (with_reducible refine Kd.C_drew ?_))); (case side2 => exact (Kd.R_reads' HO_4.out).2.1); rintro e w' ⟨rfl, ⟨nd, rfl⟩⟩; refine ⟨_, rfl, ?_⟩) | ((with_reducible refine gate_builtin (b := .append) (xs := #[.tmp 23, .tmp 27]) rfl ?_); at_builtin; refine Kd.R_append (Kd.int .i64) (w0 := w) w.heap.size rfl (.tmp 23) (.tmp 27) 28 3 (.int .i64 0) 8 rfl Tryd.underlying28 info3 rfl (by decide) (by omega) u3 x3_1 t132 [.int .i64 t132] (fun k_ => some k_ ≠ (.slice Ao13 x4_1.length co13 : Value).ownBlock) (fun _ => False) rfl rfl ?aP (fun _ hk => hk.elim) ?aF ?aO ?aB ?aS ?aL ?_; (case aP => exact rfl); (case aB => exact (by repeat (first | (with_reducible first | exact HB.out | apply below_alloc | apply pw_below_drewN | apply below_drew1) | exact HB.out))); (case aF => exact (fun k_ hk => Kd.fresh' (Kd.R_lt (by (with_reducible repeat (first | apply Kd.R_alloc | apply Kd.R_drewN | apply Kd.R_drew)); exact HO_4.out)) k_ hk)); (case aO => exact (by (with_reducible repeat (first | apply Kd.R_alloc | apply Kd.R_drewN | apply Kd.R_drew)); exact HO_3.out)); (case aS => exact (below_size (by repeat (first | (with_reducible first | exact HB.out | apply below_alloc | apply pw_below_drewN | apply below_drew1) | exact HB.out)))); (case aL => have := LMc12.out; omega); intro v134 w14 ho hb hg hat; rw [← Ny133.out] at ho; have n0_ := Aside0.mk (Kd.R_after (ok := (fun _ => True)) (by (with_reducible repeat (first | apply Kd.R_alloc | apply Kd.R_drewN | apply Kd.R_drew)); exact Kd.R_mono HO_4.out (fun _ hk => ⟨trivial, hk⟩)) hg hat); have n1_ := Aside0.mk (hb); have n2_ := Aside0.mk (ho); clear HO_4; clear HB; clear HO_3; have HO_4 := n0_; have HB := n1_; have HO135 := n2_; clear n0_ n1_ n2_; clear ho hb hg hat))
                go_roundg k1
                case measure => have := HK1.out; omega
                case rel => exact ⟨(y133), (x4_1), (wrap64 (x11_1 + 1)), (by first | rfl | (simp; done) | (simp [*]; done)), H', ⟨by have := HK1.out; omega⟩, ⟨by (with_reducible repeat (first | apply Kd.R_alloc | apply Kd.R_drewN | apply Kd.R_drew)); exact HO135.out⟩, ⟨by (with_reducible repeat (first | apply Kd.R_alloc | apply Kd.R_drewN | apply Kd.R_drew)); exact Kd.R_mono HO_4.out (fun _ hk => hk.2)⟩, ⟨by repeat (first | (with_reducible first | exact HB.out | apply below_alloc | apply pw_below_drewN | apply below_drew1) | exact HB.out)⟩⟩
              · rw [if_neg c12] at H
                exact absurd H (by simp)
            · replace c10 := Bool.eq_false_iff.mpr c10
              subst c10
              have H1 : (if x4_1.length < 17592186044416 then ((some (x4_1 ++ [rd l0 x11_1] : List Int)).bind fun y136 => ((slices_Index_int_int.f k1 y136 (rd l0 x11_1)).bind fun t139 => (if x3_1.length < 17592186044416 then (impl_named.l0 k1 (x3_1 ++ [t139]) y136 l0 (l0.length : Int) (wrap64 (x11_1 + 1))) else (none)))) else (none)) = some r := by rw [if_neg (show ¬ (false = true) by decide)] at H; exact H
              clear H
              have H := H1
              clear H1
              by_cases c15 : x4_1.length < 17592186044416
              · rw [if_pos c15] at H
                have LMc15 := Aside0.mk c15
                clear c15
                obtain ⟨y136, hy136⟩ : ∃ y_ : List Int, y_ = (x4_1 ++ [rd l0 x11_1]) := ⟨_, rfl⟩
                replace H : ((slices_Index_int_int.f k1 y136 (rd l0 x11_1)).bind fun t139 => (if x3_1.length < 17592186044416 then (impl_named.l0 k1 (x3_1 ++ [t139]) y136 l0 (l0.length : Int) (wrap64 (x11_1 + 1))) else (none))) = some r := by first | (rw [hy136]; with_reducible exact H) | (have H2_ := (Option.bind_some _ _).symm.trans H; rw [hy136]; with_reducible exact H2_) | (have H2_ := (Option.bind_some _ _).symm.trans H; with_reducible exact H2_) | with_reducible exact H | (rw [hy136]; exact H) | exact H
                have Ny136 := Aside0.mk hy136
                clear hy136
                replace H := Option.bind_eq_some_iff.mp H
                obtain ⟨t139, A160, H⟩ := H
                replace H : (if x3_1.length < 17592186044416 then (impl_named.l0 k1 (x3_1 ++ [t139]) y136 l0 (l0.length : Int) (wrap64 (x11_1 + 1))) else (none)) = some r := H
                have A16 := Aside0.mk A160
                clear A160
                by_cases c17 : x3_1.length < 17592186044416
                · rw [if_pos c17] at H
                  have LMc17 := Aside0.mk c17
                  clear c17
                  obtain ⟨y140, hy140⟩ : ∃ y_ : List Int, y_ = (x3_1 ++ [t139]) := ⟨_, rfl⟩
                  replace H : (impl_named.l0 k1 y140 y136 l0 (l0.length : Int) (wrap64 (x11_1 + 1))) = some r := by first | (rw [hy140]; with_reducible exact H) | (have H2_ := (Option.bind_some _ _).symm.trans H; rw [hy140]; with_reducible exact H2_) | (have H2_ := (Option.bind_some _ _).symm.trans H; with_reducible exact H2_) | with_reducible exact H | (rw [hy140]; exact H) | exact H
                  have Ny140 := Aside0.mk hy140
                  clear hy140
                  have H' := Aside0.mk H
                  clear H
                  have p130 : 0 ≤ (x11_1 : Int) := of_decide_eq_true (by first | (with_reducible assumption) | assumption)
                  have q130 : x11_1 < (l0.length : Int) := of_decide_eq_true (by first | (with_reducible assumption) | assumption)
                  obtain ⟨ad130, e130, hx130_0⟩ := Kd.at_int HR0.out x11_1 p130 q130
                  cases e130
                  replace hx130_0 := (HB.out.cell (World.block_lt_of_cell? w _ hx130_0)).trans hx130_0
                  replace p130 := eq_true p130
                  replace q130 := eq_true q130
                  obtain ⟨Ao18, co18, eo18⟩ := Kd.R_slice HO_4.out
                  subst eo18
                  go_wp2_with (first | ((with_reducible refine gate_callee (f := 72) rfl ?_); refine goesL_ (some 17) rfl rfl Tryd.func72 (by kernel_rfl) rfl #[.slice Ao18 x4_1.length co18, .int .i64 (rd l0 x11_1)] rfl (by (try simp only [List.map_toArray, List.map_cons, List.map_nil]); first | done | rfl | (simp only [List.length_drop, List.length_take]; rfl)) ?_; (with_reducible refine (slices_Contains_int_int.calls k1 _ _ x4_1 (rd l0 x11_1) false _ ?side1 ?side2 A9.out).mono ?_); (case side1 => repeat (first | exact (Kd.R_reads' HO_4.out).2.2 | (with_reducible refine Kd.C_alloc ?_ _) | (with_reducible refine Kd.C_drewN ?_ _) | (with_reducible refine Kd.C_drew ?_))); (case side2 => exact (Kd.R_reads' HO_4.out).2.1); rintro e w' ⟨rfl, ⟨nd, rfl⟩⟩; refine ⟨_, rfl, ?_⟩) | ((with_reducible refine gate_builtin (b := .append) (xs := #[.tmp 19, .tmp 21]) rfl ?_); at_builtin; refine Kd.R_append (Kd.int .i64) (w0 := w) w.heap.size rfl (.tmp 19) (.tmp 21) 28 3 (.int .i64 0) 8 rfl Tryd.underlying28 info3 rfl (by decide) (by omega) (.slice Ao18 x4_1.length co18) x4_1 (rd l0 x11_1) [.int .i64 (rd l0 x11_1)] (fun k_ => some k_ ≠ (u3 : Value).ownBlock) (fun _ => False) rfl rfl ?aP (fun _ hk => hk.elim) ?aF ?aO ?aB ?aS ?aL ?_; (case aP => exact rfl); (case aB => exact (by repeat (first | (with_reducible first | exact HB.out | apply below_alloc | apply pw_below_drewN | apply below_drew1) | exact HB.out))); (case aF => exact (fun k_ hk => Kd.fresh' (Kd.R_lt (by (with_reducible repeat (first | apply Kd.R_alloc | apply Kd.R_drewN | apply Kd.R_drew)); exact HO_3.out)) k_ hk)); (case aO => exact (by (with_reducible repeat (first | apply Kd.R_alloc | apply Kd.R_drewN | apply Kd.R_drew)); exact HO_4.out)); (case aS => exact (below_size (by repeat (first | (with_reducible first | exact HB.out | apply below_alloc | apply pw_below_drewN | apply below_drew1) | exact HB.out)))); (case aL => have := LMc15.out; omega); intro v137 w19 ho hb hg hat; rw [← Ny136.out] at ho; have n0_ := Aside0.mk (Kd.R_after (ok := (fun _ => True)) (by (with_reducible repeat (first | apply Kd.R_alloc | apply Kd.R_drewN | apply Kd.R_drew)); exact Kd.R_mono HO_3.out (fun _ hk => ⟨trivial, hk⟩)) hg hat); have n1_ := Aside0.mk (hb); have n2_ := Aside0.mk (ho); clear HO_3; clear HB; clear HO_4; have HO_3 := n0_; have HB := n1_; have HO138 := n2_; clear n0_ n1_ n2_; clear ho hb hg hat; obtain ⟨Ao20, co20, eo20⟩ := Kd.R_slice HO138.out; subst eo20) | ((with_reducible refine gate_callee (f := 73) rfl ?_); refine goesL_ (some 26) rfl rfl Tryd.func73 (by kernel_rfl) rfl #[.slice Ao20 y136.length co20, .int .i64 (rd l0 x11_1)] rfl (by (try simp only [List.map_toArray, List.map_cons, List.map_nil]); first | done | rfl | (simp only [List.length_drop, List.length_take]; rfl)) ?_; (with_reducible refine (slices_Index_int_int.calls k1 _ _ y136 (rd l0 x11_1) t139 _ ?side1 ?side2 A16.out).mono ?_); (case side1 => repeat (first | exact (Kd.R_reads' HO138.out).2.2 | (with_reducible refine Kd.C_alloc ?_ _) | (with_reducible refine Kd.C_drewN ?_ _) | (with_reducible refine Kd.C_drew ?_))); (case side2 => exact (Kd.R_reads' HO138.out).2.1); rintro e w' ⟨rfl, ⟨nd, rfl⟩⟩; refine ⟨_, rfl, ?_⟩) | ((with_reducible refine gate_builtin (b := .append) (xs := #[.tmp 23, .tmp 27]) rfl ?_); at_builtin; refine Kd.R_append (Kd.int .i64) (w0 := w) w.heap.size rfl (.tmp 23) (.tmp 27) 28 3 (.int .i64 0) 8 rfl Tryd.underlying28 info3 rfl (by decide) (by omega) u3 x3_1 t139 [.int .i64 t139] (fun k_ => some k_ ≠ (.slice Ao20 y136.length co20 : Value).ownBlock) (fun _ => False) rfl rfl ?aP (fun _ hk => hk.elim) ?aF ?aO ?aB ?aS ?aL ?_; (case aP => exact rfl); (case aB => exact (by repeat (first | (with_reducible first | exact HB.out | apply below_alloc | apply pw_below_drewN | apply below_drew1) | exact HB.out))); (case aF => exact (fun k_ hk => Kd.fresh' (Kd.R_lt (by (with_reducible repeat (first | apply Kd.R_alloc | apply Kd.R_drewN | apply Kd.R_drew)); exact HO138.out)) k_ hk)); (case aO => exact (by (with_reducible repeat (first | apply Kd.R_alloc | apply Kd.R_drewN | apply Kd.R_drew)); exact Kd.R_mono HO_3.out (fun _ hk => hk.2))); (case aS => exact (below_size (by repeat (first | (with_reducible first | exact HB.out | apply below_alloc | apply pw_below_drewN | apply below_drew1) | exact HB.out)))); (case aL => have := LMc17.out; omega); intro v141 w21 ho hb hg hat; rw [← Ny140.out] at ho; have n0_ := Aside0.mk (Kd.R_after (ok := (fun _ => True)) (by (with_reducible repeat (first | apply Kd.R_alloc | apply Kd.R_drewN | apply Kd.R_drew)); exact Kd.R_mono HO138.out (fun _ hk => ⟨trivial, hk⟩)) hg hat); have n1_ := Aside0.mk (hb); have n2_ := Aside0.mk (ho); clear HO138; clear HB; clear HO_3; have HO138 := n0_; have HB := n1_; have HO142 := n2_; clear n0_ n1_ n2_; clear ho hb hg hat))
                  go_roundg k1
                  case measure => have := HK1.out; omega
                  case rel => exact ⟨(y140), (y136), (wrap64 (x11_1 + 1)), (by first | rfl | (simp; done) | (simp [*]; done)), H', ⟨by have := HK1.out; omega⟩, ⟨by (with_reducible repeat (first | apply Kd.R_alloc | apply Kd.R_drewN | apply Kd.R_drew)); exact HO142.out⟩, ⟨by (with_reducible repeat (first | apply Kd.R_alloc | apply Kd.R_drewN | apply Kd.R_drew)); exact Kd.R_mono HO138.out (fun _ hk => hk.2)⟩, ⟨by repeat (first | (with_reducible first | exact HB.out | apply below_alloc | apply pw_below_drewN | apply below_drew1) | exact HB.out)⟩⟩
                · rw [if_neg c17] at H
                  exact absurd H (by simp)
              · rw [if_neg c15] at H
                exact absurd H (by simp)
          · rw [if_neg c8] at H
            exact absurd H (by simp)
        · rw [if_neg c7] at H
          exact absurd H (by simp)
      · rw [if_neg c6] at H
        have c6b0 : decide (x11_1 < (l0.length : Int)) = false := decide_eq_false c6
        clear c6
        obtain rfl := Option.some.inj H
        go_wp2
        go_ret
        exact ⟨_, by first | rfl | (simp [errW_none, errW_some] <;> rfl) | (simp [*, errW_none, errW_some] <;> rfl), by (with_reducible repeat (first | apply Kd.R_alloc | apply Kd.R_drewN | apply Kd.R_drew)); exact Kd.R_mono HO_3.out (fun _ hk => trivial), by repeat (first | (with_reducible first | exact HB.out | apply below_alloc | apply pw_below_drewN | apply below_drew1) | exact HB.out)⟩

-- given: part memo
/-! ### a map that a function keeps what it has reckoned in: keys of two whole numbers, 0..N each; at each key that is there lies what V says -/
open Go.Maps (Keyed)
def hR (v : Value) : Option (DataW Value × List MemPlace) := some (.held v, [])
structure MemoK (P : Program) (t k e : TypeId) (kv : Int → Int → Value) (kl : Int → Int → Lit) (z0 : Value) (N : Nat) : Prop where
  law : Keyed P k
  ht : P.underlying t = some (.map k e)
  key : ∀ a b : Int, 0 ≤ a → a ≤ N → 0 ≤ b → b ≤ N → keyOf P k (kv a b) = some (kl a b)
  kinj : ∀ a b c d : Int, kv a b = kv c d → a = c ∧ b = d
  zero : ∀ w : World, (zeroValue e).run P w = .ok z0 w
  small : N ≤ 1000
def pairsN (N : Nat) : List (Nat × Nat) := (List.range (N + 1)).flatMap fun a => (List.range (N + 1)).map fun b => (a, b)
theorem mem_pairsN {N a b : Nat} (ha : a ≤ N) (hb : b ≤ N) : (a, b) ∈ pairsN N := by
  simp [pairsN, List.mem_flatMap, List.mem_map, List.mem_range]
  omega
theorem length_pairsN (N : Nat) : (pairsN N).length = (N + 1) * (N + 1) := by
  simp [pairsN, List.length_flatMap, List.map_const', List.sum_replicate_nat]
def lacks (kl : Int → Int → Lit) (N : Nat) (D : DataW Value) : Nat := ((pairsN N).filter fun u => !(Maps.has D (kl u.1 u.2))).length
theorem filter_le {α : Type} (p q : α → Bool) (h : ∀ x, q x = true → p x = true) : ∀ l : List α, (l.filter q).length ≤ (l.filter p).length
  | [] => by simp
  | x :: l => by
    have ih := filter_le p q h l
    cases hq : q x with
    | true => simp [List.filter_cons, hq, h x hq, ih]
    | false =>
      cases hp : p x with
      | true => simp [List.filter_cons, hq, hp]; omega
      | false => simp [List.filter_cons, hq, hp, ih]
theorem filter_lt {α : Type} (p q : α → Bool) (h : ∀ x, q x = true → p x = true) {u : α} (hp : p u = true) (hq : q u = false) : ∀ l : List α, u ∈ l → (l.filter q).length + 1 ≤ (l.filter p).length
  | [], hu => by simp at hu
  | x :: l, hu => by
    have hl := filter_le p q h l
    rcases List.mem_cons.1 hu with rfl | hu
    · simp [List.filter_cons, hq, hp, hl]
    · have ih := filter_lt p q h hp hq l hu
      cases hqx : q x with
      | true => simp [List.filter_cons, hqx, h x hqx]; omega
      | false =>
        cases hpx : p x with
        | true => simp [List.filter_cons, hqx, hpx]; omega
        | false => simp [List.filter_cons, hqx, hpx]; omega
section
variable {P : Program} {t k e : TypeId} {kv : Int → Int → Value} {kl : Int → Int → Lit} {z0 : Value} {N : Nat}
theorem MemoK.linj (M : MemoK P t k e kv kl z0 N) {a b c d : Int} (ha : 0 ≤ a ∧ a ≤ N) (hb : 0 ≤ b ∧ b ≤ N) (hc : 0 ≤ c ∧ c ≤ N) (hd : 0 ≤ d ∧ d ≤ N) (h : kl a b = kl c d) : a = c ∧ b = d := by
  have h1 := M.key a b ha.1 ha.2 hb.1 hb.2
  have h2 := M.key c d hc.1 hc.2 hd.1 hd.2
  rw [h] at h1
  exact M.kinj a b c d (M.law.inj h1 h2)
/-- what the map in block B holds -/
def Memo (P : Program) (k : TypeId) (kl : Int → Int → Lit) (N : Nat) (V : Int → Int → Value) (w : World) (B : Nat) : Prop :=
  ∃ D : DataW Value, w.ownsMap P k hR B (Maps.size D) D ∧ Maps.size D + lacks kl N D ≤ (N + 1) * (N + 1) ∧ ∀ a b : Int, 0 ≤ a → a ≤ N → 0 ≤ b → b ≤ N → Maps.has D (kl a b) = true → ∀ z, D.atKey (kl a b) z = .held (V a b)
variable {V : Int → Int → Value}
theorem owns_same {H : Type} {R : Value → Option (DataW H × List MemPlace)} {w w' : World} {b n : Nat} {D : DataW H} (h : w.ownsMap P k R b n D) (hb : w'.heap[b]? = w.heap[b]?) : w'.ownsMap P k R b n D := by
  obtain ⟨es, clock, hh, F, hs, hD⟩ := h
  exact ⟨es, clock, hb.trans hh, F, hs, hD⟩
theorem Memo.same {w w' : World} {B : Nat} (h : Memo P k kl N V w B) (hb : w'.heap[B]? = w.heap[B]?) : Memo P k kl N V w' B := by
  obtain ⟨D, h1, h2, h3⟩ := h
  exact ⟨D, owns_same h1 hb, h2, h3⟩
theorem Memo.lt {w : World} {B : Nat} (h : Memo P k kl N V w B) : B < w.heap.size := by
  obtain ⟨D, h1, _⟩ := h
  exact h1.lt
theorem Memo.below {w w' : World} {B : Nat} (h : Memo P k kl N V w B) (hb : Below w.heap.size w w') : Memo P k kl N V w' B := h.same (hb.block B h.lt)
theorem Memo.made (w : World) (P : Program) (k : TypeId) (kl : Int → Int → Lit) (N : Nat) (V : Int → Int → Value) : Memo P k kl N V (w.alloc (.map #[] 0)) w.heap.size := by
  refine ⟨.map [], World.ownsMap_made w P k hR, ?_, fun a b _ _ _ _ h => by simp [Maps.has] at h⟩
  have h1 := List.length_filter_le (fun u : Nat × Nat => !(Maps.has (.map [] : DataW Value) (kl u.1 u.2))) (pairsN N)
  rw [length_pairsN] at h1
  simp only [Maps.size, List.length_nil, lacks]
  omega
/-- a look-up: the key isn't there, or it is and V's value comes back -/
theorem Memo.look (M : MemoK P t k e kv kl z0 N) {w : World} {B : Nat} (h : Memo P k kl N V w B) {a b : Int} (ha : 0 ≤ a ∧ a ≤ N) (hb : 0 ≤ b ∧ b ≤ N) :
    (Instr.lookup t (.map (some B)) (kv a b) true).run P w = .ok (.tuple #[z0, .bool false]) w ∨ (Instr.lookup t (.map (some B)) (kv a b) true).run P w = .ok (.tuple #[V a b, .bool true]) w := by
  obtain ⟨D, h1, h2, h3⟩ := h
  obtain ⟨v, ps, hrun, hv⟩ := h1.look_ok M.law M.ht (M.zero w) (zd := .held z0) (zp := []) rfl (M.key a b ha.1 ha.2 hb.1 hb.2)
  simp only [hR, Option.some.injEq, Prod.mk.injEq] at hv
  obtain ⟨hv, _⟩ := hv
  cases hh : Maps.has D (kl a b) with
  | true =>
    right
    rw [h3 a b ha.1 ha.2 hb.1 hb.2 hh] at hv
    simp only [DataW.held.injEq] at hv
    rw [hrun, hh, hv]
  | false =>
    left
    rw [Maps.atKey_of_not_has hh] at hv
    simp only [DataW.held.injEq] at hv
    rw [hrun, hh, hv]
/-- a store of what V says -/
theorem Memo.store (M : MemoK P t k e kv kl z0 N) {w : World} {B : Nat} (h : Memo P k kl N V w B) {a b : Int} (ha : 0 ≤ a ∧ a ≤ N) (hb : 0 ≤ b ∧ b ≤ N) :
    ∃ w', (Instr.mapUpdate t (.map (some B)) (kv a b) (V a b)).run P w = .ok () w' ∧ Memo P k kl N V w' B ∧ w.grownBy w' (some B) := by
  obtain ⟨D, h1, h2, h3⟩ := h
  have hsm := M.small
  have hbig : (N + 1) * (N + 1) ≤ 1001 * 1001 := Nat.mul_le_mul (by omega) (by omega)
  have hkey := M.key a b ha.1 ha.2 hb.1 hb.2
  have hkl : WideAt.IsKeyLit (kl a b) := M.law.key hkey
  obtain ⟨w', hrun, hown, hg⟩ := h1.update M.law M.ht (by unfold maxLen; omega) hkey (d := .held (V a b)) (ps := []) rfl
  have htidy := h1.tidy M.law
  have hsame := Maps.has_put_same htidy.isMap hkl (.held (V a b))
  have hoth : ∀ c d : Int, kl c d ≠ kl a b → Maps.has (D.put (kl a b) (.held (V a b))) (kl c d) = Maps.has D (kl c d) := fun c d hne => Maps.has_put_other hne _
  have hmono : ∀ u : Nat × Nat, (!(Maps.has (D.put (kl a b) (.held (V a b))) (kl u.1 u.2))) = true → (!(Maps.has D (kl u.1 u.2))) = true := by
    intro u hu
    by_cases hne : kl u.1 u.2 = kl a b
    · rw [hne, hsame] at hu; simp at hu
    · rwa [hoth _ _ hne] at hu
  have hsize := Maps.size_put (k := kl a b) htidy (.held (V a b))
  have hcount : Maps.size (D.put (kl a b) (.held (V a b))) + lacks kl N (D.put (kl a b) (.held (V a b))) ≤ (N + 1) * (N + 1) := by
    cases hh : Maps.has D (kl a b) with
    | true =>
      rw [hsize, if_pos hh]
      have := filter_le (fun u : Nat × Nat => !(Maps.has D (kl u.1 u.2))) (fun u : Nat × Nat => !(Maps.has (D.put (kl a b) (.held (V a b))) (kl u.1 u.2))) hmono (pairsN N)
      simp only [lacks] at h2 ⊢
      omega
    | false =>
      rw [hsize, if_neg (by rw [hh]; decide)]
      obtain ⟨na, hna⟩ := Int.eq_ofNat_of_zero_le ha.1
      obtain ⟨nb, hnb⟩ := Int.eq_ofNat_of_zero_le hb.1
      subst hna hnb
      have := filter_lt (fun u : Nat × Nat => !(Maps.has D (kl u.1 u.2))) (fun u : Nat × Nat => !(Maps.has (D.put (kl na nb) (.held (V na nb))) (kl u.1 u.2))) hmono (u := (na, nb)) (by simp [hh]) (by simp [hsame]) (pairsN N) (mem_pairsN (by omega) (by omega))
      simp only [lacks] at h2 ⊢
      omega
  refine ⟨w', hrun, ⟨D.put (kl a b) (.held (V a b)), ?_, hcount, ?_⟩, hg⟩
  · obtain ⟨es, clock, hh, F, hs, hD⟩ := hown
    refine ⟨es, clock, hh, F, ?_, hD⟩
    rw [hD, Maps.size_eq, length_sorted]
    simp
  · intro c d hc0 hc1 hd0 hd1 hhas z
    by_cases hne : kl c d = kl a b
    · obtain ⟨rfl, rfl⟩ := M.linj ⟨hc0, hc1⟩ ⟨hd0, hd1⟩ ha hb hne
      exact Maps.atKey_put_same htidy.isMap hkl _ z
    · rw [Maps.atKey_put_other hne]
      rw [hoth c d hne] at hhas
      exact h3 c d hc0 hc1 hd0 hd1 hhas z
end
theorem grown_cell {w w' : World} {B b o : Nat} {v : Value} (hg : w.grownBy w' (some B)) (hne : b ≠ B) (h : w.cell? ⟨b, o, none⟩ = some v) : w'.cell? ⟨b, o, none⟩ = some v := by
  rw [← h]
  unfold World.cell?
  rw [hg.block b (World.block_lt_of_cell? w _ h) (by simpa using hne)]
theorem grown_trans {w w1 w2 : World} {B : Nat} (h : w.grownBy w1 (some B)) (h2 : w1.grownBy w2 (some B)) : w.grownBy w2 (some B) := World.grownBy.trans h h2
theorem grown_blw {w w1 w2 : World} {B : Nat} (h : Below w.heap.size w w1) (h2 : w1.grownBy w2 (some B)) : w.grownBy w2 (some B) := World.grownBy.trans (grown_of_below h _) h2
theorem memo_ne {kl : Int → Int → Lit} {N : Nat} {V : Int → Int → Value} {P : Program} {k : TypeId} {w : World} {B : Nat} (hm : Memo P k kl N V w B) {e base : Nat} {ok : Nat → Prop} {v : Value} {xs : List Int} (h : (Kd.int .i64).R e w base ok v xs) : some B ≠ v.ownBlock := by
  obtain ⟨D, ⟨es, clock, hh, _⟩, _⟩ := hm
  intro hB
  obtain ⟨cells, hc⟩ := Kd.R_typed h B hB.symm
  rw [hh] at hc
  simp at hc
theorem R_memo {kl : Int → Int → Lit} {N : Nat} {V : Int → Int → Value} {P : Program} {k : TypeId} {w w' : World} {B : Nat} (hm : Memo P k kl N V w B) {e base : Nat} {v : Value} {xs : List Int} (h : (Kd.int .i64).R e w base (fun _ => True) v xs) (hg : w.grownBy w' (some B)) : (Kd.int .i64).R e w' base (fun _ => True) v xs := by
  have hne := memo_ne hm h
  have h1 : (Kd.int .i64).R e w base (fun k => some k = v.ownBlock) v xs := by
    refine Kd.R_flat (d := Kd.int .i64) (fun h => h) h (fun k hk _ => hk.symm)
  exact Kd.R_mono (Kd.R_grown h1 hg (fun k hk => by rw [hk]; exact fun hh => hne hh.symm)) (fun _ _ => trivial)
theorem below_of_grown {n B : Nat} {w w1 w2 : World} (h1 : Below n w w1) (hn : n ≤ w1.heap.size) (hB : n ≤ B) (h2 : w1.grownBy w2 (some B)) : Below n w w2 :=
  ⟨h2.os.trans h1.os, h2.tape.trans h1.tape, h2.output.trans h1.output, Nat.le_trans h1.size h2.size, fun k hk => (h2.block k (by omega) (by simp; omega)).trans (h1.block k hk)⟩
/-- a row that is read is as it was, where a map's block alone has changed -/
theorem C_map {α : Type} {d : Kd α} {w w' : World} {B : Nat} {A : Option Addr} {n : Nat} {xs : List α} (hK : ∀ {x cs}, d.K w x cs → d.K w' x cs) (hr : d.C w A n xs) (hs : 0 < d.sz) (hm : ∃ es clock, w.heap[B]? = some (.map es clock)) (hg : w.grownBy w' (some B)) : d.C w' A n xs := by
  refine ⟨hr.1, hr.2.1, fun hn => ?_⟩
  obtain ⟨ad, e, hc⟩ := hr.2.2 hn
  obtain ⟨es, clock, hh⟩ := hm
  refine ⟨ad, e, fun j p hj => ?_⟩
  obtain ⟨c, h1, h2, h3⟩ := hc j p hj
  refine ⟨c, h1, hK h2, fun i u hu => ?_⟩
  have h4 := h3 i u hu
  have hb : (ad.add (j * d.sz + i)).block ≠ B := by
    intro hb
    unfold World.cell? at h4
    rw [hb, hh] at h4
    simp at h4
  rw [← h4]
  unfold World.cell?
  rw [hg.block _ (World.block_lt_of_cell? w _ h4) (by simpa using hb)]
theorem Memo.isMap {P : Program} {k : TypeId} {kl : Int → Int → Lit} {N : Nat} {V : Int → Int → Value} {w : World} {B : Nat} (h : Memo P k kl N V w B) : ∃ es clock, w.heap[B]? = some (.map es clock) := by
  obtain ⟨D, ⟨es, clock, hh, _⟩, _⟩ := h
  exact ⟨es, clock, hh⟩
theorem grown_at {w w' : World} {B : Nat} {a : Addr} {v : Value} (hm : ∃ es clock, w.heap[B]? = some (.map es clock)) (hg : w.grownBy w' (some B)) (h : w.cell? a = some v) : w'.cell? a = some v := by
  obtain ⟨es, clock, hh⟩ := hm
  have hb : a.block ≠ B := by
    intro hb
    unfold World.cell? at h
    rw [hb, hh] at h
    simp at h
  rw [← h]
  unfold World.cell?
  rw [hg.block _ (World.block_lt_of_cell? w _ h) (by simpa using hb)]

-- given: part topmap

/-! ### a map from whole numbers to bytes -/
def TopMap (P : Program) (K : TypeId) (w : World) (B n : Nat) (f : Int → Option Int) : Prop := ∃ D : DataW Value, w.ownsMap P K hR B n D ∧ (∀ k v, f k = some v → Maps.has D (.int .i64 k) = true ∧ ∀ z, D.atKey (.int .i64 k) z = .held (.int .u8 v)) ∧ ∀ k, f k = none → Maps.has D (.int .i64 k) = false
theorem TopMap.made (P : Program) (K : TypeId) (w : World) : TopMap P K (w.alloc (.map #[] 0)) w.heap.size 0 (fun _ => none) := by
  refine ⟨.map [], World.ownsMap_made w P K hR, ?_, ?_⟩
  · intro k v h
    exact absurd h (by simp)
  · intro k _
    rfl
theorem TopMap.lt {P : Program} {K : TypeId} {w : World} {B n : Nat} {f : Int → Option Int} (h : TopMap P K w B n f) : B < w.heap.size := by
  obtain ⟨D, h1, _⟩ := h
  exact h1.lt
theorem TopMap.below {P : Program} {K : TypeId} {w w' : World} {B n : Nat} {f : Int → Option Int} (h : TopMap P K w B n f) (hb : Below w.heap.size w w') : TopMap P K w' B n f := by
  obtain ⟨D, h1, h2⟩ := h
  exact ⟨D, owns_same h1 (hb.block B h1.lt), h2⟩
theorem TopMap.look {P : Program} {t K e : TypeId} {w : World} {B n : Nat} {f : Int → Option Int} (h : TopMap P K w B n f) (hk : P.underlying K = some (.int .i64)) (ht : P.underlying t = some (.map K e)) (hz : ∀ w : World, (zeroValue e).run P w = .ok (.int .u8 0) w) (k : Int) (hw : (Lit.int .i64 k).wf = true) :
    (Instr.lookup t (.map (some B)) (.int .i64 k) true).run P w = .ok (.tuple #[.int .u8 ((f k).getD 0), .bool (f k).isSome]) w := by
  obtain ⟨D, h1, h2, h3⟩ := h
  obtain ⟨v, ps, hrun, hv⟩ := h1.look_ok (Go.Maps.int_keyed hk) ht (hz w) (zd := .held (.int .u8 0)) (zp := []) rfl (Go.Maps.keyOf_int_mk hk hw)
  simp only [hR, Option.some.injEq, Prod.mk.injEq] at hv
  obtain ⟨hv, _⟩ := hv
  cases hf : f k with
  | some u =>
    obtain ⟨ha, hb⟩ := h2 k u hf
    rw [hb] at hv
    simp only [DataW.held.injEq] at hv
    rw [hrun, ha, hv]
    rfl
  | none =>
    have ha := h3 k hf
    rw [Maps.atKey_of_not_has ha] at hv
    simp only [DataW.held.injEq] at hv
    rw [hrun, ha, hv]
    rfl
theorem TopMap.store {P : Program} {t K e : TypeId} {w : World} {B n : Nat} {f : Int → Option Int} (h : TopMap P K w B n f) (hk : P.underlying K = some (.int .i64)) (ht : P.underlying t = some (.map K e)) (hn : n ≤ 1000) (k : Int) (hw : (Lit.int .i64 k).wf = true) (c : Int) :
    ∃ w', (Instr.mapUpdate t (.map (some B)) (.int .i64 k) (.int .u8 c)).run P w = .ok () w' ∧ TopMap P K w' B (n + 1) (fun x => if x = k then some c else f x) ∧ w.grownBy w' (some B) := by
  obtain ⟨D, h1, h2, h3⟩ := h
  have hkey := Go.Maps.keyOf_int_mk hk hw
  have hlaw := Go.Maps.int_keyed hk
  have hkl : WideAt.IsKeyLit (.int .i64 k) := hlaw.key hkey
  obtain ⟨w', hrun, hown, hg⟩ := h1.update hlaw ht (by unfold maxLen; omega) hkey (val := .int .u8 c) (d := .held (.int .u8 c)) (ps := []) rfl
  have htidy := h1.tidy hlaw
  have hne : ∀ x : Int, x ≠ k → (Lit.int .i64 x) ≠ .int .i64 k := fun x hx h4 => by injection h4 with _ h5; exact hx h5
  refine ⟨w', hrun, ⟨_, hown, fun x v hx => ?_, fun x hx => ?_⟩, hg⟩
  · dsimp only at hx
    by_cases e : x = k
    · rw [if_pos e] at hx
      obtain rfl := Option.some.inj hx
      subst e
      exact ⟨Maps.has_put_same htidy.isMap hkl _, fun z => Maps.atKey_put_same htidy.isMap hkl _ z⟩
    · rw [if_neg e] at hx
      obtain ⟨ha, hb⟩ := h2 x v hx
      exact ⟨(Maps.has_put_other (hne x e) _).trans ha, fun z => (Maps.atKey_put_other (hne x e) _ z).trans (hb z)⟩
  · dsimp only at hx
    by_cases e : x = k
    · rw [if_pos e] at hx; cases hx
    · rw [if_neg e] at hx
      exact (Maps.has_put_other (hne x e) _).trans (h3 x hx)

-- given: loop.example/g01334/impl.IsPlacing

/-! ### impl_IsPlacing: by hand -/
def plF : List Int → List UInt8 → (Int → Option Int) → Bool
  | k :: ks, c :: cs, f => if (f k).isSome = true ∧ (f k).getD 0 < (c.toNat : Int) then false else plF ks cs (fun x => if x = k then some (c.toNat : Int) else f x)
  | _, _, _ => true
def impl_IsPlacing.f (k : Nat) (a0 : ByteArray) (l1 : List Int) : Option (Bool × Bool) := (impl_IsLoading.f a0).bind fun p => if p = true then (if l1.length = a0.size then (impl_named.f k l1).bind fun nm => (slices_Equal_int_int.f k nm l1).bind fun e => if e = true then (if a0.size ≤ 12 ∧ l1.all (fun x => decide (0 ≤ x) && decide (x ≤ 1000)) = true then some (plF l1 a0.data.toList (fun _ => none), true) else none) else some (false, true) else some (false, true)) else some (false, false)
theorem impl_IsPlacing.mono : ∀ a0 l1 k, LeO (impl_IsPlacing.f k a0 l1) (impl_IsPlacing.f (k + 1) a0 l1) := by
  intro a0 l1 k
  unfold impl_IsPlacing.f
  refine LeO.bind (LeO.refl _) (fun p => ?_)
  split
  · split
    · exact LeO.bind (impl_named.mono l1 k) (fun nm => LeO.bind (slices_Equal_int_int.mono nm l1 k) (fun e => LeO.refl _))
    · exact LeO.refl _
  · exact LeO.refl _
set_option maxHeartbeats 1000000 in
set_option maxRecDepth 100000 in
theorem impl_IsPlacing.calls (k : Nat) (a0 : ByteArray) (A1 : Option Addr) (c1 : Nat) (l1 : List Int) (r1 : Bool) (r2 : Bool) (w : World) (hr1 : Kd.C (Kd.int .i64) w A1 l1.length l1) (hc1 : l1.length ≤ c1) (h : impl_IsPlacing.f k a0 l1 = some (r1, r2)) :
    Calls Tryd.prog 37 #[.string a0, .slice A1 l1.length c1] w fun e w' => e = .returned (.tuple #[.bool r1, .bool r2]) ∧ Below w.heap.size w w' := by
  have HR0 := Aside0.mk hr1
  have HC0 := Aside0.mk hc1
  clear hr1 hc1
  unfold impl_IsPlacing.f at h
  obtain ⟨p, hp, h⟩ := Option.bind_eq_some_iff.mp h
  have HP := Aside0.mk hp
  clear hp
  cases p with
  | false =>
    obtain ⟨rfl, rfl⟩ := Prod.mk.inj (Option.some.inj h)
    clear h
    go_enter Tryd.func37, Tryd.ntmps37
    go_wp2_with (go_at_call 17; refine (impl_IsLoading.calls a0 false _ HP.out).mono ?_; rintro e w1 ⟨rfl, hb1⟩; have HB1 := Aside0.mk hb1; clear hb1)
    go_ret2
    exact ⟨rfl, HB1.out⟩
  | true =>
    rw [if_pos rfl] at h
    by_cases hlen : l1.length = a0.size
    · rw [if_pos hlen] at h
      obtain ⟨nm, hnm, h⟩ := Option.bind_eq_some_iff.mp h
      obtain ⟨eq, heq, h⟩ := Option.bind_eq_some_iff.mp h
      have HNM := Aside0.mk hnm
      have HEQ := Aside0.mk heq
      have HLEN := Aside0.mk hlen
      have q1 : ((l1.length : Int) != (a0.size : Int)) = false := by rw [hlen]; simp
      have q2 : ((l1.length : Int) = (a0.size : Int)) = True := eq_true (by omega)
      have q3 : ((l1.length : Int) == (a0.size : Int)) = true := by rw [hlen]; simp
      have q4 : (l1.length = a0.size) = True := eq_true hlen
      clear hnm heq hlen
      cases eq with
      | false =>
        obtain ⟨rfl, rfl⟩ := Prod.mk.inj (Option.some.inj h)
        clear h
        go_enter Tryd.func37, Tryd.ntmps37
        go_wp2_with (first | (go_at_call 17; refine (impl_IsLoading.calls a0 true _ HP.out).mono ?_; rintro e w1 ⟨rfl, hb1⟩; have HB1 := Aside0.mk hb1; clear hb1) | (go_at_call 59; refine (impl_named.calls k A1 c1 l1 nm _ (Kd.C_below HR0.out HB1.out) HC0.out HNM.out).mono ?_; rintro e w2 ⟨v0, rfl, ho2, hb2⟩; have HB2 := Aside0.mk (HB1.out.trans (hb2.mono HB1.out.size)); obtain ⟨An, cn, rfl⟩ := Kd.R_slice ho2; have HRR := Aside0.mk (Kd.R_reads' ho2); clear ho2 hb2) | (go_at_call 58; refine (slices_Equal_int_int.calls k An cn nm A1 c1 l1 false _ HRR.out.2.2 HRR.out.2.1 (Kd.C_below HR0.out HB2.out) HC0.out HEQ.out).mono ?_; rintro e w3 ⟨rfl, ⟨nd, rfl⟩⟩))
        go_ret2
        exact ⟨rfl, pw_below_drewN HB2.out _⟩
      | true =>
        rw [if_pos rfl] at h
        by_cases hg : a0.size ≤ 12 ∧ l1.all (fun x => decide (0 ≤ x) && decide (x ≤ 1000)) = true
        · rw [if_pos hg] at h
          obtain ⟨rfl, rfl⟩ := Prod.mk.inj (Option.some.inj h)
          clear h
          obtain ⟨h12, hall⟩ := hg
          have hl12 : l1.length ≤ 12 := by have := HLEN.out; omega
          have HALL : Aside0 (∀ x ∈ l1, 0 ≤ x ∧ x ≤ 1000) := ⟨fun x hx => by rw [List.all_eq_true] at hall; have := hall x hx; simpa using this⟩
          have hlenL : a0.data.toList.length = a0.size := rfl
          have hmm := @run_makeMap Tryd.prog
          have hk3 := Tryd.underlying3
          have hmt := Tryd.underlying51
          have hz : ∀ w : World, (zeroValue 5).run Tryd.prog w = .ok (.int .u8 0) w := Tryd.zeroValue5
          clear hall
          go_enter Tryd.func37, Tryd.ntmps37
          go_wp2_with (first | (go_at_call 17; refine (impl_IsLoading.calls a0 true _ HP.out).mono ?_; rintro e w1 ⟨rfl, hb1⟩; have HB1 := Aside0.mk hb1; clear hb1) | (go_at_call 59; refine (impl_named.calls k A1 c1 l1 nm _ (Kd.C_below HR0.out HB1.out) HC0.out HNM.out).mono ?_; rintro e w2 ⟨v0, rfl, ho2, hb2⟩; have HB2 := Aside0.mk (HB1.out.trans (hb2.mono HB1.out.size)); obtain ⟨An, cn, rfl⟩ := Kd.R_slice ho2; have HRR := Aside0.mk (Kd.R_reads' ho2); clear ho2 hb2) | (go_at_call 58; refine (slices_Equal_int_int.calls k An cn nm A1 c1 l1 true _ HRR.out.2.2 HRR.out.2.1 (Kd.C_below HR0.out HB2.out) HC0.out HEQ.out).mono ?_; rintro e w3 ⟨rfl, hd3⟩; have HB3 : Aside0 (Below w.heap.size w w3) := ⟨by obtain ⟨nd, hw⟩ := hd3; rw [hw]; exact pw_below_drewN HB2.out _⟩; clear hd3))
          have HM := Aside0.mk (TopMap.made Tryd.prog 3 w3)
          have HW := Aside0.mk (HB3.out.trans ((by repeat (first | exact Below.refl _ _ | apply below_alloc) : Below w3.heap.size w3 (w3.alloc (.map #[] 0))).mono HB3.out.size))
          have HBw := Aside0.mk HB3.out.size
          go_loopg [29] l1.length (fun gg v29 wr => ∃ (kk : Nat) (f : Int → Option Int), kk ≤ l1.length ∧ l1.length - kk ≤ gg ∧ v29 = .int .i64 kk ∧ Aside0 (plF (l1.drop kk) (a0.data.toList.drop kk) f = plF l1 a0.data.toList (fun _ => none)) ∧ Aside0 (TopMap Tryd.prog 3 wr w3.heap.size kk f) ∧ Aside0 (Below w.heap.size w wr))
          case atStart => exact ⟨0, fun _ => none, by omega, by omega, rfl, ⟨rfl⟩, HM, HW⟩
          case round =>
            clear HM HW
            obtain ⟨kk, f, hkk, hgg, rfl, HN, HM, HW⟩ := hrel
            by_cases hlt : kk < l1.length
            · have d1 : ((kk : Int) < (l1.length : Int)) = True := eq_true (by omega)
              have d2 : ((kk : Int) < (a0.size : Int)) = True := eq_true (by have := HLEN.out; omega)
              have d3 : (0 ≤ (kk : Int)) = True := eq_true (by omega)
              have hlts : kk < a0.size := by have := HLEN.out; omega
              have hltL : kk < a0.data.toList.length := hlts
              have hx1 : ∀ hh : kk < a0.size, ((a0[kk]'hh).toNat : Int) = ((a0.data.toList[kk]'hltL).toNat : Int) := fun hh => by rfl
              have hx2 : ∀ hh : (kk : Int).toNat < a0.size, ((a0[(kk : Int).toNat]'hh).toNat : Int) = ((a0.data.toList[kk]'hltL).toNat : Int) := fun hh => by simp only [Int.toNat_natCast]; rfl
              have hdrop : a0.data.toList.drop kk = a0.data.toList[kk]'hltL :: a0.data.toList.drop (kk + 1) := List.drop_eq_getElem_cons hltL
              have hdrop2 : l1.drop kk = l1[kk]'hlt :: l1.drop (kk + 1) := List.drop_eq_getElem_cons hlt
              obtain ⟨ad, rfl, hcx⟩ := Kd.at_int (Kd.C_below HR0.out HW.out) (kk : Int) (by omega) (by omega)
              rw [show rd l1 (kk : Int) = l1[kk]'hlt by simp [rd, hlt], Int.toNat_natCast] at hcx
              have hrng := HALL.out _ (List.getElem_mem hlt)
              have hstep : plF (l1.drop kk) (a0.data.toList.drop kk) f = if (f (l1[kk]'hlt)).isSome = true ∧ (f (l1[kk]'hlt)).getD 0 < ((a0.data.toList[kk]'hltL).toNat : Int) then false else plF (l1.drop (kk + 1)) (a0.data.toList.drop (kk + 1)) (fun x => if x = l1[kk]'hlt then some ((a0.data.toList[kk]'hltL).toNat : Int) else f x) := by
                rw [hdrop, hdrop2, plF]
              rw [HN.out] at hstep
              generalize a0.data.toList[kk]'hltL = c at hx1 hx2 hstep
              generalize l1[kk]'hlt = x at hcx hrng hstep
              have hwf : (Lit.int .i64 x).wf = true := WalkArith.wf_i64 (by omega)
              have hlook := HM.out.look hk3 hmt hz x hwf
              obtain ⟨w4, hst, hm4, hg4⟩ := HM.out.store hk3 hmt (by omega) x hwf (c.toNat : Int)
              have HM4 := Aside0.mk hm4
              have HG4 := Aside0.mk hg4
              clear hdrop hdrop2 hwf hm4 hg4 HN hrng
              generalize hfx : f x = o at hlook hstep
              clear hfx
              cases o with
              | none =>
                rw [if_neg (by simp)] at hstep
                simp only [Option.getD_none, Option.isSome_none] at hlook
                have HS := Aside0.mk hstep
                clear hstep
                go_wp2_with fail
                go_roundg (l1.length - (kk + 1))
                case measure => omega
                case rel => exact ⟨kk + 1, _, by omega, by omega, by go_num, ⟨HS.out.symm⟩, HM4, ⟨below_of_grown HW.out HW.out.size HBw.out HG4.out⟩⟩
              | some t =>
                simp only [Option.getD_some, Option.isSome_some] at hlook hstep
                cases hq : decide (t < (c.toNat : Int)) with
                | true =>
                  rw [if_pos ⟨by first | rfl | trivial, of_decide_eq_true hq⟩] at hstep
                  have HS := Aside0.mk hstep
                  clear hstep
                  go_wp2_with fail
                  go_ret2
                  refine ⟨?_, HW.out⟩
                  rw [HS.out]
                  rfl
                | false =>
                  rw [if_neg (fun hh => by rw [decide_eq_true hh.2] at hq; cases hq)] at hstep
                  have HS := Aside0.mk hstep
                  clear hstep
                  go_wp2_with fail
                  go_roundg (l1.length - (kk + 1))
                  case measure => omega
                  case rel => exact ⟨kk + 1, _, by omega, by omega, by go_num, ⟨HS.out.symm⟩, HM4, ⟨below_of_grown HW.out HW.out.size HBw.out HG4.out⟩⟩
            · have d1 : ((kk : Int) < (l1.length : Int)) = False := eq_false (by omega)
              obtain rfl : kk = l1.length := by omega
              have hn := HN.out
              rw [List.drop_length] at hn
              have HS := Aside0.mk (hn.symm.trans (by unfold plF; rfl) : plF l1 a0.data.toList (fun _ => none) = true)
              clear hn
              go_wp2_with fail
              go_ret2
              refine ⟨?_, HW.out⟩
              rw [HS.out]
              rfl
        · rw [if_neg hg] at h
          exact absurd h (by simp)
    · rw [if_neg hlen] at h
      obtain ⟨rfl, rfl⟩ := Prod.mk.inj (Option.some.inj h)
      have q1 : ((l1.length : Int) != (a0.size : Int)) = true := by rw [bne_iff_ne]; omega
      have q2 : ((l1.length : Int) = (a0.size : Int)) = False := eq_false (by omega)
      have q3 : ((l1.length : Int) == (a0.size : Int)) = false := by rw [beq_eq_false_iff_ne]; omega
      have q4 : (l1.length = a0.size) = False := eq_false hlen
      clear h hlen
      go_enter Tryd.func37, Tryd.ntmps37
      go_wp2_with (go_at_call 17; refine (impl_IsLoading.calls a0 true _ HP.out).mono ?_; rintro e w1 ⟨rfl, hb1⟩; have HB1 := Aside0.mk hb1; clear hb1)
      go_ret2
      exact ⟨rfl, HB1.out⟩

end Go.Proofs.YtoimgbcbmbpfaaaDoor.Q

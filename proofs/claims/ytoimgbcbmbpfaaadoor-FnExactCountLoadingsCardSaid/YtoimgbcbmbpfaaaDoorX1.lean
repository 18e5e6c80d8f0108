-- Written by the session's program wip/myprint.py (over the kit's print); the given parts by hand.
import Derived.Test.YtoimgbcbmbpfaaaDoorX0
namespace Go.Proofs.YtoimgbcbmbpfaaaDoor.X
open Go.RowKit Go.Proofs.YtoimgbcbmbpfaaaDoorW.PrintWords Go.Proofs.YtoimgbcbmbpfaaaDoorW.PrintLast Go.Proofs.YtoimgbcbmbpfaaaDoorW.PrintMore
attribute [local go_sem] max2_int min2_int max_two min_two max_three min_three max_four min_four   -- for this text's walks alone
set_option linter.unusedVariables false
set_option linter.unusedSimpArgs false

/-! ### spec_l1In: function 48 -/
def spec_l1In.f (a0 : Int) (a1 : Int) (a2 : Int) : Option (Bool) := if a0 ≥ a1 then (some (decide (a0 ≤ a2))) else (some false)
set_option maxHeartbeats 8000000 in
set_option maxRecDepth 100000 in
theorem spec_l1In.calls (a0 : Int) (a1 : Int) (a2 : Int) (r : Bool) (w : World) (h : spec_l1In.f a0 a1 a2 = some r) :
    Calls Tryd.prog 48 #[.int .i64 a0, .int .i64 a1, .int .i64 a2] w fun e w' => e = .returned (.bool r) ∧ Drawn0 w w' := by
  have H : (if a0 ≥ a1 then (some (decide (a0 ≤ a2))) else (some false)) = some r := h
  clear h
  by_cases c4 : a0 ≥ a1
  · rw [if_pos c4] at H
    have c4b0 : decide (a1 ≤ a0) = true := decide_eq_true c4
    clear c4
    obtain rfl := Option.some.inj H
    go_enter Tryd.func48, Tryd.ntmps48
    go_wp2
    go_ret
    exact ⟨by first | rfl | (simp; done) | (simp [*]; done), by repeat (first | exact Drawn0.refl _ | apply Drawn0.step)⟩
  · rw [if_neg c4] at H
    have c4b0 : decide (a1 ≤ a0) = false := decide_eq_false c4
    clear c4
    obtain rfl := Option.some.inj H
    go_enter Tryd.func48, Tryd.ntmps48
    go_wp2
    go_ret
    exact ⟨by first | rfl | (simp; done) | (simp [*]; done), by repeat (first | exact Drawn0.refl _ | apply Drawn0.step)⟩

/-! ### spec_ldGood: function 46 -/
def spec_ldGood.l0 : Nat → ByteArray → Int → Option (Bool)
  | 0, _, _ => none
  | k + 1, x0, x3 => if x3 < (x0.size : Int) then (if 0 ≤ x3 then ((spec_l1In.f (wrap64 ((wrap64 (bt x0 x3)) - 48)) 1 9).bind fun t101 => (if t101 = true then (spec_ldGood.l0 k x0 (wrap64 (x3 + 1))) else (some false))) else (none)) else (some true)
def spec_ldGood.f (k : Nat) (a0 : ByteArray) : Option (Bool) := if (a0.size : Int) > 12 then (some false) else (spec_ldGood.l0 k a0 0)
theorem spec_ldGood.mono_l : ∀ k, (∀ y0 y1, LeO (spec_ldGood.l0 k y0 y1) (spec_ldGood.l0 (k + 1) y0 y1))
  | 0 => fun _ _ r h => by simp [spec_ldGood.l0] at h
  | k + 1 => by
    have ih0 := spec_ldGood.mono_l k
    · intro y0 y1
      unfold spec_ldGood.l0
      repeat' first
      | (with_reducible exact ih0 _ _)
      | (with_reducible exact LeO.refl _)
      | (with_reducible exact LeO.none _)
      | (with_reducible refine LeO.ite ?_ ?_)
      | (with_reducible refine LeO.bind ?_ (fun _ => ?_))
      | exact ih0 _ _
      | exact LeO.none _
      | refine LeO.ite ?_ ?_
      | refine LeO.bind ?_ (fun _ => ?_)
theorem spec_ldGood.mono : ∀ a0 k, LeO (spec_ldGood.f k a0) (spec_ldGood.f (k + 1) a0) := by
  intro a0 k
  have ih0 := spec_ldGood.mono_l k
  unfold spec_ldGood.f
  repeat' first
      | (with_reducible exact ih0 _ _)
      | (with_reducible exact LeO.refl _)
      | (with_reducible exact LeO.none _)
      | (with_reducible refine LeO.ite ?_ ?_)
      | (with_reducible refine LeO.bind ?_ (fun _ => ?_))
      | exact ih0 _ _
      | exact LeO.none _
      | refine LeO.ite ?_ ?_
      | refine LeO.bind ?_ (fun _ => ?_)
set_option maxHeartbeats 8000000 in
set_option maxRecDepth 100000 in
theorem spec_ldGood.calls (k : Nat) (a0 : ByteArray) (r : Bool) (w : World) (h : spec_ldGood.f k a0 = some r) :
    Calls Tryd.prog 46 #[.string a0] w fun e w' => e = .returned (.bool r) ∧ Drawn0 w w' := by
  have H : (if (a0.size : Int) > 12 then (some false) else (spec_ldGood.l0 k a0 0)) = some r := h
  clear h
  by_cases c2 : (a0.size : Int) > 12
  · rw [if_pos c2] at H
    have c2b0 : decide (12 < (a0.size : Int)) = true := decide_eq_true c2
    have c2b1 : decide (12 < a0.size) = true := decide_eq_true (by omega)
    clear c2
    obtain rfl := Option.some.inj H
    go_enter Tryd.func46, Tryd.ntmps46
    go_wp2
    go_ret
    exact ⟨by first | rfl | (simp; done) | (simp [*]; done), by repeat (first | exact Drawn0.refl _ | apply Drawn0.step)⟩
  · rw [if_neg c2] at H
    have c2b0 : decide (12 < (a0.size : Int)) = false := decide_eq_false c2
    have c2b1 : decide (12 < a0.size) = false := decide_eq_false (by omega)
    clear c2
    have H' := Aside0.mk H
    clear H
    go_enter Tryd.func46, Tryd.ntmps46
    go_wp2
    go_loopg [3] k (fun kq v3 w' => ∃ (x3_1 : Int), v3 = .int .i64 x3_1 ∧ Aside0 (spec_ldGood.l0 kq a0 x3_1 = some r) ∧ Aside0 (kq ≤ k) ∧ Drawn0 w w')
    case atStart => exact ⟨(0), (by first | rfl | (simp; done) | (simp [*]; done)), H', ⟨Nat.le_refl _⟩, by repeat (first | exact Drawn0.refl _ | apply Drawn0.step)⟩
    case round =>
      clear H'
      try clear c2
      try clear c2b0
      try clear c2b1
      try clear p2
      obtain ⟨x3_1, rfl, HA, HK1, ⟨m1, rfl⟩⟩ := hrel
      cases gk with
      | zero => exact absurd HA.out (by simp [spec_ldGood.l0])
      | succ k1 =>
        have H := HA.out
        clear HA
        simp only [spec_ldGood.l0] at H
        by_cases c3 : x3_1 < (a0.size : Int)
        · rw [if_pos c3] at H
          have c3b0 : decide (x3_1 < (a0.size : Int)) = true := decide_eq_true c3
          clear c3
          by_cases c4 : 0 ≤ x3_1
          · rw [if_pos c4] at H
            have c4b0 : decide (0 ≤ x3_1) = true := decide_eq_true c4
            clear c4
            replace H := Option.bind_eq_some_iff.mp H
            obtain ⟨t101, A60, H⟩ := H
            replace H : (if t101 = true then (spec_ldGood.l0 k1 a0 (wrap64 (x3_1 + 1))) else (some false)) = some r := H
            have A6 := Aside0.mk A60
            clear A60
            by_cases c7 : t101 = true
            · subst c7
              have H1 : (spec_ldGood.l0 k1 a0 (wrap64 (x3_1 + 1))) = some r := by rw [if_pos rfl] at H; exact H
              clear H
              have H := H1
              clear H1
              have H' := Aside0.mk H
              clear H
              have p5 : 0 ≤ (x3_1 : Int) := of_decide_eq_true (by first | (with_reducible assumption) | assumption)
              have q5 : x3_1 < (a0.size : Int) := of_decide_eq_true (by first | (with_reducible assumption) | assumption)
              have hx5 := bt_at a0 x3_1
              replace p5 := eq_true p5
              replace q5 := eq_true q5
              go_wp2_with (first | ((with_reducible refine gate_callee (f := 48) rfl ?_); refine goesL_ (some 18) rfl rfl Tryd.func48 (by kernel_rfl) rfl #[.int .i64 (wrap64 ((wrap64 (bt a0 x3_1)) - 48)), .int .i64 1, .int .i64 9] rfl (by (try simp only [List.map_toArray, List.map_cons, List.map_nil]); first | done | rfl | (simp only [List.length_drop, List.length_take]; rfl)) ?_; (with_reducible refine (spec_l1In.calls (wrap64 ((wrap64 (bt a0 x3_1)) - 48)) 1 9 true _ A6.out).mono ?_); rintro e w' ⟨rfl, ⟨nd, rfl⟩⟩; refine ⟨_, rfl, ?_⟩))
              go_roundg k1
              case measure => have := HK1.out; omega
              case rel => exact ⟨(wrap64 (x3_1 + 1)), (by first | rfl | (simp; done) | (simp [*]; done)), H', ⟨by have := HK1.out; omega⟩, by repeat (first | exact Drawn0.refl _ | apply Drawn0.step)⟩
            · replace c7 := Bool.eq_false_iff.mpr c7
              subst c7
              have H1 : (some false) = some r := by rw [if_neg (show ¬ (false = true) by decide)] at H; exact H
              clear H
              have H := H1
              clear H1
              obtain rfl := Option.some.inj H
              have p5 : 0 ≤ (x3_1 : Int) := of_decide_eq_true (by first | (with_reducible assumption) | assumption)
              have q5 : x3_1 < (a0.size : Int) := of_decide_eq_true (by first | (with_reducible assumption) | assumption)
              have hx5 := bt_at a0 x3_1
              replace p5 := eq_true p5
              replace q5 := eq_true q5
              go_wp2_with (first | ((with_reducible refine gate_callee (f := 48) rfl ?_); refine goesL_ (some 18) rfl rfl Tryd.func48 (by kernel_rfl) rfl #[.int .i64 (wrap64 ((wrap64 (bt a0 x3_1)) - 48)), .int .i64 1, .int .i64 9] rfl (by (try simp only [List.map_toArray, List.map_cons, List.map_nil]); first | done | rfl | (simp only [List.length_drop, List.length_take]; rfl)) ?_; (with_reducible refine (spec_l1In.calls (wrap64 ((wrap64 (bt a0 x3_1)) - 48)) 1 9 false _ A6.out).mono ?_); rintro e w' ⟨rfl, ⟨nd, rfl⟩⟩; refine ⟨_, rfl, ?_⟩))
              go_ret
              exact ⟨by first | rfl | (simp; done) | (simp [*]; done), by repeat (first | exact Drawn0.refl _ | apply Drawn0.step)⟩
          · rw [if_neg c4] at H
            exact absurd H (by simp)
        · rw [if_neg c3] at H
          have c3b0 : decide (x3_1 < (a0.size : Int)) = false := decide_eq_false c3
          clear c3
          obtain rfl := Option.some.inj H
          go_wp2
          go_ret
          exact ⟨by first | rfl | (simp; done) | (simp [*]; done), by repeat (first | exact Drawn0.refl _ | apply Drawn0.step)⟩

/-! ### spec_CountLoadings: function 20 -/
mutual
def spec_CountLoadings.l0 : Nat → ByteArray → Int → Int → Int → Option (Int × Bool)
  | 0, _, _, _, _ => none
  | k + 1, x0, x4, x5, x6 => if x6 ≤ 57 then (spec_CountLoadings.l1 k x0 x4 x5 x6 0 0) else (some (x4, true))
def spec_CountLoadings.l1 : Nat → ByteArray → Int → Int → Int → Int → Int → Option (Int × Bool)
  | 0, _, _, _, _, _, _ => none
  | k + 1, x0, x4, x5, x6, x7, x8 => if x8 < (x0.size : Int) then (if 0 ≤ x8 then (if (bt x0 x8) = x6 then (if (wrap64 (x7 + 1)) = 0 then (none) else (spec_CountLoadings.l1 k x0 (wrap64 (Int.tdiv (wrap64 (x4 * (wrap64 (x5 + 1)))) (wrap64 (x7 + 1)))) (wrap64 (x5 + 1)) x6 (wrap64 (x7 + 1)) (wrap64 (x8 + 1)))) else (spec_CountLoadings.l1 k x0 x4 x5 x6 x7 (wrap64 (x8 + 1)))) else (none)) else (spec_CountLoadings.l0 k x0 x4 x5 ((x6 + 1) % 256))
end
def spec_CountLoadings.f (k : Nat) (a0 : ByteArray) : Option (Int × Bool) := (spec_ldGood.f k a0).bind fun t102 => (if t102 = true then (spec_CountLoadings.l0 k a0 1 0 49) else (some (0, false)))
theorem spec_CountLoadings.mono_l : ∀ k, (∀ y0 y1 y2 y3, LeO (spec_CountLoadings.l0 k y0 y1 y2 y3) (spec_CountLoadings.l0 (k + 1) y0 y1 y2 y3)) ∧ (∀ y0 y1 y2 y3 y4 y5, LeO (spec_CountLoadings.l1 k y0 y1 y2 y3 y4 y5) (spec_CountLoadings.l1 (k + 1) y0 y1 y2 y3 y4 y5))
  | 0 => ⟨fun _ _ _ _ r h => by simp [spec_CountLoadings.l0] at h, fun _ _ _ _ _ _ r h => by simp [spec_CountLoadings.l1] at h⟩
  | k + 1 => by
    obtain ⟨ih0, ih1⟩ := spec_CountLoadings.mono_l k
    refine ⟨?_, ?_⟩
    · intro y0 y1 y2 y3
      unfold spec_CountLoadings.l0
      repeat' first
      | (with_reducible exact ih0 _ _ _ _)
      | (with_reducible exact ih1 _ _ _ _ _ _)
      | (with_reducible exact spec_ldGood.mono _ _)
      | (with_reducible exact LeO.refl _)
      | (with_reducible exact LeO.none _)
      | (with_reducible refine LeO.ite ?_ ?_)
      | (with_reducible refine LeO.bind ?_ (fun _ => ?_))
      | exact ih0 _ _ _ _
      | exact ih1 _ _ _ _ _ _
      | exact spec_ldGood.mono _ _
      | exact LeO.none _
      | refine LeO.ite ?_ ?_
      | refine LeO.bind ?_ (fun _ => ?_)
    · intro y0 y1 y2 y3 y4 y5
      unfold spec_CountLoadings.l1
      repeat' first
      | (with_reducible exact ih0 _ _ _ _)
      | (with_reducible exact ih1 _ _ _ _ _ _)
      | (with_reducible exact spec_ldGood.mono _ _)
      | (with_reducible exact LeO.refl _)
      | (with_reducible exact LeO.none _)
      | (with_reducible refine LeO.ite ?_ ?_)
      | (with_reducible refine LeO.bind ?_ (fun _ => ?_))
      | exact ih0 _ _ _ _
      | exact ih1 _ _ _ _ _ _
      | exact spec_ldGood.mono _ _
      | exact LeO.none _
      | refine LeO.ite ?_ ?_
      | refine LeO.bind ?_ (fun _ => ?_)
theorem spec_CountLoadings.mono : ∀ a0 k, LeO (spec_CountLoadings.f k a0) (spec_CountLoadings.f (k + 1) a0) := by
  intro a0 k
  obtain ⟨ih0, ih1⟩ := spec_CountLoadings.mono_l k
  unfold spec_CountLoadings.f
  repeat' first
      | (with_reducible exact ih0 _ _ _ _)
      | (with_reducible exact ih1 _ _ _ _ _ _)
      | (with_reducible exact spec_ldGood.mono _ _)
      | (with_reducible exact LeO.refl _)
      | (with_reducible exact LeO.none _)
      | (with_reducible refine LeO.ite ?_ ?_)
      | (with_reducible refine LeO.bind ?_ (fun _ => ?_))
      | exact ih0 _ _ _ _
      | exact ih1 _ _ _ _ _ _
      | exact spec_ldGood.mono _ _
      | exact LeO.none _
      | refine LeO.ite ?_ ?_
      | refine LeO.bind ?_ (fun _ => ?_)
set_option maxHeartbeats 8000000 in
set_option maxRecDepth 100000 in
theorem spec_CountLoadings.calls (k : Nat) (a0 : ByteArray) (r1 : Int) (r2 : Bool) (w : World) (h : spec_CountLoadings.f k a0 = some (r1, r2)) :
    Calls Tryd.prog 20 #[.string a0] w fun e w' => e = .returned (.tuple #[.int .i64 r1, .bool r2]) ∧ Drawn0 w w' := by
  have H : ((spec_ldGood.f k a0).bind fun t102 => (if t102 = true then (spec_CountLoadings.l0 k a0 1 0 49) else (some (0, false)))) = some (r1, r2) := h
  clear h
  replace H := Option.bind_eq_some_iff.mp H
  obtain ⟨t102, A20, H⟩ := H
  replace H : (if t102 = true then (spec_CountLoadings.l0 k a0 1 0 49) else (some (0, false))) = some (r1, r2) := H
  have A2 := Aside0.mk A20
  clear A20
  by_cases c3 : t102 = true
  · subst c3
    have H1 : (spec_CountLoadings.l0 k a0 1 0 49) = some (r1, r2) := by rw [if_pos rfl] at H; exact H
    clear H
    have H := H1
    clear H1
    have H' := Aside0.mk H
    clear H
    go_enter Tryd.func20, Tryd.ntmps20
    go_wp2_with (first | ((with_reducible refine gate_callee (f := 46) rfl ?_); refine goesL_ (some 10) rfl rfl Tryd.func46 (by kernel_rfl) rfl #[.string a0] rfl (by (try simp only [List.map_toArray, List.map_cons, List.map_nil]); first | done | rfl | (simp only [List.length_drop, List.length_take]; rfl)) ?_; (with_reducible refine (spec_ldGood.calls k a0 true _ A2.out).mono ?_); rintro e w' ⟨rfl, ⟨nd, rfl⟩⟩; refine ⟨_, rfl, ?_⟩))
    go_loopg [4, 5, 6] k (fun kq v4 v5 v6 w' => ∃ (x4_1 : Int) (x5_1 : Int) (x6_1 : Int), v4 = .int .i64 x4_1 ∧ v5 = .int .i64 x5_1 ∧ v6 = .int .u8 x6_1 ∧ Aside0 (spec_CountLoadings.l0 kq a0 x4_1 x5_1 x6_1 = some (r1, r2)) ∧ Aside0 (kq ≤ k) ∧ Drawn0 w w')
    case atStart => exact ⟨(1), (0), (49), (by first | rfl | (simp; done) | (simp [*]; done)), (by first | rfl | (simp; done) | (simp [*]; done)), (by first | rfl | (simp; done) | (simp [*]; done)), H', ⟨Nat.le_refl _⟩, by repeat (first | exact Drawn0.refl _ | apply Drawn0.step)⟩
    case round =>
      clear H'
      try clear c2
      try clear p2
      try clear c3
      obtain ⟨x4_1, x5_1, x6_1, rfl, rfl, rfl, HA, HK1, ⟨m1, rfl⟩⟩ := hrel
      cases gk with
      | zero => exact absurd HA.out (by simp [spec_CountLoadings.l0])
      | succ k1 =>
        have H := HA.out
        clear HA
        simp only [spec_CountLoadings.l0] at H
        by_cases c4 : x6_1 ≤ 57
        · rw [if_pos c4] at H
          have c4b0 : decide (x6_1 ≤ 57) = true := decide_eq_true c4
          clear c4
          have H' := Aside0.mk H
          clear H
          go_wp2
          go_loopg [4, 5, 7, 8] k1 (fun kq v4 v5 v7 v8 w' => ∃ (x4_2 : Int) (x5_2 : Int) (x7_2 : Int) (x8_2 : Int), v4 = .int .i64 x4_2 ∧ v5 = .int .i64 x5_2 ∧ v7 = .int .i64 x7_2 ∧ v8 = .int .i64 x8_2 ∧ Aside0 (spec_CountLoadings.l1 kq a0 x4_2 x5_2 x6_1 x7_2 x8_2 = some (r1, r2)) ∧ Aside0 (kq ≤ k1) ∧ Drawn0 w w')
          case atStart => exact ⟨(x4_1), (x5_1), (0), (0), (by first | rfl | (simp; done) | (simp [*]; done)), (by first | rfl | (simp; done) | (simp [*]; done)), (by first | rfl | (simp; done) | (simp [*]; done)), (by first | rfl | (simp; done) | (simp [*]; done)), H', ⟨Nat.le_refl _⟩, by repeat (first | exact Drawn0.refl _ | apply Drawn0.step)⟩
          case round =>
            clear H'
            try clear c2
            try clear p2
            try clear c3
            try clear c4
            try clear c4b0
            try clear p2
            obtain ⟨x4_2, x5_2, x7_2, x8_2, rfl, rfl, rfl, rfl, HA, HK2, ⟨m2, rfl⟩⟩ := hrel
            cases gk with
            | zero => exact absurd HA.out (by simp [spec_CountLoadings.l1])
            | succ k2 =>
              have H := HA.out
              clear HA
              simp only [spec_CountLoadings.l1] at H
              by_cases c5 : x8_2 < (a0.size : Int)
              · rw [if_pos c5] at H
                have c5b0 : decide (x8_2 < (a0.size : Int)) = true := decide_eq_true c5
                clear c5
                by_cases c6 : 0 ≤ x8_2
                · rw [if_pos c6] at H
                  have c6b0 : decide (0 ≤ x8_2) = true := decide_eq_true c6
                  clear c6
                  by_cases c8 : (bt a0 x8_2) = x6_1
                  · rw [if_pos c8] at H
                    have c8b0 : ((bt a0 x8_2) == x6_1) = true := beq_iff_eq.mpr c8
                    have c8b1 : ((bt a0 x8_2) != x6_1) = false := bne_eq_false_iff_eq.mpr c8
                    clear c8
                    by_cases c9 : (wrap64 (x7_2 + 1)) = 0
                    · rw [if_pos c9] at H
                      exact absurd H (by simp)
                    · rw [if_neg c9] at H
                      have c9b0 : ((wrap64 (x7_2 + 1)) == 0) = false := beq_eq_false_iff_ne.mpr c9
                      have c9b1 : ((wrap64 (x7_2 + 1)) != 0) = true := bne_iff_ne.mpr c9
                      have H' := Aside0.mk H
                      clear H
                      have p7 : 0 ≤ (x8_2 : Int) := of_decide_eq_true (by first | (with_reducible assumption) | assumption)
                      have q7 : x8_2 < (a0.size : Int) := of_decide_eq_true (by first | (with_reducible assumption) | assumption)
                      have hx7 := bt_at a0 x8_2
                      replace p7 := eq_true p7
                      replace q7 := eq_true q7
                      go_wp2
                      go_roundg k2
                      case measure => have := HK1.out; have := HK2.out; omega
                      case rel => exact ⟨(wrap64 (Int.tdiv (wrap64 (x4_2 * (wrap64 (x5_2 + 1)))) (wrap64 (x7_2 + 1)))), (wrap64 (x5_2 + 1)), (wrap64 (x7_2 + 1)), (wrap64 (x8_2 + 1)), (by first | rfl | (simp; done) | (simp [*]; done)), (by first | rfl | (simp; done) | (simp [*]; done)), (by first | rfl | (simp; done) | (simp [*]; done)), (by first | rfl | (simp; done) | (simp [*]; done)), H', ⟨by have := HK1.out; have := HK2.out; omega⟩, by repeat (first | exact Drawn0.refl _ | apply Drawn0.step)⟩
                  · rw [if_neg c8] at H
                    have c8b0 : ((bt a0 x8_2) == x6_1) = false := beq_eq_false_iff_ne.mpr c8
                    have c8b1 : ((bt a0 x8_2) != x6_1) = true := bne_iff_ne.mpr c8
                    have H' := Aside0.mk H
                    clear H
                    have p7 : 0 ≤ (x8_2 : Int) := of_decide_eq_true (by first | (with_reducible assumption) | assumption)
                    have q7 : x8_2 < (a0.size : Int) := of_decide_eq_true (by first | (with_reducible assumption) | assumption)
                    have hx7 := bt_at a0 x8_2
                    replace p7 := eq_true p7
                    replace q7 := eq_true q7
                    go_wp2
                    go_roundg k2
                    case measure => have := HK1.out; have := HK2.out; omega
                    case rel => exact ⟨(x4_2), (x5_2), (x7_2), (wrap64 (x8_2 + 1)), (by first | rfl | (simp; done) | (simp [*]; done)), (by first | rfl | (simp; done) | (simp [*]; done)), (by first | rfl | (simp; done) | (simp [*]; done)), (by first | rfl | (simp; done) | (simp [*]; done)), H', ⟨by have := HK1.out; have := HK2.out; omega⟩, by repeat (first | exact Drawn0.refl _ | apply Drawn0.step)⟩
                · rw [if_neg c6] at H
                  exact absurd H (by simp)
              · rw [if_neg c5] at H
                have c5b0 : decide (x8_2 < (a0.size : Int)) = false := decide_eq_false c5
                clear c5
                have H' := Aside0.mk H
                clear H
                go_wp2
                go_roundg k2
                case measure => have := HK1.out; have := HK2.out; omega
                case rel => exact ⟨(x4_2), (x5_2), ((x6_1 + 1) % 256), (by first | rfl | (simp; done) | (simp [*]; done)), (by first | rfl | (simp; done) | (simp [*]; done)), (by first | rfl | (simp; done) | (simp [*]; done)), H', ⟨by have := HK1.out; have := HK2.out; omega⟩, by repeat (first | exact Drawn0.refl _ | apply Drawn0.step)⟩
        · rw [if_neg c4] at H
          have c4b0 : decide (x6_1 ≤ 57) = false := decide_eq_false c4
          clear c4
          simp only [Option.some.injEq, Prod.mk.injEq] at H
          obtain ⟨rfl, rfl⟩ := H
          go_wp2
          go_ret2
          exact ⟨by first | rfl | (simp; done) | (simp [*]; done), by repeat (first | exact Drawn0.refl _ | apply Drawn0.step)⟩
  · replace c3 := Bool.eq_false_iff.mpr c3
    subst c3
    have H1 : (some (0, false)) = some (r1, r2) := by rw [if_neg (show ¬ (false = true) by decide)] at H; exact H
    clear H
    have H := H1
    clear H1
    simp only [Option.some.injEq, Prod.mk.injEq] at H
    obtain ⟨rfl, rfl⟩ := H
    go_enter Tryd.func20, Tryd.ntmps20
    go_wp2_with (first | ((with_reducible refine gate_callee (f := 46) rfl ?_); refine goesL_ (some 10) rfl rfl Tryd.func46 (by kernel_rfl) rfl #[.string a0] rfl (by (try simp only [List.map_toArray, List.map_cons, List.map_nil]); first | done | rfl | (simp only [List.length_drop, List.length_take]; rfl)) ?_; (with_reducible refine (spec_ldGood.calls k a0 false _ A2.out).mono ?_); rintro e w' ⟨rfl, ⟨nd, rfl⟩⟩; refine ⟨_, rfl, ?_⟩))
    go_ret2
    exact ⟨by first | rfl | (simp; done) | (simp [*]; done), by repeat (first | exact Drawn0.refl _ | apply Drawn0.step)⟩

-- given: strings.Trim

/-! ### strings.Trim at an ASCII cutset, by its contract -/
def strings_Trim.f (a0 a1 : ByteArray) : Option ByteArray := if a0.size ≤ 9223372036854775807 ∧ a1.size < 4294967281 ∧ a1.data.toList.all (fun b => decide (b.toNat < 128)) = true then some ⟨(Lib.trimS a0.data.toList a1.data.toList).toArray⟩ else none
theorem strings_Trim.calls (a0 a1 : ByteArray) (r : ByteArray) (w : World) (h : strings_Trim.f a0 a1 = some r) :
    Calls Tryd.prog 47 #[.string a0, .string a1] w fun e w' => e = .returned (.string r) ∧ Below w.heap.size w w' := by
  unfold strings_Trim.f at h
  split at h
  · rename_i hc
    obtain rfl := Option.some.inj h
    exact Any.strings_Trim_laid Tryd.lays160 (by kernel_rfl) a0 a1 w hc.1 hc.2.1 (ascii_of_all hc.2.2)
  · cases h

/-! ### impl_IsLoading: function 17 -/
def impl_IsLoading.f (a0 : ByteArray) : Option (Bool) := if (a0.size : Int) ≤ 12 then ((strings_Trim.f a0 (⟨#[49, 50, 51, 52, 53, 54, 55, 56, 57]⟩ : ByteArray)).bind fun t103 => (some (t103.toList == ([] : List UInt8)))) else (some false)
set_option maxHeartbeats 8000000 in
set_option maxRecDepth 100000 in
theorem impl_IsLoading.calls (a0 : ByteArray) (r : Bool) (w : World) (h : impl_IsLoading.f a0 = some r) :
    Calls Tryd.prog 17 #[.string a0] w fun e w' => e = .returned (.bool r) ∧ Below w.heap.size w w' := by
  have HB := Aside0.mk (Below.refl w.heap.size w)
  have H : (if (a0.size : Int) ≤ 12 then ((strings_Trim.f a0 (⟨#[49, 50, 51, 52, 53, 54, 55, 56, 57]⟩ : ByteArray)).bind fun t103 => (some (t103.toList == ([] : List UInt8)))) else (some false)) = some r := h
  clear h
  by_cases c2 : (a0.size : Int) ≤ 12
  · rw [if_pos c2] at H
    have c2b0 : decide ((a0.size : Int) ≤ 12) = true := decide_eq_true c2
    have c2b1 : decide (a0.size ≤ 12) = true := decide_eq_true (by omega)
    clear c2
    replace H := Option.bind_eq_some_iff.mp H
    obtain ⟨t103, A30, H⟩ := H
    replace H : (some (t103.toList == ([] : List UInt8))) = some r := H
    have A3 := Aside0.mk A30
    clear A30
    obtain rfl := Option.some.inj H
    go_enter Tryd.func17, Tryd.ntmps17
    go_wp2_with (first | (go_at_call 47; (with_reducible refine (strings_Trim.calls a0 (⟨#[49, 50, 51, 52, 53, 54, 55, 56, 57]⟩ : ByteArray) t103 _ A3.out).mono ?_); rintro e w4 ⟨rfl, hb⟩; have n0_ := Aside0.mk (below_step (by repeat (first | (with_reducible first | exact HB.out | apply below_alloc | apply pw_below_drewN | apply below_drew1) | exact HB.out)) hb); clear HB; have HB := n0_; clear n0_; (try clear hb); (try clear hb2); (try clear hk); (try clear hi)))
    go_ret
    exact ⟨by first | rfl | (simp [errW_none, errW_some] <;> rfl) | (simp [*, errW_none, errW_some] <;> rfl), by repeat (first | (with_reducible first | exact HB.out | apply below_alloc | apply pw_below_drewN | apply below_drew1) | exact HB.out)⟩
  · rw [if_neg c2] at H
    have c2b0 : decide ((a0.size : Int) ≤ 12) = false := decide_eq_false c2
    have c2b1 : decide (a0.size ≤ 12) = false := decide_eq_false (by omega)
    clear c2
    obtain rfl := Option.some.inj H
    go_enter Tryd.func17, Tryd.ntmps17
    go_wp2
    go_ret
    exact ⟨by first | rfl | (simp [errW_none, errW_some] <;> rfl) | (simp [*, errW_none, errW_some] <;> rfl), by repeat (first | (with_reducible first | exact HB.out | apply below_alloc | apply pw_below_drewN | apply below_drew1) | exact HB.out)⟩

-- given: part memo
/-! ### a map that a function keeps what it has reckoned in: keys of two whole numbers, 0..N each; at each key that is there lies what V says -/
open Go.Maps (Keyed)
def hR (v : Value) : Option (DataW Value × List MemPlace) := some (.held v, [])
structure MemoK (P : Program) (t k e : TypeId) (kv : Int → Int → Value) (kl : Int → Int → Lit) (z0 : Value) (N : Nat) : Prop where
  law : Keyed P k
  ht : P.underlying t = some (.map k e)
  key : ∀ a b : Int, 0 ≤ a → a ≤ N → 0 ≤ b → b ≤ N → keyOf P k (kv a b) = some (kl a b)
  kinj : ∀ a b c d : Int, kv a b = kv c d → a = c ∧ b = d
  zero : ∀ w : World, (zeroValue e).run P w = .ok z0 w
  small : N ≤ 1000
def pairsN (N : Nat) : List (Nat × Nat) := (List.range (N + 1)).flatMap fun a => (List.range (N + 1)).map fun b => (a, b)
theorem mem_pairsN {N a b : Nat} (ha : a ≤ N) (hb : b ≤ N) : (a, b) ∈ pairsN N := by
  simp [pairsN, List.mem_flatMap, List.mem_map, List.mem_range]
  omega
theorem length_pairsN (N : Nat) : (pairsN N).length = (N + 1) * (N + 1) := by
  simp [pairsN, List.length_flatMap, List.map_const', List.sum_replicate_nat]
def lacks (kl : Int → Int → Lit) (N : Nat) (D : DataW Value) : Nat := ((pairsN N).filter fun u => !(Maps.has D (kl u.1 u.2))).length
theorem filter_le {α : Type} (p q : α → Bool) (h : ∀ x, q x = true → p x = true) : ∀ l : List α, (l.filter q).length ≤ (l.filter p).length
  | [] => by simp
  | x :: l => by
    have ih := filter_le p q h l
    cases hq : q x with
    | true => simp [List.filter_cons, hq, h x hq, ih]
    | false =>
      cases hp : p x with
      | true => simp [List.filter_cons, hq, hp]; omega
      | false => simp [List.filter_cons, hq, hp, ih]
theorem filter_lt {α : Type} (p q : α → Bool) (h : ∀ x, q x = true → p x = true) {u : α} (hp : p u = true) (hq : q u = false) : ∀ l : List α, u ∈ l → (l.filter q).length + 1 ≤ (l.filter p).length
  | [], hu => by simp at hu
  | x :: l, hu => by
    have hl := filter_le p q h l
    rcases List.mem_cons.1 hu with rfl | hu
    · simp [List.filter_cons, hq, hp, hl]
    · have ih := filter_lt p q h hp hq l hu
      cases hqx : q x with
      | true => simp [List.filter_cons, hqx, h x hqx]; omega
      | false =>
        cases hpx : p x with
        | true => simp [List.filter_cons, hqx, hpx]; omega
        | false => simp [List.filter_cons, hqx, hpx]; omega
section
variable {P : Program} {t k e : TypeId} {kv : Int → Int → Value} {kl : Int → Int → Lit} {z0 : Value} {N : Nat}
theorem MemoK.linj (M : MemoK P t k e kv kl z0 N) {a b c d : Int} (ha : 0 ≤ a ∧ a ≤ N) (hb : 0 ≤ b ∧ b ≤ N) (hc : 0 ≤ c ∧ c ≤ N) (hd : 0 ≤ d ∧ d ≤ N) (h : kl a b = kl c d) : a = c ∧ b = d := by
  have h1 := M.key a b ha.1 ha.2 hb.1 hb.2
  have h2 := M.key c d hc.1 hc.2 hd.1 hd.2
  rw [h] at h1
  exact M.kinj a b c d (M.law.inj h1 h2)
/-- what the map in block B holds -/
def Memo (P : Program) (k : TypeId) (kl : Int → Int → Lit) (N : Nat) (V : Int → Int → Value) (w : World) (B : Nat) : Prop :=
  ∃ D : DataW Value, w.ownsMap P k hR B (Maps.size D) D ∧ Maps.size D + lacks kl N D ≤ (N + 1) * (N + 1) ∧ ∀ a b : Int, 0 ≤ a → a ≤ N → 0 ≤ b → b ≤ N → Maps.has D (kl a b) = true → ∀ z, D.atKey (kl a b) z = .held (V a b)
variable {V : Int → Int → Value}
theorem owns_same {H : Type} {R : Value → Option (DataW H × List MemPlace)} {w w' : World} {b n : Nat} {D : DataW H} (h : w.ownsMap P k R b n D) (hb : w'.heap[b]? = w.heap[b]?) : w'.ownsMap P k R b n D := by
  obtain ⟨es, clock, hh, F, hs, hD⟩ := h
  exact ⟨es, clock, hb.trans hh, F, hs, hD⟩
theorem Memo.same {w w' : World} {B : Nat} (h : Memo P k kl N V w B) (hb : w'.heap[B]? = w.heap[B]?) : Memo P k kl N V w' B := by
  obtain ⟨D, h1, h2, h3⟩ := h
  exact ⟨D, owns_same h1 hb, h2, h3⟩
theorem Memo.lt {w : World} {B : Nat} (h : Memo P k kl N V w B) : B < w.heap.size := by
  obtain ⟨D, h1, _⟩ := h
  exact h1.lt
theorem Memo.below {w w' : World} {B : Nat} (h : Memo P k kl N V w B) (hb : Below w.heap.size w w') : Memo P k kl N V w' B := h.same (hb.block B h.lt)
theorem Memo.made (w : World) (P : Program) (k : TypeId) (kl : Int → Int → Lit) (N : Nat) (V : Int → Int → Value) : Memo P k kl N V (w.alloc (.map #[] 0)) w.heap.size := by
  refine ⟨.map [], World.ownsMap_made w P k hR, ?_, fun a b _ _ _ _ h => by simp [Maps.has] at h⟩
  have h1 := List.length_filter_le (fun u : Nat × Nat => !(Maps.has (.map [] : DataW Value) (kl u.1 u.2))) (pairsN N)
  rw [length_pairsN] at h1
  simp only [Maps.size, List.length_nil, lacks]
  omega
/-- a look-up: the key isn't there, or it is and V's value comes back -/
theorem Memo.look (M : MemoK P t k e kv kl z0 N) {w : World} {B : Nat} (h : Memo P k kl N V w B) {a b : Int} (ha : 0 ≤ a ∧ a ≤ N) (hb : 0 ≤ b ∧ b ≤ N) :
    (Instr.lookup t (.map (some B)) (kv a b) true).run P w = .ok (.tuple #[z0, .bool false]) w ∨ (Instr.lookup t (.map (some B)) (kv a b) true).run P w = .ok (.tuple #[V a b, .bool true]) w := by
  obtain ⟨D, h1, h2, h3⟩ := h
  obtain ⟨v, ps, hrun, hv⟩ := h1.look_ok M.law M.ht (M.zero w) (zd := .held z0) (zp := []) rfl (M.key a b ha.1 ha.2 hb.1 hb.2)
  simp only [hR, Option.some.injEq, Prod.mk.injEq] at hv
  obtain ⟨hv, _⟩ := hv
  cases hh : Maps.has D (kl a b) with
  | true =>
    right
    rw [h3 a b ha.1 ha.2 hb.1 hb.2 hh] at hv
    simp only [DataW.held.injEq] at hv
    rw [hrun, hh, hv]
  | false =>
    left
    rw [Maps.atKey_of_not_has hh] at hv
    simp only [DataW.held.injEq] at hv
    rw [hrun, hh, hv]
/-- a store of what V says -/
theorem Memo.store (M : MemoK P t k e kv kl z0 N) {w : World} {B : Nat} (h : Memo P k kl N V w B) {a b : Int} (ha : 0 ≤ a ∧ a ≤ N) (hb : 0 ≤ b ∧ b ≤ N) :
    ∃ w', (Instr.mapUpdate t (.map (some B)) (kv a b) (V a b)).run P w = .ok () w' ∧ Memo P k kl N V w' B ∧ w.grownBy w' (some B) := by
  obtain ⟨D, h1, h2, h3⟩ := h
  have hsm := M.small
  have hbig : (N + 1) * (N + 1) ≤ 1001 * 1001 := Nat.mul_le_mul (by omega) (by omega)
  have hkey := M.key a b ha.1 ha.2 hb.1 hb.2
  have hkl : WideAt.IsKeyLit (kl a b) := M.law.key hkey
  obtain ⟨w', hrun, hown, hg⟩ := h1.update M.law M.ht (by unfold maxLen; omega) hkey (d := .held (V a b)) (ps := []) rfl
  have htidy := h1.tidy M.law
  have hsame := Maps.has_put_same htidy.isMap hkl (.held (V a b))
  have hoth : ∀ c d : Int, kl c d ≠ kl a b → Maps.has (D.put (kl a b) (.held (V a b))) (kl c d) = Maps.has D (kl c d) := fun c d hne => Maps.has_put_other hne _
  have hmono : ∀ u : Nat × Nat, (!(Maps.has (D.put (kl a b) (.held (V a b))) (kl u.1 u.2))) = true → (!(Maps.has D (kl u.1 u.2))) = true := by
    intro u hu
    by_cases hne : kl u.1 u.2 = kl a b
    · rw [hne, hsame] at hu; simp at hu
    · rwa [hoth _ _ hne] at hu
  have hsize := Maps.size_put (k := kl a b) htidy (.held (V a b))
  have hcount : Maps.size (D.put (kl a b) (.held (V a b))) + lacks kl N (D.put (kl a b) (.held (V a b))) ≤ (N + 1) * (N + 1) := by
    cases hh : Maps.has D (kl a b) with
    | true =>
      rw [hsize, if_pos hh]
      have := filter_le (fun u : Nat × Nat => !(Maps.has D (kl u.1 u.2))) (fun u : Nat × Nat => !(Maps.has (D.put (kl a b) (.held (V a b))) (kl u.1 u.2))) hmono (pairsN N)
      simp only [lacks] at h2 ⊢
      omega
    | false =>
      rw [hsize, if_neg (by rw [hh]; decide)]
      obtain ⟨na, hna⟩ := Int.eq_ofNat_of_zero_le ha.1
      obtain ⟨nb, hnb⟩ := Int.eq_ofNat_of_zero_le hb.1
      subst hna hnb
      have := filter_lt (fun u : Nat × Nat => !(Maps.has D (kl u.1 u.2))) (fun u : Nat × Nat => !(Maps.has (D.put (kl na nb) (.held (V na nb))) (kl u.1 u.2))) hmono (u := (na, nb)) (by simp [hh]) (by simp [hsame]) (pairsN N) (mem_pairsN (by omega) (by omega))
      simp only [lacks] at h2 ⊢
      omega
  refine ⟨w', hrun, ⟨D.put (kl a b) (.held (V a b)), ?_, hcount, ?_⟩, hg⟩
  · obtain ⟨es, clock, hh, F, hs, hD⟩ := hown
    refine ⟨es, clock, hh, F, ?_, hD⟩
    rw [hD, Maps.size_eq, length_sorted]
    simp
  · intro c d hc0 hc1 hd0 hd1 hhas z
    by_cases hne : kl c d = kl a b
    · obtain ⟨rfl, rfl⟩ := M.linj ⟨hc0, hc1⟩ ⟨hd0, hd1⟩ ha hb hne
      exact Maps.atKey_put_same htidy.isMap hkl _ z
    · rw [Maps.atKey_put_other hne]
      rw [hoth c d hne] at hhas
      exact h3 c d hc0 hc1 hd0 hd1 hhas z
end
theorem grown_cell {w w' : World} {B b o : Nat} {v : Value} (hg : w.grownBy w' (some B)) (hne : b ≠ B) (h : w.cell? ⟨b, o, none⟩ = some v) : w'.cell? ⟨b, o, none⟩ = some v := by
  rw [← h]
  unfold World.cell?
  rw [hg.block b (World.block_lt_of_cell? w _ h) (by simpa using hne)]
theorem grown_trans {w w1 w2 : World} {B : Nat} (h : w.grownBy w1 (some B)) (h2 : w1.grownBy w2 (some B)) : w.grownBy w2 (some B) := World.grownBy.trans h h2
theorem grown_blw {w w1 w2 : World} {B : Nat} (h : Below w.heap.size w w1) (h2 : w1.grownBy w2 (some B)) : w.grownBy w2 (some B) := World.grownBy.trans (grown_of_below h _) h2
theorem memo_ne {kl : Int → Int → Lit} {N : Nat} {V : Int → Int → Value} {P : Program} {k : TypeId} {w : World} {B : Nat} (hm : Memo P k kl N V w B) {e base : Nat} {ok : Nat → Prop} {v : Value} {xs : List Int} (h : (Kd.int .i64).R e w base ok v xs) : some B ≠ v.ownBlock := by
  obtain ⟨D, ⟨es, clock, hh, _⟩, _⟩ := hm
  intro hB
  obtain ⟨cells, hc⟩ := Kd.R_typed h B hB.symm
  rw [hh] at hc
  simp at hc
theorem R_memo {kl : Int → Int → Lit} {N : Nat} {V : Int → Int → Value} {P : Program} {k : TypeId} {w w' : World} {B : Nat} (hm : Memo P k kl N V w B) {e base : Nat} {v : Value} {xs : List Int} (h : (Kd.int .i64).R e w base (fun _ => True) v xs) (hg : w.grownBy w' (some B)) : (Kd.int .i64).R e w' base (fun _ => True) v xs := by
  have hne := memo_ne hm h
  have h1 : (Kd.int .i64).R e w base (fun k => some k = v.ownBlock) v xs := by
    refine Kd.R_flat (d := Kd.int .i64) (fun h => h) h (fun k hk _ => hk.symm)
  exact Kd.R_mono (Kd.R_grown h1 hg (fun k hk => by rw [hk]; exact fun hh => hne hh.symm)) (fun _ _ => trivial)
theorem below_of_grown {n B : Nat} {w w1 w2 : World} (h1 : Below n w w1) (hn : n ≤ w1.heap.size) (hB : n ≤ B) (h2 : w1.grownBy w2 (some B)) : Below n w w2 :=
  ⟨h2.os.trans h1.os, h2.tape.trans h1.tape, h2.output.trans h1.output, Nat.le_trans h1.size h2.size, fun k hk => (h2.block k (by omega) (by simp; omega)).trans (h1.block k hk)⟩
/-- a row that is read is as it was, where a map's block alone has changed -/
theorem C_map {α : Type} {d : Kd α} {w w' : World} {B : Nat} {A : Option Addr} {n : Nat} {xs : List α} (hK : ∀ {x cs}, d.K w x cs → d.K w' x cs) (hr : d.C w A n xs) (hs : 0 < d.sz) (hm : ∃ es clock, w.heap[B]? = some (.map es clock)) (hg : w.grownBy w' (some B)) : d.C w' A n xs := by
  refine ⟨hr.1, hr.2.1, fun hn => ?_⟩
  obtain ⟨ad, e, hc⟩ := hr.2.2 hn
  obtain ⟨es, clock, hh⟩ := hm
  refine ⟨ad, e, fun j p hj => ?_⟩
  obtain ⟨c, h1, h2, h3⟩ := hc j p hj
  refine ⟨c, h1, hK h2, fun i u hu => ?_⟩
  have h4 := h3 i u hu
  have hb : (ad.add (j * d.sz + i)).block ≠ B := by
    intro hb
    unfold World.cell? at h4
    rw [hb, hh] at h4
    simp at h4
  rw [← h4]
  unfold World.cell?
  rw [hg.block _ (World.block_lt_of_cell? w _ h4) (by simpa using hb)]
theorem Memo.isMap {P : Program} {k : TypeId} {kl : Int → Int → Lit} {N : Nat} {V : Int → Int → Value} {w : World} {B : Nat} (h : Memo P k kl N V w B) : ∃ es clock, w.heap[B]? = some (.map es clock) := by
  obtain ⟨D, ⟨es, clock, hh, _⟩, _⟩ := h
  exact ⟨es, clock, hh⟩
theorem grown_at {w w' : World} {B : Nat} {a : Addr} {v : Value} (hm : ∃ es clock, w.heap[B]? = some (.map es clock)) (hg : w.grownBy w' (some B)) (h : w.cell? a = some v) : w'.cell? a = some v := by
  obtain ⟨es, clock, hh⟩ := hm
  have hb : a.block ≠ B := by
    intro hb
    unfold World.cell? at h
    rw [hb, hh] at h
    simp at h
  rw [← h]
  unfold World.cell?
  rw [hg.block _ (World.block_lt_of_cell? w _ h) (by simpa using hb)]

-- given: part cntmap

/-! ### a map that counts bytes -/
def CntMap (P : Program) (K : TypeId) (w : World) (B n : Nat) (l : List UInt8) : Prop := ∃ D : DataW Value, w.ownsMap P K hR B n D ∧ ∀ c : UInt8, D.atKey (.int .u8 (c.toNat : Int)) (.held (.int .i64 0)) = .held (.int .i64 (l.count c))
theorem u8_wf (c : UInt8) : (Lit.int .u8 (c.toNat : Int)).wf = true := by
  have h := c.toNat_lt
  have e1 : IntKind.u8.min = 0 := by decide
  have e2 : IntKind.u8.max = 255 := by decide
  simp [Lit.wf, e1, e2]
  omega
theorem CntMap.made (P : Program) (K : TypeId) (w : World) : CntMap P K (w.alloc (.map #[] 0)) w.heap.size 0 [] := ⟨.map [], World.ownsMap_made w P K hR, fun c => by simp [DataW.atKey]⟩
theorem CntMap.below {P : Program} {K : TypeId} {w w' : World} {B n : Nat} {l : List UInt8} (h : CntMap P K w B n l) (hb : Below w.heap.size w w') : CntMap P K w' B n l := by
  obtain ⟨D, h1, h2⟩ := h
  exact ⟨D, owns_same h1 (hb.block B h1.lt), h2⟩
theorem CntMap.lt {P : Program} {K : TypeId} {w : World} {B n : Nat} {l : List UInt8} (h : CntMap P K w B n l) : B < w.heap.size := by
  obtain ⟨D, h1, _⟩ := h
  exact h1.lt
theorem CntMap.look {P : Program} {t K e : TypeId} {w : World} {B n : Nat} {l : List UInt8} (h : CntMap P K w B n l) (hk : P.underlying K = some (.int .u8)) (ht : P.underlying t = some (.map K e)) (hz : ∀ w : World, (zeroValue e).run P w = .ok (.int .i64 0) w) (c : UInt8) :
    (Instr.lookup t (.map (some B)) (.int .u8 (c.toNat : Int)) false).run P w = .ok (.int .i64 (l.count c)) w := by
  obtain ⟨D, h1, h2⟩ := h
  obtain ⟨v, ps, hrun, hv⟩ := h1.lookup (Go.Maps.int_keyed hk) ht (hz w) (zd := .held (.int .i64 0)) (zp := []) rfl (Go.Maps.keyOf_int_mk hk (u8_wf c))
  simp only [hR, Option.some.injEq, Prod.mk.injEq] at hv
  obtain ⟨hv, _⟩ := hv
  rw [h2 c] at hv
  simp only [DataW.held.injEq] at hv
  rw [hrun, hv]
theorem CntMap.store {P : Program} {t K e : TypeId} {w : World} {B n : Nat} {l : List UInt8} (h : CntMap P K w B n l) (hk : P.underlying K = some (.int .u8)) (ht : P.underlying t = some (.map K e)) (hn : n ≤ 1000) (c : UInt8) :
    ∃ w', (Instr.mapUpdate t (.map (some B)) (.int .u8 (c.toNat : Int)) (.int .i64 ((l ++ [c]).count c : Nat))).run P w = .ok () w' ∧ CntMap P K w' B (n + 1) (l ++ [c]) ∧ w.grownBy w' (some B) := by
  obtain ⟨D, h1, h2⟩ := h
  have hkey := Go.Maps.keyOf_int_mk hk (u8_wf c)
  have hlaw := Go.Maps.int_keyed hk
  obtain ⟨w', hrun, hown, hg⟩ := h1.update hlaw ht (by unfold maxLen; omega) hkey (val := .int .i64 ((l ++ [c]).count c : Nat)) (d := .held (.int .i64 ((l ++ [c]).count c : Nat))) (ps := []) rfl
  refine ⟨w', hrun, ⟨_, hown, fun d => ?_⟩, hg⟩
  by_cases e : d = c
  · subst e
    exact Maps.atKey_put_same (h1.tidy hlaw).isMap (hlaw.key hkey) _ _
  · rw [Maps.atKey_put_other (by intro h3; injection h3 with _ h4; exact e (UInt8.toNat_inj.1 (by omega))), h2 d, List.count_append, List.count_singleton]
    simp [show ¬ (c == d) = true from by simpa using fun h => e h.symm]

-- given: loop.example/g01334/impl.CountLoadings

/-! ### impl_CountLoadings: by hand -/
def clN : List UInt8 → List UInt8 → Nat → Nat
  | _, [], all => all
  | pre, c :: t, all => clN (pre ++ [c]) t (all * (pre.length + 1) / (pre ++ [c]).count c)
def impl_CountLoadings.f (a0 : ByteArray) : Option (Int × Bool) := (impl_IsLoading.f a0).bind fun p => if p = true then (if a0.size ≤ 12 then some (((clN [] a0.data.toList 1 : Nat) : Int), true) else none) else some (0, false)
theorem cl_arith (all kk n : Nat) (hA : all ≤ 13 ^ kk) (hk : kk < 12) (hn : n ≤ kk) : wrap64 ((all : Int) * ((kk : Int) + 1)) = ((all * (kk + 1) : Nat) : Int) ∧ wrap64 (Int.tdiv ((all * (kk + 1) : Nat) : Int) ((n + 1 : Nat) : Int)) = ((all * (kk + 1) / (n + 1) : Nat) : Int) ∧ all * (kk + 1) / (n + 1) ≤ 13 ^ (kk + 1) ∧ wrap64 ((n : Int) + 1) = ((n + 1 : Nat) : Int) := by
  have h1 : all * (kk + 1) ≤ 13 ^ kk * 13 := Nat.mul_le_mul hA (by omega)
  have h2 : 13 ^ kk * 13 = 13 ^ (kk + 1) := (Nat.pow_succ 13 kk).symm
  have h3 : 13 ^ (kk + 1) ≤ 13 ^ 12 := Nat.pow_le_pow_right (by omega) (by omega)
  have h4 : (13 : Nat) ^ 12 = 23298085122481 := by decide
  rw [h4] at h3
  rw [h2] at h1
  have h5 : all * (kk + 1) / (n + 1) ≤ all * (kk + 1) := Nat.div_le_self _ _
  generalize 13 ^ (kk + 1) = b at *
  clear h2 h4 hA
  have hw : ∀ n : Nat, n ≤ 23298085122481 → wrap64 (n : Int) = (n : Int) := fun n h => by unfold wrap64; omega
  refine ⟨?_, ?_, Nat.le_trans h5 h1, ?_⟩
  · rw [show ((all : Int) * ((kk : Int) + 1)) = ((all * (kk + 1) : Nat) : Int) by simp]
    exact hw _ (Nat.le_trans h1 h3)
  · rw [← Int.ofNat_tdiv]
    exact hw _ (Nat.le_trans h5 (Nat.le_trans h1 h3))
  · exact hw (n + 1) (by omega)
set_option maxHeartbeats 4000000 in
set_option maxRecDepth 100000 in
theorem impl_CountLoadings.calls (a0 : ByteArray) (r1 : Int) (r2 : Bool) (w : World) (h : impl_CountLoadings.f a0 = some (r1, r2)) :
    Calls Tryd.prog 21 #[.string a0] w fun e w' => e = .returned (.tuple #[.int .i64 r1, .bool r2]) ∧ Below w.heap.size w w' := by
  cases hp : impl_IsLoading.f a0 with
  | none => simp [impl_CountLoadings.f, hp] at h
  | some p =>
    have HP := Aside0.mk hp
    cases p with
    | false =>
      simp [impl_CountLoadings.f, hp] at h
      obtain ⟨rfl, rfl⟩ := h
      clear hp
      go_enter Tryd.func21, Tryd.ntmps21
      go_wp2_with (go_at_call 17; refine (impl_IsLoading.calls a0 false _ HP.out).mono ?_; rintro e w1 ⟨rfl, hb1⟩; have HB1 := Aside0.mk hb1; clear hb1)
      go_ret2
      exact ⟨rfl, HB1.out⟩
    | true =>
      simp only [impl_CountLoadings.f, hp, Option.bind_some, if_true] at h
      by_cases hsz : a0.size ≤ 12
      · rw [if_pos hsz] at h
        obtain ⟨rfl, rfl⟩ := Prod.mk.inj (Option.some.inj h)
        clear h hp
        have hlenL : a0.data.toList.length = a0.size := rfl
        have hmm := @run_makeMap Tryd.prog
        have hk8 := Tryd.underlying5
        have hmt := Tryd.underlying43
        have hz : ∀ w : World, (zeroValue 3).run Tryd.prog w = .ok (.int .i64 0) w := Tryd.zeroValue3
        go_enter Tryd.func21, Tryd.ntmps21
        go_wp2_with (go_at_call 17; refine (impl_IsLoading.calls a0 true _ HP.out).mono ?_; rintro e w1 ⟨rfl, hb1⟩; have HB1 := Aside0.mk hb1; clear hb1)
        have HM := Aside0.mk (CntMap.made Tryd.prog 5 w1)
        have HW := Aside0.mk (HB1.out.trans ((by repeat (first | exact Below.refl _ _ | apply below_alloc) : Below w1.heap.size w1 (w1.alloc (.map #[] 0))).mono HB1.out.size))
        have HBw := Aside0.mk HB1.out.size
        go_loopg [4, 13] a0.size (fun gg v4 v13 wr => ∃ (kk all : Nat), kk ≤ a0.size ∧ a0.size - kk ≤ gg ∧ v4 = .int .i64 all ∧ v13 = .int .i64 kk ∧ Aside0 (all ≤ 13 ^ kk) ∧ Aside0 (clN (a0.data.toList.take kk) (a0.data.toList.drop kk) all = clN [] a0.data.toList 1) ∧ Aside0 (CntMap Tryd.prog 5 wr w1.heap.size kk (a0.data.toList.take kk)) ∧ Aside0 (Below w.heap.size w wr))
        case atStart => exact ⟨0, 1, by omega, by omega, rfl, rfl, ⟨by decide⟩, ⟨rfl⟩, HM, HW⟩
        case round =>
          clear HM HW
          obtain ⟨kk, all, hkk, hgg, rfl, rfl, HA, HN, HM, HW⟩ := hrel
          by_cases hlt : kk < a0.size
          · have c1 : ((kk : Int) < (a0.size : Int)) = True := eq_true (by omega)
            have c2 : (0 ≤ (kk : Int)) = True := eq_true (by omega)
            have hltL : kk < a0.data.toList.length := by rw [hlenL]; exact hlt
            have htake : a0.data.toList.take (kk + 1) = a0.data.toList.take kk ++ [a0.data.toList[kk]'hltL] := by rw [List.take_add_one, List.getElem?_eq_getElem hltL]; rfl
            have hdrop : a0.data.toList.drop kk = a0.data.toList[kk]'hltL :: a0.data.toList.drop (kk + 1) := List.drop_eq_getElem_cons hltL
            have hx1 : ∀ hh : kk < a0.size, ((a0[kk]'hh).toNat : Int) = ((a0.data.toList[kk]'hltL).toNat : Int) := fun hh => by rfl
            have hx2 : ∀ hh : (kk : Int).toNat < a0.size, ((a0[(kk : Int).toNat]'hh).toNat : Int) = ((a0.data.toList[kk]'hltL).toNat : Int) := fun hh => by simp only [Int.toNat_natCast]; rfl
            have htl : (a0.data.toList.take kk).length = kk := by rw [List.length_take]; omega
            generalize a0.data.toList[kk]'hltL = c at htake hdrop hx1 hx2
            have hstep : clN (a0.data.toList.take kk) (a0.data.toList.drop kk) all = clN (a0.data.toList.take (kk + 1)) (a0.data.toList.drop (kk + 1)) (all * (kk + 1) / (a0.data.toList.take (kk + 1)).count c) := by
              rw [hdrop, clN, htl, htake]
            have hcnt : (a0.data.toList.take (kk + 1)).count c = (a0.data.toList.take kk).count c + 1 := by rw [htake, List.count_append, List.count_singleton_self]
            have hcle : (a0.data.toList.take kk).count c ≤ kk := Nat.le_trans List.count_le_length (by omega)
            have hlook1 := HM.out.look hk8 hmt hz c
            obtain ⟨w2, hst, hM2, hg2⟩ := HM.out.store hk8 hmt (by omega) c
            rw [← htake] at hst hM2
            have hlook2 := hM2.look hk8 hmt hz c
            rw [HN.out] at hstep
            generalize hnE : (a0.data.toList.take kk).count c = n at hlook1 hcnt hcle
            generalize (a0.data.toList.take (kk + 1)).count c = mN at hst hlook2 hcnt hstep
            subst hcnt
            obtain ⟨e2, e3, hb, e0⟩ := cl_arith all kk n HA.out (by omega) hcle
            have HZ := Aside0.mk (And.intro hb hstep)
            have HG := Aside0.mk hg2
            have HM2 := Aside0.mk hM2
            clear hb hstep hg2 hM2 hcle htake hdrop htl hnE HN HA
            generalize all * (kk + 1) / (n + 1) = q at e3 HZ
            have hm0 : ((n + 1 : Nat) : Int) ≠ 0 := by omega
            generalize ((n + 1 : Nat) : Int) = m at e0 e3 hst hlook2 hm0
            generalize ((all * (kk + 1) : Nat) : Int) = pz at e2 e3
            have em : (m = 0) = False := eq_false hm0
            clear hm0
            go_wp2_with fail
            go_roundg (a0.size - (kk + 1))
            case measure => omega
            case rel =>
              refine ⟨kk + 1, q, by omega, by omega, by first | rfl | exact congrArg (Value.int .i64) e3, by simp, ⟨HZ.out.1⟩, ⟨HZ.out.2.symm⟩, HM2, ⟨?_⟩⟩
              exact below_of_grown HW.out HW.out.size HBw.out HG.out
          · have c1 : ((kk : Int) < (a0.size : Int)) = False := eq_false (by omega)
            obtain rfl : kk = a0.size := by omega
            have hn := HN.out
            rw [List.drop_of_length_le (by rw [hlenL]; exact Nat.le_refl _), clN] at hn
            have HN2 := Aside0.mk hn
            clear hn
            go_wp2_with fail
            go_ret2
            exact ⟨by rw [HN2.out]; rfl, HW.out⟩
      · rw [if_neg hsz] at h
        exact absurd h (by simp)

/-! ### laws_FnExactCountLoadings: function 5 -/
def laws_FnExactCountLoadings.f (k : Nat) (a0 : ByteArray) : Option (Bool) := if (a0.size : Int) > 1048576 then (some true) else ((spec_CountLoadings.f k a0).bind fun bt104 => ((impl_CountLoadings.f a0).bind fun bt106 => (if bt106.1 = bt104.1 then (if (bt106.2 != bt104.2) = true then (none) else (some true)) else (none))))
theorem laws_FnExactCountLoadings.mono : ∀ a0 k, LeO (laws_FnExactCountLoadings.f k a0) (laws_FnExactCountLoadings.f (k + 1) a0) := by
  intro a0 k
  unfold laws_FnExactCountLoadings.f
  repeat' first
      | (with_reducible exact spec_CountLoadings.mono _ _)
      | (with_reducible exact LeO.refl _)
      | (with_reducible exact LeO.none _)
      | (with_reducible refine LeO.ite ?_ ?_)
      | (with_reducible refine LeO.bind ?_ (fun _ => ?_))
      | exact spec_CountLoadings.mono _ _
      | exact LeO.none _
      | refine LeO.ite ?_ ?_
      | refine LeO.bind ?_ (fun _ => ?_)
set_option maxHeartbeats 8000000 in
set_option maxRecDepth 100000 in
theorem laws_FnExactCountLoadings.calls (k : Nat) (a0 : ByteArray) (r : Bool) (w : World) (hrt : r = true) (h : laws_FnExactCountLoadings.f k a0 = some r) :
    Calls Tryd.prog 5 #[.string a0] w fun e w' => e = .returned (.bool r) ∧ Below w.heap.size w w' := by
  have HRT := Aside0.mk hrt
  clear hrt
  have HB := Aside0.mk (Below.refl w.heap.size w)
  have H : (if (a0.size : Int) > 1048576 then (some true) else ((spec_CountLoadings.f k a0).bind fun bt104 => ((impl_CountLoadings.f a0).bind fun bt106 => (if bt106.1 = bt104.1 then (if (bt106.2 != bt104.2) = true then (none) else (some true)) else (none))))) = some r := h
  clear h
  by_cases c2 : (a0.size : Int) > 1048576
  · rw [if_pos c2] at H
    have c2b0 : decide (1048576 < (a0.size : Int)) = true := decide_eq_true c2
    have c2b1 : decide (1048576 < a0.size) = true := decide_eq_true (by omega)
    clear c2
    obtain rfl := Option.some.inj H
    go_enter Tryd.func5, Tryd.ntmps5
    go_wp2
    go_ret
    exact ⟨by first | rfl | (simp [errW_none, errW_some] <;> rfl) | (simp [*, errW_none, errW_some] <;> rfl), by repeat (first | (with_reducible first | exact HB.out | apply below_alloc | apply pw_below_drewN | apply below_drew1) | exact HB.out)⟩
  · rw [if_neg c2] at H
    have c2b0 : decide (1048576 < (a0.size : Int)) = false := decide_eq_false c2
    have c2b1 : decide (1048576 < a0.size) = false := decide_eq_false (by omega)
    clear c2
    replace H := Option.bind_eq_some_iff.mp H
    obtain ⟨⟨t104, t105⟩, A30, H⟩ := H
    replace H : ((impl_CountLoadings.f a0).bind fun bt106 => (if bt106.1 = t104 then (if (bt106.2 != t105) = true then (none) else (some true)) else (none))) = some r := H
    have A3 := Aside0.mk A30
    clear A30
    replace H := Option.bind_eq_some_iff.mp H
    obtain ⟨⟨t106, t107⟩, A40, H⟩ := H
    replace H : (if t106 = t104 then (if (t107 != t105) = true then (none) else (some true)) else (none)) = some r := H
    have A4 := Aside0.mk A40
    clear A40
    by_cases c5 : t106 = t104
    · rw [if_pos c5] at H
      have c5b0 : (t106 == t104) = true := beq_iff_eq.mpr c5
      have c5b1 : (t106 != t104) = false := bne_eq_false_iff_eq.mpr c5
      clear c5
      by_cases c6 : (t107 != t105) = true
      · rw [if_pos c6] at H
        exact absurd H (by simp)
      · rw [if_neg c6] at H
        have c6b0 : (t107 != t105) = false := by simpa using c6
        (try (have c6b1 : decide (t107 = t105) = true := by simpa using c6))
        (try (have c6b2 : (t107 == t105) = true := by simpa using c6))
        clear c6
        obtain rfl := Option.some.inj H
        go_enter Tryd.func5, Tryd.ntmps5
        go_wp2_with (first | ((with_reducible refine gate_callee (f := 20) rfl ?_); refine goesL_ (some 12) rfl rfl Tryd.func20 (by kernel_rfl) rfl #[.string a0] rfl (by (try simp only [List.map_toArray, List.map_cons, List.map_nil]); first | done | rfl | (simp only [List.length_drop, List.length_take]; rfl)) ?_; (with_reducible refine (spec_CountLoadings.calls k a0 t104 t105 _ A3.out).mono ?_); rintro e w' ⟨rfl, ⟨nd, rfl⟩⟩; refine ⟨_, rfl, ?_⟩) | ((with_reducible refine gate_callee (f := 21) rfl ?_); refine goesL_ (some 17) rfl rfl Tryd.func21 (by kernel_rfl) rfl #[.string a0] rfl (by (try simp only [List.map_toArray, List.map_cons, List.map_nil]); first | done | rfl | (simp only [List.length_drop, List.length_take]; rfl)) ?_; (with_reducible refine (impl_CountLoadings.calls a0 t106 t107 _ A4.out).mono ?_); rintro e w7 ⟨rfl, hb⟩; refine ⟨_, rfl, ?_⟩; have n0_ := Aside0.mk (below_step (by repeat (first | (with_reducible first | exact HB.out | apply below_alloc | apply pw_below_drewN | apply below_drew1) | exact HB.out)) hb); clear HB; have HB := n0_; clear n0_; (try clear hb); (try clear hb2); (try clear hk); (try clear hi)))
        go_ret
        exact ⟨by first | rfl | (simp [errW_none, errW_some] <;> rfl) | (simp [*, errW_none, errW_some] <;> rfl), by repeat (first | (with_reducible first | exact HB.out | apply below_alloc | apply pw_below_drewN | apply below_drew1) | exact HB.out)⟩
    · rw [if_neg c5] at H
      exact absurd H (by simp)

/-- THE ONE PURE STATEMENT of laws_FnExactCountLoadings: yours. -/
def laws_FnExactCountLoadings.Pure : Prop := ∀ (a0 : ByteArray), a0.size ≤ 140737488351232 → ∃ k, laws_FnExactCountLoadings.f k a0 = some true
theorem laws_FnExactCountLoadings.walk (P : laws_FnExactCountLoadings.Pure) (a0 : ByteArray) (w : World) (w0 : a0.size ≤ 140737488351232) :
    Calls Tryd.prog 5 #[.string a0] w fun e w' => e = .returned (.bool true) ∧ Below w.heap.size w w' := by
  obtain ⟨k, h⟩ := P a0 w0
  refine (laws_FnExactCountLoadings.calls k a0 true w rfl h).mono ?_
  rintro e w' ⟨rfl, hd⟩
  exact ⟨rfl, hd⟩

end Go.Proofs.YtoimgbcbmbpfaaaDoor.X

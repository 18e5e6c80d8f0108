-- Written by the session's program wip/myprint.py (over the kit's print); the given parts by hand.
import Derived.Test.YtbjjmnnbkaoajaaDoorL0
namespace Go.Proofs.YtbjjmnnbkaoajaaDoor.L
open Go.RowKit Go.Proofs.YtbjjmnnbkaoajaaDoorW.PrintWords Go.Proofs.YtbjjmnnbkaoajaaDoorW.PrintLast Go.Proofs.YtbjjmnnbkaoajaaDoorW.PrintMore
attribute [local go_sem] max2_int min2_int max_two min_two max_three min_three max_four min_four   -- for this text's walks alone
set_option linter.unusedVariables false
set_option linter.unusedSimpArgs false

/-! ### spec_l1In: function 22 -/
def spec_l1In.f (a0 : Int) (a1 : Int) (a2 : Int) : Option (Bool) := if a0 ≥ a1 then (some (decide (a0 ≤ a2))) else (some false)
set_option maxHeartbeats 8000000 in
set_option maxRecDepth 100000 in
theorem spec_l1In.calls (a0 : Int) (a1 : Int) (a2 : Int) (r : Bool) (w : World) (h : spec_l1In.f a0 a1 a2 = some r) :
    Calls Tryd.prog 22 #[.int .i64 a0, .int .i64 a1, .int .i64 a2] w fun e w' => e = .returned (.bool r) ∧ Drawn0 w w' := by
  have H : (if a0 ≥ a1 then (some (decide (a0 ≤ a2))) else (some false)) = some r := h
  clear h
  by_cases c4 : a0 ≥ a1
  · rw [if_pos c4] at H
    have c4b0 : decide (a1 ≤ a0) = true := decide_eq_true c4
    clear c4
    obtain rfl := Option.some.inj H
    go_enter Tryd.func22, Tryd.ntmps22
    go_wp2
    go_ret
    exact ⟨by first | rfl | (simp; done) | (simp [*]; done), by repeat (first | exact Drawn0.refl _ | apply Drawn0.step)⟩
  · rw [if_neg c4] at H
    have c4b0 : decide (a1 ≤ a0) = false := decide_eq_false c4
    clear c4
    obtain rfl := Option.some.inj H
    go_enter Tryd.func22, Tryd.ntmps22
    go_wp2
    go_ret
    exact ⟨by first | rfl | (simp; done) | (simp [*]; done), by repeat (first | exact Drawn0.refl _ | apply Drawn0.step)⟩

/-! ### spec_ldGood: function 21 -/
def spec_ldGood.l0 : Nat → ByteArray → Int → Option (Bool)
  | 0, _, _ => none
  | k + 1, x0, x3 => if x3 < (x0.size : Int) then (if 0 ≤ x3 then ((spec_l1In.f (wrap64 ((wrap64 (bt x0 x3)) - 48)) 1 9).bind fun t101 => (if t101 = true then (spec_ldGood.l0 k x0 (wrap64 (x3 + 1))) else (some false))) else (none)) else (some true)
def spec_ldGood.f (k : Nat) (a0 : ByteArray) : Option (Bool) := if (a0.size : Int) > 12 then (some false) else (spec_ldGood.l0 k a0 0)
theorem spec_ldGood.mono_l : ∀ k, (∀ y0 y1, LeO (spec_ldGood.l0 k y0 y1) (spec_ldGood.l0 (k + 1) y0 y1))
  | 0 => fun _ _ r h => by simp [spec_ldGood.l0] at h
  | k + 1 => by
    have ih0 := spec_ldGood.mono_l k
    · intro y0 y1
      unfold spec_ldGood.l0
      repeat' first
      | (with_reducible exact ih0 _ _)
      | (with_reducible exact LeO.refl _)
      | (with_reducible exact LeO.none _)
      | (with_reducible refine LeO.ite ?_ ?_)
      | (with_reducible refine LeO.bind ?_ (fun _ => ?_))
      | exact ih0 _ _
      | exact LeO.none _
      | refine LeO.ite ?_ ?_
      | refine LeO.bind ?_ (fun _ => ?_)
theorem spec_ldGood.mono : ∀ a0 k, LeO (spec_ldGood.f k a0) (spec_ldGood.f (k + 1) a0) := by
  intro a0 k
  have ih0 := spec_ldGood.mono_l k
  unfold spec_ldGood.f
  repeat' first
      | (with_reducible exact ih0 _ _)
      | (with_reducible exact LeO.refl _)
      | (with_reducible exact LeO.none _)
      | (with_reducible refine LeO.ite ?_ ?_)
      | (with_reducible refine LeO.bind ?_ (fun _ => ?_))
      | exact ih0 _ _
      | exact LeO.none _
      | refine LeO.ite ?_ ?_
      | refine LeO.bind ?_ (fun _ => ?_)
set_option maxHeartbeats 8000000 in
set_option maxRecDepth 100000 in
theorem spec_ldGood.calls (k : Nat) (a0 : ByteArray) (r : Bool) (w : World) (h : spec_ldGood.f k a0 = some r) :
    Calls Tryd.prog 21 #[.string a0] w fun e w' => e = .returned (.bool r) ∧ Drawn0 w w' := by
  have H : (if (a0.size : Int) > 12 then (some false) else (spec_ldGood.l0 k a0 0)) = some r := h
  clear h
  by_cases c2 : (a0.size : Int) > 12
  · rw [if_pos c2] at H
    have c2b0 : decide (12 < (a0.size : Int)) = true := decide_eq_true c2
    have c2b1 : decide (12 < a0.size) = true := decide_eq_true (by omega)
    clear c2
    obtain rfl := Option.some.inj H
    go_enter Tryd.func21, Tryd.ntmps21
    go_wp2
    go_ret
    exact ⟨by first | rfl | (simp; done) | (simp [*]; done), by repeat (first | exact Drawn0.refl _ | apply Drawn0.step)⟩
  · rw [if_neg c2] at H
    have c2b0 : decide (12 < (a0.size : Int)) = false := decide_eq_false c2
    have c2b1 : decide (12 < a0.size) = false := decide_eq_false (by omega)
    clear c2
    have H' := Aside0.mk H
    clear H
    go_enter Tryd.func21, Tryd.ntmps21
    go_wp2
    go_loopg [3] k (fun kq v3 w' => ∃ (x3_1 : Int), v3 = .int .i64 x3_1 ∧ Aside0 (spec_ldGood.l0 kq a0 x3_1 = some r) ∧ Aside0 (kq ≤ k) ∧ Drawn0 w w')
    case atStart => exact ⟨(0), (by first | rfl | (simp; done) | (simp [*]; done)), H', ⟨Nat.le_refl _⟩, by repeat (first | exact Drawn0.refl _ | apply Drawn0.step)⟩
    case round =>
      clear H'
      try clear c2
      try clear c2b0
      try clear c2b1
      try clear p2
      obtain ⟨x3_1, rfl, HA, HK1, ⟨m1, rfl⟩⟩ := hrel
      cases gk with
      | zero => exact absurd HA.out (by simp [spec_ldGood.l0])
      | succ k1 =>
        have H := HA.out
        clear HA
        simp only [spec_ldGood.l0] at H
        by_cases c3 : x3_1 < (a0.size : Int)
        · rw [if_pos c3] at H
          have c3b0 : decide (x3_1 < (a0.size : Int)) = true := decide_eq_true c3
          clear c3
          by_cases c4 : 0 ≤ x3_1
          · rw [if_pos c4] at H
            have c4b0 : decide (0 ≤ x3_1) = true := decide_eq_true c4
            clear c4
            replace H := Option.bind_eq_some_iff.mp H
            obtain ⟨t101, A60, H⟩ := H
            replace H : (if t101 = true then (spec_ldGood.l0 k1 a0 (wrap64 (x3_1 + 1))) else (some false)) = some r := H
            have A6 := Aside0.mk A60
            clear A60
            by_cases c7 : t101 = true
            · subst c7
              have H1 : (spec_ldGood.l0 k1 a0 (wrap64 (x3_1 + 1))) = some r := by rw [if_pos rfl] at H; exact H
              clear H
              have H := H1
              clear H1
              have H' := Aside0.mk H
              clear H
              have p5 : 0 ≤ (x3_1 : Int) := of_decide_eq_true (by first | (with_reducible assumption) | assumption)
              have q5 : x3_1 < (a0.size : Int) := of_decide_eq_true (by first | (with_reducible assumption) | assumption)
              have hx5 := bt_at a0 x3_1
              replace p5 := eq_true p5
              replace q5 := eq_true q5
              go_wp2_with (first | ((with_reducible refine gate_callee (f := 22) rfl ?_); refine goesL_ (some 18) rfl rfl Tryd.func22 (by kernel_rfl) rfl #[.int .i64 (wrap64 ((wrap64 (bt a0 x3_1)) - 48)), .int .i64 1, .int .i64 9] rfl (by (try simp only [List.map_toArray, List.map_cons, List.map_nil]); first | done | rfl | (simp only [List.length_drop, List.length_take]; rfl)) ?_; (with_reducible refine (spec_l1In.calls (wrap64 ((wrap64 (bt a0 x3_1)) - 48)) 1 9 true _ A6.out).mono ?_); rintro e w' ⟨rfl, ⟨nd, rfl⟩⟩; refine ⟨_, rfl, ?_⟩))
              go_roundg k1
              case measure => have := HK1.out; omega
              case rel => exact ⟨(wrap64 (x3_1 + 1)), (by first | rfl | (simp; done) | (simp [*]; done)), H', ⟨by have := HK1.out; omega⟩, by repeat (first | exact Drawn0.refl _ | apply Drawn0.step)⟩
            · replace c7 := Bool.eq_false_iff.mpr c7
              subst c7
              have H1 : (some false) = some r := by rw [if_neg (show ¬ (false = true) by decide)] at H; exact H
              clear H
              have H := H1
              clear H1
              obtain rfl := Option.some.inj H
              have p5 : 0 ≤ (x3_1 : Int) := of_decide_eq_true (by first | (with_reducible assumption) | assumption)
              have q5 : x3_1 < (a0.size : Int) := of_decide_eq_true (by first | (with_reducible assumption) | assumption)
              have hx5 := bt_at a0 x3_1
              replace p5 := eq_true p5
              replace q5 := eq_true q5
              go_wp2_with (first | ((with_reducible refine gate_callee (f := 22) rfl ?_); refine goesL_ (some 18) rfl rfl Tryd.func22 (by kernel_rfl) rfl #[.int .i64 (wrap64 ((wrap64 (bt a0 x3_1)) - 48)), .int .i64 1, .int .i64 9] rfl (by (try simp only [List.map_toArray, List.map_cons, List.map_nil]); first | done | rfl | (simp only [List.length_drop, List.length_take]; rfl)) ?_; (with_reducible refine (spec_l1In.calls (wrap64 ((wrap64 (bt a0 x3_1)) - 48)) 1 9 false _ A6.out).mono ?_); rintro e w' ⟨rfl, ⟨nd, rfl⟩⟩; refine ⟨_, rfl, ?_⟩))
              go_ret
              exact ⟨by first | rfl | (simp; done) | (simp [*]; done), by repeat (first | exact Drawn0.refl _ | apply Drawn0.step)⟩
          · rw [if_neg c4] at H
            exact absurd H (by simp)
        · rw [if_neg c3] at H
          have c3b0 : decide (x3_1 < (a0.size : Int)) = false := decide_eq_false c3
          clear c3
          obtain rfl := Option.some.inj H
          go_wp2
          go_ret
          exact ⟨by first | rfl | (simp; done) | (simp [*]; done), by repeat (first | exact Drawn0.refl _ | apply Drawn0.step)⟩

/-! ### spec_ldSorted: function 29 -/
mutual
def spec_ldSorted.l0 : Nat → ByteArray → ByteArray → Int → Option (ByteArray)
  | 0, _, _, _ => none
  | k + 1, x0, x3, x4 => if x4 > 48 then (spec_ldSorted.l1 k x0 x3 x4 0) else (some x3)
def spec_ldSorted.l1 : Nat → ByteArray → ByteArray → Int → Int → Option (ByteArray)
  | 0, _, _, _, _ => none
  | k + 1, x0, x3, x4, x5 => if x5 < (x0.size : Int) then (if 0 ≤ x5 then (if (bt x0 x5) = x4 then (if x5 ≤ (wrap64 (x5 + 1)) then (if (wrap64 (x5 + 1)) ≤ (x0.size : Int) then (if x3.size + (x0.extract (x5 : Int).toNat ((wrap64 (x5 + 1)) : Int).toNat).size ≤ 9223372036854775807 then (spec_ldSorted.l1 k x0 (x3 ++ (x0.extract (x5 : Int).toNat ((wrap64 (x5 + 1)) : Int).toNat)) x4 (wrap64 (x5 + 1))) else (none)) else (none)) else (none)) else (spec_ldSorted.l1 k x0 x3 x4 (wrap64 (x5 + 1)))) else (none)) else (spec_ldSorted.l0 k x0 x3 ((x4 - 1) % 256))
end
def spec_ldSorted.f (k : Nat) (a0 : ByteArray) : Option (ByteArray) := spec_ldSorted.l0 k a0 (⟨#[]⟩ : ByteArray) 57
theorem spec_ldSorted.mono_l : ∀ k, (∀ y0 y1 y2, LeO (spec_ldSorted.l0 k y0 y1 y2) (spec_ldSorted.l0 (k + 1) y0 y1 y2)) ∧ (∀ y0 y1 y2 y3, LeO (spec_ldSorted.l1 k y0 y1 y2 y3) (spec_ldSorted.l1 (k + 1) y0 y1 y2 y3))
  | 0 => ⟨fun _ _ _ r h => by simp [spec_ldSorted.l0] at h, fun _ _ _ _ r h => by simp [spec_ldSorted.l1] at h⟩
  | k + 1 => by
    obtain ⟨ih0, ih1⟩ := spec_ldSorted.mono_l k
    refine ⟨?_, ?_⟩
    · intro y0 y1 y2
      unfold spec_ldSorted.l0
      repeat' first
      | (with_reducible exact ih0 _ _ _)
      | (with_reducible exact ih1 _ _ _ _)
      | (with_reducible exact LeO.refl _)
      | (with_reducible exact LeO.none _)
      | (with_reducible refine LeO.ite ?_ ?_)
      | (with_reducible refine LeO.bind ?_ (fun _ => ?_))
      | exact ih0 _ _ _
      | exact ih1 _ _ _ _
      | exact LeO.none _
      | refine LeO.ite ?_ ?_
      | refine LeO.bind ?_ (fun _ => ?_)
    · intro y0 y1 y2 y3
      unfold spec_ldSorted.l1
      repeat' first
      | (with_reducible exact ih0 _ _ _)
      | (with_reducible exact ih1 _ _ _ _)
      | (with_reducible exact LeO.refl _)
      | (with_reducible exact LeO.none _)
      | (with_reducible refine LeO.ite ?_ ?_)
      | (with_reducible refine LeO.bind ?_ (fun _ => ?_))
      | exact ih0 _ _ _
      | exact ih1 _ _ _ _
      | exact LeO.none _
      | refine LeO.ite ?_ ?_
      | refine LeO.bind ?_ (fun _ => ?_)
theorem spec_ldSorted.mono : ∀ a0 k, LeO (spec_ldSorted.f k a0) (spec_ldSorted.f (k + 1) a0) := by
  intro a0 k
  obtain ⟨ih0, ih1⟩ := spec_ldSorted.mono_l k
  unfold spec_ldSorted.f
  repeat' first
      | (with_reducible exact ih0 _ _ _)
      | (with_reducible exact ih1 _ _ _ _)
      | (with_reducible exact LeO.refl _)
      | (with_reducible exact LeO.none _)
      | (with_reducible refine LeO.ite ?_ ?_)
      | (with_reducible refine LeO.bind ?_ (fun _ => ?_))
      | exact ih0 _ _ _
      | exact ih1 _ _ _ _
      | exact LeO.none _
      | refine LeO.ite ?_ ?_
      | refine LeO.bind ?_ (fun _ => ?_)
set_option maxHeartbeats 8000000 in
set_option maxRecDepth 100000 in
theorem spec_ldSorted.calls (k : Nat) (a0 : ByteArray) (r : ByteArray) (w : World) (h : spec_ldSorted.f k a0 = some r) :
    Calls Tryd.prog 29 #[.string a0] w fun e w' => e = .returned (.string r) ∧ Drawn0 w w' := by
  have H : (spec_ldSorted.l0 k a0 (⟨#[]⟩ : ByteArray) 57) = some r := h
  clear h
  have H' := Aside0.mk H
  clear H
  go_enter Tryd.func29, Tryd.ntmps29
  go_wp2
  go_loopg [3, 4] k (fun kq v3 v4 w' => ∃ (x3_1 : ByteArray) (x4_1 : Int), v3 = .string x3_1 ∧ v4 = .int .u8 x4_1 ∧ Aside0 (spec_ldSorted.l0 kq a0 x3_1 x4_1 = some r) ∧ Aside0 (kq ≤ k) ∧ Drawn0 w w')
  case atStart => exact ⟨((⟨#[]⟩ : ByteArray)), (57), (by first | rfl | (simp; done) | (simp [*]; done)), (by first | rfl | (simp; done) | (simp [*]; done)), H', ⟨Nat.le_refl _⟩, by repeat (first | exact Drawn0.refl _ | apply Drawn0.step)⟩
  case round =>
    clear H'
    obtain ⟨x3_1, x4_1, rfl, rfl, HA, HK1, ⟨m1, rfl⟩⟩ := hrel
    cases gk with
    | zero => exact absurd HA.out (by simp [spec_ldSorted.l0])
    | succ k1 =>
      have H := HA.out
      clear HA
      simp only [spec_ldSorted.l0] at H
      by_cases c2 : x4_1 > 48
      · rw [if_pos c2] at H
        have c2b0 : decide (48 < x4_1) = true := decide_eq_true c2
        clear c2
        have H' := Aside0.mk H
        clear H
        go_wp2
        go_loopg [3, 5] k1 (fun kq v3 v5 w' => ∃ (x3_2 : ByteArray) (x5_2 : Int), v3 = .string x3_2 ∧ v5 = .int .i64 x5_2 ∧ Aside0 (spec_ldSorted.l1 kq a0 x3_2 x4_1 x5_2 = some r) ∧ Aside0 (kq ≤ k1) ∧ Drawn0 w w')
        case atStart => exact ⟨(x3_1), (0), (by first | rfl | (simp; done) | (simp [*]; done)), (by first | rfl | (simp; done) | (simp [*]; done)), H', ⟨Nat.le_refl _⟩, by repeat (first | exact Drawn0.refl _ | apply Drawn0.step)⟩
        case round =>
          clear H'
          try clear c2
          try clear c2b0
          try clear p2
          obtain ⟨x3_2, x5_2, rfl, rfl, HA, HK2, ⟨m2, rfl⟩⟩ := hrel
          cases gk with
          | zero => exact absurd HA.out (by simp [spec_ldSorted.l1])
          | succ k2 =>
            have H := HA.out
            clear HA
            simp only [spec_ldSorted.l1] at H
            by_cases c3 : x5_2 < (a0.size : Int)
            · rw [if_pos c3] at H
              have c3b0 : decide (x5_2 < (a0.size : Int)) = true := decide_eq_true c3
              clear c3
              by_cases c4 : 0 ≤ x5_2
              · rw [if_pos c4] at H
                have c4b0 : decide (0 ≤ x5_2) = true := decide_eq_true c4
                clear c4
                by_cases c6 : (bt a0 x5_2) = x4_1
                · rw [if_pos c6] at H
                  have c6b0 : ((bt a0 x5_2) == x4_1) = true := beq_iff_eq.mpr c6
                  have c6b1 : ((bt a0 x5_2) != x4_1) = false := bne_eq_false_iff_eq.mpr c6
                  clear c6
                  have c7b0 := eq_true (of_decide_eq_true (by first | (with_reducible assumption) | assumption) : 0 ≤ x5_2)
                  by_cases c8 : x5_2 ≤ (wrap64 (x5_2 + 1))
                  · rw [if_pos c8] at H
                    have c8b0 := eq_true c8
                    have c8b1 : decide (x5_2 ≤ (wrap64 (x5_2 + 1))) = true := decide_eq_true c8
                    by_cases c9 : (wrap64 (x5_2 + 1)) ≤ (a0.size : Int)
                    · rw [if_pos c9] at H
                      have c9b0 := eq_true c9
                      have c9b1 : decide ((wrap64 (x5_2 + 1)) ≤ (a0.size : Int)) = true := decide_eq_true c9
                      by_cases c10 : x3_2.size + (a0.extract (x5_2 : Int).toNat ((wrap64 (x5_2 + 1)) : Int).toNat).size ≤ 9223372036854775807
                      · rw [if_pos c10] at H
                        have c10b0 := eq_true c10
                        have c10b1 : decide (x3_2.size + (a0.extract (x5_2 : Int).toNat ((wrap64 (x5_2 + 1)) : Int).toNat).size ≤ 9223372036854775807) = true := decide_eq_true c10
                        try have c10b2 : (9223372036854775807 < x3_2.size + (a0.extract (x5_2 : Int).toNat ((wrap64 (x5_2 + 1)) : Int).toNat).size) = False := eq_false (Nat.not_lt.2 c10)
                        have H' := Aside0.mk H
                        clear H
                        have p5 : 0 ≤ (x5_2 : Int) := of_decide_eq_true (by first | (with_reducible assumption) | assumption)
                        have q5 : x5_2 < (a0.size : Int) := of_decide_eq_true (by first | (with_reducible assumption) | assumption)
                        have hx5 := bt_at a0 x5_2
                        replace p5 := eq_true p5
                        replace q5 := eq_true q5
                        go_wp2
                        go_roundg k2
                        case measure => have := HK1.out; have := HK2.out; omega
                        case rel => exact ⟨(x3_2 ++ (a0.extract (x5_2 : Int).toNat ((wrap64 (x5_2 + 1)) : Int).toNat)), (wrap64 (x5_2 + 1)), (by first | rfl | (simp; done) | (simp [*]; done)), (by first | rfl | (simp; done) | (simp [*]; done)), H', ⟨by have := HK1.out; have := HK2.out; omega⟩, by repeat (first | exact Drawn0.refl _ | apply Drawn0.step)⟩
                      · rw [if_neg c10] at H
                        exact absurd H (by simp)
                    · rw [if_neg c9] at H
                      exact absurd H (by simp)
                  · rw [if_neg c8] at H
                    exact absurd H (by simp)
                · rw [if_neg c6] at H
                  have c6b0 : ((bt a0 x5_2) == x4_1) = false := beq_eq_false_iff_ne.mpr c6
                  have c6b1 : ((bt a0 x5_2) != x4_1) = true := bne_iff_ne.mpr c6
                  have H' := Aside0.mk H
                  clear H
                  have p5 : 0 ≤ (x5_2 : Int) := of_decide_eq_true (by first | (with_reducible assumption) | assumption)
                  have q5 : x5_2 < (a0.size : Int) := of_decide_eq_true (by first | (with_reducible assumption) | assumption)
                  have hx5 := bt_at a0 x5_2
                  replace p5 := eq_true p5
                  replace q5 := eq_true q5
                  go_wp2
                  go_roundg k2
                  case measure => have := HK1.out; have := HK2.out; omega
                  case rel => exact ⟨(x3_2), (wrap64 (x5_2 + 1)), (by first | rfl | (simp; done) | (simp [*]; done)), (by first | rfl | (simp; done) | (simp [*]; done)), H', ⟨by have := HK1.out; have := HK2.out; omega⟩, by repeat (first | exact Drawn0.refl _ | apply Drawn0.step)⟩
              · rw [if_neg c4] at H
                exact absurd H (by simp)
            · rw [if_neg c3] at H
              have c3b0 : decide (x5_2 < (a0.size : Int)) = false := decide_eq_false c3
              clear c3
              have H' := Aside0.mk H
              clear H
              go_wp2
              go_roundg k2
              case measure => have := HK1.out; have := HK2.out; omega
              case rel => exact ⟨(x3_2), ((x4_1 - 1) % 256), (by first | rfl | (simp; done) | (simp [*]; done)), (by first | rfl | (simp; done) | (simp [*]; done)), H', ⟨by have := HK1.out; have := HK2.out; omega⟩, by repeat (first | exact Drawn0.refl _ | apply Drawn0.step)⟩
      · rw [if_neg c2] at H
        have c2b0 : decide (48 < x4_1) = false := decide_eq_false c2
        clear c2
        obtain rfl := Option.some.inj H
        go_wp2
        go_ret
        exact ⟨by first | rfl | (simp; done) | (simp [*]; done), by repeat (first | exact Drawn0.refl _ | apply Drawn0.step)⟩

/-! ### spec_BestLoading: function 15 -/
def spec_BestLoading.f (k : Nat) (a0 : ByteArray) : Option (ByteArray × Bool) := (spec_ldGood.f k a0).bind fun t102 => (if t102 = true then ((spec_ldSorted.f k a0).bind fun t103 => (some (t103, true))) else (some ((⟨#[]⟩ : ByteArray), false)))
theorem spec_BestLoading.mono : ∀ a0 k, LeO (spec_BestLoading.f k a0) (spec_BestLoading.f (k + 1) a0) := by
  intro a0 k
  unfold spec_BestLoading.f
  repeat' first
      | (with_reducible exact spec_ldGood.mono _ _)
      | (with_reducible exact spec_ldSorted.mono _ _)
      | (with_reducible exact LeO.refl _)
      | (with_reducible exact LeO.none _)
      | (with_reducible refine LeO.ite ?_ ?_)
      | (with_reducible refine LeO.bind ?_ (fun _ => ?_))
      | exact spec_ldGood.mono _ _
      | exact spec_ldSorted.mono _ _
      | exact LeO.none _
      | refine LeO.ite ?_ ?_
      | refine LeO.bind ?_ (fun _ => ?_)
set_option maxHeartbeats 8000000 in
set_option maxRecDepth 100000 in
theorem spec_BestLoading.calls (k : Nat) (a0 : ByteArray) (r1 : ByteArray) (r2 : Bool) (w : World) (h : spec_BestLoading.f k a0 = some (r1, r2)) :
    Calls Tryd.prog 15 #[.string a0] w fun e w' => e = .returned (.tuple #[.string r1, .bool r2]) ∧ Drawn0 w w' := by
  have H : ((spec_ldGood.f k a0).bind fun t102 => (if t102 = true then ((spec_ldSorted.f k a0).bind fun t103 => (some (t103, true))) else (some ((⟨#[]⟩ : ByteArray), false)))) = some (r1, r2) := h
  clear h
  replace H := Option.bind_eq_some_iff.mp H
  obtain ⟨t102, A20, H⟩ := H
  replace H : (if t102 = true then ((spec_ldSorted.f k a0).bind fun t103 => (some (t103, true))) else (some ((⟨#[]⟩ : ByteArray), false))) = some (r1, r2) := H
  have A2 := Aside0.mk A20
  clear A20
  by_cases c3 : t102 = true
  · subst c3
    have H1 : ((spec_ldSorted.f k a0).bind fun t103 => (some (t103, true))) = some (r1, r2) := by rw [if_pos rfl] at H; exact H
    clear H
    have H := H1
    clear H1
    replace H := Option.bind_eq_some_iff.mp H
    obtain ⟨t103, A40, H⟩ := H
    replace H : (some (t103, true)) = some (r1, r2) := H
    have A4 := Aside0.mk A40
    clear A40
    simp only [Option.some.injEq, Prod.mk.injEq] at H
    obtain ⟨rfl, rfl⟩ := H
    go_enter Tryd.func15, Tryd.ntmps15
    go_wp2_with (first | ((with_reducible refine gate_callee (f := 21) rfl ?_); refine goesL_ (some 5) rfl rfl Tryd.func21 (by kernel_rfl) rfl #[.string a0] rfl (by (try simp only [List.map_toArray, List.map_cons, List.map_nil]); first | done | rfl | (simp only [List.length_drop, List.length_take]; rfl)) ?_; (with_reducible refine (spec_ldGood.calls k a0 true _ A2.out).mono ?_); rintro e w' ⟨rfl, ⟨nd, rfl⟩⟩; refine ⟨_, rfl, ?_⟩) | ((with_reducible refine gate_callee (f := 29) rfl ?_); refine goesL_ (some 8) rfl rfl Tryd.func29 (by kernel_rfl) rfl #[.string a0] rfl (by (try simp only [List.map_toArray, List.map_cons, List.map_nil]); first | done | rfl | (simp only [List.length_drop, List.length_take]; rfl)) ?_; (with_reducible refine (spec_ldSorted.calls k a0 t103 _ A4.out).mono ?_); rintro e w' ⟨rfl, ⟨nd, rfl⟩⟩; refine ⟨_, rfl, ?_⟩))
    go_ret2
    exact ⟨by first | rfl | (simp; done) | (simp [*]; done), by repeat (first | exact Drawn0.refl _ | apply Drawn0.step)⟩
  · replace c3 := Bool.eq_false_iff.mpr c3
    subst c3
    have H1 : (some ((⟨#[]⟩ : ByteArray), false)) = some (r1, r2) := by rw [if_neg (show ¬ (false = true) by decide)] at H; exact H
    clear H
    have H := H1
    clear H1
    simp only [Option.some.injEq, Prod.mk.injEq] at H
    obtain ⟨rfl, rfl⟩ := H
    go_enter Tryd.func15, Tryd.ntmps15
    go_wp2_with (first | ((with_reducible refine gate_callee (f := 21) rfl ?_); refine goesL_ (some 5) rfl rfl Tryd.func21 (by kernel_rfl) rfl #[.string a0] rfl (by (try simp only [List.map_toArray, List.map_cons, List.map_nil]); first | done | rfl | (simp only [List.length_drop, List.length_take]; rfl)) ?_; (with_reducible refine (spec_ldGood.calls k a0 false _ A2.out).mono ?_); rintro e w' ⟨rfl, ⟨nd, rfl⟩⟩; refine ⟨_, rfl, ?_⟩))
    go_ret2
    exact ⟨by first | rfl | (simp; done) | (simp [*]; done), by repeat (first | exact Drawn0.refl _ | apply Drawn0.step)⟩

-- given: strings.Trim

/-! ### strings.Trim at an ASCII cutset, by its contract -/
def strings_Trim.f (a0 a1 : ByteArray) : Option ByteArray := if a0.size ≤ 9223372036854775807 ∧ a1.size < 4294967281 ∧ a1.data.toList.all (fun b => decide (b.toNat < 128)) = true then some ⟨(Lib.trimS a0.data.toList a1.data.toList).toArray⟩ else none
theorem strings_Trim.calls (a0 a1 : ByteArray) (r : ByteArray) (w : World) (h : strings_Trim.f a0 a1 = some r) :
    Calls Tryd.prog 33 #[.string a0, .string a1] w fun e w' => e = .returned (.string r) ∧ Below w.heap.size w w' := by
  unfold strings_Trim.f at h
  split at h
  · rename_i hc
    obtain rfl := Option.some.inj h
    exact Any.strings_Trim_laid Tryd.lays160 (by kernel_rfl) a0 a1 w hc.1 hc.2.1 (ascii_of_all hc.2.2)
  · cases h

/-! ### impl_IsLoading: function 24 -/
def impl_IsLoading.f (a0 : ByteArray) : Option (Bool) := if (a0.size : Int) ≤ 12 then ((strings_Trim.f a0 (⟨#[49, 50, 51, 52, 53, 54, 55, 56, 57]⟩ : ByteArray)).bind fun t104 => (some (t104.toList == ([] : List UInt8)))) else (some false)
set_option maxHeartbeats 8000000 in
set_option maxRecDepth 100000 in
theorem impl_IsLoading.calls (a0 : ByteArray) (r : Bool) (w : World) (h : impl_IsLoading.f a0 = some r) :
    Calls Tryd.prog 24 #[.string a0] w fun e w' => e = .returned (.bool r) ∧ Below w.heap.size w w' := by
  have HB := Aside0.mk (Below.refl w.heap.size w)
  have H : (if (a0.size : Int) ≤ 12 then ((strings_Trim.f a0 (⟨#[49, 50, 51, 52, 53, 54, 55, 56, 57]⟩ : ByteArray)).bind fun t104 => (some (t104.toList == ([] : List UInt8)))) else (some false)) = some r := h
  clear h
  by_cases c2 : (a0.size : Int) ≤ 12
  · rw [if_pos c2] at H
    have c2b0 : decide ((a0.size : Int) ≤ 12) = true := decide_eq_true c2
    have c2b1 : decide (a0.size ≤ 12) = true := decide_eq_true (by omega)
    clear c2
    replace H := Option.bind_eq_some_iff.mp H
    obtain ⟨t104, A30, H⟩ := H
    replace H : (some (t104.toList == ([] : List UInt8))) = some r := H
    have A3 := Aside0.mk A30
    clear A30
    obtain rfl := Option.some.inj H
    go_enter Tryd.func24, Tryd.ntmps24
    go_wp2_with (first | (go_at_call 33; (with_reducible refine (strings_Trim.calls a0 (⟨#[49, 50, 51, 52, 53, 54, 55, 56, 57]⟩ : ByteArray) t104 _ A3.out).mono ?_); rintro e w4 ⟨rfl, hb⟩; have n0_ := Aside0.mk (below_step (by repeat (first | (with_reducible first | exact HB.out | apply below_alloc | apply pw_below_drewN | apply below_drew1) | exact HB.out)) hb); clear HB; have HB := n0_; clear n0_; (try clear hb); (try clear hb2); (try clear hk); (try clear hi)))
    go_ret
    exact ⟨by first | rfl | (simp [errW_none, errW_some] <;> rfl) | (simp [*, errW_none, errW_some] <;> rfl), by repeat (first | (with_reducible first | exact HB.out | apply below_alloc | apply pw_below_drewN | apply below_drew1) | exact HB.out)⟩
  · rw [if_neg c2] at H
    have c2b0 : decide ((a0.size : Int) ≤ 12) = false := decide_eq_false c2
    have c2b1 : decide (a0.size ≤ 12) = false := decide_eq_false (by omega)
    clear c2
    obtain rfl := Option.some.inj H
    go_enter Tryd.func24, Tryd.ntmps24
    go_wp2
    go_ret
    exact ⟨by first | rfl | (simp [errW_none, errW_some] <;> rfl) | (simp [*, errW_none, errW_some] <;> rfl), by repeat (first | (with_reducible first | exact HB.out | apply below_alloc | apply pw_below_drewN | apply below_drew1) | exact HB.out)⟩

-- given: slices.Reverse[[]byte,byte]

/-! ### slices.Reverse at []byte: by hand -/
def slices_Reverse.f (k : Nat) : Option Unit := none
/-- a row of bytes that a conversion made, told by what stands in it -/
def RowF (W : World) (B n : Nat) (f : Nat → Int) : Prop := ∀ t, t < n → W.cell? ⟨B, t, none⟩ = some (.int .u8 (f t)) ∧ W.frozen? ⟨B, t, none⟩ = false
theorem RowF.lt {W : World} {B n : Nat} {f : Nat → Int} (h : RowF W B n f) (h0 : 0 < n) : B < W.heap.size := World.block_lt_of_cell? W _ (h 0 h0).1
theorem RowF.below {W W' : World} {B n : Nat} {f : Nat → Int} (h : RowF W B n f) (hb : Below W.heap.size W W') : RowF W' B n f := by
  intro t ht
  have hB := h.lt (by omega)
  exact ⟨(hb.cell (p := ⟨B, t, none⟩) hB).trans (h t ht).1, (hb.frozen (p := ⟨B, t, none⟩) hB).trans (h t ht).2⟩
theorem RowF.set {W : World} {B n : Nat} {f : Nat → Int} (h : RowF W B n f) (i : Nat) (hi : i < n) (x : Int) : RowF (W.setCell ⟨B, i, none⟩ (.int .u8 x)) B n (fun t => if t = i then x else f t) := by
  intro t ht
  refine ⟨?_, by rw [World.frozen?_setCell]; exact (h t ht).2⟩
  by_cases e : t = i
  · subst e
    simp only [if_true]
    exact World.cell?_setCell_same (v := .int .u8 x) (h := (h t ht).1)
  · simp only [if_neg e]
    rw [show (W.setCell ⟨B, i, none⟩ (.int .u8 x)).cell? ⟨B, t, none⟩ = W.cell? ⟨B, t, none⟩ from by apply World.cell?_setCell_other; intro h2; injection h2 with _ h3 _; exact e h3.symm]
    exact (h t ht).1
theorem RowF.congr {W : World} {B n : Nat} {f g : Nat → Int} (h : RowF W B n f) (e : ∀ t, t < n → f t = g t) : RowF W B n g := fun t ht => by rw [← e t ht]; exact h t ht
theorem RowF.made (w : World) (e : TypeId) (s : ByteArray) : RowF (Lib.bytesWorld w e s) w.heap.size s.size (fun t => ((s.data.toList.getD t 0).toNat : Int)) := by
  intro t ht
  refine ⟨Lib.bytesWorld_cell w e s t ht, ?_⟩
  have hsz : s.size ≤ (Lib.bytesCells w e s).size := by simp [Lib.bytesCells]
  unfold World.frozen?
  rw [Lib.bytesWorld_at_new]
  simp
  omega
theorem wr_sub (j : Nat) (h : j ≤ 1048576) : wrap64 ((j : Int) - 1) = (j : Int) - 1 := by unfold wrap64; omega
def revF (f : Nat → Int) (n i : Nat) (t : Nat) : Int := if t < i ∨ n - i ≤ t then f (n - 1 - t) else f t
set_option maxHeartbeats 4000000 in
set_option maxRecDepth 100000 in
theorem rev_calls (B n c0 base : Nat) (f : Nat → Int) (w : World) (hn : n ≤ 1048576) (h : RowF w B n f) (hb : base ≤ B) (hbw : base ≤ w.heap.size) :
    Calls Tryd.prog 31 #[.slice (some ⟨B, 0, none⟩) n c0] w fun e w' => e = .returned (.tuple #[]) ∧ RowF w' B n (fun t => f (n - 1 - t)) ∧ Below base w w' ∧ w.heap.size ≤ w'.heap.size := by
  have HR := Aside0.mk (RowF.congr (g := revF f n 0) h (fun t ht => by unfold revF; rw [if_neg (by omega)]))
  clear h
  have mixed : Tryd.prog.follows .mixedOrders = true := by kernel_rfl
  have hw1 : wrap64 ((n : Int) - 1) = (n : Int) - 1 := by unfold wrap64; omega
  go_enter Tryd.func31, Tryd.ntmps31
  go_wp2_with fail
  go_loopg [2, 3] n (fun gg v2 v3 wr => ∃ i : Nat, i ≤ n ∧ n - i ≤ gg ∧ 2 * i ≤ n + 1 ∧ v2 = .int .i64 i ∧ v3 = .int .i64 ((n : Int) - 1 - i) ∧ Aside0 (RowF wr B n (revF f n i)) ∧ Aside0 (Below base w wr))
  case atStart => exact ⟨0, by omega, by omega, by omega, rfl, by simp [hw1], HR, ⟨Below.refl _ _⟩⟩
  case round =>
    clear HR
    obtain ⟨i, hin, hgg, hi2, rfl, rfl, HR, HW⟩ := hrel
    by_cases hlt : i < n - 1 - i
    · obtain ⟨j, hjn⟩ : ∃ j : Nat, j + i + 1 = n := ⟨n - 1 - i, by omega⟩
      have hj : (n : Int) - 1 - i = (j : Int) := by omega
      have hj1 : j ≤ 1048576 := by omega
      have hj2 : (j : Int) - 1 = (n : Int) - 1 - ((i + 1 : Nat) : Int) := by omega
      rw [hj]
      have q1 : ((i : Int) < (j : Int)) = True := eq_true (by omega)
      have q2 : (0 ≤ (i : Int)) = True := eq_true (by omega)
      have q3 : ((i : Int) < (n : Int)) = True := eq_true (by omega)
      have q4 : (0 ≤ (j : Int)) = True := eq_true (by omega)
      have q5 : ((j : Int) < (n : Int)) = True := eq_true (by omega)
      have hi0 := (HR.out i (by omega))
      have hj0 := (HR.out j (by omega))
      rw [show revF f n i i = f i by unfold revF; rw [if_neg (by omega)]] at hi0
      rw [show revF f n i j = f j by unfold revF; rw [if_neg (by omega)]] at hj0
      obtain ⟨ci, fi⟩ := hi0
      obtain ⟨cj, fj⟩ := hj0
      have hne : ¬ i = j := by omega
      have hwi : wrap64 ((i : Int) + 1) = ((i + 1 : Nat) : Int) := by unfold wrap64; omega
      have hwj : wrap64 ((j : Int) - 1) = (n : Int) - 1 - ((i + 1 : Nat) : Int) := (wr_sub j hj1).trans hj2
      have HJ := Aside0.mk (And.intro hjn hj2)
      clear hj2 hjn hj1 hj
      have hset2 : ∀ m x, ((wr.drewN m).setCell ⟨B, i, none⟩ (.int .u8 x)).cell? ⟨B, j, none⟩ = some (.int .u8 (f j)) := fun m x => by
        rw [show ((wr.drewN m).setCell ⟨B, i, none⟩ (.int .u8 x)).cell? ⟨B, j, none⟩ = (wr.drewN m).cell? ⟨B, j, none⟩ from by apply World.cell?_setCell_other; intro h2; injection h2 with _ h3 _; exact hne h3]
        exact cj
      go_wp2_with fail
      go_region_o
      go_wp2
      go_roundg (n - (i + 1))
      case measure => omega
      case rel =>
        refine ⟨i + 1, by omega, by omega, by omega, by simp, ?_, ⟨?_⟩, ⟨?_⟩⟩
        · have e1 := HJ.out.2
          first | rw [hwj] | rw [e1] | simp [e1]
        · refine RowF.below (W := (wr.setCell ⟨B, i, none⟩ (.int .u8 (f j))).setCell ⟨B, j, none⟩ (.int .u8 (f i))) (RowF.congr ((HR.out.set i (by have := HJ.out.1; omega) (f j)).set j (by have := HJ.out.1; omega) (f i)) ?_) (Below.refl _ _).drew
          intro t ht
          unfold revF
          have e0 := HJ.out.1
          have e2 : n - 1 - i = j := by omega
          have e3 : n - 1 - j = i := by omega
          by_cases h1 : t = j
          · subst h1; rw [if_pos rfl, if_pos (by omega), e3]
          · by_cases h2 : t = i
            · subst h2; rw [if_neg h1, if_pos rfl, if_pos (by omega), e2]
            · rw [if_neg h1, if_neg h2]
              by_cases h3 : t < i ∨ n - i ≤ t
              · rw [if_pos h3, if_pos (by omega)]
              · rw [if_neg h3, if_neg (by omega)]
        · exact (((HW.out.setCell (p := ⟨B, i, none⟩) hb _).setCell (p := ⟨B, j, none⟩) hb _)).drew
    · have q1 : ((i : Int) < (n : Int) - 1 - i) = False := eq_false (by omega)
      go_wp2_with fail
      go_end0
      refine ⟨rfl, RowF.congr HR.out ?_, HW.out, HW.out.size⟩
      intro t ht
      unfold revF
      by_cases h3 : t < i ∨ n - i ≤ t
      · rw [if_pos h3]
      · rw [if_neg h3, show n - 1 - t = t by omega]

/-! ### cmp_isNaN_byte: function 73 -/
def cmp_isNaN_byte.f (a0 : Int) : Option (Bool) := some (a0 != a0)
set_option maxHeartbeats 8000000 in
set_option maxRecDepth 100000 in
theorem cmp_isNaN_byte.calls (a0 : Int) (r : Bool) (w : World) (h : cmp_isNaN_byte.f a0 = some r) :
    Calls Tryd.prog 73 #[.int .u8 a0] w fun e w' => e = .returned (.bool r) ∧ Drawn0 w w' := by
  have H : (some (a0 != a0)) = some r := h
  clear h
  obtain rfl := Option.some.inj H
  go_enter Tryd.func73, Tryd.ntmps73
  go_wp2
  go_ret
  exact ⟨by first | rfl | (simp; done) | (simp [*]; done), by repeat (first | exact Drawn0.refl _ | apply Drawn0.step)⟩

/-! ### cmp_Less_byte: function 53 -/
def cmp_Less_byte.f (a0 : Int) (a1 : Int) : Option (Bool) := (cmp_isNaN_byte.f a0).bind fun t105 => (if t105 = true then ((cmp_isNaN_byte.f a1).bind fun t106 => (if t106 = true then (some (decide (a0 < a1))) else (some true))) else (some (decide (a0 < a1))))
set_option maxHeartbeats 8000000 in
set_option maxRecDepth 100000 in
theorem cmp_Less_byte.calls (a0 : Int) (a1 : Int) (r : Bool) (w : World) (h : cmp_Less_byte.f a0 a1 = some r) :
    Calls Tryd.prog 53 #[.int .u8 a0, .int .u8 a1] w fun e w' => e = .returned (.bool r) ∧ Drawn0 w w' := by
  have H : ((cmp_isNaN_byte.f a0).bind fun t105 => (if t105 = true then ((cmp_isNaN_byte.f a1).bind fun t106 => (if t106 = true then (some (decide (a0 < a1))) else (some true))) else (some (decide (a0 < a1))))) = some r := h
  clear h
  replace H := Option.bind_eq_some_iff.mp H
  obtain ⟨t105, A30, H⟩ := H
  replace H : (if t105 = true then ((cmp_isNaN_byte.f a1).bind fun t106 => (if t106 = true then (some (decide (a0 < a1))) else (some true))) else (some (decide (a0 < a1)))) = some r := H
  have A3 := Aside0.mk A30
  clear A30
  by_cases c4 : t105 = true
  · subst c4
    have H1 : ((cmp_isNaN_byte.f a1).bind fun t106 => (if t106 = true then (some (decide (a0 < a1))) else (some true))) = some r := by rw [if_pos rfl] at H; exact H
    clear H
    have H := H1
    clear H1
    replace H := Option.bind_eq_some_iff.mp H
    obtain ⟨t106, A50, H⟩ := H
    replace H : (if t106 = true then (some (decide (a0 < a1))) else (some true)) = some r := H
    have A5 := Aside0.mk A50
    clear A50
    by_cases c6 : t106 = true
    · subst c6
      have H1 : (some (decide (a0 < a1))) = some r := by rw [if_pos rfl] at H; exact H
      clear H
      have H := H1
      clear H1
      obtain rfl := Option.some.inj H
      go_enter Tryd.func53, Tryd.ntmps53
      go_wp2_with (first | ((with_reducible refine gate_callee (f := 73) rfl ?_); refine goesL_ (some 6) rfl rfl Tryd.func73 (by kernel_rfl) rfl #[.int .u8 a0] rfl (by (try simp only [List.map_toArray, List.map_cons, List.map_nil]); first | done | rfl | (simp only [List.length_drop, List.length_take]; rfl)) ?_; (with_reducible refine (cmp_isNaN_byte.calls a0 true _ A3.out).mono ?_); rintro e w' ⟨rfl, ⟨nd, rfl⟩⟩; refine ⟨_, rfl, ?_⟩) | (go_at_call 73; (with_reducible refine (cmp_isNaN_byte.calls a1 true _ A5.out).mono ?_); rintro e w' ⟨rfl, ⟨nd, rfl⟩⟩))
      go_ret
      exact ⟨by first | rfl | (simp; done) | (simp [*]; done), by repeat (first | exact Drawn0.refl _ | apply Drawn0.step)⟩
    · replace c6 := Bool.eq_false_iff.mpr c6
      subst c6
      have H1 : (some true) = some r := by rw [if_neg (show ¬ (false = true) by decide)] at H; exact H
      clear H
      have H := H1
      clear H1
      obtain rfl := Option.some.inj H
      go_enter Tryd.func53, Tryd.ntmps53
      go_wp2_with (first | ((with_reducible refine gate_callee (f := 73) rfl ?_); refine goesL_ (some 6) rfl rfl Tryd.func73 (by kernel_rfl) rfl #[.int .u8 a0] rfl (by (try simp only [List.map_toArray, List.map_cons, List.map_nil]); first | done | rfl | (simp only [List.length_drop, List.length_take]; rfl)) ?_; (with_reducible refine (cmp_isNaN_byte.calls a0 true _ A3.out).mono ?_); rintro e w' ⟨rfl, ⟨nd, rfl⟩⟩; refine ⟨_, rfl, ?_⟩) | (go_at_call 73; (with_reducible refine (cmp_isNaN_byte.calls a1 false _ A5.out).mono ?_); rintro e w' ⟨rfl, ⟨nd, rfl⟩⟩))
      go_ret
      exact ⟨by first | rfl | (simp; done) | (simp [*]; done), by repeat (first | exact Drawn0.refl _ | apply Drawn0.step)⟩
  · replace c4 := Bool.eq_false_iff.mpr c4
    subst c4
    have H1 : (some (decide (a0 < a1))) = some r := by rw [if_neg (show ¬ (false = true) by decide)] at H; exact H
    clear H
    have H := H1
    clear H1
    obtain rfl := Option.some.inj H
    go_enter Tryd.func53, Tryd.ntmps53
    go_wp2_with (first | ((with_reducible refine gate_callee (f := 73) rfl ?_); refine goesL_ (some 6) rfl rfl Tryd.func73 (by kernel_rfl) rfl #[.int .u8 a0] rfl (by (try simp only [List.map_toArray, List.map_cons, List.map_nil]); first | done | rfl | (simp only [List.length_drop, List.length_take]; rfl)) ?_; (with_reducible refine (cmp_isNaN_byte.calls a0 false _ A3.out).mono ?_); rintro e w' ⟨rfl, ⟨nd, rfl⟩⟩; refine ⟨_, rfl, ?_⟩))
    go_ret
    exact ⟨by first | rfl | (simp; done) | (simp [*]; done), by repeat (first | exact Drawn0.refl _ | apply Drawn0.step)⟩

-- given: slices.insertionSortOrdered[byte]

/-! ### slices.insertionSortOrdered at byte, on a row that a conversion made: by hand -/
def slices_insertionSortOrdered_byte.f (k : Nat) : Option Unit := none
def upTo (ys : List Int) (i : Nat) : Prop := ∀ s t, s < t → t < i → t < ys.length → ys.getD s 0 ≤ ys.getD t 0
def butAt (ys : List Int) (i j : Nat) : Prop := ∀ s t, s < t → t ≤ i → t ≠ j → ys.getD s 0 ≤ ys.getD t 0
theorem less_is (x y : Int) : cmp_Less_byte.f x y = some (decide (x < y)) := by
  unfold cmp_Less_byte.f cmp_isNaN_byte.f
  simp
def swap2 (ys : List Int) (j m : Nat) : List Int := (ys.set j (ys.getD m 0)).set m (ys.getD j 0)
theorem swap2_len (ys : List Int) (j m : Nat) : (swap2 ys j m).length = ys.length := by simp [swap2]
theorem swap2_perm (ys : List Int) (j m : Nat) (hj : j < ys.length) (hm : m < ys.length) : (swap2 ys j m).Perm ys := by
  have h := List.set_set_perm hj hm
  unfold swap2
  rw [show ys.getD m 0 = ys[m] by simp [hm], show ys.getD j 0 = ys[j] by simp [hj]]
  exact h
theorem swap2_at (ys : List Int) (j m t : Nat) (hj : j < ys.length) (hm : m < ys.length) (ht : t < ys.length) : (swap2 ys j m).getD t 0 = if t = m then ys.getD j 0 else if t = j then ys.getD m 0 else ys.getD t 0 := by
  unfold swap2
  rw [List.getD_eq_getElem?_getD, List.getElem?_set]
  by_cases h1 : m = t
  · subst h1
    rw [if_pos rfl, if_pos (by simpa using hm), if_pos rfl]
    rfl
  · rw [if_neg h1, if_neg (fun e => h1 e.symm), List.getElem?_set]
    by_cases h2 : j = t
    · subst h2
      rw [if_pos rfl, if_pos hj, if_pos rfl]
      rfl
    · rw [if_neg h2, if_neg (fun e => h2 e.symm), ← List.getD_eq_getElem?_getD]
theorem butAt_start (ys : List Int) (i : Nat) (h : upTo ys i) (hi : i < ys.length) : butAt ys i i := fun s t h1 h2 h3 => h s t h1 (by omega) (by omega)
theorem butAt_end (ys : List Int) (i j : Nat) (h : butAt ys i j) (hj : j = 0 ∨ ∃ m, m + 1 = j ∧ ys.getD m 0 ≤ ys.getD j 0) : upTo ys (i + 1) := by
  intro s t h1 h2 _
  by_cases e : t = j
  · rcases hj with hj | ⟨m, hm, hle⟩
    · omega
    · subst e
      by_cases e2 : s = m
      · rw [e2]; exact hle
      · exact Int.le_trans (h s m (by omega) (by omega) (by omega)) hle
  · exact h s t h1 (by omega) e
theorem butAt_step (ys : List Int) (i j m : Nat) (hm : m + 1 = j) (hi : i < ys.length) (hj : j ≤ i) (h : butAt ys i j) (hlt : ys.getD j 0 < ys.getD m 0) : butAt (swap2 ys j m) i m := by
  intro s t h1 h2 h3
  rw [swap2_at ys j m s (by omega) (by omega) (by omega), swap2_at ys j m t (by omega) (by omega) (by omega), if_neg h3]
  by_cases e : t = j
  · rw [if_pos e]
    by_cases e2 : s = m
    · rw [if_pos e2]; omega
    · rw [if_neg e2, if_neg (by omega)]
      exact h s m (by omega) (by omega) (by omega)
  · rw [if_neg e]
    by_cases e2 : s = m
    · rw [if_pos e2]
      exact h j t (by omega) h2 e
    · rw [if_neg e2]
      by_cases e3 : s = j
      · rw [if_pos e3]
        exact h m t (by omega) h2 e
      · rw [if_neg e3]
        exact h s t h1 h2 e
set_option maxHeartbeats 4000000 in
set_option maxRecDepth 100000 in
theorem ins_calls (B n c0 base : Nat) (xs : List Int) (w : World) (hxl : xs.length = n) (hn : n ≤ 1000) (h : RowF w B n (fun t => xs.getD t 0)) (hb : base ≤ B) (hbw : base ≤ w.heap.size) :
    Calls Tryd.prog 47 #[.slice (some ⟨B, 0, none⟩) n c0, .int .i64 0, .int .i64 n] w fun e w' => e = .returned (.tuple #[]) ∧ (∃ ys : List Int, ys.Perm xs ∧ upTo ys n ∧ RowF w' B n (fun t => ys.getD t 0)) ∧ Below base w w' ∧ w.heap.size ≤ w'.heap.size := by
  have mixed : Tryd.prog.follows .mixedOrders = true := by kernel_rfl
  have HR := Aside0.mk h
  clear h
  go_enter Tryd.func47, Tryd.ntmps47
  go_wp2_with fail
  go_loopg [6] n (fun gg v6 wr => ∃ (i : Nat) (ys : List Int), i ≤ n + 1 ∧ n + 1 - i ≤ gg ∧ v6 = .int .i64 i ∧ ys.length = n ∧ Aside0 (ys.Perm xs) ∧ Aside0 (upTo ys i) ∧ Aside0 (RowF wr B n (fun t => ys.getD t 0)) ∧ Aside0 (Below base w wr))
  case atStart => exact ⟨1, xs, by omega, by omega, rfl, hxl, ⟨List.Perm.refl _⟩, ⟨fun s t h1 h2 => by omega⟩, HR, ⟨Below.refl _ _⟩⟩
  case round =>
    clear HR
    obtain ⟨i, ys, hin, hgg, rfl, hyl, HP, HU, HR, HW⟩ := hrel
    by_cases hlt : i < n
    · have c1 : ((i : Int) < (n : Int)) = True := eq_true (by omega)
      have HI0 := Aside0.mk (butAt_start ys i HU.out (by omega))
      go_wp2_with fail
      go_loopg [7] i (fun gg v7 w' => ∃ (j : Nat) (zs : List Int), j ≤ i ∧ j ≤ gg ∧ v7 = .int .i64 j ∧ zs.length = n ∧ Aside0 (zs.Perm xs) ∧ Aside0 (butAt zs i j) ∧ Aside0 (RowF w' B n (fun t => zs.getD t 0)) ∧ Aside0 (Below base w w'))
      case atStart => exact ⟨i, ys, by omega, by omega, rfl, hyl, HP, HI0, HR, HW⟩
      case round =>
        clear HP HI0 HR HW HU
        obtain ⟨j, zs, hji, hgj, rfl, hzl, HP, HI, HR, HW⟩ := hrel
        by_cases hj0 : 0 < j
        · obtain ⟨m, hmj⟩ : ∃ m : Nat, m + 1 = j := ⟨j - 1, by omega⟩
          have p0 : decide ((0 : Int) < (j : Int)) = true := decide_eq_true (by omega)
          have p1 : (0 ≤ (j : Int)) = True := eq_true (by omega)
          have p2 : ((j : Int) < (n : Int)) = True := eq_true (by omega)
          have p3 : (0 ≤ (m : Int)) = True := eq_true (by omega)
          have p4 : ((m : Int) < (n : Int)) = True := eq_true (by omega)
          have e1 : wrap64 ((j : Int) - 1) = (m : Int) := by unfold wrap64; omega
          have e2 : IntKind.i64.wrap ((j : Int) - 1) = (m : Int) := (i64_w _).trans e1
          have cj : wr.cell? ⟨B, j, none⟩ = some (.int .u8 (zs.getD j 0)) := (HR.out j (by omega)).1
          have fj : wr.frozen? ⟨B, j, none⟩ = false := (HR.out j (by omega)).2
          have cm : wr.cell? ⟨B, m, none⟩ = some (.int .u8 (zs.getD m 0)) := (HR.out m (by omega)).1
          have fm : wr.frozen? ⟨B, m, none⟩ = false := (HR.out m (by omega)).2
          have hne : ¬ j = m := by omega
          have HSW := Aside0.mk (swap2_perm zs j m (by omega) (by omega))
          have HSA := Aside0.mk (fun t (ht : t < zs.length) => swap2_at zs j m t (by omega) (by omega) ht)
          have HST := Aside0.mk (butAt_step zs i j m hmj (by omega) hji HI.out)
          have HEN := Aside0.mk (butAt_end zs i j HI.out)
          have HMJ := Aside0.mk hmj
          have hset : ∀ k x, ((wr.drewN k).setCell ⟨B, j, none⟩ (.int .u8 x)).cell? ⟨B, m, none⟩ = some (.int .u8 (zs.getD m 0)) := fun k x => by
            rw [show ((wr.drewN k).setCell ⟨B, j, none⟩ (.int .u8 x)).cell? ⟨B, m, none⟩ = (wr.drewN k).cell? ⟨B, m, none⟩ from by apply World.cell?_setCell_other; intro h2; injection h2 with _ h3 _; exact hne h3]
            exact cm
          have HL := Aside0.mk (less_is (zs.getD j 0) (zs.getD m 0))
          clear hmj e1
          generalize hxj : zs.getD j 0 = xj at cj HSA HST HEN HL
          generalize hxm : zs.getD m 0 = xm at cm HSA HST HEN HL hset
          cases hq : decide (xj < xm) with
          | true =>
            rw [hq] at HL
            have HQ := Aside0.mk hq
            clear hq
            go_wp2_with fail
            go_quiet (first | (go_at_call 53; exact Calls.quiet_of ((cmp_Less_byte.calls xj xm true _ HL.out).mono (fun _ _ ⟨he, ⟨nd, hw⟩⟩ => ⟨he, nd, hw⟩))))
            go_wp2_with fail
            go_region_o
            go_wp2
            go_roundg m
            case measure => have := HMJ.out; omega
            case rel =>
              have hmj := HMJ.out
              refine ⟨m, swap2 zs j m, by omega, by omega, by first | rfl | simp, by rw [swap2_len]; exact hzl, ⟨HSW.out.trans HP.out⟩, ⟨HST.out (of_decide_eq_true HQ.out)⟩, ⟨?_⟩, ⟨?_⟩⟩
              · refine RowF.congr (((RowF.below HR.out (pw_below_drewN (Below.refl _ _) (nq + 1))).set j (by omega) xm).set m (by omega) xj) (fun t ht => ?_)
                rw [HSA.out t (by omega)]
              · exact ((pw_below_drewN HW.out (nq + 1)).setCell (p := ⟨B, j, none⟩) hb _).setCell (p := ⟨B, m, none⟩) hb _
          | false =>
            rw [hq] at HL
            have HQ := Aside0.mk hq
            clear hq
            go_wp2_with fail
            go_quiet (first | (go_at_call 53; exact Calls.quiet_of ((cmp_Less_byte.calls xj xm false _ HL.out).mono (fun _ _ ⟨he, ⟨nd, hw⟩⟩ => ⟨he, nd, hw⟩))))
            go_wp2_with fail
            go_roundg (n - i)
            case measure => omega
            case rel =>
              refine ⟨i + 1, zs, by omega, by omega, by go_num, hzl, HP, ⟨HEN.out (.inr ⟨m, HMJ.out, ?_⟩)⟩, ⟨?_⟩, ⟨?_⟩⟩
              · have := of_decide_eq_false HQ.out; omega
              · exact RowF.below HR.out (by repeat (first | exact Below.refl _ _ | apply below_alloc | apply pw_below_drewN))
              · exact pw_below_drewN HW.out _
        · have p0 : decide ((0 : Int) < (j : Int)) = false := decide_eq_false (by omega)
          go_wp2_with fail
          go_quiet (fail)
          go_wp2_with fail
          go_roundg (n - i)
          case measure => omega
          case rel =>
            refine ⟨i + 1, zs, by omega, by omega, by go_num, hzl, HP, ⟨butAt_end zs i j HI.out (.inl (by omega))⟩, ⟨?_⟩, ⟨?_⟩⟩
            · exact RowF.below HR.out (by repeat (first | exact Below.refl _ _ | apply below_alloc | apply pw_below_drewN))
            · exact pw_below_drewN HW.out _
    · have c1 : ((i : Int) < (n : Int)) = False := eq_false (by omega)
      go_wp2_with fail
      go_end0
      exact ⟨rfl, ⟨ys, HP.out, fun s t h1 h2 h3 => HU.out s t h1 (by omega) h3, HR.out⟩, HW.out, HW.out.size⟩

-- given: part dsc

/-! ### bytes in descending order: lists -/
theorem strOf_map (t : ByteArray) : strOfNums (t.data.toList.map fun x => (x.toNat : Int)) = t := by
  rcases t with ⟨⟨l⟩⟩
  simp [strOfNums, Function.comp_def]
def dscF : List UInt8 → List UInt8 → List UInt8
  | [], _ => []
  | c :: cs, l => dscF cs l ++ l.filter (fun x => x == c)
def dig9 : List UInt8 := (List.range' 49 9).map Nat.toUInt8
theorem dsc_perm {l m : List UInt8} (h : l.Perm m) : ∀ cs : List UInt8, dscF cs l = dscF cs m
  | [] => rfl
  | c :: cs => by rw [dscF, dscF, dsc_perm h cs, List.filter_beq, List.filter_beq, h.count_eq]
theorem dsc_skip (c : UInt8) (l : List UInt8) : ∀ cs : List UInt8, c ∉ cs → dscF cs (l.filter (fun x => x != c)) = dscF cs l
  | [], _ => rfl
  | d :: cs, h => by
    rw [List.mem_cons, not_or] at h
    rw [dscF, dscF, dsc_skip c l cs h.2, List.filter_filter]
    congr 1
    refine List.filter_congr fun x _ => ?_
    by_cases e : x = d
    · subst e
      have : x ≠ c := fun e => h.1 e.symm
      simp [this]
    · simp [e]
theorem dsc_split (c : UInt8) : ∀ r : List UInt8, r.Pairwise (fun a b => b.toNat ≤ a.toNat) → (∀ x ∈ r, c.toNat ≤ x.toNat) → r = r.filter (fun x => x != c) ++ r.filter (fun x => x == c)
  | [], _, _ => rfl
  | x :: r, hp, hc => by
    rw [List.pairwise_cons] at hp
    by_cases e : x = c
    · subst e
      have hall : ∀ y ∈ r, y = x := fun y hy => by
        have h1 := hp.1 y hy
        have h2 := hc y (List.mem_cons_of_mem _ hy)
        exact UInt8.toNat_inj.1 (by omega)
      have h1 : (x :: r).filter (fun y => y != x) = [] := by
        rw [List.filter_eq_nil_iff]
        intro y hy
        rw [List.mem_cons] at hy
        rcases hy with rfl | hy
        · simp
        · rw [hall y hy]; simp
      have h2 : (x :: r).filter (fun y => y == x) = x :: r := by
        rw [List.filter_eq_self]
        intro y hy
        rw [List.mem_cons] at hy
        rcases hy with rfl | hy
        · simp
        · rw [hall y hy]; simp
      rw [h1, h2, List.nil_append]
    · have ih := dsc_split c r hp.2 (fun y hy => hc y (List.mem_cons_of_mem _ hy))
      rw [List.filter_cons, if_pos (by simpa using e), List.filter_cons, if_neg (by simpa using e), List.cons_append, ← ih]
theorem dsc_self : ∀ (cs : List UInt8), cs.Pairwise (fun a b => a.toNat < b.toNat) → ∀ r : List UInt8, r.Pairwise (fun a b => b.toNat ≤ a.toNat) → (∀ x ∈ r, x ∈ cs) → dscF cs r = r
  | [], _, r, _, h => by
    have : r = [] := List.eq_nil_iff_forall_not_mem.2 fun x hx => by simpa using h x hx
    subst this
    rfl
  | c :: cs, hcs, r, hr, h => by
    rw [List.pairwise_cons] at hcs
    have hnot : c ∉ cs := fun hm => Nat.lt_irrefl _ (hcs.1 c hm)
    have hs := dsc_split c r hr (fun x hx => by
      have := h x hx
      rw [List.mem_cons] at this
      rcases this with rfl | this
      · exact Nat.le_refl _
      · exact Nat.le_of_lt (hcs.1 x this))
    have ih := dsc_self cs hcs.2 (r.filter (fun x => x != c)) (hr.filter _) (fun x hx => by
      rw [List.mem_filter] at hx
      have := h x hx.1
      rw [List.mem_cons] at this
      rcases this with rfl | this
      · simp at hx
      · exact this)
    rw [dsc_skip c r cs hnot] at ih
    rw [dscF, ih]
    exact hs.symm
theorem dsc_nums (l : List UInt8) (ys : List Int) (hd : ∀ x ∈ l, x ∈ dig9) (hp : ys.Perm (l.map fun x => (x.toNat : Int))) (hu : ∀ s t, s < t → t < ys.length → ys.getD s 0 ≤ ys.getD t 0) : (dscF dig9 l).map (fun x => (x.toNat : Int)) = ys.reverse := by
  have hmem : ∀ y ∈ ys, ∃ x ∈ l, (x.toNat : Int) = y := fun y hy => List.mem_map.1 (hp.mem_iff.1 hy)
  have hys : (ys.map fun y => UInt8.ofNat y.toNat).map (fun x => (x.toNat : Int)) = ys := by
    rw [List.map_map]
    conv => rhs; rw [← List.map_id ys]
    refine List.map_congr_left fun y hy => ?_
    obtain ⟨x, _, rfl⟩ := hmem y hy
    simp
  have hpm : (ys.map fun y => UInt8.ofNat y.toNat).Perm l := by
    have h1 := hp.map (fun y => UInt8.ofNat y.toNat)
    rw [List.map_map] at h1
    have h2 : l.map ((fun y => UInt8.ofNat (Int.toNat y)) ∘ fun x => (x.toNat : Int)) = l := by
      conv => rhs; rw [← List.map_id l]
      refine List.map_congr_left fun x _ => by simp
    rwa [h2] at h1
  generalize hm : (ys.map fun y => UInt8.ofNat y.toNat) = m at hys hpm
  have hml : m.length = ys.length := by rw [← hm, List.length_map]
  have hasc : m.reverse.Pairwise (fun a b => b.toNat ≤ a.toNat) := by
    rw [List.pairwise_reverse, List.pairwise_iff_getElem]
    intro i j hi hj hij
    have h1 := hu i j hij (by omega)
    rw [← hys] at h1
    simp only [List.getD_eq_getElem?_getD, List.getElem?_map, List.getElem?_eq_getElem hi, List.getElem?_eq_getElem hj, Option.map_some, Option.getD_some] at h1
    omega
  have hself := dsc_self dig9 (by decide) m.reverse hasc (fun x hx => hd x (hpm.mem_iff.1 (List.mem_reverse.1 hx)))
  rw [dsc_perm ((List.reverse_perm m).trans hpm) dig9] at hself
  rw [hself, List.map_reverse, hys]

end Go.Proofs.YtbjjmnnbkaoajaaDoor.L

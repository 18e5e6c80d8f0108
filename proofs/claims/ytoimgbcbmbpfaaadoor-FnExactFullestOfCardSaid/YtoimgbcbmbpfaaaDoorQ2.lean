-- Written by the session's program wip/myprint.py (over the kit's print); the given parts by hand.
import Derived.Test.YtoimgbcbmbpfaaaDoorQ0
import Derived.Test.YtoimgbcbmbpfaaaDoorQ1
namespace Go.Proofs.YtoimgbcbmbpfaaaDoor.Q
open Go.RowKit Go.Proofs.YtoimgbcbmbpfaaaDoorW.PrintWords Go.Proofs.YtoimgbcbmbpfaaaDoorW.PrintLast Go.Proofs.YtoimgbcbmbpfaaaDoorW.PrintMore
attribute [local go_sem] max2_int min2_int max_two min_two max_three min_three max_four min_four   -- for this text's walks alone
set_option linter.unusedVariables false
set_option linter.unusedSimpArgs false

/-! ### impl_IsTour: function 23 -/
def impl_IsTour.l0 : Nat → ByteArray → Int → Int → Option (Bool)
  | 0, _, _, _ => none
  | k + 1, x0, x6, x7 => if x7 < x6 then (if 0 ≤ x7 then (if x7 < (x0.size : Int) then (if x7 ≤ (x0.size : Int) then ((strings_IndexByte.f (x0.extract 0 (x7 : Int).toNat) (bt x0 x7)).bind fun t114 => (if t114 ≥ 0 then (some false) else ((impl_isSmall.f (bt x0 x7)).bind fun t115 => (if t115 = true then (impl_IsTour.l0 k x0 x6 (wrap64 (x7 + 1))) else ((impl_other.f (bt x0 x7)).bind fun t116 => ((strings_IndexByte.f (x0.extract 0 (x7 : Int).toNat) t116).bind fun t117 => (if t117 < 0 then (some false) else (impl_IsTour.l0 k x0 x6 (wrap64 (x7 + 1)))))))))) else (none)) else (none)) else (none)) else (if (x0.size : Int) ≤ 16 then ((strings_Trim.f x0 (⟨#[97, 98, 99, 100, 101, 102, 103, 104, 65, 66, 67, 68, 69, 70, 71, 72]⟩ : ByteArray)).bind fun t113 => (some (t113.toList == ([] : List UInt8)))) else (some false))
def impl_IsTour.f (k : Nat) (a0 : ByteArray) : Option (Bool) := impl_IsTour.l0 k a0 (a0.size : Int) 0
theorem impl_IsTour.mono_l : ∀ k, (∀ y0 y1 y2, LeO (impl_IsTour.l0 k y0 y1 y2) (impl_IsTour.l0 (k + 1) y0 y1 y2))
  | 0 => fun _ _ _ r h => by simp [impl_IsTour.l0] at h
  | k + 1 => by
    have ih0 := impl_IsTour.mono_l k
    · intro y0 y1 y2
      unfold impl_IsTour.l0
      repeat' first
      | (with_reducible exact ih0 _ _ _)
      | (with_reducible exact LeO.refl _)
      | (with_reducible exact LeO.none _)
      | (with_reducible refine LeO.ite ?_ ?_)
      | (with_reducible refine LeO.bind ?_ (fun _ => ?_))
      | exact ih0 _ _ _
      | exact LeO.none _
      | refine LeO.ite ?_ ?_
      | refine LeO.bind ?_ (fun _ => ?_)
theorem impl_IsTour.mono : ∀ a0 k, LeO (impl_IsTour.f k a0) (impl_IsTour.f (k + 1) a0) := by
  intro a0 k
  have ih0 := impl_IsTour.mono_l k
  unfold impl_IsTour.f
  repeat' first
      | (with_reducible exact ih0 _ _ _)
      | (with_reducible exact LeO.refl _)
      | (with_reducible exact LeO.none _)
      | (with_reducible refine LeO.ite ?_ ?_)
      | (with_reducible refine LeO.bind ?_ (fun _ => ?_))
      | exact ih0 _ _ _
      | exact LeO.none _
      | refine LeO.ite ?_ ?_
      | refine LeO.bind ?_ (fun _ => ?_)
set_option maxHeartbeats 8000000 in
set_option maxRecDepth 100000 in
theorem impl_IsTour.calls (k : Nat) (a0 : ByteArray) (r : Bool) (w : World) (h : impl_IsTour.f k a0 = some r) :
    Calls Tryd.prog 23 #[.string a0] w fun e w' => e = .returned (.bool r) ∧ Below w.heap.size w w' := by
  have HB := Aside0.mk (Below.refl w.heap.size w)
  have H : (impl_IsTour.l0 k a0 (a0.size : Int) 0) = some r := h
  clear h
  have H' := Aside0.mk H
  clear H
  go_enter Tryd.func23, Tryd.ntmps23
  go_wp2
  repeat (go_quiet (fail); try go_wp2)
  go_loopg [7] k (fun kq v7 w' => ∃ (x7_1 : Int), v7 = .int .i64 x7_1 ∧ Aside0 (impl_IsTour.l0 kq a0 (a0.size : Int) x7_1 = some r) ∧ Aside0 (kq ≤ k) ∧ Aside0 (Below w.heap.size w w'))
  case atStart => exact ⟨(0), (by first | rfl | (simp; done) | (simp [*]; done)), H', ⟨Nat.le_refl _⟩, ⟨by repeat (first | (with_reducible first | exact HB.out | apply below_alloc | apply pw_below_drewN | apply below_drew1) | exact HB.out)⟩⟩
  case round =>
    clear H'
    obtain ⟨x7_1, rfl, HA, HK1, HB⟩ := hrel
    cases gk with
    | zero => exact absurd HA.out (by simp [impl_IsTour.l0])
    | succ k1 =>
      have H := HA.out
      clear HA
      simp only [impl_IsTour.l0] at H
      by_cases c2 : x7_1 < (a0.size : Int)
      · rw [if_pos c2] at H
        have c2b0 : decide (x7_1 < (a0.size : Int)) = true := decide_eq_true c2
        clear c2
        by_cases c3 : 0 ≤ x7_1
        · rw [if_pos c3] at H
          have c3b0 : decide (0 ≤ x7_1) = true := decide_eq_true c3
          clear c3
          by_cases c4 : x7_1 < (a0.size : Int)
          · rw [if_pos c4] at H
            have c4b0 : decide (x7_1 < (a0.size : Int)) = true := decide_eq_true c4
            clear c4
            have c6b0 := eq_true (of_decide_eq_true (by first | (with_reducible assumption) | assumption) : 0 ≤ x7_1)
            by_cases c7 : x7_1 ≤ (a0.size : Int)
            · rw [if_pos c7] at H
              have c7b0 := eq_true c7
              have c7b1 : decide (x7_1 ≤ (a0.size : Int)) = true := decide_eq_true c7
              clear c7
              replace H := Option.bind_eq_some_iff.mp H
              obtain ⟨t114, A80, H⟩ := H
              replace H : (if t114 ≥ 0 then (some false) else ((impl_isSmall.f (bt a0 x7_1)).bind fun t115 => (if t115 = true then (impl_IsTour.l0 k1 a0 (a0.size : Int) (wrap64 (x7_1 + 1))) else ((impl_other.f (bt a0 x7_1)).bind fun t116 => ((strings_IndexByte.f (a0.extract 0 (x7_1 : Int).toNat) t116).bind fun t117 => (if t117 < 0 then (some false) else (impl_IsTour.l0 k1 a0 (a0.size : Int) (wrap64 (x7_1 + 1))))))))) = some r := H
              have A8 := Aside0.mk A80
              clear A80
              by_cases c9 : t114 ≥ 0
              · rw [if_pos c9] at H
                have c9b0 : decide (0 ≤ t114) = true := decide_eq_true c9
                clear c9
                obtain rfl := Option.some.inj H
                have p5 : 0 ≤ (x7_1 : Int) := of_decide_eq_true (by first | (with_reducible assumption) | assumption)
                have q5 : x7_1 < (a0.size : Int) := of_decide_eq_true (by first | (with_reducible assumption) | assumption)
                have hx5 := bt_at a0 x7_1
                replace p5 := eq_true p5
                replace q5 := eq_true q5
                go_wp2_with (first | (go_at_call 51; (with_reducible refine (strings_IndexByte.calls (a0.extract 0 (x7_1 : Int).toNat) (bt a0 x7_1) t114 _ A8.out).mono ?_); rintro e w' ⟨rfl, ⟨nd, rfl⟩⟩; (try first | exact ⟨rfl, _, World.drewN_drewN _ _ _⟩ | exact ⟨rfl, _, Eq.trans (World.drewN_drewN _ _ _) (congrArg (World.drewN _) (Nat.add_assoc _ _ _))⟩)))
                repeat (go_quiet (first | (go_at_call 51; (with_reducible refine (strings_IndexByte.calls (a0.extract 0 (x7_1 : Int).toNat) (bt a0 x7_1) t114 _ A8.out).mono ?_); rintro e w' ⟨rfl, ⟨nd, rfl⟩⟩; (try first | exact ⟨rfl, _, World.drewN_drewN _ _ _⟩ | exact ⟨rfl, _, Eq.trans (World.drewN_drewN _ _ _) (congrArg (World.drewN _) (Nat.add_assoc _ _ _))⟩))); try go_wp2_with (first | (go_at_call 51; (with_reducible refine (strings_IndexByte.calls (a0.extract 0 (x7_1 : Int).toNat) (bt a0 x7_1) t114 _ A8.out).mono ?_); rintro e w' ⟨rfl, ⟨nd, rfl⟩⟩; (try first | exact ⟨rfl, _, World.drewN_drewN _ _ _⟩ | exact ⟨rfl, _, Eq.trans (World.drewN_drewN _ _ _) (congrArg (World.drewN _) (Nat.add_assoc _ _ _))⟩))))
                go_ret
                exact ⟨by first | rfl | (simp [errW_none, errW_some] <;> rfl) | (simp [*, errW_none, errW_some] <;> rfl), by repeat (first | (with_reducible first | exact HB.out | apply below_alloc | apply pw_below_drewN | apply below_drew1) | exact HB.out)⟩
              · rw [if_neg c9] at H
                have c9b0 : decide (0 ≤ t114) = false := decide_eq_false c9
                clear c9
                replace H := Option.bind_eq_some_iff.mp H
                obtain ⟨t115, A100, H⟩ := H
                replace H : (if t115 = true then (impl_IsTour.l0 k1 a0 (a0.size : Int) (wrap64 (x7_1 + 1))) else ((impl_other.f (bt a0 x7_1)).bind fun t116 => ((strings_IndexByte.f (a0.extract 0 (x7_1 : Int).toNat) t116).bind fun t117 => (if t117 < 0 then (some false) else (impl_IsTour.l0 k1 a0 (a0.size : Int) (wrap64 (x7_1 + 1))))))) = some r := H
                have A10 := Aside0.mk A100
                clear A100
                by_cases c11 : t115 = true
                · subst c11
                  have H1 : (impl_IsTour.l0 k1 a0 (a0.size : Int) (wrap64 (x7_1 + 1))) = some r := by rw [if_pos rfl] at H; exact H
                  clear H
                  have H := H1
                  clear H1
                  have H' := Aside0.mk H
                  clear H
                  have p5 : 0 ≤ (x7_1 : Int) := of_decide_eq_true (by first | (with_reducible assumption) | assumption)
                  have q5 : x7_1 < (a0.size : Int) := of_decide_eq_true (by first | (with_reducible assumption) | assumption)
                  have hx5 := bt_at a0 x7_1
                  replace p5 := eq_true p5
                  replace q5 := eq_true q5
                  go_wp2_with (first | (go_at_call 51; (with_reducible refine (strings_IndexByte.calls (a0.extract 0 (x7_1 : Int).toNat) (bt a0 x7_1) t114 _ A8.out).mono ?_); rintro e w' ⟨rfl, ⟨nd, rfl⟩⟩; (try first | exact ⟨rfl, _, World.drewN_drewN _ _ _⟩ | exact ⟨rfl, _, Eq.trans (World.drewN_drewN _ _ _) (congrArg (World.drewN _) (Nat.add_assoc _ _ _))⟩)) | (go_at_call 52; (with_reducible refine (impl_isSmall.calls (bt a0 x7_1) true _ A10.out).mono ?_); rintro e w' ⟨rfl, ⟨nd, rfl⟩⟩; (try first | exact ⟨rfl, _, World.drewN_drewN _ _ _⟩ | exact ⟨rfl, _, Eq.trans (World.drewN_drewN _ _ _) (congrArg (World.drewN _) (Nat.add_assoc _ _ _))⟩)))
                  repeat (go_quiet (first | (go_at_call 51; (with_reducible refine (strings_IndexByte.calls (a0.extract 0 (x7_1 : Int).toNat) (bt a0 x7_1) t114 _ A8.out).mono ?_); rintro e w' ⟨rfl, ⟨nd, rfl⟩⟩; (try first | exact ⟨rfl, _, World.drewN_drewN _ _ _⟩ | exact ⟨rfl, _, Eq.trans (World.drewN_drewN _ _ _) (congrArg (World.drewN _) (Nat.add_assoc _ _ _))⟩)) | (go_at_call 52; (with_reducible refine (impl_isSmall.calls (bt a0 x7_1) true _ A10.out).mono ?_); rintro e w' ⟨rfl, ⟨nd, rfl⟩⟩; (try first | exact ⟨rfl, _, World.drewN_drewN _ _ _⟩ | exact ⟨rfl, _, Eq.trans (World.drewN_drewN _ _ _) (congrArg (World.drewN _) (Nat.add_assoc _ _ _))⟩))); try go_wp2_with (first | (go_at_call 51; (with_reducible refine (strings_IndexByte.calls (a0.extract 0 (x7_1 : Int).toNat) (bt a0 x7_1) t114 _ A8.out).mono ?_); rintro e w' ⟨rfl, ⟨nd, rfl⟩⟩; (try first | exact ⟨rfl, _, World.drewN_drewN _ _ _⟩ | exact ⟨rfl, _, Eq.trans (World.drewN_drewN _ _ _) (congrArg (World.drewN _) (Nat.add_assoc _ _ _))⟩)) | (go_at_call 52; (with_reducible refine (impl_isSmall.calls (bt a0 x7_1) true _ A10.out).mono ?_); rintro e w' ⟨rfl, ⟨nd, rfl⟩⟩; (try first | exact ⟨rfl, _, World.drewN_drewN _ _ _⟩ | exact ⟨rfl, _, Eq.trans (World.drewN_drewN _ _ _) (congrArg (World.drewN _) (Nat.add_assoc _ _ _))⟩))))
                  go_roundg k1
                  case measure => have := HK1.out; omega
                  case rel => exact ⟨(wrap64 (x7_1 + 1)), (by first | rfl | (simp; done) | (simp [*]; done)), H', ⟨by have := HK1.out; omega⟩, ⟨by repeat (first | (with_reducible first | exact HB.out | apply below_alloc | apply pw_below_drewN | apply below_drew1) | exact HB.out)⟩⟩
                · replace c11 := Bool.eq_false_iff.mpr c11
                  subst c11
                  have H1 : ((impl_other.f (bt a0 x7_1)).bind fun t116 => ((strings_IndexByte.f (a0.extract 0 (x7_1 : Int).toNat) t116).bind fun t117 => (if t117 < 0 then (some false) else (impl_IsTour.l0 k1 a0 (a0.size : Int) (wrap64 (x7_1 + 1)))))) = some r := by rw [if_neg (show ¬ (false = true) by decide)] at H; exact H
                  clear H
                  have H := H1
                  clear H1
                  have c12b0 := eq_true (of_decide_eq_true (by first | (with_reducible assumption) | assumption) : 0 ≤ x7_1)
                  have c13b0 := eq_true (of_decide_eq_true (by first | (with_reducible assumption) | assumption) : x7_1 ≤ (a0.size : Int))
                  replace H := Option.bind_eq_some_iff.mp H
                  obtain ⟨t116, A140, H⟩ := H
                  replace H : ((strings_IndexByte.f (a0.extract 0 (x7_1 : Int).toNat) t116).bind fun t117 => (if t117 < 0 then (some false) else (impl_IsTour.l0 k1 a0 (a0.size : Int) (wrap64 (x7_1 + 1))))) = some r := H
                  have A14 := Aside0.mk A140
                  clear A140
                  replace H := Option.bind_eq_some_iff.mp H
                  obtain ⟨t117, A150, H⟩ := H
                  replace H : (if t117 < 0 then (some false) else (impl_IsTour.l0 k1 a0 (a0.size : Int) (wrap64 (x7_1 + 1)))) = some r := H
                  have A15 := Aside0.mk A150
                  clear A150
                  by_cases c16 : t117 < 0
                  · rw [if_pos c16] at H
                    have c16b0 : decide (t117 < 0) = true := decide_eq_true c16
                    clear c16
                    obtain rfl := Option.some.inj H
                    have p5 : 0 ≤ (x7_1 : Int) := of_decide_eq_true (by first | (with_reducible assumption) | assumption)
                    have q5 : x7_1 < (a0.size : Int) := of_decide_eq_true (by first | (with_reducible assumption) | assumption)
                    have hx5 := bt_at a0 x7_1
                    replace p5 := eq_true p5
                    replace q5 := eq_true q5
                    go_wp2_with (first | (go_at_call 51; (with_reducible refine (strings_IndexByte.calls (a0.extract 0 (x7_1 : Int).toNat) (bt a0 x7_1) t114 _ A8.out).mono ?_); rintro e w' ⟨rfl, ⟨nd, rfl⟩⟩; (try first | exact ⟨rfl, _, World.drewN_drewN _ _ _⟩ | exact ⟨rfl, _, Eq.trans (World.drewN_drewN _ _ _) (congrArg (World.drewN _) (Nat.add_assoc _ _ _))⟩)) | (go_at_call 52; (with_reducible refine (impl_isSmall.calls (bt a0 x7_1) false _ A10.out).mono ?_); rintro e w' ⟨rfl, ⟨nd, rfl⟩⟩; (try first | exact ⟨rfl, _, World.drewN_drewN _ _ _⟩ | exact ⟨rfl, _, Eq.trans (World.drewN_drewN _ _ _) (congrArg (World.drewN _) (Nat.add_assoc _ _ _))⟩)) | (go_at_call 53; (with_reducible refine (impl_other.calls (bt a0 x7_1) t116 _ A14.out).mono ?_); rintro e w' ⟨rfl, ⟨nd, rfl⟩⟩; (try first | exact ⟨rfl, _, World.drewN_drewN _ _ _⟩ | exact ⟨rfl, _, Eq.trans (World.drewN_drewN _ _ _) (congrArg (World.drewN _) (Nat.add_assoc _ _ _))⟩)) | (go_at_call 51; (with_reducible refine (strings_IndexByte.calls (a0.extract 0 (x7_1 : Int).toNat) t116 t117 _ A15.out).mono ?_); rintro e w' ⟨rfl, ⟨nd, rfl⟩⟩; (try first | exact ⟨rfl, _, World.drewN_drewN _ _ _⟩ | exact ⟨rfl, _, Eq.trans (World.drewN_drewN _ _ _) (congrArg (World.drewN _) (Nat.add_assoc _ _ _))⟩)))
                    repeat (go_quiet (first | (go_at_call 51; (with_reducible refine (strings_IndexByte.calls (a0.extract 0 (x7_1 : Int).toNat) (bt a0 x7_1) t114 _ A8.out).mono ?_); rintro e w' ⟨rfl, ⟨nd, rfl⟩⟩; (try first | exact ⟨rfl, _, World.drewN_drewN _ _ _⟩ | exact ⟨rfl, _, Eq.trans (World.drewN_drewN _ _ _) (congrArg (World.drewN _) (Nat.add_assoc _ _ _))⟩)) | (go_at_call 52; (with_reducible refine (impl_isSmall.calls (bt a0 x7_1) false _ A10.out).mono ?_); rintro e w' ⟨rfl, ⟨nd, rfl⟩⟩; (try first | exact ⟨rfl, _, World.drewN_drewN _ _ _⟩ | exact ⟨rfl, _, Eq.trans (World.drewN_drewN _ _ _) (congrArg (World.drewN _) (Nat.add_assoc _ _ _))⟩)) | (go_at_call 53; (with_reducible refine (impl_other.calls (bt a0 x7_1) t116 _ A14.out).mono ?_); rintro e w' ⟨rfl, ⟨nd, rfl⟩⟩; (try first | exact ⟨rfl, _, World.drewN_drewN _ _ _⟩ | exact ⟨rfl, _, Eq.trans (World.drewN_drewN _ _ _) (congrArg (World.drewN _) (Nat.add_assoc _ _ _))⟩)) | (go_at_call 51; (with_reducible refine (strings_IndexByte.calls (a0.extract 0 (x7_1 : Int).toNat) t116 t117 _ A15.out).mono ?_); rintro e w' ⟨rfl, ⟨nd, rfl⟩⟩; (try first | exact ⟨rfl, _, World.drewN_drewN _ _ _⟩ | exact ⟨rfl, _, Eq.trans (World.drewN_drewN _ _ _) (congrArg (World.drewN _) (Nat.add_assoc _ _ _))⟩))); try go_wp2_with (first | (go_at_call 51; (with_reducible refine (strings_IndexByte.calls (a0.extract 0 (x7_1 : Int).toNat) (bt a0 x7_1) t114 _ A8.out).mono ?_); rintro e w' ⟨rfl, ⟨nd, rfl⟩⟩; (try first | exact ⟨rfl, _, World.drewN_drewN _ _ _⟩ | exact ⟨rfl, _, Eq.trans (World.drewN_drewN _ _ _) (congrArg (World.drewN _) (Nat.add_assoc _ _ _))⟩)) | (go_at_call 52; (with_reducible refine (impl_isSmall.calls (bt a0 x7_1) false _ A10.out).mono ?_); rintro e w' ⟨rfl, ⟨nd, rfl⟩⟩; (try first | exact ⟨rfl, _, World.drewN_drewN _ _ _⟩ | exact ⟨rfl, _, Eq.trans (World.drewN_drewN _ _ _) (congrArg (World.drewN _) (Nat.add_assoc _ _ _))⟩)) | (go_at_call 53; (with_reducible refine (impl_other.calls (bt a0 x7_1) t116 _ A14.out).mono ?_); rintro e w' ⟨rfl, ⟨nd, rfl⟩⟩; (try first | exact ⟨rfl, _, World.drewN_drewN _ _ _⟩ | exact ⟨rfl, _, Eq.trans (World.drewN_drewN _ _ _) (congrArg (World.drewN _) (Nat.add_assoc _ _ _))⟩)) | (go_at_call 51; (with_reducible refine (strings_IndexByte.calls (a0.extract 0 (x7_1 : Int).toNat) t116 t117 _ A15.out).mono ?_); rintro e w' ⟨rfl, ⟨nd, rfl⟩⟩; (try first | exact ⟨rfl, _, World.drewN_drewN _ _ _⟩ | exact ⟨rfl, _, Eq.trans (World.drewN_drewN _ _ _) (congrArg (World.drewN _) (Nat.add_assoc _ _ _))⟩))))
                    go_ret
                    exact ⟨by first | rfl | (simp [errW_none, errW_some] <;> rfl) | (simp [*, errW_none, errW_some] <;> rfl), by repeat (first | (with_reducible first | exact HB.out | apply below_alloc | apply pw_below_drewN | apply below_drew1) | exact HB.out)⟩
                  · rw [if_neg c16] at H
                    have c16b0 : decide (t117 < 0) = false := decide_eq_false c16
                    clear c16
                    have H' := Aside0.mk H
                    clear H
                    have p5 : 0 ≤ (x7_1 : Int) := of_decide_eq_true (by first | (with_reducible assumption) | assumption)
                    have q5 : x7_1 < (a0.size : Int) := of_decide_eq_true (by first | (with_reducible assumption) | assumption)
                    have hx5 := bt_at a0 x7_1
                    replace p5 := eq_true p5
                    replace q5 := eq_true q5
                    go_wp2_with (first | (go_at_call 51; (with_reducible refine (strings_IndexByte.calls (a0.extract 0 (x7_1 : Int).toNat) (bt a0 x7_1) t114 _ A8.out).mono ?_); rintro e w' ⟨rfl, ⟨nd, rfl⟩⟩; (try first | exact ⟨rfl, _, World.drewN_drewN _ _ _⟩ | exact ⟨rfl, _, Eq.trans (World.drewN_drewN _ _ _) (congrArg (World.drewN _) (Nat.add_assoc _ _ _))⟩)) | (go_at_call 52; (with_reducible refine (impl_isSmall.calls (bt a0 x7_1) false _ A10.out).mono ?_); rintro e w' ⟨rfl, ⟨nd, rfl⟩⟩; (try first | exact ⟨rfl, _, World.drewN_drewN _ _ _⟩ | exact ⟨rfl, _, Eq.trans (World.drewN_drewN _ _ _) (congrArg (World.drewN _) (Nat.add_assoc _ _ _))⟩)) | (go_at_call 53; (with_reducible refine (impl_other.calls (bt a0 x7_1) t116 _ A14.out).mono ?_); rintro e w' ⟨rfl, ⟨nd, rfl⟩⟩; (try first | exact ⟨rfl, _, World.drewN_drewN _ _ _⟩ | exact ⟨rfl, _, Eq.trans (World.drewN_drewN _ _ _) (congrArg (World.drewN _) (Nat.add_assoc _ _ _))⟩)) | (go_at_call 51; (with_reducible refine (strings_IndexByte.calls (a0.extract 0 (x7_1 : Int).toNat) t116 t117 _ A15.out).mono ?_); rintro e w' ⟨rfl, ⟨nd, rfl⟩⟩; (try first | exact ⟨rfl, _, World.drewN_drewN _ _ _⟩ | exact ⟨rfl, _, Eq.trans (World.drewN_drewN _ _ _) (congrArg (World.drewN _) (Nat.add_assoc _ _ _))⟩)))
                    repeat (go_quiet (first | (go_at_call 51; (with_reducible refine (strings_IndexByte.calls (a0.extract 0 (x7_1 : Int).toNat) (bt a0 x7_1) t114 _ A8.out).mono ?_); rintro e w' ⟨rfl, ⟨nd, rfl⟩⟩; (try first | exact ⟨rfl, _, World.drewN_drewN _ _ _⟩ | exact ⟨rfl, _, Eq.trans (World.drewN_drewN _ _ _) (congrArg (World.drewN _) (Nat.add_assoc _ _ _))⟩)) | (go_at_call 52; (with_reducible refine (impl_isSmall.calls (bt a0 x7_1) false _ A10.out).mono ?_); rintro e w' ⟨rfl, ⟨nd, rfl⟩⟩; (try first | exact ⟨rfl, _, World.drewN_drewN _ _ _⟩ | exact ⟨rfl, _, Eq.trans (World.drewN_drewN _ _ _) (congrArg (World.drewN _) (Nat.add_assoc _ _ _))⟩)) | (go_at_call 53; (with_reducible refine (impl_other.calls (bt a0 x7_1) t116 _ A14.out).mono ?_); rintro e w' ⟨rfl, ⟨nd, rfl⟩⟩; (try first | exact ⟨rfl, _, World.drewN_drewN _ _ _⟩ | exact ⟨rfl, _, Eq.trans (World.drewN_drewN _ _ _) (congrArg (World.drewN _) (Nat.add_assoc _ _ _))⟩)) | (go_at_call 51; (with_reducible refine (strings_IndexByte.calls (a0.extract 0 (x7_1 : Int).toNat) t116 t117 _ A15.out).mono ?_); rintro e w' ⟨rfl, ⟨nd, rfl⟩⟩; (try first | exact ⟨rfl, _, World.drewN_drewN _ _ _⟩ | exact ⟨rfl, _, Eq.trans (World.drewN_drewN _ _ _) (congrArg (World.drewN _) (Nat.add_assoc _ _ _))⟩))); try go_wp2_with (first | (go_at_call 51; (with_reducible refine (strings_IndexByte.calls (a0.extract 0 (x7_1 : Int).toNat) (bt a0 x7_1) t114 _ A8.out).mono ?_); rintro e w' ⟨rfl, ⟨nd, rfl⟩⟩; (try first | exact ⟨rfl, _, World.drewN_drewN _ _ _⟩ | exact ⟨rfl, _, Eq.trans (World.drewN_drewN _ _ _) (congrArg (World.drewN _) (Nat.add_assoc _ _ _))⟩)) | (go_at_call 52; (with_reducible refine (impl_isSmall.calls (bt a0 x7_1) false _ A10.out).mono ?_); rintro e w' ⟨rfl, ⟨nd, rfl⟩⟩; (try first | exact ⟨rfl, _, World.drewN_drewN _ _ _⟩ | exact ⟨rfl, _, Eq.trans (World.drewN_drewN _ _ _) (congrArg (World.drewN _) (Nat.add_assoc _ _ _))⟩)) | (go_at_call 53; (with_reducible refine (impl_other.calls (bt a0 x7_1) t116 _ A14.out).mono ?_); rintro e w' ⟨rfl, ⟨nd, rfl⟩⟩; (try first | exact ⟨rfl, _, World.drewN_drewN _ _ _⟩ | exact ⟨rfl, _, Eq.trans (World.drewN_drewN _ _ _) (congrArg (World.drewN _) (Nat.add_assoc _ _ _))⟩)) | (go_at_call 51; (with_reducible refine (strings_IndexByte.calls (a0.extract 0 (x7_1 : Int).toNat) t116 t117 _ A15.out).mono ?_); rintro e w' ⟨rfl, ⟨nd, rfl⟩⟩; (try first | exact ⟨rfl, _, World.drewN_drewN _ _ _⟩ | exact ⟨rfl, _, Eq.trans (World.drewN_drewN _ _ _) (congrArg (World.drewN _) (Nat.add_assoc _ _ _))⟩))))
                    go_roundg k1
                    case measure => have := HK1.out; omega
                    case rel => exact ⟨(wrap64 (x7_1 + 1)), (by first | rfl | (simp; done) | (simp [*]; done)), H', ⟨by have := HK1.out; omega⟩, ⟨by repeat (first | (with_reducible first | exact HB.out | apply below_alloc | apply pw_below_drewN | apply below_drew1) | exact HB.out)⟩⟩
            · rw [if_neg c7] at H
              exact absurd H (by simp)
          · rw [if_neg c4] at H
            exact absurd H (by simp)
        · rw [if_neg c3] at H
          exact absurd H (by simp)
      · rw [if_neg c2] at H
        have c2b0 : decide (x7_1 < (a0.size : Int)) = false := decide_eq_false c2
        clear c2
        by_cases c17 : (a0.size : Int) ≤ 16
        · rw [if_pos c17] at H
          have c17b0 : decide ((a0.size : Int) ≤ 16) = true := decide_eq_true c17
          have c17b1 : decide (a0.size ≤ 16) = true := decide_eq_true (by omega)
          clear c17
          replace H := Option.bind_eq_some_iff.mp H
          obtain ⟨t113, A180, H⟩ := H
          replace H : (some (t113.toList == ([] : List UInt8))) = some r := H
          have A18 := Aside0.mk A180
          clear A180
          obtain rfl := Option.some.inj H
          go_wp2_with (first | (go_at_call 47; (with_reducible refine (strings_Trim.calls a0 (⟨#[97, 98, 99, 100, 101, 102, 103, 104, 65, 66, 67, 68, 69, 70, 71, 72]⟩ : ByteArray) t113 _ A18.out).mono ?_); rintro e w19 ⟨rfl, hb⟩; have n0_ := Aside0.mk (below_step (by repeat (first | (with_reducible first | exact HB.out | apply below_alloc | apply pw_below_drewN | apply below_drew1) | exact HB.out)) hb); clear HB; have HB := n0_; clear n0_; (try clear hb); (try clear hb2); (try clear hk); (try clear hi)))
          repeat (go_quiet (first | (go_at_call 47; (with_reducible refine (strings_Trim.calls a0 (⟨#[97, 98, 99, 100, 101, 102, 103, 104, 65, 66, 67, 68, 69, 70, 71, 72]⟩ : ByteArray) t113 _ A18.out).mono ?_); rintro e w19 ⟨rfl, hb⟩; have n0_ := Aside0.mk (below_step (by repeat (first | (with_reducible first | exact HB.out | apply below_alloc | apply pw_below_drewN | apply below_drew1) | exact HB.out)) hb); clear HB; have HB := n0_; clear n0_; (try clear hb); (try clear hb2); (try clear hk); (try clear hi))); try go_wp2_with (first | (go_at_call 47; (with_reducible refine (strings_Trim.calls a0 (⟨#[97, 98, 99, 100, 101, 102, 103, 104, 65, 66, 67, 68, 69, 70, 71, 72]⟩ : ByteArray) t113 _ A18.out).mono ?_); rintro e w19 ⟨rfl, hb⟩; have n0_ := Aside0.mk (below_step (by repeat (first | (with_reducible first | exact HB.out | apply below_alloc | apply pw_below_drewN | apply below_drew1) | exact HB.out)) hb); clear HB; have HB := n0_; clear n0_; (try clear hb); (try clear hb2); (try clear hk); (try clear hi))))
          go_ret
          exact ⟨by first | rfl | (simp [errW_none, errW_some] <;> rfl) | (simp [*, errW_none, errW_some] <;> rfl), by repeat (first | (with_reducible first | exact HB.out | apply below_alloc | apply pw_below_drewN | apply below_drew1) | exact HB.out)⟩
        · rw [if_neg c17] at H
          have c17b0 : decide ((a0.size : Int) ≤ 16) = false := decide_eq_false c17
          have c17b1 : decide (a0.size ≤ 16) = false := decide_eq_false (by omega)
          clear c17
          obtain rfl := Option.some.inj H
          go_wp2
          repeat (go_quiet (fail); try go_wp2)
          go_ret
          exact ⟨by first | rfl | (simp [errW_none, errW_some] <;> rfl) | (simp [*, errW_none, errW_some] <;> rfl), by repeat (first | (with_reducible first | exact HB.out | apply below_alloc | apply pw_below_drewN | apply below_drew1) | exact HB.out)⟩

-- given: strings.HasSuffix

/-! ### strings.HasSuffix, by its contract -/
def strings_HasSuffix.f (a0 a1 : ByteArray) : Option Bool := if a0.size ≤ 9223372036854775807 then some (Lib.hasSuffix a0.data.toList a1.data.toList) else none
theorem strings_HasSuffix.calls (a0 a1 : ByteArray) (r : Bool) (w : World) (h : strings_HasSuffix.f a0 a1 = some r) :
    Calls Tryd.prog 75 #[.string a0, .string a1] w fun e w' => e = .returned (.bool r) ∧ Drawn0 w w' := by
  unfold strings_HasSuffix.f at h
  split at h
  · rename_i hc
    obtain rfl := Option.some.inj h
    exact (Any.strings_HasSuffix Tryd.lays100 a0 a1 w hc).mono fun e w' ⟨he, hw⟩ => ⟨he, hw ▸ Drawn0.refl _⟩
  · cases h

-- given: part cut1
/-! ### strings.Replace, where a byte is cut out: Count and Index read no variable there -/
def cutB (c : UInt8) : Nat → List UInt8 → List UInt8
  | _, [] => []
  | 0, l => l
  | g + 1, x :: t => if x = c then cutB c g t else x :: cutB c (g + 1) t
theorem cutB_zero (c : UInt8) (l : List UInt8) : cutB c 0 l = l := by cases l <;> rfl
theorem cut_split (c : UInt8) : ∀ l : List UInt8, 0 < l.count c → ∃ j : Nat, Lib.indexByte l c = (j : Int) ∧ j < l.length ∧ (∀ g, cutB c (g + 1) l = l.take j ++ cutB c g (l.drop (j + 1))) ∧ l.count c = (l.drop (j + 1)).count c + 1
  | [], h => by simp at h
  | x :: t, h => by
    by_cases hx : x = c
    · subst hx
      exact ⟨0, by simp [Lib.indexByte], by simp, fun g => by simp [cutB], by simp⟩
    · have ht : 0 < t.count c := by rwa [List.count_cons_of_ne hx] at h
      obtain ⟨j, h1, h2, h3, h4⟩ := cut_split c t ht
      refine ⟨j + 1, ?_, by simp; omega, fun g => ?_, ?_⟩
      · rw [Lib.indexByte, if_neg (by simpa using hx), h1, if_neg (by first | (simp; done) | (simp; omega))]
        omega
      · rw [cutB, if_neg hx, h3 g]
        simp
      · rw [List.count_cons_of_ne hx, h4]
        simp
theorem cut_all (c : UInt8) : ∀ l : List UInt8, cutB c (l.count c) l = l.filter (fun x => x != c)
  | [] => rfl
  | x :: t => by
    by_cases hx : x = c
    · subst hx
      rw [List.count_cons_self, cutB, if_pos rfl, cut_all x t]
      simp
    · have := cut_all c t
      rw [List.count_cons_of_ne hx]
      cases hn : t.count c with
      | zero =>
        rw [hn, cutB_zero] at this
        rw [cutB_zero, List.filter_cons, if_pos (by simpa using hx), ← this]
      | succ n => rw [hn] at this; rw [cutB, if_neg hx, this, List.filter_cons, if_pos (by simpa using hx)]
theorem cut_one (c : UInt8) : ∀ l : List UInt8, cutB c 1 l = l.erase c
  | [] => rfl
  | x :: t => by
    by_cases hx : x = c
    · subst hx; rw [cutB, if_pos rfl, cutB_zero]; simp
    · rw [cutB, if_neg hx, cut_one c t, List.erase_cons_tail (by simpa using hx)]
theorem cut_more (c : UInt8) : ∀ (l : List UInt8) (n m : Nat), l.count c ≤ n → l.count c ≤ m → cutB c n l = cutB c m l
  | [], n, m, _, _ => by cases n <;> cases m <;> rfl
  | x :: t, n, m, hn, hm => by
    by_cases hx : x = c
    · subst hx
      rw [List.count_cons_self] at hn hm
      obtain ⟨n, rfl⟩ : ∃ k, n = k + 1 := ⟨n - 1, by omega⟩
      obtain ⟨m, rfl⟩ : ∃ k, m = k + 1 := ⟨m - 1, by omega⟩
      rw [cutB, cutB, if_pos rfl, if_pos rfl, cut_more x t n m (by omega) (by omega)]
    · rw [List.count_cons_of_ne hx] at hn hm
      have e : ∀ k, cutB c k (x :: t) = x :: cutB c k t := by
        intro k
        cases k with
        | zero => rw [cutB_zero, cutB_zero]
        | succ k => rw [cutB, if_neg hx]
      rw [e, e, cut_more c t n m hn hm]
section
open Go.Shelf Go.Lib
variable {P : Program} {ρ : Ren}
set_option maxHeartbeats 16000000 in
set_option maxRecDepth 1000000 in
theorem cut_some (L : Lays.n154 P ρ) (X : Builder.Extra P ρ) (s old new : ByteArray) (c : UInt8) (n : Int) (K : Nat) (w : World)
    (hs : s.size ≤ 1048576) (hold : old = ⟨#[c]⟩) (hnew : new.data.toList = []) (hK1 : 1 ≤ K) (hKc : K ≤ s.data.toList.count c)
    (hcase : (K = s.data.toList.count c ∧ (n < 0 ∨ ((s.data.toList.count c : Nat) : Int) < n)) ∨ (n = (K : Int) ∧ ¬ (n < 0 ∨ ((s.data.toList.count c : Nat) : Int) < n))) :
    Calls P (ρ.f 154) #[.string s, .string old, .string new, .int .i64 n] w fun e w' =>
      e = .returned (.string ⟨(cutB c K s.data.toList).toArray⟩) ∧ Below w.heap.size w w' := by
  have hC : Calls P (ρ.f 138) #[.string s, .string old] w fun e w' => e = .returned (.int .i64 (Lib.countByte s.data.toList c)) ∧ w' = w := by
    subst hold
    exact Any.strings_Count_one { L with } s c w
  have HI : Aside0 (∀ (t : ByteArray) (v : World), Calls P (ρ.f 143) #[.string t, .string old] v fun e w' => e = .returned (.int .i64 (Lib.indexByte t.data.toList c)) ∧ w' = v) := by
    subst hold
    exact ⟨fun t v => Any.strings_Index_one { L with } t c v⟩
  have hos : old.size = 1 := by subst hold; rfl
  have hns : new.size = 0 := by rw [← ByteArray.size_data, ← Array.length_toList, hnew]; rfl
  have hne : old ≠ new := fun e => by rw [e] at hos; omega
  clear hold
  have hlen : s.data.toList.length = s.size := rfl
  have hcl : s.data.toList.count c ≤ s.size := List.count_le_length
  unfold Lib.countByte at hC
  generalize hcn : s.data.toList.count c = cn at hC hKc hcase hcl
  have hbeq : (old.toList == new.toList) = false := (Lib.bytes_beq_false_iff old new).2 hne
  have hcz : ((cn : Int) == 0) = false := beq_eq_false_iff_ne.2 (by omega)
  have hnz : (n == 0) = false := beq_eq_false_iff_ne.2 (by omega)
  have hod : decide (0 < old.size) = true := decide_eq_true (by omega)
  have ho0 : (0 : Int) < (old.size : Int) := by omega
  have hga := Lib.grow_arg s.size K new.size old.size hK1 (by rw [hos]; omega) (by rw [hns]; omega)
  have HT : Aside0 (K ≤ (s.data.toList.drop 0).count c) := ⟨by rw [List.drop_zero, hcn]; exact hKc⟩
  have HS : Aside0 (old.size = 1 ∧ new.size = 0 ∧ K * new.size = 0 ∧ K * old.size = K) := ⟨hos, hns, by rw [hns]; rfl, by rw [hos]; omega⟩
  clear hcn hos hns
  rcases hcase with ⟨rfl, hcase⟩ | ⟨rfl, hcase⟩
  all_goals (
    have mixed := L.mixed
    have t72 := L.t72; have a72 := L.a72; have z72 := L.z72; have v72 := L.v72; have u72 := run_underlying L.t72
    have t70 := L.t70; have a70 := L.a70; have z70 := L.z70; have v70 := L.v70; have u70 := run_underlying L.t70
    have t37 := L.t37; have a37 := L.a37; have z37 := L.z37; have v37 := L.v37; have u37 := run_underlying L.t37
    have t3 := L.t3; have a3 := L.a3; have z3 := L.z3; have v3 := L.v3; have u3 := run_underlying L.t3
    have t9 := L.t9; have a9 := L.a9; have z9 := L.z9; have v9 := L.v9; have u9 := run_underlying L.t9
    have t4 := L.t4; have a4 := L.a4; have z4 := L.z4; have v4 := L.v4; have u4 := run_underlying L.t4
    have e138 : ∀ args w, (callFunc (ρ.f 138) args).run P w = .ok (.enter (ρ.f 138) args) w := enters_of L.f138 (by kernel_rfl) rfl
    have e143 : ∀ args w, (callFunc (ρ.f 143) args).run P w = .ok (.enter (ρ.f 143) args) w := enters_of L.f143 (by kernel_rfl) rfl
    have e165 : ∀ args w, (callFunc (ρ.f 165) args).run P w = .ok (.enter (ρ.f 165) args) w := enters_of L.f165 (by kernel_rfl) rfl
    have e166 : ∀ args w, (callFunc (ρ.f 166) args).run P w = .ok (.enter (ρ.f 166) args) w := enters_of L.f166 (by kernel_rfl) rfl
    have e169 : ∀ args w, (callFunc (ρ.f 169) args).run P w = .ok (.enter (ρ.f 169) args) w := enters_of L.f169 (by kernel_rfl) rfl
    go_enter L.f154, Body.n154_ntmps ρ
    go_wp2_with (first | (go_at_fn (ρ.f 138); refine hC.mono ?_; rintro e w' ⟨rfl, hw⟩; rw [hw]))
    all_goals (
    clear hC
    try rw [hga]
    refine (Any.Builder_Grow_fresh { L with } X w.heap.size w.heap.size _ _ (Nat.le_refl _) (heap_alloc_new w _) (by simp) (by have hq := HS.out; omega)).mono ?_
    rintro e w1 ⟨rfl, hb0, hb1⟩
    have HB := Aside0.mk (Or.inr hb0 : Lib.IsBuilder (ρ.t 72) (ρ.t 5) w.heap.size w.heap.size (Lib.byteCells []) w1)
    have HW := Aside0.mk (((Below.refl w.heap.size w).alloc (Nat.le_refl _) _).trans hb1)
    clear hb0 hb1 hga
    go_wp2_with fail
    go_loopg [11, 53] K (fun g s11 s53 wx => ∃ (i start : Nat) (out : List UInt8), s53 = .int .i64 i ∧ s11 = .int .i64 start ∧ i + g = K ∧ start ≤ s.size ∧ out.length ≤ start ∧
      Aside0 (g ≤ (s.data.toList.drop start).count c) ∧ Aside0 (out ++ cutB c g (s.data.toList.drop start) = cutB c K s.data.toList) ∧ Aside0 (Lib.IsBuilder (ρ.t 72) (ρ.t 5) w.heap.size w.heap.size (Lib.byteCells out) wx) ∧ Aside0 (Below w.heap.size w wx))
    case atStart => exact ⟨0, 0, [], rfl, rfl, by omega, Nat.zero_le _, Nat.zero_le _, HT, ⟨by simp⟩, HB, HW⟩
    case round =>
      clear HB HW HT
      obtain ⟨i, start, out, rfl, rfl, hig, hst, hol, HT, HE, HB, HW⟩ := hrel
      have hBw : w.heap.size ≤ wr.heap.size := HW.out.size
      have q1 : (0 : Int) ≤ (start : Int) := by omega
      have q2 : (start : Int) ≤ (s.size : Int) := by omega
      cases gk with
      | zero =>
        have hiK : ¬ ((i : Int) < (K : Int)) := by omega
        go_wp2_with fail
        refine (Any.Builder_WriteString { L with } X w.heap.size w.heap.size _ _ wr HB.out (by rw [Lib.byteCells_length, ByteArray.size_extract]; omega) hBw).mono ?_
        rintro e w3 ⟨rfl, h3, hb3⟩
        have H3 : Aside0 (Lib.IsBuilder (ρ.t 72) (ρ.t 5) w.heap.size w.heap.size (Lib.byteCells (cutB c K s.data.toList)) w3) := by
          rw [Lib.strCells_eq, Lib.extract_to_end, ← Lib.byteCells_append] at h3
          have hf := HE.out
          rw [cutB_zero] at hf
          rw [hf] at h3
          exact ⟨Or.inr h3⟩
        have HW3 := Aside0.mk (HW.out.trans hb3)
        have hBw3 : w.heap.size ≤ w3.heap.size := HW3.out.size
        clear h3 hb3
        go_wp2_with fail
        refine (Any.Builder_String_any { L with } X w.heap.size w.heap.size _ w3 H3.out hBw3).mono ?_
        rintro e w5 ⟨rfl, hb5⟩
        have HW5 := Aside0.mk (HW3.out.trans hb5)
        clear hb5
        go_wp2
        go_ret
        exact ⟨rfl, HW5.out⟩
      | succ g =>
        have hiK : (i : Int) < (K : Int) := by omega
        obtain ⟨j, hj, hjl, hcut, hcnt⟩ := cut_split c (s.data.toList.drop start) (by have := HT.out; omega)
        rw [List.length_drop, hlen] at hjl
        have HC := Aside0.mk (And.intro (hcut g) hcnt)
        clear hcut hcnt
        have q3 : (start : Int) ≤ (start : Int) + (j : Int) := by omega
        have q4 : (start : Int) + (j : Int) ≤ (s.size : Int) := by omega
        go_wp2_with (first | (go_at_fn (ρ.f 143); refine (HI.out _ _).mono ?_; rintro e w' ⟨rfl, hw⟩; rw [hw, Lib.extract_to_end, hj]))
        refine (Any.Builder_WriteString { L with } X w.heap.size w.heap.size _ (s.extract start (start + j)) wr HB.out (by rw [Lib.byteCells_length, ByteArray.size_extract]; omega) hBw).mono ?_
        rintro e w3 ⟨rfl, h3, hb3⟩
        have hBw3 : w.heap.size ≤ w3.heap.size := Nat.le_trans hBw hb3.size
        have H3 := Aside0.mk h3
        have HW3 := Aside0.mk (HW.out.trans hb3)
        clear h3 hb3
        go_wp2_with fail
        refine (Any.Builder_WriteString { L with } X w.heap.size w.heap.size _ new w3 (Or.inr H3.out) (by rw [List.length_append, Lib.byteCells_length, Lib.strCells_length, ByteArray.size_extract, HS.out.2.1]; omega) hBw3).mono ?_
        rintro e w4 ⟨rfl, h4, hb4⟩
        have H4 : Aside0 (Lib.IsBuilder (ρ.t 72) (ρ.t 5) w.heap.size w.heap.size (Lib.byteCells (out ++ (s.data.toList.drop start).take j)) w4) := by
          rw [Lib.strCells_eq, Lib.strCells_eq, hnew, Lib.extract_data, Nat.add_sub_cancel_left, ← Lib.byteCells_append, ← Lib.byteCells_append, List.append_nil] at h4
          exact ⟨Or.inr h4⟩
        have HW4 := Aside0.mk (HW3.out.trans hb4)
        clear h4 hb4
        go_wp2
        go_roundg g
        case measure => omega
        case rel =>
          refine ⟨i + 1, start + j + 1, _, by first | rfl | (simp; unfold wrap64; omega), by have hq := HS.out.1; first | rfl | (simp; done) | (simp [hq]; done) | (simp [hq]; unfold wrap64; omega), by omega, by omega, ?_, ⟨?_⟩, ⟨?_⟩, H4, HW4⟩
          · rw [List.length_append, List.length_take, List.length_drop]; omega
          · have h1 := HT.out; have h2 := HC.out.2; rw [List.drop_drop] at h2; rw [show start + j + 1 = start + (j + 1) by omega]; omega
          · have h1 := HE.out; have h2 := HC.out.1; rw [List.drop_drop] at h2; rw [show start + j + 1 = start + (j + 1) by omega, List.append_assoc, ← h2]; exact h1))
set_option maxHeartbeats 4000000 in
set_option maxRecDepth 1000000 in
theorem cut_none (L : Lays.n154 P ρ) (s old new : ByteArray) (c : UInt8) (n : Int) (w : World) (hold : old = ⟨#[c]⟩) (hne : old ≠ new) (hn0 : n ≠ 0) (h0 : s.data.toList.count c = 0) :
    Calls P (ρ.f 154) #[.string s, .string old, .string new, .int .i64 n] w fun e w' => e = .returned (.string s) ∧ w' = w := by
  have hC : Calls P (ρ.f 138) #[.string s, .string old] w fun e w' => e = .returned (.int .i64 0) ∧ w' = w := by
    subst hold
    have := Any.strings_Count_one { L with } s c w
    unfold Lib.countByte at this
    rw [h0] at this
    exact this
  have hbeq : (old.toList == new.toList) = false := (Lib.bytes_beq_false_iff old new).2 hne
  have hnz : (n == 0) = false := beq_eq_false_iff_ne.2 hn0
  clear hold
  have t3 := L.t3; have a3 := L.a3; have z3 := L.z3; have v3 := L.v3
  have t9 := L.t9; have a9 := L.a9; have z9 := L.z9; have v9 := L.v9
  have t4 := L.t4; have a4 := L.a4; have z4 := L.z4; have v4 := L.v4
  have e138 : ∀ args w, (callFunc (ρ.f 138) args).run P w = .ok (.enter (ρ.f 138) args) w := enters_of L.f138 (by kernel_rfl) rfl
  go_enter L.f154, Body.n154_ntmps ρ
  go_wp2_with (first | (go_at_fn (ρ.f 138); refine hC.mono ?_; rintro e w' ⟨rfl, hw⟩; rw [hw]))
  go_ret
  exact ⟨rfl, rfl⟩
/-- strings.Replace, where a byte is cut out -/
theorem cut_calls (L : Lays.n154 P ρ) (X : Builder.Extra P ρ) (s : ByteArray) (c : UInt8) (new : ByteArray) (n : Int) (w : World) (hs : s.size ≤ 1048576) (hnew : new.data.toList = []) :
    Calls P (ρ.f 154) #[.string s, .string ⟨#[c]⟩, .string new, .int .i64 n] w fun e w' =>
      e = .returned (.string ⟨(cutB c (if n < 0 then s.size else n.toNat) s.data.toList).toArray⟩) ∧ Below w.heap.size w w' := by
  have hcl : s.data.toList.count c ≤ s.size := List.count_le_length
  have hne : (⟨#[c]⟩ : ByteArray) ≠ new := fun e => by rw [← e] at hnew; simp at hnew
  by_cases hn0 : n = 0
  · refine (Any.strings_Replace_none L s _ new n w (Or.inr hn0)).mono fun e w' ⟨h1, h2⟩ => ⟨?_, h2 ▸ Below.refl _ _⟩
    subst hn0
    rw [h1, if_neg (by omega), show (0 : Int).toNat = 0 from rfl, cutB_zero]
  by_cases h0 : s.data.toList.count c = 0
  · refine (cut_none L s _ new c n w rfl hne hn0 h0).mono fun e w' ⟨h1, h2⟩ => ⟨?_, h2 ▸ Below.refl _ _⟩
    rw [h1, cut_more c s.data.toList _ 0 (by omega) (by omega), cutB_zero]
  by_cases hc : n < 0 ∨ ((s.data.toList.count c : Nat) : Int) < n
  · have h := cut_some L X s _ new c n (s.data.toList.count c) w hs rfl hnew (by omega) (Nat.le_refl _) (Or.inl ⟨rfl, hc⟩)
    rwa [cut_more c s.data.toList (s.data.toList.count c) (if n < 0 then s.size else n.toNat) (Nat.le_refl _) (by split <;> omega)] at h
  · have h := cut_some L X s _ new c n n.toNat w hs rfl hnew (by omega) (by omega) (Or.inr ⟨by omega, hc⟩)
    rwa [if_neg (by omega)]
end

-- given: strings.Replace

/-! ### strings.Replace, where a byte is cut out -/
def strings_Replace.f (a0 a1 a2 : ByteArray) (a3 : Int) : Option ByteArray := if a1.size = 1 ∧ a2.data.toList = [] ∧ a0.size ≤ 1048576 then some ⟨(cutB (a1.data.toList.headD 0) (if a3 < 0 then a0.size else a3.toNat) a0.data.toList).toArray⟩ else none
theorem strings_Replace.calls (a0 a1 a2 : ByteArray) (a3 : Int) (r : ByteArray) (w : World) (h : strings_Replace.f a0 a1 a2 a3 = some r) :
    Calls Tryd.prog 76 #[.string a0, .string a1, .string a2, .int .i64 a3] w fun e w' => e = .returned (.string r) ∧ Below w.heap.size w w' := by
  unfold strings_Replace.f at h
  split at h
  · rename_i hc
    obtain rfl := Option.some.inj h
    obtain ⟨c, rfl⟩ := Lib.one_byte a1 hc.1
    exact cut_calls Tryd.lays154 Tryd.Builder_Extra_154 a0 c a2 a3 w hc.2.2 hc.2.1
  · cases h

-- given: part bytesrow
/-! ### the bytes of a string in a row that a conversion made -/
def BytesAt (w : World) (b : Nat) (s : ByteArray) : Prop := ∀ j (h : j < s.data.toList.length), w.cell? ⟨b, j, none⟩ = some (.int .u8 ((s.data.toList[j]'h).toNat : Int))
theorem BytesAt.made (w : World) (e : TypeId) (s : ByteArray) : BytesAt (Lib.bytesWorld w e s) w.heap.size s := by
  intro j h
  rw [Lib.bytesWorld_cell w e s j h]
  congr 3
  simp [List.getD, List.getElem?_eq_getElem h]
theorem BytesAt.below {w w' : World} {b : Nat} {s : ByteArray} (h : BytesAt w b s) (hb : Below w.heap.size w w') : BytesAt w' b s :=
  fun j hj => (hb.cell (World.block_lt_of_cell? w _ (h j hj))).trans (h j hj)
theorem BytesAt.grown {w w' : World} {b : Nat} {s : ByteArray} {o : Option Nat} (h : BytesAt w b s) (hg : w.grownBy w' o) (hne : some b ≠ o) : BytesAt w' b s := by
  intro j hj
  have h1 := h j hj
  rw [← h1]
  unfold World.cell?
  rw [hg.block b (World.block_lt_of_cell? w _ h1) hne]
theorem below_bytes (w : World) (e : TypeId) (s : ByteArray) : Below w.heap.size w (Lib.bytesWorld w e s) :=
  ⟨by simp [Lib.bytesWorld, World.freeze, World.alloc, World.drew, -World.alloc_eq, -World.drew_eq], by simp [Lib.bytesWorld, World.freeze, World.alloc, World.drew, -World.alloc_eq, -World.drew_eq], by simp [Lib.bytesWorld, World.freeze, World.alloc, World.drew, -World.alloc_eq, -World.drew_eq], by rw [Lib.bytesWorld_size]; omega, fun k hk => Lib.bytesWorld_at_old w e s k hk⟩
theorem R_empty {α : Type} (d : Kd α) (W : World) (e base : Nat) (ok : Nat → Prop) (hfresh : ok W.heap.size) (hbase : base ≤ W.heap.size) : d.R e (W.alloc (.cells #[] e)) base ok (.slice (some ⟨W.heap.size, 0, none⟩) 0 0) [] := by
  refine ⟨fun k hk => ?_, [], ?_, Reps.none _ _⟩
  · have : W.heap.size = k := by simpa [Value.ownBlock] using hk
    subst this
    exact hfresh
  · have h2 := World.ownsRow_lit (base := base) (e := e) (size := d.sz) W #[] 0 hbase (by simp [maxLen]) (by simp)
    simpa using h2
theorem two_bytes (w : World) (e : TypeId) (x y : Int) : Kd.C (Kd.int .u8) (w.alloc (.cells #[.int .u8 x, .int .u8 y] e)) (some ⟨w.heap.size, 0, none⟩) 2 [x, y] := by
  refine ⟨rfl, by omega, fun _ => ⟨_, rfl, fun j p hj => ?_⟩⟩
  match j, hj with
  | 0, hj =>
    obtain rfl := Option.some.inj hj
    refine ⟨[.int .u8 x], rfl, rfl, fun i u hu => ?_⟩
    match i, hu with
    | 0, hu => obtain rfl := Option.some.inj hu; simp [Kd.int, Kd.scalar, Addr.add]
    | i + 1, hu => simp at hu
  | 1, hj =>
    obtain rfl := Option.some.inj hj
    refine ⟨[.int .u8 y], rfl, rfl, fun i u hu => ?_⟩
    match i, hu with
    | 0, hu => obtain rfl := Option.some.inj hu; simp [Kd.int, Kd.scalar, Addr.add]
    | i + 1, hu => simp at hu
  | j + 2, hj => simp at hj
theorem one_string {P : Program} {W : World} {e' src dst e : TypeId} (hs : P.underlying src = some (.slice e)) (he : P.underlying e = some (.int .u8)) (hd : P.underlying dst = some .string) (c : UInt8) (x : Int) (hx : x = (c.toNat : Int)) (B : Nat) (hB : B = W.heap.size) :
    (convert src dst (.slice (some ⟨B, 0, none⟩) 1 1)).run P (W.alloc (.cells #[.int .u8 x] e')) = .ok (.string ⟨#[c]⟩) (W.alloc (.cells #[.int .u8 x] e')) := by
  subst hx hB
  have h := run_convert_bytes_arg (W.alloc (.cells #[.int .u8 (c.toNat : Int)] e')) src e hs he W.heap.size 0 1 1 [(c.toNat : Int)] rfl (fun i hi => by
    obtain rfl : i = 0 := by omega
    unfold World.cell?
    rw [heap_alloc_new]
    rfl) dst hd
  rw [h]
  simp [strOfNums]

-- given: loop.example/g01334/impl.open

/-! ### impl_open: by hand -/
def otU (c : UInt8) : UInt8 := c ^^^ 32
theorem otU_is (c : UInt8) : Go.bits .xor .u8 (c.toNat : Int) 32 = ((otU c).toNat : Int) := by
  have h : ∀ n : Fin 256, Go.bits .xor .u8 ((UInt8.ofNat n.val).toNat : Int) 32 = ((otU (UInt8.ofNat n.val)).toNat : Int) := by decide +kernel
  simpa using h ⟨c.toNat, c.toNat_lt⟩
def opL (p : List UInt8 × Bool) (c : UInt8) : List UInt8 × Bool := if decide ((c.toNat : Int) ≥ 97) = true then (p.1 ++ [c], p.2) else (cutB (otU c) 1 p.1, p.2 && Lib.hasSuffix p.1 [otU c])
def impl_open.f (a0 : ByteArray) : Option (ByteArray × Bool) := if a0.size ≤ 1048576 then some (⟨(a0.data.toList.foldl opL ([], true)).1.toArray⟩, (a0.data.toList.foldl opL ([], true)).2) else none
theorem cutB_len (c : UInt8) : ∀ (n : Nat) (l : List UInt8), (cutB c n l).length ≤ l.length
  | n, [] => by cases n <;> simp [cutB]
  | 0, x :: t => by simp [cutB]
  | n + 1, x :: t => by
    have h1 := cutB_len c n t
    have h2 := cutB_len c (n + 1) t
    rw [cutB]
    split <;> simp <;> omega
set_option maxHeartbeats 4000000 in
set_option maxRecDepth 100000 in
theorem impl_open.calls (a0 : ByteArray) (r1 : ByteArray) (r2 : Bool) (w : World) (h : impl_open.f a0 = some (r1, r2)) :
    Calls Tryd.prog 61 #[.string a0] w fun e w' => e = .returned (.tuple #[.string r1, .bool r2]) ∧ Below w.heap.size w w' := by
  unfold impl_open.f at h
  by_cases hsz : a0.size ≤ 1048576
  · rw [if_pos hsz] at h
    obtain ⟨rfl, rfl⟩ := Prod.mk.inj (Option.some.inj h)
    clear h
    have hlenL : a0.data.toList.length = a0.size := rfl
    have hconv := fun W : World => Lib.run_convert_string_bytes (P := Tryd.prog) W 9 47 5 a0 Tryd.underlying9 Tryd.underlying47 Tryd.underlying5
    go_enter Tryd.func61, Tryd.ntmps61
    go_wp2_with fail
    have HBY := Aside0.mk (BytesAt.made w 5 a0)
    have HBW := Aside0.mk (below_bytes w 5 a0)
    generalize hcapE : grownCap w a0.size 0 5 = cap0
    clear hcapE
    go_loopg [4, 5, 12] a0.size (fun gg v4 v5 v12 wr => ∃ (kk : Nat) (v : ByteArray) (fr : Bool), kk ≤ a0.size ∧ a0.size - kk ≤ gg ∧ v4 = .string v ∧ v5 = .bool fr ∧ v12 = .int .i64 kk ∧ v.size ≤ kk ∧ Aside0 ((a0.data.toList.take kk).foldl opL ([], true) = (v.data.toList, fr)) ∧ Aside0 (BytesAt wr w.heap.size a0) ∧ Aside0 (Below w.heap.size w wr))
    case atStart => exact ⟨0, ⟨#[]⟩, true, by omega, by omega, rfl, rfl, rfl, Nat.le_refl _, ⟨rfl⟩, HBY, HBW⟩
    case round =>
      clear HBY HBW
      obtain ⟨kk, v, fr, hkk, hgg, rfl, rfl, rfl, hvk, HF, HBY, HBW⟩ := hrel
      by_cases hlt : kk < a0.size
      · have c1 : ((kk : Int) < (a0.size : Int)) = True := eq_true (by omega)
        have c2 : (0 ≤ (kk : Int)) = True := eq_true (by omega)
        have c3 : ((kk : Int) < 9223372036854775807) = True := eq_true (by omega)
        have hcell := HBY.out kk (by rw [hlenL]; exact hlt)
        have htake : a0.data.toList.take (kk + 1) = a0.data.toList.take kk ++ [a0.data.toList[kk]'(by rw [hlenL]; exact hlt)] := by rw [List.take_add_one, List.getElem?_eq_getElem (by rw [hlenL]; exact hlt)]; rfl
        generalize hce : a0.data.toList[kk]'(by rw [hlenL]; exact hlt) = c at hcell htake
        have hstep : (a0.data.toList.take (kk + 1)).foldl opL ([], true) = opL (v.data.toList, fr) c := by rw [htake, List.foldl_append, HF.out]; rfl
        have hwrap : wrap64 ((kk : Int) + 1) = ((kk + 1 : Nat) : Int) := by unfold wrap64; omega
        have hsm0 : impl_isSmall.f (c.toNat : Int) = some (decide ((c.toNat : Int) ≥ 97)) := rfl
        clear htake hce HF
        rw [show opL (v.data.toList, fr) c = if decide ((c.toNat : Int) ≥ 97) = true then (v.data.toList ++ [c], fr) else (cutB (otU c) 1 v.data.toList, fr && Lib.hasSuffix v.data.toList [otU c]) from rfl] at hstep
        cases hsm : decide ((c.toNat : Int) ≥ 97) with
        | true =>
          rw [hsm] at hsm0 hstep
          rw [if_pos rfl] at hstep
          have HN := Aside0.mk hstep
          have HS1 := Aside0.mk hsm0
          clear hsm0 hstep
          have hstr1 := fun (n : Nat) => one_string (W := wr.drewN n) (e' := 5) Tryd.underlying47 Tryd.underlying5 Tryd.underlying9 c _ rfl wr.heap.size rfl
          have ht1s : (⟨#[c]⟩ : ByteArray).size = 1 := rfl
          have p1 : (v.size + (⟨#[c]⟩ : ByteArray).size ≤ 9223372036854775807) = True := eq_true (by omega)
          have p3 : (9223372036854775807 < v.size + (⟨#[c]⟩ : ByteArray).size) = False := eq_false (by omega)
          have hsize : (v ++ (⟨#[c]⟩ : ByteArray)).size ≤ kk + 1 := by rw [ByteArray.size_append]; omega
          have hlist : (v ++ (⟨#[c]⟩ : ByteArray)).data.toList = v.data.toList ++ [c] := by simp
          clear ht1s
          have HZ := Aside0.mk (And.intro hsize hlist)
          clear hsize hlist
          go_wp2_with (first | (go_at_call 52; refine (impl_isSmall.calls _ true _ HS1.out).mono ?_; rintro e w2 ⟨rfl, ⟨nd, rfl⟩⟩))
          go_roundg (a0.size - (kk + 1))
          case measure => omega
          case rel =>
            refine ⟨kk + 1, v ++ ⟨#[c]⟩, fr, by omega, by omega, rfl, rfl, by simp, HZ.out.1, ⟨?_⟩, ⟨?_⟩, ⟨?_⟩⟩
            · rw [HN.out, HZ.out.2]
            · exact BytesAt.below HBY.out (by repeat (first | exact Below.refl _ _ | apply below_alloc | apply pw_below_drewN))
            · exact HBW.out.trans ((by repeat (first | exact Below.refl _ _ | apply below_alloc | apply pw_below_drewN) : Below wr.heap.size wr _).mono HBW.out.size)
        | false =>
          rw [hsm] at hsm0 hstep
          rw [if_neg Bool.false_ne_true] at hstep
          have HN := Aside0.mk hstep
          have HS1 := Aside0.mk hsm0
          have HO1 := Aside0.mk (show impl_other.f (c.toNat : Int) = some ((otU c).toNat : Int) by rw [← otU_is c]; rfl)
          clear hsm0 hstep
          generalize otU c = o at HN HO1
          have HX1 := Aside0.mk (show strings_HasSuffix.f v ⟨#[o]⟩ = some (Lib.hasSuffix v.data.toList [o]) by unfold strings_HasSuffix.f; rw [if_pos (by omega)])
          have HR1 := Aside0.mk (show strings_Replace.f v ⟨#[o]⟩ ⟨#[]⟩ 1 = some ⟨(cutB o 1 v.data.toList).toArray⟩ by unfold strings_Replace.f; rw [if_pos ⟨rfl, rfl, by omega⟩]; rfl)
          have hstr1 := fun (n : Nat) => one_string (W := wr.drewN n) (e' := 5) Tryd.underlying47 Tryd.underlying5 Tryd.underlying9 o _ rfl wr.heap.size rfl
          generalize hsv : Lib.hasSuffix v.data.toList [o] = sf at HX1 HN
          clear hsv
          have hlen2 : (cutB o 1 v.data.toList).length ≤ v.data.toList.length := cutB_len o 1 _
          have hlen3 : v.data.toList.length = v.size := rfl
          have hlist : (⟨(cutB o 1 v.data.toList).toArray⟩ : ByteArray).data.toList = cutB o 1 v.data.toList := by simp
          have hsize : (⟨(cutB o 1 v.data.toList).toArray⟩ : ByteArray).size = (cutB o 1 v.data.toList).length := by rw [← hlist]; rfl
          generalize hre : (⟨(cutB o 1 v.data.toList).toArray⟩ : ByteArray) = re at HR1 hsize hlist
          have HZ := Aside0.mk (And.intro (show re.size ≤ kk + 1 by omega) hlist)
          clear hlen2 hlen3 hsize hlist hre
          cases fr with
          | true =>
            go_wp2_with (first | (go_at_call 52; refine (impl_isSmall.calls _ false _ HS1.out).mono ?_; rintro e w2 ⟨rfl, ⟨nd, rfl⟩⟩) | (go_at_call 53; refine (impl_other.calls _ (o.toNat : Int) _ HO1.out).mono ?_; rintro e w2 ⟨rfl, ⟨nd, rfl⟩⟩) | (go_at_call 75; refine (strings_HasSuffix.calls _ _ sf _ HX1.out).mono ?_; rintro e w2 ⟨rfl, ⟨nd, rfl⟩⟩) | (go_at_call 76; refine (strings_Replace.calls _ _ _ _ re _ HR1.out).mono ?_; rintro e w3 ⟨rfl, hb3⟩; have HB3 := Aside0.mk hb3; clear hb3))
            have hb4 : Below wr.heap.size wr w3 := (by repeat (first | exact Below.refl _ _ | apply below_alloc | apply pw_below_drewN) : Below wr.heap.size wr _).trans (HB3.out.mono (by simp))
            have HB4 := Aside0.mk hb4
            clear hb4
            go_roundg (a0.size - (kk + 1))
            case measure => omega
            case rel =>
              refine ⟨kk + 1, re, sf, by omega, by omega, rfl, rfl, by simp, HZ.out.1, ⟨?_⟩, ⟨?_⟩, ⟨?_⟩⟩
              · rw [HN.out, HZ.out.2]; rfl
              · exact BytesAt.below HBY.out HB4.out
              · exact HBW.out.trans (HB4.out.mono HBW.out.size)
          | false =>
            go_wp2_with (first | (go_at_call 52; refine (impl_isSmall.calls _ false _ HS1.out).mono ?_; rintro e w2 ⟨rfl, ⟨nd, rfl⟩⟩) | (go_at_call 53; refine (impl_other.calls _ (o.toNat : Int) _ HO1.out).mono ?_; rintro e w2 ⟨rfl, ⟨nd, rfl⟩⟩) | (go_at_call 76; refine (strings_Replace.calls _ _ _ _ re _ HR1.out).mono ?_; rintro e w3 ⟨rfl, hb3⟩; have HB3 := Aside0.mk hb3; clear hb3))
            have hb4 : Below wr.heap.size wr w3 := (by repeat (first | exact Below.refl _ _ | apply below_alloc | apply pw_below_drewN) : Below wr.heap.size wr _).trans (HB3.out.mono (by simp))
            have HB4 := Aside0.mk hb4
            clear hb4
            go_roundg (a0.size - (kk + 1))
            case measure => omega
            case rel =>
              refine ⟨kk + 1, re, false, by omega, by omega, rfl, rfl, by simp, HZ.out.1, ⟨?_⟩, ⟨?_⟩, ⟨?_⟩⟩
              · rw [HN.out, HZ.out.2]; rfl
              · exact BytesAt.below HBY.out HB4.out
              · exact HBW.out.trans (HB4.out.mono HBW.out.size)
      · have c1 : ((kk : Int) < (a0.size : Int)) = False := eq_false (by omega)
        have htake : a0.data.toList.take kk = a0.data.toList := List.take_of_length_le (by rw [hlenL]; omega)
        rw [htake] at HF
        have HF1 := HF.out
        go_wp2_with fail
        go_ret2
        refine ⟨?_, HBW.out⟩
        rw [HF1]
        show Ending.returned (.tuple #[.string v, .bool fr]) = .returned (.tuple #[.string ⟨v.data.toList.toArray⟩, .bool fr])
        rw [show (⟨v.data.toList.toArray⟩ : ByteArray) = v by cases v; simp]
  · rw [if_neg hsz] at h
    exact absurd h (by simp)

/-! ### impl_FullestOf: function 43 -/
def impl_FullestOf.l0 : Nat → ByteArray → Int → Int → Int → Option (Int × Bool)
  | 0, _, _, _, _ => none
  | k + 1, x0, x4, x13, x14 => if x14 < x13 then (if 0 ≤ x14 then (if x14 ≤ (x0.size : Int) then ((impl_open.f (x0.extract 0 (x14 : Int).toNat)).bind fun bt119 => (impl_FullestOf.l0 k x0 (mx x4 (bt119.1.size : Int)) x13 (wrap64 (x14 + 1)))) else (none)) else (none)) else (some (x4, true))
def impl_FullestOf.f (k : Nat) (a0 : ByteArray) : Option (Int × Bool) := (impl_IsTour.f k a0).bind fun t118 => (if t118 = true then (impl_FullestOf.l0 k a0 0 (wrap64 ((a0.size : Int) + 1)) 0) else (some (0, false)))
theorem impl_FullestOf.mono_l : ∀ k, (∀ y0 y1 y2 y3, LeO (impl_FullestOf.l0 k y0 y1 y2 y3) (impl_FullestOf.l0 (k + 1) y0 y1 y2 y3))
  | 0 => fun _ _ _ _ r h => by simp [impl_FullestOf.l0] at h
  | k + 1 => by
    have ih0 := impl_FullestOf.mono_l k
    · intro y0 y1 y2 y3
      unfold impl_FullestOf.l0
      repeat' first
      | (with_reducible exact ih0 _ _ _ _)
      | (with_reducible exact impl_IsTour.mono _ _)
      | (with_reducible exact LeO.refl _)
      | (with_reducible exact LeO.none _)
      | (with_reducible refine LeO.ite ?_ ?_)
      | (with_reducible refine LeO.bind ?_ (fun _ => ?_))
      | exact ih0 _ _ _ _
      | exact impl_IsTour.mono _ _
      | exact LeO.none _
      | refine LeO.ite ?_ ?_
      | refine LeO.bind ?_ (fun _ => ?_)
theorem impl_FullestOf.mono : ∀ a0 k, LeO (impl_FullestOf.f k a0) (impl_FullestOf.f (k + 1) a0) := by
  intro a0 k
  have ih0 := impl_FullestOf.mono_l k
  unfold impl_FullestOf.f
  repeat' first
      | (with_reducible exact ih0 _ _ _ _)
      | (with_reducible exact impl_IsTour.mono _ _)
      | (with_reducible exact LeO.refl _)
      | (with_reducible exact LeO.none _)
      | (with_reducible refine LeO.ite ?_ ?_)
      | (with_reducible refine LeO.bind ?_ (fun _ => ?_))
      | exact ih0 _ _ _ _
      | exact impl_IsTour.mono _ _
      | exact LeO.none _
      | refine LeO.ite ?_ ?_
      | refine LeO.bind ?_ (fun _ => ?_)
set_option maxHeartbeats 8000000 in
set_option maxRecDepth 100000 in
theorem impl_FullestOf.calls (k : Nat) (a0 : ByteArray) (r1 : Int) (r2 : Bool) (w : World) (h : impl_FullestOf.f k a0 = some (r1, r2)) :
    Calls Tryd.prog 43 #[.string a0] w fun e w' => e = .returned (.tuple #[.int .i64 r1, .bool r2]) ∧ Below w.heap.size w w' := by
  have HB := Aside0.mk (Below.refl w.heap.size w)
  have H : ((impl_IsTour.f k a0).bind fun t118 => (if t118 = true then (impl_FullestOf.l0 k a0 0 (wrap64 ((a0.size : Int) + 1)) 0) else (some (0, false)))) = some (r1, r2) := h
  clear h
  replace H := Option.bind_eq_some_iff.mp H
  obtain ⟨t118, A20, H⟩ := H
  replace H : (if t118 = true then (impl_FullestOf.l0 k a0 0 (wrap64 ((a0.size : Int) + 1)) 0) else (some (0, false))) = some (r1, r2) := H
  have A2 := Aside0.mk A20
  clear A20
  by_cases c3 : t118 = true
  · subst c3
    have H1 : (impl_FullestOf.l0 k a0 0 (wrap64 ((a0.size : Int) + 1)) 0) = some (r1, r2) := by rw [if_pos rfl] at H; exact H
    clear H
    have H := H1
    clear H1
    have H' := Aside0.mk H
    clear H
    go_enter Tryd.func43, Tryd.ntmps43
    go_wp2_with (first | ((with_reducible refine gate_callee (f := 23) rfl ?_); refine goesL_ (some 9) rfl rfl Tryd.func23 (by kernel_rfl) rfl #[.string a0] rfl (by (try simp only [List.map_toArray, List.map_cons, List.map_nil]); first | done | rfl | (simp only [List.length_drop, List.length_take]; rfl)) ?_; (with_reducible refine (impl_IsTour.calls k a0 true _ A2.out).mono ?_); rintro e w4 ⟨rfl, hb⟩; refine ⟨_, rfl, ?_⟩; have n0_ := Aside0.mk (below_step (by repeat (first | (with_reducible first | exact HB.out | apply below_alloc | apply pw_below_drewN | apply below_drew1) | exact HB.out)) hb); clear HB; have HB := n0_; clear n0_; (try clear hb); (try clear hb2); (try clear hk); (try clear hi)))
    go_loopg [4, 14] k (fun kq v4 v14 w' => ∃ (x4_1 : Int) (x14_1 : Int), v4 = .int .i64 x4_1 ∧ v14 = .int .i64 x14_1 ∧ Aside0 (impl_FullestOf.l0 kq a0 x4_1 (wrap64 ((a0.size : Int) + 1)) x14_1 = some (r1, r2)) ∧ Aside0 (kq ≤ k) ∧ Aside0 (Below w.heap.size w w'))
    case atStart => exact ⟨(0), (0), (by first | rfl | (simp; done) | (simp [*]; done)), (by first | rfl | (simp; done) | (simp [*]; done)), H', ⟨Nat.le_refl _⟩, ⟨by repeat (first | (with_reducible first | exact HB.out | apply below_alloc | apply pw_below_drewN | apply below_drew1) | exact HB.out)⟩⟩
    case round =>
      clear H'
      try clear c2
      try clear p2
      try clear c3
      try clear c4
      obtain ⟨x4_1, x14_1, rfl, rfl, HA, HK1, HB⟩ := hrel
      cases gk with
      | zero => exact absurd HA.out (by simp [impl_FullestOf.l0])
      | succ k1 =>
        have H := HA.out
        clear HA
        simp only [impl_FullestOf.l0] at H
        by_cases c5 : x14_1 < (wrap64 ((a0.size : Int) + 1))
        · rw [if_pos c5] at H
          have c5b0 : decide (x14_1 < (wrap64 ((a0.size : Int) + 1))) = true := decide_eq_true c5
          clear c5
          by_cases c6 : 0 ≤ x14_1
          · rw [if_pos c6] at H
            have c6b0 := eq_true c6
            have c6b1 : decide (0 ≤ x14_1) = true := decide_eq_true c6
            clear c6
            by_cases c7 : x14_1 ≤ (a0.size : Int)
            · rw [if_pos c7] at H
              have c7b0 := eq_true c7
              have c7b1 : decide (x14_1 ≤ (a0.size : Int)) = true := decide_eq_true c7
              clear c7
              replace H := Option.bind_eq_some_iff.mp H
              obtain ⟨⟨t119, t120⟩, A80, H⟩ := H
              replace H : (impl_FullestOf.l0 k1 a0 (mx x4_1 (t119.size : Int)) (wrap64 ((a0.size : Int) + 1)) (wrap64 (x14_1 + 1))) = some (r1, r2) := H
              have A8 := Aside0.mk A80
              clear A80
              obtain ⟨ji9, hji9⟩ : ∃ j_ : Int, (mx x4_1 (t119.size : Int)) = j_ := ⟨_, rfl⟩
              replace H : (impl_FullestOf.l0 k1 a0 ji9 (wrap64 ((a0.size : Int) + 1)) (wrap64 (x14_1 + 1))) = some (r1, r2) := by first | (rw [hji9] at H; exact H) | (simp only [hji9] at H ⊢; exact H)
              (try rw [hji9] at A8)
              have hji9_ : (if x4_1 < (t119.size : Int) then (t119.size : Int) else x4_1) = ji9 := hji9
              have H' := Aside0.mk H
              clear H
              go_wp2_with (first | ((with_reducible refine gate_callee (f := 61) rfl ?_); refine goesL_ (some 21) rfl rfl Tryd.func61 (by kernel_rfl) rfl #[.string (a0.extract 0 (x14_1 : Int).toNat)] rfl (by (try simp only [List.map_toArray, List.map_cons, List.map_nil]); first | done | rfl | (simp only [List.length_drop, List.length_take]; rfl)) ?_; (with_reducible refine (impl_open.calls (a0.extract 0 (x14_1 : Int).toNat) t119 t120 _ A8.out).mono ?_); rintro e w10 ⟨rfl, hb⟩; refine ⟨_, rfl, ?_⟩; have n0_ := Aside0.mk (below_step (by repeat (first | (with_reducible first | exact HB.out | apply below_alloc | apply pw_below_drewN | apply below_drew1) | exact HB.out)) hb); clear HB; have HB := n0_; clear n0_; (try clear hb); (try clear hb2); (try clear hk); (try clear hi)))
              go_roundg k1
              case measure => have := HK1.out; omega
              case rel => exact ⟨(ji9), (wrap64 (x14_1 + 1)), (by first | rfl | (simp; done) | (simp only [← hji9] <;> (first | rfl | simp)) | (simp [*]; done)), (by first | rfl | (simp; done) | (simp [*]; done)), H', ⟨by have := HK1.out; omega⟩, ⟨by repeat (first | (with_reducible first | exact HB.out | apply below_alloc | apply pw_below_drewN | apply below_drew1) | exact HB.out)⟩⟩
            · rw [if_neg c7] at H
              exact absurd H (by simp)
          · rw [if_neg c6] at H
            exact absurd H (by simp)
        · rw [if_neg c5] at H
          have c5b0 : decide (x14_1 < (wrap64 ((a0.size : Int) + 1))) = false := decide_eq_false c5
          clear c5
          simp only [Option.some.injEq, Prod.mk.injEq] at H
          obtain ⟨rfl, rfl⟩ := H
          go_wp2
          go_ret2
          exact ⟨by first | rfl | (simp [errW_none, errW_some] <;> rfl) | (simp [*, errW_none, errW_some] <;> rfl), by repeat (first | (with_reducible first | exact HB.out | apply below_alloc | apply pw_below_drewN | apply below_drew1) | exact HB.out)⟩
  · replace c3 := Bool.eq_false_iff.mpr c3
    subst c3
    have H1 : (some (0, false)) = some (r1, r2) := by rw [if_neg (show ¬ (false = true) by decide)] at H; exact H
    clear H
    have H := H1
    clear H1
    simp only [Option.some.injEq, Prod.mk.injEq] at H
    obtain ⟨rfl, rfl⟩ := H
    go_enter Tryd.func43, Tryd.ntmps43
    go_wp2_with (first | ((with_reducible refine gate_callee (f := 23) rfl ?_); refine goesL_ (some 9) rfl rfl Tryd.func23 (by kernel_rfl) rfl #[.string a0] rfl (by (try simp only [List.map_toArray, List.map_cons, List.map_nil]); first | done | rfl | (simp only [List.length_drop, List.length_take]; rfl)) ?_; (with_reducible refine (impl_IsTour.calls k a0 false _ A2.out).mono ?_); rintro e w11 ⟨rfl, hb⟩; refine ⟨_, rfl, ?_⟩; have n0_ := Aside0.mk (below_step (by repeat (first | (with_reducible first | exact HB.out | apply below_alloc | apply pw_below_drewN | apply below_drew1) | exact HB.out)) hb); clear HB; have HB := n0_; clear n0_; (try clear hb); (try clear hb2); (try clear hk); (try clear hi)))
    go_ret2
    exact ⟨by first | rfl | (simp [errW_none, errW_some] <;> rfl) | (simp [*, errW_none, errW_some] <;> rfl), by repeat (first | (with_reducible first | exact HB.out | apply below_alloc | apply pw_below_drewN | apply below_drew1) | exact HB.out)⟩

/-! ### laws_FnExactFullestOf: function 14 -/
def laws_FnExactFullestOf.f (k : Nat) (a0 : ByteArray) : Option (Bool) := if (a0.size : Int) > 1048576 then (some true) else ((spec_FullestOf.f k a0).bind fun bt121 => ((impl_FullestOf.f k a0).bind fun bt123 => (if bt123.1 = bt121.1 then (if (bt123.2 != bt121.2) = true then (none) else (some true)) else (none))))
theorem laws_FnExactFullestOf.mono : ∀ a0 k, LeO (laws_FnExactFullestOf.f k a0) (laws_FnExactFullestOf.f (k + 1) a0) := by
  intro a0 k
  unfold laws_FnExactFullestOf.f
  repeat' first
      | (with_reducible exact impl_FullestOf.mono _ _)
      | (with_reducible exact spec_FullestOf.mono _ _)
      | (with_reducible exact LeO.refl _)
      | (with_reducible exact LeO.none _)
      | (with_reducible refine LeO.ite ?_ ?_)
      | (with_reducible refine LeO.bind ?_ (fun _ => ?_))
      | exact impl_FullestOf.mono _ _
      | exact spec_FullestOf.mono _ _
      | exact LeO.none _
      | refine LeO.ite ?_ ?_
      | refine LeO.bind ?_ (fun _ => ?_)
set_option maxHeartbeats 8000000 in
set_option maxRecDepth 100000 in
theorem laws_FnExactFullestOf.calls (k : Nat) (a0 : ByteArray) (r : Bool) (w : World) (hrt : r = true) (h : laws_FnExactFullestOf.f k a0 = some r) :
    Calls Tryd.prog 14 #[.string a0] w fun e w' => e = .returned (.bool r) ∧ Below w.heap.size w w' := by
  have HRT := Aside0.mk hrt
  clear hrt
  have HB := Aside0.mk (Below.refl w.heap.size w)
  have H : (if (a0.size : Int) > 1048576 then (some true) else ((spec_FullestOf.f k a0).bind fun bt121 => ((impl_FullestOf.f k a0).bind fun bt123 => (if bt123.1 = bt121.1 then (if (bt123.2 != bt121.2) = true then (none) else (some true)) else (none))))) = some r := h
  clear h
  by_cases c2 : (a0.size : Int) > 1048576
  · rw [if_pos c2] at H
    have c2b0 : decide (1048576 < (a0.size : Int)) = true := decide_eq_true c2
    have c2b1 : decide (1048576 < a0.size) = true := decide_eq_true (by omega)
    clear c2
    obtain rfl := Option.some.inj H
    go_enter Tryd.func14, Tryd.ntmps14
    go_wp2
    go_ret
    exact ⟨by first | rfl | (simp [errW_none, errW_some] <;> rfl) | (simp [*, errW_none, errW_some] <;> rfl), by repeat (first | (with_reducible first | exact HB.out | apply below_alloc | apply pw_below_drewN | apply below_drew1) | exact HB.out)⟩
  · rw [if_neg c2] at H
    have c2b0 : decide (1048576 < (a0.size : Int)) = false := decide_eq_false c2
    have c2b1 : decide (1048576 < a0.size) = false := decide_eq_false (by omega)
    clear c2
    replace H := Option.bind_eq_some_iff.mp H
    obtain ⟨⟨t121, t122⟩, A30, H⟩ := H
    replace H : ((impl_FullestOf.f k a0).bind fun bt123 => (if bt123.1 = t121 then (if (bt123.2 != t122) = true then (none) else (some true)) else (none))) = some r := H
    have A3 := Aside0.mk A30
    clear A30
    replace H := Option.bind_eq_some_iff.mp H
    obtain ⟨⟨t123, t124⟩, A40, H⟩ := H
    replace H : (if t123 = t121 then (if (t124 != t122) = true then (none) else (some true)) else (none)) = some r := H
    have A4 := Aside0.mk A40
    clear A40
    by_cases c5 : t123 = t121
    · rw [if_pos c5] at H
      have c5b0 : (t123 == t121) = true := beq_iff_eq.mpr c5
      have c5b1 : (t123 != t121) = false := bne_eq_false_iff_eq.mpr c5
      clear c5
      by_cases c6 : (t124 != t122) = true
      · rw [if_pos c6] at H
        exact absurd H (by simp)
      · rw [if_neg c6] at H
        have c6b0 : (t124 != t122) = false := by simpa using c6
        (try (have c6b1 : decide (t124 = t122) = true := by simpa using c6))
        (try (have c6b2 : (t124 == t122) = true := by simpa using c6))
        clear c6
        obtain rfl := Option.some.inj H
        go_enter Tryd.func14, Tryd.ntmps14
        go_wp2_with (first | ((with_reducible refine gate_callee (f := 42) rfl ?_); refine goesL_ (some 12) rfl rfl Tryd.func42 (by kernel_rfl) rfl #[.string a0] rfl (by (try simp only [List.map_toArray, List.map_cons, List.map_nil]); first | done | rfl | (simp only [List.length_drop, List.length_take]; rfl)) ?_; (with_reducible refine (spec_FullestOf.calls k a0 t121 t122 _ A3.out).mono ?_); rintro e w' ⟨rfl, ⟨nd, rfl⟩⟩; refine ⟨_, rfl, ?_⟩) | ((with_reducible refine gate_callee (f := 43) rfl ?_); refine goesL_ (some 17) rfl rfl Tryd.func43 (by kernel_rfl) rfl #[.string a0] rfl (by (try simp only [List.map_toArray, List.map_cons, List.map_nil]); first | done | rfl | (simp only [List.length_drop, List.length_take]; rfl)) ?_; (with_reducible refine (impl_FullestOf.calls k a0 t123 t124 _ A4.out).mono ?_); rintro e w7 ⟨rfl, hb⟩; refine ⟨_, rfl, ?_⟩; have n0_ := Aside0.mk (below_step (by repeat (first | (with_reducible first | exact HB.out | apply below_alloc | apply pw_below_drewN | apply below_drew1) | exact HB.out)) hb); clear HB; have HB := n0_; clear n0_; (try clear hb); (try clear hb2); (try clear hk); (try clear hi)))
        go_ret
        exact ⟨by first | rfl | (simp [errW_none, errW_some] <;> rfl) | (simp [*, errW_none, errW_some] <;> rfl), by repeat (first | (with_reducible first | exact HB.out | apply below_alloc | apply pw_below_drewN | apply below_drew1) | exact HB.out)⟩
    · rw [if_neg c5] at H
      exact absurd H (by simp)

/-- THE ONE PURE STATEMENT of laws_FnExactFullestOf: yours. -/
def laws_FnExactFullestOf.Pure : Prop := ∀ (a0 : ByteArray), a0.size ≤ 140737488351232 → ∃ k, laws_FnExactFullestOf.f k a0 = some true
theorem laws_FnExactFullestOf.walk (P : laws_FnExactFullestOf.Pure) (a0 : ByteArray) (w : World) (w0 : a0.size ≤ 140737488351232) :
    Calls Tryd.prog 14 #[.string a0] w fun e w' => e = .returned (.bool true) ∧ Below w.heap.size w w' := by
  obtain ⟨k, h⟩ := P a0 w0
  refine (laws_FnExactFullestOf.calls k a0 true w rfl h).mono ?_
  rintro e w' ⟨rfl, hd⟩
  exact ⟨rfl, hd⟩

end Go.Proofs.YtoimgbcbmbpfaaaDoor.Q

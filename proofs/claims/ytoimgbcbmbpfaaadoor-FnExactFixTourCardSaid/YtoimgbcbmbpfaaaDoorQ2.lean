-- Written by the session's program wip/myprint.py (over the kit's print); the given parts by hand.
import Derived.Test.YtoimgbcbmbpfaaaDoorQ0
import Derived.Test.YtoimgbcbmbpfaaaDoorQ1
namespace Go.Proofs.YtoimgbcbmbpfaaaDoor.Q
open Go.RowKit Go.Proofs.YtoimgbcbmbpfaaaDoorW.PrintWords Go.Proofs.YtoimgbcbmbpfaaaDoorW.PrintLast Go.Proofs.YtoimgbcbmbpfaaaDoorW.PrintMore
attribute [local go_sem] max2_int min2_int max_two min_two max_three min_three max_four min_four   -- for this text's walks alone
set_option linter.unusedVariables false
set_option linter.unusedSimpArgs false

/-! ### impl_IsTour: function 23 -/
def impl_IsTour.l0 : Nat → ByteArray → Int → Int → Option (Bool)
  | 0, _, _, _ => none
  | k + 1, x0, x6, x7 => if x7 < x6 then (if 0 ≤ x7 then (if x7 < (x0.size : Int) then (if x7 ≤ (x0.size : Int) then ((strings_IndexByte.f (x0.extract 0 (x7 : Int).toNat) (bt x0 x7)).bind fun t111 => (if t111 ≥ 0 then (some false) else ((impl_isSmall.f (bt x0 x7)).bind fun t112 => (if t112 = true then (impl_IsTour.l0 k x0 x6 (wrap64 (x7 + 1))) else ((impl_other.f (bt x0 x7)).bind fun t113 => ((strings_IndexByte.f (x0.extract 0 (x7 : Int).toNat) t113).bind fun t114 => (if t114 < 0 then (some false) else (impl_IsTour.l0 k x0 x6 (wrap64 (x7 + 1)))))))))) else (none)) else (none)) else (none)) else (if (x0.size : Int) ≤ 16 then ((strings_Trim.f x0 (⟨#[97, 98, 99, 100, 101, 102, 103, 104, 65, 66, 67, 68, 69, 70, 71, 72]⟩ : ByteArray)).bind fun t110 => (some (t110.toList == ([] : List UInt8)))) else (some false))
def impl_IsTour.f (k : Nat) (a0 : ByteArray) : Option (Bool) := impl_IsTour.l0 k a0 (a0.size : Int) 0
theorem impl_IsTour.mono_l : ∀ k, (∀ y0 y1 y2, LeO (impl_IsTour.l0 k y0 y1 y2) (impl_IsTour.l0 (k + 1) y0 y1 y2))
  | 0 => fun _ _ _ r h => by simp [impl_IsTour.l0] at h
  | k + 1 => by
    have ih0 := impl_IsTour.mono_l k
    · intro y0 y1 y2
      unfold impl_IsTour.l0
      repeat' first
      | (with_reducible exact ih0 _ _ _)
      | (with_reducible exact LeO.refl _)
      | (with_reducible exact LeO.none _)
      | (with_reducible refine LeO.ite ?_ ?_)
      | (with_reducible refine LeO.bind ?_ (fun _ => ?_))
      | exact ih0 _ _ _
      | exact LeO.none _
      | refine LeO.ite ?_ ?_
      | refine LeO.bind ?_ (fun _ => ?_)
theorem impl_IsTour.mono : ∀ a0 k, LeO (impl_IsTour.f k a0) (impl_IsTour.f (k + 1) a0) := by
  intro a0 k
  have ih0 := impl_IsTour.mono_l k
  unfold impl_IsTour.f
  repeat' first
      | (with_reducible exact ih0 _ _ _)
      | (with_reducible exact LeO.refl _)
      | (with_reducible exact LeO.none _)
      | (with_reducible refine LeO.ite ?_ ?_)
      | (with_reducible refine LeO.bind ?_ (fun _ => ?_))
      | exact ih0 _ _ _
      | exact LeO.none _
      | refine LeO.ite ?_ ?_
      | refine LeO.bind ?_ (fun _ => ?_)
set_option maxHeartbeats 8000000 in
set_option maxRecDepth 100000 in
theorem impl_IsTour.calls (k : Nat) (a0 : ByteArray) (r : Bool) (w : World) (h : impl_IsTour.f k a0 = some r) :
    Calls Tryd.prog 23 #[.string a0] w fun e w' => e = .returned (.bool r) ∧ Below w.heap.size w w' := by
  have HB := Aside0.mk (Below.refl w.heap.size w)
  have H : (impl_IsTour.l0 k a0 (a0.size : Int) 0) = some r := h
  clear h
  have H' := Aside0.mk H
  clear H
  go_enter Tryd.func23, Tryd.ntmps23
  go_wp2
  repeat (go_quiet (fail); try go_wp2)
  go_loopg [7] k (fun kq v7 w' => ∃ (x7_1 : Int), v7 = .int .i64 x7_1 ∧ Aside0 (impl_IsTour.l0 kq a0 (a0.size : Int) x7_1 = some r) ∧ Aside0 (kq ≤ k) ∧ Aside0 (Below w.heap.size w w'))
  case atStart => exact ⟨(0), (by first | rfl | (simp; done) | (simp [*]; done)), H', ⟨Nat.le_refl _⟩, ⟨by repeat (first | (with_reducible first | exact HB.out | apply below_alloc | apply pw_below_drewN | apply below_drew1) | exact HB.out)⟩⟩
  case round =>
    clear H'
    obtain ⟨x7_1, rfl, HA, HK1, HB⟩ := hrel
    cases gk with
    | zero => exact absurd HA.out (by simp [impl_IsTour.l0])
    | succ k1 =>
      have H := HA.out
      clear HA
      simp only [impl_IsTour.l0] at H
      by_cases c2 : x7_1 < (a0.size : Int)
      · rw [if_pos c2] at H
        have c2b0 : decide (x7_1 < (a0.size : Int)) = true := decide_eq_true c2
        clear c2
        by_cases c3 : 0 ≤ x7_1
        · rw [if_pos c3] at H
          have c3b0 : decide (0 ≤ x7_1) = true := decide_eq_true c3
          clear c3
          by_cases c4 : x7_1 < (a0.size : Int)
          · rw [if_pos c4] at H
            have c4b0 : decide (x7_1 < (a0.size : Int)) = true := decide_eq_true c4
            clear c4
            have c6b0 := eq_true (of_decide_eq_true (by first | (with_reducible assumption) | assumption) : 0 ≤ x7_1)
            by_cases c7 : x7_1 ≤ (a0.size : Int)
            · rw [if_pos c7] at H
              have c7b0 := eq_true c7
              have c7b1 : decide (x7_1 ≤ (a0.size : Int)) = true := decide_eq_true c7
              clear c7
              replace H := Option.bind_eq_some_iff.mp H
              obtain ⟨t111, A80, H⟩ := H
              replace H : (if t111 ≥ 0 then (some false) else ((impl_isSmall.f (bt a0 x7_1)).bind fun t112 => (if t112 = true then (impl_IsTour.l0 k1 a0 (a0.size : Int) (wrap64 (x7_1 + 1))) else ((impl_other.f (bt a0 x7_1)).bind fun t113 => ((strings_IndexByte.f (a0.extract 0 (x7_1 : Int).toNat) t113).bind fun t114 => (if t114 < 0 then (some false) else (impl_IsTour.l0 k1 a0 (a0.size : Int) (wrap64 (x7_1 + 1))))))))) = some r := H
              have A8 := Aside0.mk A80
              clear A80
              by_cases c9 : t111 ≥ 0
              · rw [if_pos c9] at H
                have c9b0 : decide (0 ≤ t111) = true := decide_eq_true c9
                clear c9
                obtain rfl := Option.some.inj H
                have p5 : 0 ≤ (x7_1 : Int) := of_decide_eq_true (by first | (with_reducible assumption) | assumption)
                have q5 : x7_1 < (a0.size : Int) := of_decide_eq_true (by first | (with_reducible assumption) | assumption)
                have hx5 := bt_at a0 x7_1
                replace p5 := eq_true p5
                replace q5 := eq_true q5
                go_wp2_with (first | (go_at_call 51; (with_reducible refine (strings_IndexByte.calls (a0.extract 0 (x7_1 : Int).toNat) (bt a0 x7_1) t111 _ A8.out).mono ?_); rintro e w' ⟨rfl, ⟨nd, rfl⟩⟩; (try first | exact ⟨rfl, _, World.drewN_drewN _ _ _⟩ | exact ⟨rfl, _, Eq.trans (World.drewN_drewN _ _ _) (congrArg (World.drewN _) (Nat.add_assoc _ _ _))⟩)))
                repeat (go_quiet (first | (go_at_call 51; (with_reducible refine (strings_IndexByte.calls (a0.extract 0 (x7_1 : Int).toNat) (bt a0 x7_1) t111 _ A8.out).mono ?_); rintro e w' ⟨rfl, ⟨nd, rfl⟩⟩; (try first | exact ⟨rfl, _, World.drewN_drewN _ _ _⟩ | exact ⟨rfl, _, Eq.trans (World.drewN_drewN _ _ _) (congrArg (World.drewN _) (Nat.add_assoc _ _ _))⟩))); try go_wp2_with (first | (go_at_call 51; (with_reducible refine (strings_IndexByte.calls (a0.extract 0 (x7_1 : Int).toNat) (bt a0 x7_1) t111 _ A8.out).mono ?_); rintro e w' ⟨rfl, ⟨nd, rfl⟩⟩; (try first | exact ⟨rfl, _, World.drewN_drewN _ _ _⟩ | exact ⟨rfl, _, Eq.trans (World.drewN_drewN _ _ _) (congrArg (World.drewN _) (Nat.add_assoc _ _ _))⟩))))
                go_ret
                exact ⟨by first | rfl | (simp [errW_none, errW_some] <;> rfl) | (simp [*, errW_none, errW_some] <;> rfl), by repeat (first | (with_reducible first | exact HB.out | apply below_alloc | apply pw_below_drewN | apply below_drew1) | exact HB.out)⟩
              · rw [if_neg c9] at H
                have c9b0 : decide (0 ≤ t111) = false := decide_eq_false c9
                clear c9
                replace H := Option.bind_eq_some_iff.mp H
                obtain ⟨t112, A100, H⟩ := H
                replace H : (if t112 = true then (impl_IsTour.l0 k1 a0 (a0.size : Int) (wrap64 (x7_1 + 1))) else ((impl_other.f (bt a0 x7_1)).bind fun t113 => ((strings_IndexByte.f (a0.extract 0 (x7_1 : Int).toNat) t113).bind fun t114 => (if t114 < 0 then (some false) else (impl_IsTour.l0 k1 a0 (a0.size : Int) (wrap64 (x7_1 + 1))))))) = some r := H
                have A10 := Aside0.mk A100
                clear A100
                by_cases c11 : t112 = true
                · subst c11
                  have H1 : (impl_IsTour.l0 k1 a0 (a0.size : Int) (wrap64 (x7_1 + 1))) = some r := by rw [if_pos rfl] at H; exact H
                  clear H
                  have H := H1
                  clear H1
                  have H' := Aside0.mk H
                  clear H
                  have p5 : 0 ≤ (x7_1 : Int) := of_decide_eq_true (by first | (with_reducible assumption) | assumption)
                  have q5 : x7_1 < (a0.size : Int) := of_decide_eq_true (by first | (with_reducible assumption) | assumption)
                  have hx5 := bt_at a0 x7_1
                  replace p5 := eq_true p5
                  replace q5 := eq_true q5
                  go_wp2_with (first | (go_at_call 51; (with_reducible refine (strings_IndexByte.calls (a0.extract 0 (x7_1 : Int).toNat) (bt a0 x7_1) t111 _ A8.out).mono ?_); rintro e w' ⟨rfl, ⟨nd, rfl⟩⟩; (try first | exact ⟨rfl, _, World.drewN_drewN _ _ _⟩ | exact ⟨rfl, _, Eq.trans (World.drewN_drewN _ _ _) (congrArg (World.drewN _) (Nat.add_assoc _ _ _))⟩)) | (go_at_call 52; (with_reducible refine (impl_isSmall.calls (bt a0 x7_1) true _ A10.out).mono ?_); rintro e w' ⟨rfl, ⟨nd, rfl⟩⟩; (try first | exact ⟨rfl, _, World.drewN_drewN _ _ _⟩ | exact ⟨rfl, _, Eq.trans (World.drewN_drewN _ _ _) (congrArg (World.drewN _) (Nat.add_assoc _ _ _))⟩)))
                  repeat (go_quiet (first | (go_at_call 51; (with_reducible refine (strings_IndexByte.calls (a0.extract 0 (x7_1 : Int).toNat) (bt a0 x7_1) t111 _ A8.out).mono ?_); rintro e w' ⟨rfl, ⟨nd, rfl⟩⟩; (try first | exact ⟨rfl, _, World.drewN_drewN _ _ _⟩ | exact ⟨rfl, _, Eq.trans (World.drewN_drewN _ _ _) (congrArg (World.drewN _) (Nat.add_assoc _ _ _))⟩)) | (go_at_call 52; (with_reducible refine (impl_isSmall.calls (bt a0 x7_1) true _ A10.out).mono ?_); rintro e w' ⟨rfl, ⟨nd, rfl⟩⟩; (try first | exact ⟨rfl, _, World.drewN_drewN _ _ _⟩ | exact ⟨rfl, _, Eq.trans (World.drewN_drewN _ _ _) (congrArg (World.drewN _) (Nat.add_assoc _ _ _))⟩))); try go_wp2_with (first | (go_at_call 51; (with_reducible refine (strings_IndexByte.calls (a0.extract 0 (x7_1 : Int).toNat) (bt a0 x7_1) t111 _ A8.out).mono ?_); rintro e w' ⟨rfl, ⟨nd, rfl⟩⟩; (try first | exact ⟨rfl, _, World.drewN_drewN _ _ _⟩ | exact ⟨rfl, _, Eq.trans (World.drewN_drewN _ _ _) (congrArg (World.drewN _) (Nat.add_assoc _ _ _))⟩)) | (go_at_call 52; (with_reducible refine (impl_isSmall.calls (bt a0 x7_1) true _ A10.out).mono ?_); rintro e w' ⟨rfl, ⟨nd, rfl⟩⟩; (try first | exact ⟨rfl, _, World.drewN_drewN _ _ _⟩ | exact ⟨rfl, _, Eq.trans (World.drewN_drewN _ _ _) (congrArg (World.drewN _) (Nat.add_assoc _ _ _))⟩))))
                  go_roundg k1
                  case measure => have := HK1.out; omega
                  case rel => exact ⟨(wrap64 (x7_1 + 1)), (by first | rfl | (simp; done) | (simp [*]; done)), H', ⟨by have := HK1.out; omega⟩, ⟨by repeat (first | (with_reducible first | exact HB.out | apply below_alloc | apply pw_below_drewN | apply below_drew1) | exact HB.out)⟩⟩
                · replace c11 := Bool.eq_false_iff.mpr c11
                  subst c11
                  have H1 : ((impl_other.f (bt a0 x7_1)).bind fun t113 => ((strings_IndexByte.f (a0.extract 0 (x7_1 : Int).toNat) t113).bind fun t114 => (if t114 < 0 then (some false) else (impl_IsTour.l0 k1 a0 (a0.size : Int) (wrap64 (x7_1 + 1)))))) = some r := by rw [if_neg (show ¬ (false = true) by decide)] at H; exact H
                  clear H
                  have H := H1
                  clear H1
                  have c12b0 := eq_true (of_decide_eq_true (by first | (with_reducible assumption) | assumption) : 0 ≤ x7_1)
                  have c13b0 := eq_true (of_decide_eq_true (by first | (with_reducible assumption) | assumption) : x7_1 ≤ (a0.size : Int))
                  replace H := Option.bind_eq_some_iff.mp H
                  obtain ⟨t113, A140, H⟩ := H
                  replace H : ((strings_IndexByte.f (a0.extract 0 (x7_1 : Int).toNat) t113).bind fun t114 => (if t114 < 0 then (some false) else (impl_IsTour.l0 k1 a0 (a0.size : Int) (wrap64 (x7_1 + 1))))) = some r := H
                  have A14 := Aside0.mk A140
                  clear A140
                  replace H := Option.bind_eq_some_iff.mp H
                  obtain ⟨t114, A150, H⟩ := H
                  replace H : (if t114 < 0 then (some false) else (impl_IsTour.l0 k1 a0 (a0.size : Int) (wrap64 (x7_1 + 1)))) = some r := H
                  have A15 := Aside0.mk A150
                  clear A150
                  by_cases c16 : t114 < 0
                  · rw [if_pos c16] at H
                    have c16b0 : decide (t114 < 0) = true := decide_eq_true c16
                    clear c16
                    obtain rfl := Option.some.inj H
                    have p5 : 0 ≤ (x7_1 : Int) := of_decide_eq_true (by first | (with_reducible assumption) | assumption)
                    have q5 : x7_1 < (a0.size : Int) := of_decide_eq_true (by first | (with_reducible assumption) | assumption)
                    have hx5 := bt_at a0 x7_1
                    replace p5 := eq_true p5
                    replace q5 := eq_true q5
                    go_wp2_with (first | (go_at_call 51; (with_reducible refine (strings_IndexByte.calls (a0.extract 0 (x7_1 : Int).toNat) (bt a0 x7_1) t111 _ A8.out).mono ?_); rintro e w' ⟨rfl, ⟨nd, rfl⟩⟩; (try first | exact ⟨rfl, _, World.drewN_drewN _ _ _⟩ | exact ⟨rfl, _, Eq.trans (World.drewN_drewN _ _ _) (congrArg (World.drewN _) (Nat.add_assoc _ _ _))⟩)) | (go_at_call 52; (with_reducible refine (impl_isSmall.calls (bt a0 x7_1) false _ A10.out).mono ?_); rintro e w' ⟨rfl, ⟨nd, rfl⟩⟩; (try first | exact ⟨rfl, _, World.drewN_drewN _ _ _⟩ | exact ⟨rfl, _, Eq.trans (World.drewN_drewN _ _ _) (congrArg (World.drewN _) (Nat.add_assoc _ _ _))⟩)) | (go_at_call 53; (with_reducible refine (impl_other.calls (bt a0 x7_1) t113 _ A14.out).mono ?_); rintro e w' ⟨rfl, ⟨nd, rfl⟩⟩; (try first | exact ⟨rfl, _, World.drewN_drewN _ _ _⟩ | exact ⟨rfl, _, Eq.trans (World.drewN_drewN _ _ _) (congrArg (World.drewN _) (Nat.add_assoc _ _ _))⟩)) | (go_at_call 51; (with_reducible refine (strings_IndexByte.calls (a0.extract 0 (x7_1 : Int).toNat) t113 t114 _ A15.out).mono ?_); rintro e w' ⟨rfl, ⟨nd, rfl⟩⟩; (try first | exact ⟨rfl, _, World.drewN_drewN _ _ _⟩ | exact ⟨rfl, _, Eq.trans (World.drewN_drewN _ _ _) (congrArg (World.drewN _) (Nat.add_assoc _ _ _))⟩)))
                    repeat (go_quiet (first | (go_at_call 51; (with_reducible refine (strings_IndexByte.calls (a0.extract 0 (x7_1 : Int).toNat) (bt a0 x7_1) t111 _ A8.out).mono ?_); rintro e w' ⟨rfl, ⟨nd, rfl⟩⟩; (try first | exact ⟨rfl, _, World.drewN_drewN _ _ _⟩ | exact ⟨rfl, _, Eq.trans (World.drewN_drewN _ _ _) (congrArg (World.drewN _) (Nat.add_assoc _ _ _))⟩)) | (go_at_call 52; (with_reducible refine (impl_isSmall.calls (bt a0 x7_1) false _ A10.out).mono ?_); rintro e w' ⟨rfl, ⟨nd, rfl⟩⟩; (try first | exact ⟨rfl, _, World.drewN_drewN _ _ _⟩ | exact ⟨rfl, _, Eq.trans (World.drewN_drewN _ _ _) (congrArg (World.drewN _) (Nat.add_assoc _ _ _))⟩)) | (go_at_call 53; (with_reducible refine (impl_other.calls (bt a0 x7_1) t113 _ A14.out).mono ?_); rintro e w' ⟨rfl, ⟨nd, rfl⟩⟩; (try first | exact ⟨rfl, _, World.drewN_drewN _ _ _⟩ | exact ⟨rfl, _, Eq.trans (World.drewN_drewN _ _ _) (congrArg (World.drewN _) (Nat.add_assoc _ _ _))⟩)) | (go_at_call 51; (with_reducible refine (strings_IndexByte.calls (a0.extract 0 (x7_1 : Int).toNat) t113 t114 _ A15.out).mono ?_); rintro e w' ⟨rfl, ⟨nd, rfl⟩⟩; (try first | exact ⟨rfl, _, World.drewN_drewN _ _ _⟩ | exact ⟨rfl, _, Eq.trans (World.drewN_drewN _ _ _) (congrArg (World.drewN _) (Nat.add_assoc _ _ _))⟩))); try go_wp2_with (first | (go_at_call 51; (with_reducible refine (strings_IndexByte.calls (a0.extract 0 (x7_1 : Int).toNat) (bt a0 x7_1) t111 _ A8.out).mono ?_); rintro e w' ⟨rfl, ⟨nd, rfl⟩⟩; (try first | exact ⟨rfl, _, World.drewN_drewN _ _ _⟩ | exact ⟨rfl, _, Eq.trans (World.drewN_drewN _ _ _) (congrArg (World.drewN _) (Nat.add_assoc _ _ _))⟩)) | (go_at_call 52; (with_reducible refine (impl_isSmall.calls (bt a0 x7_1) false _ A10.out).mono ?_); rintro e w' ⟨rfl, ⟨nd, rfl⟩⟩; (try first | exact ⟨rfl, _, World.drewN_drewN _ _ _⟩ | exact ⟨rfl, _, Eq.trans (World.drewN_drewN _ _ _) (congrArg (World.drewN _) (Nat.add_assoc _ _ _))⟩)) | (go_at_call 53; (with_reducible refine (impl_other.calls (bt a0 x7_1) t113 _ A14.out).mono ?_); rintro e w' ⟨rfl, ⟨nd, rfl⟩⟩; (try first | exact ⟨rfl, _, World.drewN_drewN _ _ _⟩ | exact ⟨rfl, _, Eq.trans (World.drewN_drewN _ _ _) (congrArg (World.drewN _) (Nat.add_assoc _ _ _))⟩)) | (go_at_call 51; (with_reducible refine (strings_IndexByte.calls (a0.extract 0 (x7_1 : Int).toNat) t113 t114 _ A15.out).mono ?_); rintro e w' ⟨rfl, ⟨nd, rfl⟩⟩; (try first | exact ⟨rfl, _, World.drewN_drewN _ _ _⟩ | exact ⟨rfl, _, Eq.trans (World.drewN_drewN _ _ _) (congrArg (World.drewN _) (Nat.add_assoc _ _ _))⟩))))
                    go_ret
                    exact ⟨by first | rfl | (simp [errW_none, errW_some] <;> rfl) | (simp [*, errW_none, errW_some] <;> rfl), by repeat (first | (with_reducible first | exact HB.out | apply below_alloc | apply pw_below_drewN | apply below_drew1) | exact HB.out)⟩
                  · rw [if_neg c16] at H
                    have c16b0 : decide (t114 < 0) = false := decide_eq_false c16
                    clear c16
                    have H' := Aside0.mk H
                    clear H
                    have p5 : 0 ≤ (x7_1 : Int) := of_decide_eq_true (by first | (with_reducible assumption) | assumption)
                    have q5 : x7_1 < (a0.size : Int) := of_decide_eq_true (by first | (with_reducible assumption) | assumption)
                    have hx5 := bt_at a0 x7_1
                    replace p5 := eq_true p5
                    replace q5 := eq_true q5
                    go_wp2_with (first | (go_at_call 51; (with_reducible refine (strings_IndexByte.calls (a0.extract 0 (x7_1 : Int).toNat) (bt a0 x7_1) t111 _ A8.out).mono ?_); rintro e w' ⟨rfl, ⟨nd, rfl⟩⟩; (try first | exact ⟨rfl, _, World.drewN_drewN _ _ _⟩ | exact ⟨rfl, _, Eq.trans (World.drewN_drewN _ _ _) (congrArg (World.drewN _) (Nat.add_assoc _ _ _))⟩)) | (go_at_call 52; (with_reducible refine (impl_isSmall.calls (bt a0 x7_1) false _ A10.out).mono ?_); rintro e w' ⟨rfl, ⟨nd, rfl⟩⟩; (try first | exact ⟨rfl, _, World.drewN_drewN _ _ _⟩ | exact ⟨rfl, _, Eq.trans (World.drewN_drewN _ _ _) (congrArg (World.drewN _) (Nat.add_assoc _ _ _))⟩)) | (go_at_call 53; (with_reducible refine (impl_other.calls (bt a0 x7_1) t113 _ A14.out).mono ?_); rintro e w' ⟨rfl, ⟨nd, rfl⟩⟩; (try first | exact ⟨rfl, _, World.drewN_drewN _ _ _⟩ | exact ⟨rfl, _, Eq.trans (World.drewN_drewN _ _ _) (congrArg (World.drewN _) (Nat.add_assoc _ _ _))⟩)) | (go_at_call 51; (with_reducible refine (strings_IndexByte.calls (a0.extract 0 (x7_1 : Int).toNat) t113 t114 _ A15.out).mono ?_); rintro e w' ⟨rfl, ⟨nd, rfl⟩⟩; (try first | exact ⟨rfl, _, World.drewN_drewN _ _ _⟩ | exact ⟨rfl, _, Eq.trans (World.drewN_drewN _ _ _) (congrArg (World.drewN _) (Nat.add_assoc _ _ _))⟩)))
                    repeat (go_quiet (first | (go_at_call 51; (with_reducible refine (strings_IndexByte.calls (a0.extract 0 (x7_1 : Int).toNat) (bt a0 x7_1) t111 _ A8.out).mono ?_); rintro e w' ⟨rfl, ⟨nd, rfl⟩⟩; (try first | exact ⟨rfl, _, World.drewN_drewN _ _ _⟩ | exact ⟨rfl, _, Eq.trans (World.drewN_drewN _ _ _) (congrArg (World.drewN _) (Nat.add_assoc _ _ _))⟩)) | (go_at_call 52; (with_reducible refine (impl_isSmall.calls (bt a0 x7_1) false _ A10.out).mono ?_); rintro e w' ⟨rfl, ⟨nd, rfl⟩⟩; (try first | exact ⟨rfl, _, World.drewN_drewN _ _ _⟩ | exact ⟨rfl, _, Eq.trans (World.drewN_drewN _ _ _) (congrArg (World.drewN _) (Nat.add_assoc _ _ _))⟩)) | (go_at_call 53; (with_reducible refine (impl_other.calls (bt a0 x7_1) t113 _ A14.out).mono ?_); rintro e w' ⟨rfl, ⟨nd, rfl⟩⟩; (try first | exact ⟨rfl, _, World.drewN_drewN _ _ _⟩ | exact ⟨rfl, _, Eq.trans (World.drewN_drewN _ _ _) (congrArg (World.drewN _) (Nat.add_assoc _ _ _))⟩)) | (go_at_call 51; (with_reducible refine (strings_IndexByte.calls (a0.extract 0 (x7_1 : Int).toNat) t113 t114 _ A15.out).mono ?_); rintro e w' ⟨rfl, ⟨nd, rfl⟩⟩; (try first | exact ⟨rfl, _, World.drewN_drewN _ _ _⟩ | exact ⟨rfl, _, Eq.trans (World.drewN_drewN _ _ _) (congrArg (World.drewN _) (Nat.add_assoc _ _ _))⟩))); try go_wp2_with (first | (go_at_call 51; (with_reducible refine (strings_IndexByte.calls (a0.extract 0 (x7_1 : Int).toNat) (bt a0 x7_1) t111 _ A8.out).mono ?_); rintro e w' ⟨rfl, ⟨nd, rfl⟩⟩; (try first | exact ⟨rfl, _, World.drewN_drewN _ _ _⟩ | exact ⟨rfl, _, Eq.trans (World.drewN_drewN _ _ _) (congrArg (World.drewN _) (Nat.add_assoc _ _ _))⟩)) | (go_at_call 52; (with_reducible refine (impl_isSmall.calls (bt a0 x7_1) false _ A10.out).mono ?_); rintro e w' ⟨rfl, ⟨nd, rfl⟩⟩; (try first | exact ⟨rfl, _, World.drewN_drewN _ _ _⟩ | exact ⟨rfl, _, Eq.trans (World.drewN_drewN _ _ _) (congrArg (World.drewN _) (Nat.add_assoc _ _ _))⟩)) | (go_at_call 53; (with_reducible refine (impl_other.calls (bt a0 x7_1) t113 _ A14.out).mono ?_); rintro e w' ⟨rfl, ⟨nd, rfl⟩⟩; (try first | exact ⟨rfl, _, World.drewN_drewN _ _ _⟩ | exact ⟨rfl, _, Eq.trans (World.drewN_drewN _ _ _) (congrArg (World.drewN _) (Nat.add_assoc _ _ _))⟩)) | (go_at_call 51; (with_reducible refine (strings_IndexByte.calls (a0.extract 0 (x7_1 : Int).toNat) t113 t114 _ A15.out).mono ?_); rintro e w' ⟨rfl, ⟨nd, rfl⟩⟩; (try first | exact ⟨rfl, _, World.drewN_drewN _ _ _⟩ | exact ⟨rfl, _, Eq.trans (World.drewN_drewN _ _ _) (congrArg (World.drewN _) (Nat.add_assoc _ _ _))⟩))))
                    go_roundg k1
                    case measure => have := HK1.out; omega
                    case rel => exact ⟨(wrap64 (x7_1 + 1)), (by first | rfl | (simp; done) | (simp [*]; done)), H', ⟨by have := HK1.out; omega⟩, ⟨by repeat (first | (with_reducible first | exact HB.out | apply below_alloc | apply pw_below_drewN | apply below_drew1) | exact HB.out)⟩⟩
            · rw [if_neg c7] at H
              exact absurd H (by simp)
          · rw [if_neg c4] at H
            exact absurd H (by simp)
        · rw [if_neg c3] at H
          exact absurd H (by simp)
      · rw [if_neg c2] at H
        have c2b0 : decide (x7_1 < (a0.size : Int)) = false := decide_eq_false c2
        clear c2
        by_cases c17 : (a0.size : Int) ≤ 16
        · rw [if_pos c17] at H
          have c17b0 : decide ((a0.size : Int) ≤ 16) = true := decide_eq_true c17
          have c17b1 : decide (a0.size ≤ 16) = true := decide_eq_true (by omega)
          clear c17
          replace H := Option.bind_eq_some_iff.mp H
          obtain ⟨t110, A180, H⟩ := H
          replace H : (some (t110.toList == ([] : List UInt8))) = some r := H
          have A18 := Aside0.mk A180
          clear A180
          obtain rfl := Option.some.inj H
          go_wp2_with (first | (go_at_call 47; (with_reducible refine (strings_Trim.calls a0 (⟨#[97, 98, 99, 100, 101, 102, 103, 104, 65, 66, 67, 68, 69, 70, 71, 72]⟩ : ByteArray) t110 _ A18.out).mono ?_); rintro e w19 ⟨rfl, hb⟩; have n0_ := Aside0.mk (below_step (by repeat (first | (with_reducible first | exact HB.out | apply below_alloc | apply pw_below_drewN | apply below_drew1) | exact HB.out)) hb); clear HB; have HB := n0_; clear n0_; (try clear hb); (try clear hb2); (try clear hk); (try clear hi)))
          repeat (go_quiet (first | (go_at_call 47; (with_reducible refine (strings_Trim.calls a0 (⟨#[97, 98, 99, 100, 101, 102, 103, 104, 65, 66, 67, 68, 69, 70, 71, 72]⟩ : ByteArray) t110 _ A18.out).mono ?_); rintro e w19 ⟨rfl, hb⟩; have n0_ := Aside0.mk (below_step (by repeat (first | (with_reducible first | exact HB.out | apply below_alloc | apply pw_below_drewN | apply below_drew1) | exact HB.out)) hb); clear HB; have HB := n0_; clear n0_; (try clear hb); (try clear hb2); (try clear hk); (try clear hi))); try go_wp2_with (first | (go_at_call 47; (with_reducible refine (strings_Trim.calls a0 (⟨#[97, 98, 99, 100, 101, 102, 103, 104, 65, 66, 67, 68, 69, 70, 71, 72]⟩ : ByteArray) t110 _ A18.out).mono ?_); rintro e w19 ⟨rfl, hb⟩; have n0_ := Aside0.mk (below_step (by repeat (first | (with_reducible first | exact HB.out | apply below_alloc | apply pw_below_drewN | apply below_drew1) | exact HB.out)) hb); clear HB; have HB := n0_; clear n0_; (try clear hb); (try clear hb2); (try clear hk); (try clear hi))))
          go_ret
          exact ⟨by first | rfl | (simp [errW_none, errW_some] <;> rfl) | (simp [*, errW_none, errW_some] <;> rfl), by repeat (first | (with_reducible first | exact HB.out | apply below_alloc | apply pw_below_drewN | apply below_drew1) | exact HB.out)⟩
        · rw [if_neg c17] at H
          have c17b0 : decide ((a0.size : Int) ≤ 16) = false := decide_eq_false c17
          have c17b1 : decide (a0.size ≤ 16) = false := decide_eq_false (by omega)
          clear c17
          obtain rfl := Option.some.inj H
          go_wp2
          repeat (go_quiet (fail); try go_wp2)
          go_ret
          exact ⟨by first | rfl | (simp [errW_none, errW_some] <;> rfl) | (simp [*, errW_none, errW_some] <;> rfl), by repeat (first | (with_reducible first | exact HB.out | apply below_alloc | apply pw_below_drewN | apply below_drew1) | exact HB.out)⟩

-- given: part bytesrow
/-! ### the bytes of a string in a row that a conversion made -/
def BytesAt (w : World) (b : Nat) (s : ByteArray) : Prop := ∀ j (h : j < s.data.toList.length), w.cell? ⟨b, j, none⟩ = some (.int .u8 ((s.data.toList[j]'h).toNat : Int))
theorem BytesAt.made (w : World) (e : TypeId) (s : ByteArray) : BytesAt (Lib.bytesWorld w e s) w.heap.size s := by
  intro j h
  rw [Lib.bytesWorld_cell w e s j h]
  congr 3
  simp [List.getD, List.getElem?_eq_getElem h]
theorem BytesAt.below {w w' : World} {b : Nat} {s : ByteArray} (h : BytesAt w b s) (hb : Below w.heap.size w w') : BytesAt w' b s :=
  fun j hj => (hb.cell (World.block_lt_of_cell? w _ (h j hj))).trans (h j hj)
theorem BytesAt.grown {w w' : World} {b : Nat} {s : ByteArray} {o : Option Nat} (h : BytesAt w b s) (hg : w.grownBy w' o) (hne : some b ≠ o) : BytesAt w' b s := by
  intro j hj
  have h1 := h j hj
  rw [← h1]
  unfold World.cell?
  rw [hg.block b (World.block_lt_of_cell? w _ h1) hne]
theorem below_bytes (w : World) (e : TypeId) (s : ByteArray) : Below w.heap.size w (Lib.bytesWorld w e s) :=
  ⟨by simp [Lib.bytesWorld, World.freeze, World.alloc, World.drew, -World.alloc_eq, -World.drew_eq], by simp [Lib.bytesWorld, World.freeze, World.alloc, World.drew, -World.alloc_eq, -World.drew_eq], by simp [Lib.bytesWorld, World.freeze, World.alloc, World.drew, -World.alloc_eq, -World.drew_eq], by rw [Lib.bytesWorld_size]; omega, fun k hk => Lib.bytesWorld_at_old w e s k hk⟩
theorem R_empty {α : Type} (d : Kd α) (W : World) (e base : Nat) (ok : Nat → Prop) (hfresh : ok W.heap.size) (hbase : base ≤ W.heap.size) : d.R e (W.alloc (.cells #[] e)) base ok (.slice (some ⟨W.heap.size, 0, none⟩) 0 0) [] := by
  refine ⟨fun k hk => ?_, [], ?_, Reps.none _ _⟩
  · have : W.heap.size = k := by simpa [Value.ownBlock] using hk
    subst this
    exact hfresh
  · have h2 := World.ownsRow_lit (base := base) (e := e) (size := d.sz) W #[] 0 hbase (by simp [maxLen]) (by simp)
    simpa using h2
theorem two_bytes (w : World) (e : TypeId) (x y : Int) : Kd.C (Kd.int .u8) (w.alloc (.cells #[.int .u8 x, .int .u8 y] e)) (some ⟨w.heap.size, 0, none⟩) 2 [x, y] := by
  refine ⟨rfl, by omega, fun _ => ⟨_, rfl, fun j p hj => ?_⟩⟩
  match j, hj with
  | 0, hj =>
    obtain rfl := Option.some.inj hj
    refine ⟨[.int .u8 x], rfl, rfl, fun i u hu => ?_⟩
    match i, hu with
    | 0, hu => obtain rfl := Option.some.inj hu; simp [Kd.int, Kd.scalar, Addr.add]
    | i + 1, hu => simp at hu
  | 1, hj =>
    obtain rfl := Option.some.inj hj
    refine ⟨[.int .u8 y], rfl, rfl, fun i u hu => ?_⟩
    match i, hu with
    | 0, hu => obtain rfl := Option.some.inj hu; simp [Kd.int, Kd.scalar, Addr.add]
    | i + 1, hu => simp at hu
  | j + 2, hj => simp at hj

-- given: loop.example/g01334/impl.FixTour

/-! ### impl_FixTour: by hand -/
def otherI (c : UInt8) : Int := Go.bits .xor .u8 (c.toNat : Int) 32
def fixL : List UInt8 → List Int
  | [] => []
  | c :: l => if decide ((c.toNat : Int) ≥ 97) = true then (c.toNat : Int) :: otherI c :: fixL l else fixL l
theorem fixL_len (l : List UInt8) : (fixL l).length ≤ 2 * l.length := by
  induction l with
  | nil => simp [fixL]
  | cons c l ih =>
    unfold fixL
    split
    · simp; omega
    · simp; omega
theorem fixL_snoc (l : List UInt8) (c : UInt8) : fixL (l ++ [c]) = if decide ((c.toNat : Int) ≥ 97) = true then fixL l ++ [(c.toNat : Int), otherI c] else fixL l := by
  induction l with
  | nil => by_cases h : decide ((c.toNat : Int) ≥ 97) = true <;> simp only [List.nil_append, fixL, h, if_true, Bool.false_eq_true, if_false]
  | cons x l ih =>
    rw [List.cons_append, fixL, fixL, ih]
    by_cases h : decide ((c.toNat : Int) ≥ 97) = true <;> by_cases h2 : decide ((x.toNat : Int) ≥ 97) = true <;> simp only [h, h2, if_true, Bool.false_eq_true, if_false, List.cons_append]
def impl_FixTour.f (k : Nat) (a0 : ByteArray) : Option (ByteArray × Bool) := (impl_IsTour.f k a0).bind fun p => if p = true then (if a0.size ≤ 1048576 then some (strOfNums (fixL a0.data.toList), true) else none) else some ((⟨#[]⟩ : ByteArray), false)
theorem impl_FixTour.mono : ∀ a0 k, LeO (impl_FixTour.f k a0) (impl_FixTour.f (k + 1) a0) := by
  intro a0 k
  unfold impl_FixTour.f
  exact LeO.bind (impl_IsTour.mono a0 k) (fun _ => LeO.refl _)
set_option maxHeartbeats 2000000 in
set_option maxRecDepth 100000 in
theorem impl_FixTour.calls (k : Nat) (a0 : ByteArray) (r1 : ByteArray) (r2 : Bool) (w : World) (h : impl_FixTour.f k a0 = some (r1, r2)) :
    Calls Tryd.prog 32 #[.string a0] w fun e w' => e = .returned (.tuple #[.string r1, .bool r2]) ∧ Below w.heap.size w w' := by
  cases hp : impl_IsTour.f k a0 with
  | none => simp [impl_FixTour.f, hp] at h
  | some p =>
    have HP := Aside0.mk hp
    cases p with
    | false =>
      simp [impl_FixTour.f, hp] at h
      obtain ⟨rfl, rfl⟩ := h
      clear hp
      go_enter Tryd.func32, Tryd.ntmps32
      go_wp2_with (go_at_call 23; refine (impl_IsTour.calls k a0 false _ HP.out).mono ?_; rintro e w1 ⟨rfl, hb1⟩; have HB1 := Aside0.mk hb1; clear hb1)
      go_ret2
      exact ⟨rfl, HB1.out⟩
    | true =>
      simp only [impl_FixTour.f, hp, Option.bind_some, if_true] at h
      by_cases hsz : a0.size ≤ 1048576
      · rw [if_pos hsz] at h
        obtain ⟨rfl, rfl⟩ := Prod.mk.inj (Option.some.inj h)
        clear h hp
        have hlenL : a0.data.toList.length = a0.size := rfl
        have hconv := fun W : World => Lib.run_convert_string_bytes (P := Tryd.prog) W 9 47 5 a0 Tryd.underlying9 Tryd.underlying47 Tryd.underlying5
        go_enter Tryd.func32, Tryd.ntmps32
        go_wp2_with (go_at_call 23; refine (impl_IsTour.calls k a0 true _ HP.out).mono ?_; rintro e w1 ⟨rfl, hb1⟩; have HB1 := Aside0.mk hb1; clear hb1)
        have HO := Aside0.mk (Kd.R_below (R_empty (Kd.int .u8) w1 5 w.heap.size (fun k => k ≠ w1.heap.size + 1) (by simp) HB1.out.size) (below_bytes (w1.alloc (.cells #[] 5)) 5 a0))
        have hsz1 : (w1.alloc (.cells #[] 5)).heap.size = w1.heap.size + 1 := by simp
        have HBY := Aside0.mk (BytesAt.made (w1.alloc (.cells #[] 5)) 5 a0)
        rw [hsz1] at HBY
        have HBW := Aside0.mk (HB1.out.trans (((by repeat (first | exact Below.refl _ _ | apply below_alloc) : Below w1.heap.size w1 (w1.alloc (.cells #[] 5))).trans ((below_bytes (w1.alloc (.cells #[] 5)) 5 a0).mono (by simp))).mono HB1.out.size))
        have HSZ := Aside0.mk (show w1.heap.size + 2 ≤ (Lib.bytesWorld (w1.alloc (.cells #[] 5)) 5 a0).heap.size by rw [Lib.bytesWorld_size, hsz1]; omega)
        have HB0 := Aside0.mk HB1.out.size
        generalize hcapE : grownCap (w1.alloc (.cells #[] 5)) a0.size 0 5 = cap0
        clear hcapE
        go_loopg [4, 14] a0.size (fun gg v4 v14 wr => ∃ (kk : Nat), kk ≤ a0.size ∧ a0.size - kk ≤ gg ∧ v14 = .int .i64 kk ∧ Aside0 (Kd.R (Kd.int .u8) 5 wr w.heap.size (fun k => k ≠ w1.heap.size + 1) v4 (fixL (a0.data.toList.take kk))) ∧ Aside0 (BytesAt wr (w1.heap.size + 1) a0) ∧ Aside0 (Below w.heap.size w wr) ∧ Aside0 (w1.heap.size + 2 ≤ wr.heap.size))
        case atStart => exact ⟨0, by omega, by omega, rfl, HO, HBY, HBW, HSZ⟩
        case round =>
          clear HO HBY HBW HSZ
          obtain ⟨kk, hkk, hgg, rfl, HO, HBY, HBW, HSZ⟩ := hrel
          by_cases hlt : kk < a0.size
          · have c1 : ((kk : Int) < (a0.size : Int)) = True := eq_true (by omega)
            have c2 : (0 ≤ (kk : Int)) = True := eq_true (by omega)
            have c3 : ((kk : Int) < 9223372036854775807) = True := eq_true (by omega)
            have hcell := HBY.out kk (by rw [hlenL]; exact hlt)
            have htake : a0.data.toList.take (kk + 1) = a0.data.toList.take kk ++ [a0.data.toList[kk]'(by rw [hlenL]; exact hlt)] := by rw [List.take_add_one, List.getElem?_eq_getElem (by rw [hlenL]; exact hlt)]; rfl
            generalize hce : a0.data.toList[kk]'(by rw [hlenL]; exact hlt) = c at hcell htake
            have hnext := fixL_snoc (a0.data.toList.take kk) c
            rw [← htake] at hnext
            have hfl := fixL_len (a0.data.toList.take kk)
            have htk : (a0.data.toList.take kk).length ≤ kk := by simp; omega
            have hwrap : wrap64 ((kk : Int) + 1) = ((kk + 1 : Nat) : Int) := by unfold wrap64; omega
            by_cases hsm : decide ((c.toNat : Int) ≥ 97) = true
            · rw [if_pos hsm] at hnext
              have HN := Aside0.mk hnext
              clear hnext htake
              have hs1 : impl_isSmall.f (c.toNat : Int) = some true := by rw [impl_isSmall.f, hsm]
              have ho1 : impl_other.f (c.toNat : Int) = some (otherI c) := rfl
              have HS1 := Aside0.mk hs1
              have HO1 := Aside0.mk ho1
              clear hs1 ho1
              have hcap : (((fixL (a0.data.toList.take kk)).length + 2) * 1 : Nat) ≤ 140737488355328 := by omega
              go_wp2_with (first | (go_at_call 52; refine (impl_isSmall.calls _ true _ HS1.out).mono ?_; rintro e w2 ⟨rfl, ⟨nd, rfl⟩⟩) | (go_at_call 53; refine (impl_other.calls _ (otherI c) _ HO1.out).mono ?_; rintro e w2 ⟨rfl, ⟨nd, rfl⟩⟩) | ((with_reducible refine gate_builtin (b := .append) (xs := #[.tmp 20, .tmp 24]) rfl ?_); at_builtin; refine Kd.R_append_rows (Kd.int .u8) (w0 := w) w.heap.size rfl (.tmp 20) (.tmp 24) 47 5 (.int .u8 0) 1 rfl Tryd.underlying47 (by kernel_rfl) rfl (by decide) (by omega) u4 (fixL (a0.data.toList.take kk)) [(c.toNat : Int), otherI c] _ _ _ (fun k => k ≠ w1.heap.size + 1) (fun _ => False) rfl rfl ?aO ?aR (fun _ _ hx => hx) (fun _ hk => hk.elim) ?aF ?aB ?aS hcap ?_; (case aO => exact Kd.R_below HO.out (by repeat (first | exact Below.refl _ _ | apply below_alloc | apply pw_below_drewN))); (case aR => exact two_bytes _ _ _ _); (case aF => intro k hk; have := HSZ.out; simp at hk; omega); (case aB => exact HBW.out.trans ((by repeat (first | exact Below.refl _ _ | apply below_alloc | apply pw_below_drewN) : Below wr.heap.size wr _).mono HBW.out.size)); (case aS => have := HBW.out.size; simp; omega); intro v5 w5 ho hb hg hat; have HO5 := Aside0.mk ho; have HB5 := Aside0.mk hb; have HG5 := Aside0.mk hg; clear ho hb hg hat))
              go_roundg (a0.size - (kk + 1))
              case measure => omega
              case rel =>
                refine ⟨kk + 1, by omega, by omega, ?_, ⟨?_⟩, ⟨?_⟩, HB5, ⟨?_⟩⟩
                · simp [hwrap]
                · rw [HN.out]; exact HO5.out
                · refine BytesAt.grown (BytesAt.below HBY.out (by repeat (first | exact Below.refl _ _ | apply below_alloc | apply pw_below_drewN))) HG5.out (Kd.R_away HO.out (fun k hk => hk))
                · have h1 := HSZ.out; have h2 := HG5.out.size; simp at h2; omega
            · rw [if_neg hsm] at hnext
              have HN := Aside0.mk hnext
              clear hnext htake
              have hs1 : impl_isSmall.f (c.toNat : Int) = some false := by simp only [impl_isSmall.f, Bool.not_eq_true] at hsm ⊢; rw [hsm]
              have HS1 := Aside0.mk hs1
              clear hs1
              go_wp2_with (go_at_call 52; refine (impl_isSmall.calls _ false _ HS1.out).mono ?_; rintro e w2 ⟨rfl, ⟨nd, rfl⟩⟩)
              go_roundg (a0.size - (kk + 1))
              case measure => omega
              case rel =>
                refine ⟨kk + 1, by omega, by omega, ?_, ⟨?_⟩, ⟨?_⟩, ⟨?_⟩, ⟨?_⟩⟩
                · simp [hwrap]
                · rw [HN.out]; exact Kd.R_below HO.out (by repeat (first | exact Below.refl _ _ | apply below_alloc | apply pw_below_drewN))
                · exact BytesAt.below HBY.out (by repeat (first | exact Below.refl _ _ | apply below_alloc | apply pw_below_drewN))
                · exact HBW.out.trans ((by repeat (first | exact Below.refl _ _ | apply below_alloc | apply pw_below_drewN) : Below wr.heap.size wr _).mono HBW.out.size)
                · have := HSZ.out; simp; omega
          · have c1 : ((kk : Int) < (a0.size : Int)) = False := eq_false (by omega)
            have htake : a0.data.toList.take kk = a0.data.toList := List.take_of_length_le (by rw [hlenL]; omega)
            rw [htake] at HO
            have hstr : (convert 47 9 u4).run Tryd.prog wr = .ok (.string (strOfNums (fixL a0.data.toList))) wr := own_string Tryd.underlying47 Tryd.underlying5 Tryd.underlying9 (Kd.own_of_R HO.out)
            go_wp2_with fail
            go_ret2
            exact ⟨rfl, HBW.out⟩
      · rw [if_neg hsz] at h
        exact absurd h (by simp)

/-! ### laws_FnExactFixTour: function 9 -/
def laws_FnExactFixTour.f (k : Nat) (a0 : ByteArray) : Option (Bool) := if (a0.size : Int) > 1048576 then (some true) else ((spec_FixTour.f k a0).bind fun bt115 => ((impl_FixTour.f k a0).bind fun bt117 => (if bt117.1.toList = bt115.1.toList then (if (bt117.2 != bt115.2) = true then (none) else (some true)) else (none))))
theorem laws_FnExactFixTour.mono : ∀ a0 k, LeO (laws_FnExactFixTour.f k a0) (laws_FnExactFixTour.f (k + 1) a0) := by
  intro a0 k
  unfold laws_FnExactFixTour.f
  repeat' first
      | (with_reducible exact impl_FixTour.mono _ _)
      | (with_reducible exact spec_FixTour.mono _ _)
      | (with_reducible exact LeO.refl _)
      | (with_reducible exact LeO.none _)
      | (with_reducible refine LeO.ite ?_ ?_)
      | (with_reducible refine LeO.bind ?_ (fun _ => ?_))
      | exact impl_FixTour.mono _ _
      | exact spec_FixTour.mono _ _
      | exact LeO.none _
      | refine LeO.ite ?_ ?_
      | refine LeO.bind ?_ (fun _ => ?_)
set_option maxHeartbeats 8000000 in
set_option maxRecDepth 100000 in
theorem laws_FnExactFixTour.calls (k : Nat) (a0 : ByteArray) (r : Bool) (w : World) (hrt : r = true) (h : laws_FnExactFixTour.f k a0 = some r) :
    Calls Tryd.prog 9 #[.string a0] w fun e w' => e = .returned (.bool r) ∧ Below w.heap.size w w' := by
  have HRT := Aside0.mk hrt
  clear hrt
  have HB := Aside0.mk (Below.refl w.heap.size w)
  have H : (if (a0.size : Int) > 1048576 then (some true) else ((spec_FixTour.f k a0).bind fun bt115 => ((impl_FixTour.f k a0).bind fun bt117 => (if bt117.1.toList = bt115.1.toList then (if (bt117.2 != bt115.2) = true then (none) else (some true)) else (none))))) = some r := h
  clear h
  by_cases c2 : (a0.size : Int) > 1048576
  · rw [if_pos c2] at H
    have c2b0 : decide (1048576 < (a0.size : Int)) = true := decide_eq_true c2
    have c2b1 : decide (1048576 < a0.size) = true := decide_eq_true (by omega)
    clear c2
    obtain rfl := Option.some.inj H
    go_enter Tryd.func9, Tryd.ntmps9
    go_wp2
    go_ret
    exact ⟨by first | rfl | (simp [errW_none, errW_some] <;> rfl) | (simp [*, errW_none, errW_some] <;> rfl), by repeat (first | (with_reducible first | exact HB.out | apply below_alloc | apply pw_below_drewN | apply below_drew1) | exact HB.out)⟩
  · rw [if_neg c2] at H
    have c2b0 : decide (1048576 < (a0.size : Int)) = false := decide_eq_false c2
    have c2b1 : decide (1048576 < a0.size) = false := decide_eq_false (by omega)
    clear c2
    replace H := Option.bind_eq_some_iff.mp H
    obtain ⟨⟨t115, t116⟩, A30, H⟩ := H
    replace H : ((impl_FixTour.f k a0).bind fun bt117 => (if bt117.1.toList = t115.toList then (if (bt117.2 != t116) = true then (none) else (some true)) else (none))) = some r := H
    have A3 := Aside0.mk A30
    clear A30
    replace H := Option.bind_eq_some_iff.mp H
    obtain ⟨⟨t117, t118⟩, A40, H⟩ := H
    replace H : (if t117.toList = t115.toList then (if (t118 != t116) = true then (none) else (some true)) else (none)) = some r := H
    have A4 := Aside0.mk A40
    clear A40
    by_cases c5 : t117.toList = t115.toList
    · rw [if_pos c5] at H
      have c5b0 : (t117.toList == t115.toList) = true := beq_iff_eq.mpr c5
      have c5b1 : (t117.toList != t115.toList) = false := bne_eq_false_iff_eq.mpr c5
      clear c5
      by_cases c6 : (t118 != t116) = true
      · rw [if_pos c6] at H
        exact absurd H (by simp)
      · rw [if_neg c6] at H
        have c6b0 : (t118 != t116) = false := by simpa using c6
        (try (have c6b1 : decide (t118 = t116) = true := by simpa using c6))
        (try (have c6b2 : (t118 == t116) = true := by simpa using c6))
        clear c6
        obtain rfl := Option.some.inj H
        go_enter Tryd.func9, Tryd.ntmps9
        go_wp2_with (first | ((with_reducible refine gate_callee (f := 31) rfl ?_); refine goesL_ (some 12) rfl rfl Tryd.func31 (by kernel_rfl) rfl #[.string a0] rfl (by (try simp only [List.map_toArray, List.map_cons, List.map_nil]); first | done | rfl | (simp only [List.length_drop, List.length_take]; rfl)) ?_; (with_reducible refine (spec_FixTour.calls k a0 t115 t116 _ A3.out).mono ?_); rintro e w' ⟨rfl, ⟨nd, rfl⟩⟩; refine ⟨_, rfl, ?_⟩) | ((with_reducible refine gate_callee (f := 32) rfl ?_); refine goesL_ (some 17) rfl rfl Tryd.func32 (by kernel_rfl) rfl #[.string a0] rfl (by (try simp only [List.map_toArray, List.map_cons, List.map_nil]); first | done | rfl | (simp only [List.length_drop, List.length_take]; rfl)) ?_; (with_reducible refine (impl_FixTour.calls k a0 t117 t118 _ A4.out).mono ?_); rintro e w7 ⟨rfl, hb⟩; refine ⟨_, rfl, ?_⟩; have n0_ := Aside0.mk (below_step (by repeat (first | (with_reducible first | exact HB.out | apply below_alloc | apply pw_below_drewN | apply below_drew1) | exact HB.out)) hb); clear HB; have HB := n0_; clear n0_; (try clear hb); (try clear hb2); (try clear hk); (try clear hi)))
        go_ret
        exact ⟨by first | rfl | (simp [errW_none, errW_some] <;> rfl) | (simp [*, errW_none, errW_some] <;> rfl), by repeat (first | (with_reducible first | exact HB.out | apply below_alloc | apply pw_below_drewN | apply below_drew1) | exact HB.out)⟩
    · rw [if_neg c5] at H
      exact absurd H (by simp)

/-- THE ONE PURE STATEMENT of laws_FnExactFixTour: yours. -/
def laws_FnExactFixTour.Pure : Prop := ∀ (a0 : ByteArray), a0.size ≤ 140737488351232 → ∃ k, laws_FnExactFixTour.f k a0 = some true
theorem laws_FnExactFixTour.walk (P : laws_FnExactFixTour.Pure) (a0 : ByteArray) (w : World) (w0 : a0.size ≤ 140737488351232) :
    Calls Tryd.prog 9 #[.string a0] w fun e w' => e = .returned (.bool true) ∧ Below w.heap.size w w' := by
  obtain ⟨k, h⟩ := P a0 w0
  refine (laws_FnExactFixTour.calls k a0 true w rfl h).mono ?_
  rintro e w' ⟨rfl, hd⟩
  exact ⟨rfl, hd⟩

end Go.Proofs.YtoimgbcbmbpfaaaDoor.Q

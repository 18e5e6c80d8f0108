-- Written by the session's program wip/myprint.py (over the kit's print); the given parts by hand.
import Derived.Test.YtoimgbcbmbpfaaaDoorL0
namespace Go.Proofs.YtoimgbcbmbpfaaaDoor.L
open Go.RowKit Go.Proofs.YtoimgbcbmbpfaaaDoorW.PrintWords Go.Proofs.YtoimgbcbmbpfaaaDoorW.PrintLast Go.Proofs.YtoimgbcbmbpfaaaDoorW.PrintMore
attribute [local go_sem] max2_int min2_int max_two min_two max_three min_three max_four min_four   -- for this text's walks alone
set_option linter.unusedVariables false
set_option linter.unusedSimpArgs false

/-! ### laws_eqIntS: function 28 -/
def laws_eqIntS.l0 : Nat → List Int → List Int → Int → Option (Bool)
  | 0, _, _, _ => none
  | k + 1, x0, x1, x5 => if x5 < (x0.length : Int) then (if 0 ≤ x5 then (if x5 < (x1.length : Int) then (if (rd x0 x5) = (rd x1 x5) then (laws_eqIntS.l0 k x0 x1 (wrap64 (x5 + 1))) else (some false)) else (none)) else (none)) else (some true)
def laws_eqIntS.f (k : Nat) (l0 : List Int) (l1 : List Int) : Option (Bool) := if (l0.length : Int) = (l1.length : Int) then (laws_eqIntS.l0 k l0 l1 0) else (some false)
theorem laws_eqIntS.mono_l : ∀ k, (∀ y0 y1 y2, LeO (laws_eqIntS.l0 k y0 y1 y2) (laws_eqIntS.l0 (k + 1) y0 y1 y2))
  | 0 => fun _ _ _ r h => by simp [laws_eqIntS.l0] at h
  | k + 1 => by
    have ih0 := laws_eqIntS.mono_l k
    · intro y0 y1 y2
      unfold laws_eqIntS.l0
      repeat' first
      | (with_reducible exact ih0 _ _ _)
      | (with_reducible exact LeO.refl _)
      | (with_reducible exact LeO.none _)
      | (with_reducible refine LeO.ite ?_ ?_)
      | (with_reducible refine LeO.bind ?_ (fun _ => ?_))
      | exact ih0 _ _ _
      | exact LeO.none _
      | refine LeO.ite ?_ ?_
      | refine LeO.bind ?_ (fun _ => ?_)
theorem laws_eqIntS.mono : ∀ a0 a1 k, LeO (laws_eqIntS.f k a0 a1) (laws_eqIntS.f (k + 1) a0 a1) := by
  intro a0 a1 k
  have ih0 := laws_eqIntS.mono_l k
  unfold laws_eqIntS.f
  repeat' first
      | (with_reducible exact ih0 _ _ _)
      | (with_reducible exact LeO.refl _)
      | (with_reducible exact LeO.none _)
      | (with_reducible refine LeO.ite ?_ ?_)
      | (with_reducible refine LeO.bind ?_ (fun _ => ?_))
      | exact ih0 _ _ _
      | exact LeO.none _
      | refine LeO.ite ?_ ?_
      | refine LeO.bind ?_ (fun _ => ?_)
set_option maxHeartbeats 8000000 in
set_option maxRecDepth 100000 in
theorem laws_eqIntS.calls (k : Nat) (A0 : Option Addr) (c0 : Nat) (l0 : List Int) (A1 : Option Addr) (c1 : Nat) (l1 : List Int) (r : Bool) (w : World) (hr0 : Kd.C (Kd.int .i64) w A0 l0.length l0) (hc0 : l0.length ≤ c0) (hr1 : Kd.C (Kd.int .i64) w A1 l1.length l1) (hc1 : l1.length ≤ c1) (h : laws_eqIntS.f k l0 l1 = some r) :
    Calls Tryd.prog 28 #[.slice A0 l0.length c0, .slice A1 l1.length c1] w fun e w' => e = .returned (.bool r) ∧ Drawn0 w w' := by
  have HR0 := Aside0.mk hr0
  have HC0 := Aside0.mk hc0
  clear hr0 hc0
  have HR1 := Aside0.mk hr1
  have HC1 := Aside0.mk hc1
  clear hr1 hc1
  have H : (if (l0.length : Int) = (l1.length : Int) then (laws_eqIntS.l0 k l0 l1 0) else (some false)) = some r := h
  clear h
  by_cases c3 : (l0.length : Int) = (l1.length : Int)
  · rw [if_pos c3] at H
    have c3b0 : ((l0.length : Int) == (l1.length : Int)) = true := beq_iff_eq.mpr c3
    have c3b1 : ((l0.length : Int) != (l1.length : Int)) = false := bne_eq_false_iff_eq.mpr c3
    have c3b2 : (l0.length == l1.length) = true := by first | simpa using c3 | (simp at c3 ⊢; omega)
    clear c3
    have H' := Aside0.mk H
    clear H
    go_enter Tryd.func28, Tryd.ntmps28
    go_wp2
    repeat (go_quiet (fail); try go_wp2)
    go_loopg [5] k (fun kq v5 w' => ∃ (x5_1 : Int), v5 = .int .i64 x5_1 ∧ Aside0 (laws_eqIntS.l0 kq l0 l1 x5_1 = some r) ∧ Aside0 (kq ≤ k) ∧ Drawn0 w w')
    case atStart => exact ⟨(0), (by first | rfl | (simp; done) | (simp [*]; done)), H', ⟨Nat.le_refl _⟩, by repeat (first | exact Drawn0.refl _ | apply Drawn0.step)⟩
    case round =>
      clear H'
      try clear c1
      try clear c2
      try clear p2
      try clear c3
      try clear c3b0
      try clear c3b1
      try clear c3b2
      obtain ⟨x5_1, rfl, HA, HK1, ⟨m1, rfl⟩⟩ := hrel
      cases gk with
      | zero => exact absurd HA.out (by simp [laws_eqIntS.l0])
      | succ k1 =>
        have H := HA.out
        clear HA
        simp only [laws_eqIntS.l0] at H
        by_cases c4 : x5_1 < (l0.length : Int)
        · rw [if_pos c4] at H
          have c4b0 : decide (x5_1 < (l0.length : Int)) = true := decide_eq_true c4
          clear c4
          by_cases c5 : 0 ≤ x5_1
          · rw [if_pos c5] at H
            have c5b0 : decide (0 ≤ x5_1) = true := decide_eq_true c5
            clear c5
            by_cases c6 : x5_1 < (l1.length : Int)
            · rw [if_pos c6] at H
              have c6b0 : decide (x5_1 < (l1.length : Int)) = true := decide_eq_true c6
              clear c6
              by_cases c7 : (rd l0 x5_1) = (rd l1 x5_1)
              · rw [if_pos c7] at H
                have c7b0 : ((rd l0 x5_1) == (rd l1 x5_1)) = true := beq_iff_eq.mpr c7
                have c7b1 : ((rd l0 x5_1) != (rd l1 x5_1)) = false := bne_eq_false_iff_eq.mpr c7
                clear c7
                have H' := Aside0.mk H
                clear H
                have p101 : 0 ≤ (x5_1 : Int) := of_decide_eq_true (by first | (with_reducible assumption) | assumption)
                have q101 : x5_1 < (l0.length : Int) := of_decide_eq_true (by first | (with_reducible assumption) | assumption)
                obtain ⟨ad101, e101, hx101_0⟩ := Kd.at_int HR0.out x5_1 p101 q101
                cases e101
                replace p101 := eq_true p101
                replace q101 := eq_true q101
                have p102 : 0 ≤ (x5_1 : Int) := of_decide_eq_true (by first | (with_reducible assumption) | assumption)
                have q102 : x5_1 < (l1.length : Int) := of_decide_eq_true (by first | (with_reducible assumption) | assumption)
                obtain ⟨ad102, e102, hx102_0⟩ := Kd.at_int HR1.out x5_1 p102 q102
                cases e102
                replace p102 := eq_true p102
                replace q102 := eq_true q102
                go_wp2
                repeat (go_quiet (fail); try go_wp2)
                go_roundg k1
                case measure => have := HK1.out; omega
                case rel => exact ⟨(wrap64 (x5_1 + 1)), (by first | rfl | (simp; done) | (simp [*]; done)), H', ⟨by have := HK1.out; omega⟩, by repeat (first | exact Drawn0.refl _ | apply Drawn0.step)⟩
              · rw [if_neg c7] at H
                have c7b0 : ((rd l0 x5_1) == (rd l1 x5_1)) = false := beq_eq_false_iff_ne.mpr c7
                have c7b1 : ((rd l0 x5_1) != (rd l1 x5_1)) = true := bne_iff_ne.mpr c7
                obtain rfl := Option.some.inj H
                have p101 : 0 ≤ (x5_1 : Int) := of_decide_eq_true (by first | (with_reducible assumption) | assumption)
                have q101 : x5_1 < (l0.length : Int) := of_decide_eq_true (by first | (with_reducible assumption) | assumption)
                obtain ⟨ad101, e101, hx101_0⟩ := Kd.at_int HR0.out x5_1 p101 q101
                cases e101
                replace p101 := eq_true p101
                replace q101 := eq_true q101
                have p102 : 0 ≤ (x5_1 : Int) := of_decide_eq_true (by first | (with_reducible assumption) | assumption)
                have q102 : x5_1 < (l1.length : Int) := of_decide_eq_true (by first | (with_reducible assumption) | assumption)
                obtain ⟨ad102, e102, hx102_0⟩ := Kd.at_int HR1.out x5_1 p102 q102
                cases e102
                replace p102 := eq_true p102
                replace q102 := eq_true q102
                go_wp2
                repeat (go_quiet (fail); try go_wp2)
                go_ret
                exact ⟨by first | rfl | (simp; done) | (simp [*]; done), by repeat (first | exact Drawn0.refl _ | apply Drawn0.step)⟩
            · rw [if_neg c6] at H
              exact absurd H (by simp)
          · rw [if_neg c5] at H
            exact absurd H (by simp)
        · rw [if_neg c4] at H
          have c4b0 : decide (x5_1 < (l0.length : Int)) = false := decide_eq_false c4
          clear c4
          obtain rfl := Option.some.inj H
          go_wp2
          repeat (go_quiet (fail); try go_wp2)
          go_ret
          exact ⟨by first | rfl | (simp; done) | (simp [*]; done), by repeat (first | exact Drawn0.refl _ | apply Drawn0.step)⟩
  · rw [if_neg c3] at H
    have c3b0 : ((l0.length : Int) == (l1.length : Int)) = false := beq_eq_false_iff_ne.mpr c3
    have c3b1 : ((l0.length : Int) != (l1.length : Int)) = true := bne_iff_ne.mpr c3
    have c3b2 : (l0.length == l1.length) = false := by first | simpa using c3 | (simp at c3 ⊢; omega)
    obtain rfl := Option.some.inj H
    go_enter Tryd.func28, Tryd.ntmps28
    go_wp2
    repeat (go_quiet (fail); try go_wp2)
    go_ret
    exact ⟨by first | rfl | (simp; done) | (simp [*]; done), by repeat (first | exact Drawn0.refl _ | apply Drawn0.step)⟩

/-! ### laws_markIntS: function 29 -/
def laws_markIntS.l0 : Nat → List Int → Int → Int → Option (Int × List Int)
  | 0, _, _, _ => none
  | k + 1, x0, x1, x5 => if x5 < (x0.length : Int) then (if 0 ≤ x5 then (laws_markIntS.l0 k (x0.set (x5 : Int).toNat x1) (wrap64 (x1 + 1)) (wrap64 (x5 + 1))) else (none)) else (some (x1, x0))
def laws_markIntS.f (k : Nat) (l0 : List Int) (a1 : Int) : Option (Int × List Int) := laws_markIntS.l0 k l0 a1 0
theorem laws_markIntS.mono_l : ∀ k, (∀ y0 y1 y2, LeO (laws_markIntS.l0 k y0 y1 y2) (laws_markIntS.l0 (k + 1) y0 y1 y2))
  | 0 => fun _ _ _ r h => by simp [laws_markIntS.l0] at h
  | k + 1 => by
    have ih0 := laws_markIntS.mono_l k
    · intro y0 y1 y2
      unfold laws_markIntS.l0
      repeat' first
      | (with_reducible exact ih0 _ _ _)
      | (with_reducible exact LeO.refl _)
      | (with_reducible exact LeO.none _)
      | (with_reducible refine LeO.ite ?_ ?_)
      | (with_reducible refine LeO.bind ?_ (fun _ => ?_))
      | exact ih0 _ _ _
      | exact LeO.none _
      | refine LeO.ite ?_ ?_
      | refine LeO.bind ?_ (fun _ => ?_)
theorem laws_markIntS.mono : ∀ a0 a1 k, LeO (laws_markIntS.f k a0 a1) (laws_markIntS.f (k + 1) a0 a1) := by
  intro a0 a1 k
  have ih0 := laws_markIntS.mono_l k
  unfold laws_markIntS.f
  repeat' first
      | (with_reducible exact ih0 _ _ _)
      | (with_reducible exact LeO.refl _)
      | (with_reducible exact LeO.none _)
      | (with_reducible refine LeO.ite ?_ ?_)
      | (with_reducible refine LeO.bind ?_ (fun _ => ?_))
      | exact ih0 _ _ _
      | exact LeO.none _
      | refine LeO.ite ?_ ?_
      | refine LeO.bind ?_ (fun _ => ?_)
set_option maxHeartbeats 8000000 in
set_option maxRecDepth 100000 in
theorem laws_markIntS.calls (k : Nat) (P0_ : Nat → Prop) (u9000_ : Value) (l0 : List Int) (a1 : Int) (r1 : Int) (r2 : List Int) (w0 w : World) (hB : Below w0.heap.size w0 w) (ho0 : Kd.R (Kd.int .i64) 3 w w0.heap.size P0_ u9000_ l0) (h : laws_markIntS.f k l0 a1 = some (r1, r2)) :
    Calls Tryd.prog 29 #[u9000_, .int .i64 a1] w fun e w' => e = .returned (.int .i64 r1) ∧ Kd.R (Kd.int .i64) 3 w' w0.heap.size (fun k_ => (P0_ k_ ∨ w.heap.size ≤ k_)) u9000_ r2 ∧ Below w0.heap.size w0 w' ∧ Kept w w' (fun k_ => P0_ k_) := by
  have HO0 := Aside0.mk (show Kd.R (Kd.int .i64) 3 w w0.heap.size (fun k_ => (P0_ k_ ∨ w.heap.size ≤ k_)) u9000_ l0 from Kd.R_mono ho0 (fun k_ hk => (.inl hk)))
  have HK := Aside0.mk (Kept.refl w (fun k_ => P0_ k_))
  have HW0 := Aside0.mk hB.size
  have HB := Aside0.mk hB
  clear hB
  have H : (laws_markIntS.l0 k l0 a1 0) = some (r1, r2) := h
  clear h
  have H' := Aside0.mk H
  clear H
  go_enter Tryd.func29, Tryd.ntmps29
  go_wp2
  go_loopg [1, 5] k (fun kq v1 v5 w' => ∃ (x0_1 : List Int) (x1_1 : Int) (x5_1 : Int), v1 = .int .i64 x1_1 ∧ v5 = .int .i64 x5_1 ∧ Aside0 (laws_markIntS.l0 kq x0_1 x1_1 x5_1 = some (r1, r2)) ∧ Aside0 (kq ≤ k) ∧ Aside0 (Kd.R (Kd.int .i64) 3 w' w0.heap.size (fun k_ => (P0_ k_ ∨ w.heap.size ≤ k_)) u9000_ x0_1) ∧ Aside0 (Kept w w' (fun k_ => P0_ k_)) ∧ Aside0 (Below w0.heap.size w0 w'))
  case atStart => exact ⟨(l0), (a1), (0), (by first | rfl | (simp; done) | (simp [*]; done)), (by first | rfl | (simp; done) | (simp [*]; done)), H', ⟨Nat.le_refl _⟩, ⟨by (with_reducible repeat (first | apply Kd.R_alloc | apply Kd.R_drewN | apply Kd.R_drew)); exact HO0.out⟩, ⟨by repeat (first | (with_reducible first | exact HK.out | apply Kept.alloc | apply Kept.drewN | apply Kept.drew) | exact HK.out)⟩, ⟨by repeat (first | (with_reducible first | exact HB.out | apply below_alloc | apply pw_below_drewN | apply below_drew1) | exact HB.out)⟩⟩
  case round =>
    clear H'
    try clear c2
    try clear p2
    obtain ⟨x0_1, x1_1, x5_1, rfl, rfl, HA, HK1, HO_0, HK, HB⟩ := hrel
    cases gk with
    | zero => exact absurd HA.out (by simp [laws_markIntS.l0])
    | succ k1 =>
      have H := HA.out
      clear HA
      simp only [laws_markIntS.l0] at H
      by_cases c3 : x5_1 < (x0_1.length : Int)
      · rw [if_pos c3] at H
        have c3b0 : decide (x5_1 < (x0_1.length : Int)) = true := decide_eq_true c3
        clear c3
        by_cases c4 : 0 ≤ x5_1
        · rw [if_pos c4] at H
          have c4b0 : decide (0 ≤ x5_1) = true := decide_eq_true c4
          clear c4
          obtain ⟨y103, hy103⟩ : ∃ y_ : List Int, y_ = (x0_1.set (x5_1 : Int).toNat x1_1) := ⟨_, rfl⟩
          replace H : (laws_markIntS.l0 k1 y103 (wrap64 (x1_1 + 1)) (wrap64 (x5_1 + 1))) = some (r1, r2) := by first | (rw [hy103]; with_reducible exact H) | (have H2_ := (Option.bind_some _ _).symm.trans H; rw [hy103]; with_reducible exact H2_) | (have H2_ := (Option.bind_some _ _).symm.trans H; with_reducible exact H2_) | with_reducible exact H | (rw [hy103]; exact H) | exact H
          have Ny103 := Aside0.mk hy103
          clear hy103
          have H' := Aside0.mk H
          clear H
          obtain ⟨Ao6, co6, eo6⟩ := Kd.R_slice HO_0.out
          subst eo6
          have p5 : 0 ≤ (x5_1 : Int) := of_decide_eq_true (by first | (with_reducible assumption) | assumption)
          have q5 : (x5_1 : Int) < ((x0_1.length : Int) : Int) := of_decide_eq_true (by first | (with_reducible assumption) | assumption)
          obtain ⟨go5, co5, eo5, gb5, gl5, cl5, HG5⟩ := Kd.R_form HO_0.out (by omega)
          (first | cases eo5 | (injection eo5 with ea_ en_ ec_; (first | subst ea_ | (injection ea_ with ea_; subst ea_)); subst ec_; clear en_))
          have GB5 := Aside0.mk gb5
          have GG5 := Aside0.mk HG5
          clear gb5 gl5 HG5
          have HMgo5 := Aside0.mk (show (P0_ go5 ∨ w.heap.size ≤ go5) from (HO_0.out.1 _ rfl))
          obtain ⟨hx5_0, hf5_0⟩ := Kd.R_celln 0 HO_0.out (x5_1 : Int) p5 q5
          replace p5 := eq_true p5
          replace q5 := eq_true q5
          have HP7 := Kd.R_putg HO_0.out (x5_1 : Int) x1_1
          go_wp2_with (first | ((with_reducible refine gate_store (t := 3) (p := 15) rfl ?_); refine store_event (t := 3) (p := 15) (v := ?vo_w8) (w1 := (wr.setCell ⟨go5, (x5_1 : Int).toNat, none⟩ (.int .i64 x1_1))) ?hg ?ho ?hn ?hr ?_; (case ho => rfl); (case hg => rfl); (case hn => rfl); (case hr => first | (go_simp; done) | (go_simp; rfl)); intro w8 hw; have hg : wr.grownBy w8 (some go5) := (by rw [hw]; exact HP7.2); have hp_ : Kd.R (Kd.int .i64) 3 w8 w0.heap.size (fun k_ => (P0_ k_ ∨ w.heap.size ≤ k_)) (.slice (some ⟨go5, 0, none⟩) x0_1.length co6) y103 := (by rw [hw, Ny103.out]; exact HP7.1); clear HP7; have n0_ := Aside0.mk (hp_); have n1_ := Aside0.mk ((by rw [hw]; exact below_set (HB.out) GB5.out : Below w0.heap.size w0 w8)); have n2_ := Aside0.mk (Kept.of_grown (S := (fun k_ => P0_ k_)) hg (by repeat (first | (with_reducible first | exact HK.out | apply Kept.alloc | apply Kept.drewN | apply Kept.drew) | exact HK.out)) (fun k_ e_ => (HO_0.out.1 k_ e_))); clear HO_0; clear HB; clear HK; have HO_0 := n0_; have HB := n1_; have HK := n2_; clear n0_ n1_ n2_; clear hg hw hp_))
          go_roundg k1
          case measure => have := HK1.out; omega
          case rel => exact ⟨(y103), (wrap64 (x1_1 + 1)), (wrap64 (x5_1 + 1)), (by first | rfl | (simp; done) | (simp [*]; done)), (by first | rfl | (simp; done) | (simp [*]; done)), H', ⟨by have := HK1.out; omega⟩, ⟨by (with_reducible repeat (first | apply Kd.R_alloc | apply Kd.R_drewN | apply Kd.R_drew)); exact HO_0.out⟩, ⟨by repeat (first | (with_reducible first | exact HK.out | apply Kept.alloc | apply Kept.drewN | apply Kept.drew) | exact HK.out)⟩, ⟨by repeat (first | (with_reducible first | exact HB.out | apply below_alloc | apply pw_below_drewN | apply below_drew1) | exact HB.out)⟩⟩
        · rw [if_neg c4] at H
          exact absurd H (by simp)
      · rw [if_neg c3] at H
        have c3b0 : decide (x5_1 < (x0_1.length : Int)) = false := decide_eq_false c3
        clear c3
        simp only [Option.some.injEq, Prod.mk.injEq] at H
        obtain ⟨rfl, rfl⟩ := H
        obtain ⟨Ao9, co9, eo9⟩ := Kd.R_slice HO_0.out
        subst eo9
        go_wp2
        go_ret
        exact ⟨by first | rfl | (simp [errW_none, errW_some] <;> rfl) | (simp [*, errW_none, errW_some] <;> rfl), by (with_reducible repeat (first | apply Kd.R_alloc | apply Kd.R_drewN | apply Kd.R_drew)); exact HO_0.out, by repeat (first | (with_reducible first | exact HB.out | apply below_alloc | apply pw_below_drewN | apply below_drew1) | exact HB.out), by repeat (first | (with_reducible first | exact HK.out | apply Kept.alloc | apply Kept.drewN | apply Kept.drew) | exact HK.out)⟩

/-! ### laws_heldIntS: function 30 -/
def laws_heldIntS.l0 : Nat → List Int → Int → Int → Option (Int)
  | 0, _, _, _ => none
  | k + 1, x0, x1, x5 => if x5 < (x0.length : Int) then (if 0 ≤ x5 then (if (rd x0 x5) = x1 then (laws_heldIntS.l0 k x0 (wrap64 (x1 + 1)) (wrap64 (x5 + 1))) else (some (-1))) else (none)) else (some x1)
def laws_heldIntS.f (k : Nat) (l0 : List Int) (a1 : Int) : Option (Int) := laws_heldIntS.l0 k l0 a1 0
theorem laws_heldIntS.mono_l : ∀ k, (∀ y0 y1 y2, LeO (laws_heldIntS.l0 k y0 y1 y2) (laws_heldIntS.l0 (k + 1) y0 y1 y2))
  | 0 => fun _ _ _ r h => by simp [laws_heldIntS.l0] at h
  | k + 1 => by
    have ih0 := laws_heldIntS.mono_l k
    · intro y0 y1 y2
      unfold laws_heldIntS.l0
      repeat' first
      | (with_reducible exact ih0 _ _ _)
      | (with_reducible exact LeO.refl _)
      | (with_reducible exact LeO.none _)
      | (with_reducible refine LeO.ite ?_ ?_)
      | (with_reducible refine LeO.bind ?_ (fun _ => ?_))
      | exact ih0 _ _ _
      | exact LeO.none _
      | refine LeO.ite ?_ ?_
      | refine LeO.bind ?_ (fun _ => ?_)
theorem laws_heldIntS.mono : ∀ a0 a1 k, LeO (laws_heldIntS.f k a0 a1) (laws_heldIntS.f (k + 1) a0 a1) := by
  intro a0 a1 k
  have ih0 := laws_heldIntS.mono_l k
  unfold laws_heldIntS.f
  repeat' first
      | (with_reducible exact ih0 _ _ _)
      | (with_reducible exact LeO.refl _)
      | (with_reducible exact LeO.none _)
      | (with_reducible refine LeO.ite ?_ ?_)
      | (with_reducible refine LeO.bind ?_ (fun _ => ?_))
      | exact ih0 _ _ _
      | exact LeO.none _
      | refine LeO.ite ?_ ?_
      | refine LeO.bind ?_ (fun _ => ?_)
set_option maxHeartbeats 8000000 in
set_option maxRecDepth 100000 in
theorem laws_heldIntS.calls (k : Nat) (A0 : Option Addr) (c0 : Nat) (l0 : List Int) (a1 : Int) (r : Int) (w : World) (hr0 : Kd.C (Kd.int .i64) w A0 l0.length l0) (hc0 : l0.length ≤ c0) (h : laws_heldIntS.f k l0 a1 = some r) :
    Calls Tryd.prog 30 #[.slice A0 l0.length c0, .int .i64 a1] w fun e w' => e = .returned (.int .i64 r) ∧ Drawn0 w w' := by
  have HR0 := Aside0.mk hr0
  have HC0 := Aside0.mk hc0
  clear hr0 hc0
  have H : (laws_heldIntS.l0 k l0 a1 0) = some r := h
  clear h
  have H' := Aside0.mk H
  clear H
  go_enter Tryd.func30, Tryd.ntmps30
  go_wp2
  go_loopg [1, 5] k (fun kq v1 v5 w' => ∃ (x1_1 : Int) (x5_1 : Int), v1 = .int .i64 x1_1 ∧ v5 = .int .i64 x5_1 ∧ Aside0 (laws_heldIntS.l0 kq l0 x1_1 x5_1 = some r) ∧ Aside0 (kq ≤ k) ∧ Drawn0 w w')
  case atStart => exact ⟨(a1), (0), (by first | rfl | (simp; done) | (simp [*]; done)), (by first | rfl | (simp; done) | (simp [*]; done)), H', ⟨Nat.le_refl _⟩, by repeat (first | exact Drawn0.refl _ | apply Drawn0.step)⟩
  case round =>
    clear H'
    try clear p2
    obtain ⟨x1_1, x5_1, rfl, rfl, HA, HK1, ⟨m1, rfl⟩⟩ := hrel
    cases gk with
    | zero => exact absurd HA.out (by simp [laws_heldIntS.l0])
    | succ k1 =>
      have H := HA.out
      clear HA
      simp only [laws_heldIntS.l0] at H
      by_cases c3 : x5_1 < (l0.length : Int)
      · rw [if_pos c3] at H
        have c3b0 : decide (x5_1 < (l0.length : Int)) = true := decide_eq_true c3
        clear c3
        by_cases c4 : 0 ≤ x5_1
        · rw [if_pos c4] at H
          have c4b0 : decide (0 ≤ x5_1) = true := decide_eq_true c4
          clear c4
          by_cases c5 : (rd l0 x5_1) = x1_1
          · rw [if_pos c5] at H
            have c5b0 : ((rd l0 x5_1) == x1_1) = true := beq_iff_eq.mpr c5
            have c5b1 : ((rd l0 x5_1) != x1_1) = false := bne_eq_false_iff_eq.mpr c5
            clear c5
            have H' := Aside0.mk H
            clear H
            have p104 : 0 ≤ (x5_1 : Int) := of_decide_eq_true (by first | (with_reducible assumption) | assumption)
            have q104 : x5_1 < (l0.length : Int) := of_decide_eq_true (by first | (with_reducible assumption) | assumption)
            obtain ⟨ad104, e104, hx104_0⟩ := Kd.at_int HR0.out x5_1 p104 q104
            cases e104
            replace p104 := eq_true p104
            replace q104 := eq_true q104
            go_wp2
            go_roundg k1
            case measure => have := HK1.out; omega
            case rel => exact ⟨(wrap64 (x1_1 + 1)), (wrap64 (x5_1 + 1)), (by first | rfl | (simp; done) | (simp [*]; done)), (by first | rfl | (simp; done) | (simp [*]; done)), H', ⟨by have := HK1.out; omega⟩, by repeat (first | exact Drawn0.refl _ | apply Drawn0.step)⟩
          · rw [if_neg c5] at H
            have c5b0 : ((rd l0 x5_1) == x1_1) = false := beq_eq_false_iff_ne.mpr c5
            have c5b1 : ((rd l0 x5_1) != x1_1) = true := bne_iff_ne.mpr c5
            obtain rfl := Option.some.inj H
            have p104 : 0 ≤ (x5_1 : Int) := of_decide_eq_true (by first | (with_reducible assumption) | assumption)
            have q104 : x5_1 < (l0.length : Int) := of_decide_eq_true (by first | (with_reducible assumption) | assumption)
            obtain ⟨ad104, e104, hx104_0⟩ := Kd.at_int HR0.out x5_1 p104 q104
            cases e104
            replace p104 := eq_true p104
            replace q104 := eq_true q104
            go_wp2
            go_ret
            exact ⟨by first | rfl | (simp; done) | (simp [*]; done), by repeat (first | exact Drawn0.refl _ | apply Drawn0.step)⟩
        · rw [if_neg c4] at H
          exact absurd H (by simp)
      · rw [if_neg c3] at H
        have c3b0 : decide (x5_1 < (l0.length : Int)) = false := decide_eq_false c3
        clear c3
        obtain rfl := Option.some.inj H
        go_wp2
        go_ret
        exact ⟨by first | rfl | (simp; done) | (simp [*]; done), by repeat (first | exact Drawn0.refl _ | apply Drawn0.step)⟩

/-! ### spec_l1In: function 48 -/
def spec_l1In.f (a0 : Int) (a1 : Int) (a2 : Int) : Option (Bool) := if a0 ≥ a1 then (some (decide (a0 ≤ a2))) else (some false)
set_option maxHeartbeats 8000000 in
set_option maxRecDepth 100000 in
theorem spec_l1In.calls (a0 : Int) (a1 : Int) (a2 : Int) (r : Bool) (w : World) (h : spec_l1In.f a0 a1 a2 = some r) :
    Calls Tryd.prog 48 #[.int .i64 a0, .int .i64 a1, .int .i64 a2] w fun e w' => e = .returned (.bool r) ∧ Drawn0 w w' := by
  have H : (if a0 ≥ a1 then (some (decide (a0 ≤ a2))) else (some false)) = some r := h
  clear h
  by_cases c4 : a0 ≥ a1
  · rw [if_pos c4] at H
    have c4b0 : decide (a1 ≤ a0) = true := decide_eq_true c4
    clear c4
    obtain rfl := Option.some.inj H
    go_enter Tryd.func48, Tryd.ntmps48
    go_wp2
    go_ret
    exact ⟨by first | rfl | (simp; done) | (simp [*]; done), by repeat (first | exact Drawn0.refl _ | apply Drawn0.step)⟩
  · rw [if_neg c4] at H
    have c4b0 : decide (a1 ≤ a0) = false := decide_eq_false c4
    clear c4
    obtain rfl := Option.some.inj H
    go_enter Tryd.func48, Tryd.ntmps48
    go_wp2
    go_ret
    exact ⟨by first | rfl | (simp; done) | (simp [*]; done), by repeat (first | exact Drawn0.refl _ | apply Drawn0.step)⟩

/-! ### spec_ldGood: function 46 -/
def spec_ldGood.l0 : Nat → ByteArray → Int → Option (Bool)
  | 0, _, _ => none
  | k + 1, x0, x3 => if x3 < (x0.size : Int) then (if 0 ≤ x3 then ((spec_l1In.f (wrap64 ((wrap64 (bt x0 x3)) - 48)) 1 9).bind fun t105 => (if t105 = true then (spec_ldGood.l0 k x0 (wrap64 (x3 + 1))) else (some false))) else (none)) else (some true)
def spec_ldGood.f (k : Nat) (a0 : ByteArray) : Option (Bool) := if (a0.size : Int) > 12 then (some false) else (spec_ldGood.l0 k a0 0)
theorem spec_ldGood.mono_l : ∀ k, (∀ y0 y1, LeO (spec_ldGood.l0 k y0 y1) (spec_ldGood.l0 (k + 1) y0 y1))
  | 0 => fun _ _ r h => by simp [spec_ldGood.l0] at h
  | k + 1 => by
    have ih0 := spec_ldGood.mono_l k
    · intro y0 y1
      unfold spec_ldGood.l0
      repeat' first
      | (with_reducible exact ih0 _ _)
      | (with_reducible exact LeO.refl _)
      | (with_reducible exact LeO.none _)
      | (with_reducible refine LeO.ite ?_ ?_)
      | (with_reducible refine LeO.bind ?_ (fun _ => ?_))
      | exact ih0 _ _
      | exact LeO.none _
      | refine LeO.ite ?_ ?_
      | refine LeO.bind ?_ (fun _ => ?_)
theorem spec_ldGood.mono : ∀ a0 k, LeO (spec_ldGood.f k a0) (spec_ldGood.f (k + 1) a0) := by
  intro a0 k
  have ih0 := spec_ldGood.mono_l k
  unfold spec_ldGood.f
  repeat' first
      | (with_reducible exact ih0 _ _)
      | (with_reducible exact LeO.refl _)
      | (with_reducible exact LeO.none _)
      | (with_reducible refine LeO.ite ?_ ?_)
      | (with_reducible refine LeO.bind ?_ (fun _ => ?_))
      | exact ih0 _ _
      | exact LeO.none _
      | refine LeO.ite ?_ ?_
      | refine LeO.bind ?_ (fun _ => ?_)
set_option maxHeartbeats 8000000 in
set_option maxRecDepth 100000 in
theorem spec_ldGood.calls (k : Nat) (a0 : ByteArray) (r : Bool) (w : World) (h : spec_ldGood.f k a0 = some r) :
    Calls Tryd.prog 46 #[.string a0] w fun e w' => e = .returned (.bool r) ∧ Drawn0 w w' := by
  have H : (if (a0.size : Int) > 12 then (some false) else (spec_ldGood.l0 k a0 0)) = some r := h
  clear h
  by_cases c2 : (a0.size : Int) > 12
  · rw [if_pos c2] at H
    have c2b0 : decide (12 < (a0.size : Int)) = true := decide_eq_true c2
    have c2b1 : decide (12 < a0.size) = true := decide_eq_true (by omega)
    clear c2
    obtain rfl := Option.some.inj H
    go_enter Tryd.func46, Tryd.ntmps46
    go_wp2
    go_ret
    exact ⟨by first | rfl | (simp; done) | (simp [*]; done), by repeat (first | exact Drawn0.refl _ | apply Drawn0.step)⟩
  · rw [if_neg c2] at H
    have c2b0 : decide (12 < (a0.size : Int)) = false := decide_eq_false c2
    have c2b1 : decide (12 < a0.size) = false := decide_eq_false (by omega)
    clear c2
    have H' := Aside0.mk H
    clear H
    go_enter Tryd.func46, Tryd.ntmps46
    go_wp2
    go_loopg [3] k (fun kq v3 w' => ∃ (x3_1 : Int), v3 = .int .i64 x3_1 ∧ Aside0 (spec_ldGood.l0 kq a0 x3_1 = some r) ∧ Aside0 (kq ≤ k) ∧ Drawn0 w w')
    case atStart => exact ⟨(0), (by first | rfl | (simp; done) | (simp [*]; done)), H', ⟨Nat.le_refl _⟩, by repeat (first | exact Drawn0.refl _ | apply Drawn0.step)⟩
    case round =>
      clear H'
      try clear c2
      try clear c2b0
      try clear c2b1
      try clear p2
      obtain ⟨x3_1, rfl, HA, HK1, ⟨m1, rfl⟩⟩ := hrel
      cases gk with
      | zero => exact absurd HA.out (by simp [spec_ldGood.l0])
      | succ k1 =>
        have H := HA.out
        clear HA
        simp only [spec_ldGood.l0] at H
        by_cases c3 : x3_1 < (a0.size : Int)
        · rw [if_pos c3] at H
          have c3b0 : decide (x3_1 < (a0.size : Int)) = true := decide_eq_true c3
          clear c3
          by_cases c4 : 0 ≤ x3_1
          · rw [if_pos c4] at H
            have c4b0 : decide (0 ≤ x3_1) = true := decide_eq_true c4
            clear c4
            replace H := Option.bind_eq_some_iff.mp H
            obtain ⟨t105, A60, H⟩ := H
            replace H : (if t105 = true then (spec_ldGood.l0 k1 a0 (wrap64 (x3_1 + 1))) else (some false)) = some r := H
            have A6 := Aside0.mk A60
            clear A60
            by_cases c7 : t105 = true
            · subst c7
              have H1 : (spec_ldGood.l0 k1 a0 (wrap64 (x3_1 + 1))) = some r := by rw [if_pos rfl] at H; exact H
              clear H
              have H := H1
              clear H1
              have H' := Aside0.mk H
              clear H
              have p5 : 0 ≤ (x3_1 : Int) := of_decide_eq_true (by first | (with_reducible assumption) | assumption)
              have q5 : x3_1 < (a0.size : Int) := of_decide_eq_true (by first | (with_reducible assumption) | assumption)
              have hx5 := bt_at a0 x3_1
              replace p5 := eq_true p5
              replace q5 := eq_true q5
              go_wp2_with (first | ((with_reducible refine gate_callee (f := 48) rfl ?_); refine goesL_ (some 18) rfl rfl Tryd.func48 (by kernel_rfl) rfl #[.int .i64 (wrap64 ((wrap64 (bt a0 x3_1)) - 48)), .int .i64 1, .int .i64 9] rfl (by (try simp only [List.map_toArray, List.map_cons, List.map_nil]); first | done | rfl | (simp only [List.length_drop, List.length_take]; rfl)) ?_; (with_reducible refine (spec_l1In.calls (wrap64 ((wrap64 (bt a0 x3_1)) - 48)) 1 9 true _ A6.out).mono ?_); rintro e w' ⟨rfl, ⟨nd, rfl⟩⟩; refine ⟨_, rfl, ?_⟩))
              go_roundg k1
              case measure => have := HK1.out; omega
              case rel => exact ⟨(wrap64 (x3_1 + 1)), (by first | rfl | (simp; done) | (simp [*]; done)), H', ⟨by have := HK1.out; omega⟩, by repeat (first | exact Drawn0.refl _ | apply Drawn0.step)⟩
            · replace c7 := Bool.eq_false_iff.mpr c7
              subst c7
              have H1 : (some false) = some r := by rw [if_neg (show ¬ (false = true) by decide)] at H; exact H
              clear H
              have H := H1
              clear H1
              obtain rfl := Option.some.inj H
              have p5 : 0 ≤ (x3_1 : Int) := of_decide_eq_true (by first | (with_reducible assumption) | assumption)
              have q5 : x3_1 < (a0.size : Int) := of_decide_eq_true (by first | (with_reducible assumption) | assumption)
              have hx5 := bt_at a0 x3_1
              replace p5 := eq_true p5
              replace q5 := eq_true q5
              go_wp2_with (first | ((with_reducible refine gate_callee (f := 48) rfl ?_); refine goesL_ (some 18) rfl rfl Tryd.func48 (by kernel_rfl) rfl #[.int .i64 (wrap64 ((wrap64 (bt a0 x3_1)) - 48)), .int .i64 1, .int .i64 9] rfl (by (try simp only [List.map_toArray, List.map_cons, List.map_nil]); first | done | rfl | (simp only [List.length_drop, List.length_take]; rfl)) ?_; (with_reducible refine (spec_l1In.calls (wrap64 ((wrap64 (bt a0 x3_1)) - 48)) 1 9 false _ A6.out).mono ?_); rintro e w' ⟨rfl, ⟨nd, rfl⟩⟩; refine ⟨_, rfl, ?_⟩))
              go_ret
              exact ⟨by first | rfl | (simp; done) | (simp [*]; done), by repeat (first | exact Drawn0.refl _ | apply Drawn0.step)⟩
          · rw [if_neg c4] at H
            exact absurd H (by simp)
        · rw [if_neg c3] at H
          have c3b0 : decide (x3_1 < (a0.size : Int)) = false := decide_eq_false c3
          clear c3
          obtain rfl := Option.some.inj H
          go_wp2
          go_ret
          exact ⟨by first | rfl | (simp; done) | (simp [*]; done), by repeat (first | exact Drawn0.refl _ | apply Drawn0.step)⟩

-- given: part places

/-! ### where each box goes: lists -/
def fIdx (c : Int) : List Int → Int
  | [] => -1
  | x :: t => if c ≤ x then 0 else if fIdx c t < 0 then -1 else fIdx c t + 1
theorem fIdx_none (c : Int) : ∀ l : List Int, (∀ j, j < l.length → l.getD j 0 < c) → fIdx c l = -1
  | [], _ => rfl
  | x :: t, h => by
    have h0 := h 0 (by simp)
    have ht := fIdx_none c t (fun j hj => by simpa using h (j + 1) (by simpa using hj))
    simp at h0
    rw [fIdx, if_neg (by omega), ht, if_pos (by omega)]
theorem fIdx_at (c : Int) : ∀ (l : List Int) (k : Nat), k < l.length → (∀ j, j < k → l.getD j 0 < c) → c ≤ l.getD k 0 → fIdx c l = (k : Int)
  | [], k, h, _, _ => by simp at h
  | x :: t, 0, _, _, h => by
    simp at h
    rw [fIdx, if_pos h]
    rfl
  | x :: t, k + 1, hk, hl, h => by
    have h0 := hl 0 (by omega)
    have ht := fIdx_at c t k (by simpa using hk) (fun j hj => by simpa using hl (j + 1) (by omega)) (by simpa using h)
    simp at h0
    rw [fIdx, if_neg (by omega), ht, if_neg (by omega)]
    omega
theorem fIdx_range (c : Int) : ∀ l : List Int, fIdx c l = -1 ∨ (0 ≤ fIdx c l ∧ fIdx c l < l.length)
  | [] => .inl rfl
  | x :: t => by
    have := fIdx_range c t
    rw [fIdx]
    by_cases h : c ≤ x
    · rw [if_pos h]; right; exact ⟨by omega, by rw [List.length_cons]; omega⟩
    · rw [if_neg h]
      by_cases h2 : fIdx c t < 0
      · rw [if_pos h2]; exact .inl rfl
      · rw [if_neg h2]; right; exact ⟨by omega, by rw [List.length_cons]; omega⟩
def plStep (p : List Int × List Int) (c : UInt8) : List Int × List Int :=
  if fIdx (c.toNat : Int) p.2 < 0 then (p.1 ++ [(p.2.length : Int)], (p.2 ++ [(c.toNat : Int)]).set p.2.length (c.toNat : Int)) else (p.1 ++ [fIdx (c.toNat : Int) p.2], p.2.set (fIdx (c.toNat : Int) p.2).toNat (c.toNat : Int))
theorem plStep_len (p : List Int × List Int) (c : UInt8) : (plStep p c).1.length = p.1.length + 1 ∧ (plStep p c).2.length ≤ p.2.length + 1 := by
  unfold plStep
  split <;> simp
theorem plStep_none (xs ts : List Int) (c : UInt8) (h : ∀ j, j < ts.length → ts.getD j 0 < (c.toNat : Int)) : plStep (xs, ts) c = (xs ++ [(ts.length : Int)], ts ++ [(c.toNat : Int)]) := by
  unfold plStep
  rw [fIdx_none _ _ h, if_pos (by decide)]
  simp
theorem plStep_at (xs ts : List Int) (c : UInt8) (k : Nat) (hk : k < ts.length) (h : ∀ j, j < k → ts.getD j 0 < (c.toNat : Int)) (h2 : (c.toNat : Int) ≤ ts.getD k 0) : plStep (xs, ts) c = (xs ++ [(k : Int)], ts.set k (c.toNat : Int)) := by
  unfold plStep
  rw [fIdx_at _ _ k hk h h2, if_neg (by omega), Int.toNat_natCast]
theorem pl_put {W w : World} {eX eT g n cap i : Nat} {okX okT : Nat → Prop} {xs ts : List Int} {u : Value} (HX : Kd.R (Kd.int .i64) eX W w.heap.size okX u xs) (HT : Kd.R (Kd.int .u8) eT W w.heap.size okT (.slice (some ⟨g, 0, none⟩) n cap) ts) (hne : eX ≠ eT) (c : Int) (HB : Below w.heap.size w W) (hg : w.heap.size ≤ g) :
    Kd.R (Kd.int .i64) eX (W.setCell ⟨g, i, none⟩ (.int .u8 c)) w.heap.size okX u xs ∧ Kd.R (Kd.int .u8) eT (W.setCell ⟨g, i, none⟩ (.int .u8 c)) w.heap.size okT (.slice (some ⟨g, 0, none⟩) n cap) (ts.set i c) ∧ Below w.heap.size w (W.setCell ⟨g, i, none⟩ (.int .u8 c)) := by
  have h := Kd.R_putg HT (i : Int) c
  rw [Int.toNat_natCast] at h
  refine ⟨Kd.R_over' (v := .slice (some ⟨g, 0, none⟩) n cap) HX (Kd.R_typed HT) (fun q hq => ?_) h.2, h.1, HB.setCell hg _⟩
  have : q = eX := by simpa [Kd.int, Kd.scalar] using hq
  rw [this]
  exact hne

-- given: loop.example/g01334/spec.ldPlaces

/-! ### spec_ldPlaces: by hand -/
def spec_ldPlaces.f (a0 : ByteArray) : Option (List Int × List Int) := if a0.size ≤ 1000 then some (a0.data.toList.foldl plStep ([], [])) else none
set_option maxHeartbeats 4000000 in
set_option maxRecDepth 100000 in
theorem spec_ldPlaces.calls (a0 : ByteArray) (r1 : List Int) (r2 : List Int) (w : World) (h : spec_ldPlaces.f a0 = some (r1, r2)) :
    Calls Tryd.prog 54 #[.string a0] w fun e w' => ∃ v0_ v1_ : Value, e = .returned (.tuple #[v0_, v1_]) ∧ Kd.R (Kd.int .i64) 3 w' w.heap.size (fun _ => True) v0_ r1 ∧ Kd.R (Kd.int .u8) 5 w' w.heap.size (fun _ => True) v1_ r2 ∧ Below w.heap.size w w' := by
  unfold spec_ldPlaces.f at h
  by_cases hsz : a0.size ≤ 1000
  · rw [if_pos hsz] at h
    have HRES := Aside0.mk (Option.some.inj h)
    clear h
    have hlenL : a0.data.toList.length = a0.size := rfl
    go_enter Tryd.func54, Tryd.ntmps54
    go_wp2_with fail
    go_loopg [4, 5, 6] a0.size (fun gg v4 v5 v6 wr => ∃ (kk : Nat) (xs ts : List Int), kk ≤ a0.size ∧ a0.size - kk ≤ gg ∧ v6 = .int .i64 kk ∧ xs.length ≤ kk ∧ ts.length ≤ kk ∧ Aside0 ((a0.data.toList.take kk).foldl plStep ([], []) = (xs, ts)) ∧ Aside0 (Kd.R (Kd.int .i64) 3 wr w.heap.size (fun _ => True) v4 xs) ∧ Aside0 (Kd.R (Kd.int .u8) 5 wr w.heap.size (fun _ => True) v5 ts) ∧ Aside0 (Below w.heap.size w wr))
    case atStart => exact ⟨0, [], [], by omega, by omega, rfl, by simp, by simp, ⟨rfl⟩, ⟨Kd.R_nil _ _ _ _ _⟩, ⟨Kd.R_nil _ _ _ _ _⟩, ⟨Below.refl _ _⟩⟩
    case round =>
      obtain ⟨kk, xs, ts, hkk, hgg, rfl, hxl, htl, HF, HX, HT, HB⟩ := hrel
      by_cases hlt : kk < a0.size
      · have c1 : ((kk : Int) < (a0.size : Int)) = True := eq_true (by omega)
        have c2 : (0 ≤ (kk : Int)) = True := eq_true (by omega)
        have hltL : kk < a0.data.toList.length := by rw [hlenL]; exact hlt
        have htake : a0.data.toList.take (kk + 1) = a0.data.toList.take kk ++ [a0.data.toList[kk]'hltL] := by rw [List.take_add_one, List.getElem?_eq_getElem hltL]; rfl
        have hx1 : ∀ hh : kk < a0.size, ((a0[kk]'hh).toNat : Int) = ((a0.data.toList[kk]'hltL).toNat : Int) := fun hh => by rfl
        have hx2 : ∀ hh : (kk : Int).toNat < a0.size, ((a0[(kk : Int).toNat]'hh).toNat : Int) = ((a0.data.toList[kk]'hltL).toNat : Int) := fun hh => by simp only [Int.toNat_natCast]; rfl
        generalize a0.data.toList[kk]'hltL = c at htake hx1 hx2
        have hstep : (a0.data.toList.take (kk + 1)).foldl plStep ([], []) = plStep (xs, ts) c := by rw [htake, List.foldl_append, HF.out]; rfl
        have HST := Aside0.mk hstep
        have HPL := Aside0.mk (plStep_len (xs, ts) c)
        clear hstep htake
        obtain ⟨At, ct, rfl⟩ := Kd.R_slice HT.out
        go_wp2_with fail
        go_loopg [7] ts.length (fun gg v7 w' => ∃ (j m : Nat), j ≤ ts.length ∧ ts.length - j ≤ gg ∧ v7 = .int .i64 j ∧ Aside0 (∀ t, t < j → ts.getD t 0 < (c.toNat : Int)) ∧ w' = wr.drewN m)
        case atStart => exact ⟨0, 0, by omega, by omega, rfl, ⟨fun t ht => absurd ht (Nat.not_lt_zero _)⟩, by first | rfl | simp⟩
        case round =>
          obtain ⟨j, m, hj, hgj, rfl, HL, rfl⟩ := hrel
          by_cases hjl : j < ts.length
          · obtain ⟨g, cap, e, hg1, hg2, _⟩ := Kd.R_form HT.out (by omega)
            injection e with ea _ ec
            subst ea ec
            obtain ⟨hcell, hfr⟩ := Kd.R_celln 0 HT.out (j : Int) (by omega) (by omega)
            have hy0 : rdOf 0 ts (j : Int) = ts.getD j 0 := by simp [rdOf]
            rw [hy0, Int.toNat_natCast] at hcell
            rw [Int.toNat_natCast] at hfr
            generalize hy : ts.getD j 0 = y at hcell
            have HY := Aside0.mk hy
            clear hy hy0
            have p0 : decide ((j : Int) < (ts.length : Int)) = true := decide_eq_true (by omega)
            have p1 : (0 ≤ (j : Int)) = True := eq_true (by omega)
            have p2 : ((j : Int) < (ts.length : Int)) = True := eq_true (by omega)
            cases hq : decide (y < (c.toNat : Int)) with
            | true =>
              have HQ := Aside0.mk hq
              go_wp2_with fail
              go_quiet (fail)
              go_wp2_with fail
              go_roundg (ts.length - (j + 1))
              case measure => omega
              case rel =>
                refine ⟨j + 1, _, by omega, by omega, by go_num, ⟨fun t ht => ?_⟩, rfl⟩
                by_cases e : t = j
                · subst e; rw [HY.out]; exact of_decide_eq_true HQ.out
                · exact HL.out t (by omega)
            | false =>
              have HQ := Aside0.mk hq
              go_wp2_with fail
              go_quiet (fail)
              generalize hW : (wr.drewN m).drewN nq = W
              have HX1 := Aside0.mk (hW ▸ Kd.R_drewN (Kd.R_drewN HX.out m) nq)
              have HT1 := Aside0.mk (hW ▸ Kd.R_drewN (Kd.R_drewN HT.out m) nq)
              have HB1 := Aside0.mk (hW ▸ pw_below_drewN (pw_below_drewN HB.out m) nq)
              obtain ⟨hcW, hfW⟩ := Kd.R_celln 0 HT1.out (j : Int) (by omega) (by omega)
              rw [Int.toNat_natCast] at hcW hfW
              have hput := pl_put (i := j) HX1.out HT1.out (by decide) (c.toNat : Int) HB1.out hg1
              have HX2 := Aside0.mk hput.1
              have HT2 := Aside0.mk hput.2.1
              have HB2 := Aside0.mk hput.2.2
              have HPS := Aside0.mk (plStep_at xs ts c j hjl HL.out (by rw [HY.out]; have := of_decide_eq_false HQ.out; omega))
              have p5 : decide ((j : Int) = (ts.length : Int)) = false := decide_eq_false (by omega)
              have p6 : ((j : Int) == (ts.length : Int)) = false := by rw [beq_eq_false_iff_ne]; omega
              clear hput hq hcell hfr
              go_wp2_with (first | ((with_reducible refine gate_builtin (b := .append) (xs := #[.tmp 43, .tmp 45]) rfl ?_); at_builtin; refine Kd.R_append (Kd.int .i64) (w0 := w) w.heap.size rfl (.tmp 43) (.tmp 45) 28 3 (.int .i64 0) 8 rfl Tryd.underlying28 (by kernel_rfl) rfl (by decide) (by omega) u4 xs (j : Int) [.int .i64 (j : Int)] (fun _ => True) (fun _ => False) rfl ?aXa ?aPa (fun _ hk => hk.elim) ?aFa ?aOa ?aBa ?aSa ?aLa ?_; (case aXa => first | rfl | (refine Eq.trans rfl (congrArg (fun n => Value.slice (some ⟨n, 0, none⟩) 1 1) (?_ : W.heap.size = _)); simp)); (case aPa => exact rfl); (case aBa => exact (by repeat (first | exact HB2.out | apply below_alloc | apply pw_below_drewN))); (case aFa => exact (fun _ _ => trivial)); (case aOa => exact (by (with_reducible repeat (first | apply Kd.R_alloc | apply Kd.R_drewN | apply Kd.R_drew)); exact HX2.out)); (case aSa => exact (below_size (by repeat (first | exact HB2.out | apply below_alloc | apply pw_below_drewN)))); (case aLa => omega); intro v9 w9 ho hb hg hat; have HX9 := Aside0.mk ho; have HT9 := Aside0.mk (Kd.R_over' (v := u4) (by (with_reducible repeat (first | apply Kd.R_alloc | apply Kd.R_drewN | apply Kd.R_drew)); exact HT2.out) (Kd.R_typed (by (with_reducible repeat (first | apply Kd.R_alloc | apply Kd.R_drewN | apply Kd.R_drew)); exact HX2.out)) (by decide) hg); have HB9 := Aside0.mk hb;  clear ho hb hg hat))
              go_roundg (a0.size - (kk + 1))
              case measure => omega
              case rel =>
                refine ⟨kk + 1, xs ++ [(j : Int)], ts.set j (c.toNat : Int), by omega, by omega, by go_num, by simp; omega, by simp; omega, ⟨HST.out.trans HPS.out⟩, HX9, ⟨?_⟩, HB9⟩
                exact HT9.out
          · obtain rfl : j = ts.length := by omega
            have p0 : decide ((ts.length : Int) < (ts.length : Int)) = false := decide_eq_false (by omega)
            have p1 : (0 ≤ (ts.length : Int)) = True := eq_true (by omega)
            have HPS := Aside0.mk (plStep_none xs ts c HL.out)
            go_wp2_with fail
            go_quiet (fail)
            generalize hW : (wr.drewN m).drewN nq = W
            have HX1 := Aside0.mk (hW ▸ Kd.R_drewN (Kd.R_drewN HX.out m) nq)
            have HT1 := Aside0.mk (hW ▸ Kd.R_drewN (Kd.R_drewN HT.out m) nq)
            have HB1 := Aside0.mk (hW ▸ pw_below_drewN (pw_below_drewN HB.out m) nq)
            obtain ⟨T, hT⟩ : ∃ T, T = ts ++ [(0 : Int)] := ⟨_, rfl⟩
            have hTl : T.length = ts.length + 1 := by rw [hT]; simp
            have hTs : T.set ts.length (c.toNat : Int) = ts ++ [(c.toNat : Int)] := by rw [hT]; simp
            have p2 : ((ts.length : Int) < (T.length : Int)) = True := eq_true (by omega)
            have HTT := Aside0.mk (And.intro hT hTs)
            clear hT hTs
            go_wp2_with (first | ((with_reducible refine gate_builtin (b := .append) (xs := #[.tmp 34, .tmp 35]) rfl ?_); at_builtin; refine Kd.R_append (Kd.int .u8) (w0 := w) w.heap.size rfl (.tmp 34) (.tmp 35) 47 5 (.int .u8 0) 1 rfl Tryd.underlying47 (by kernel_rfl) rfl (by decide) (by omega) (.slice At ts.length ct) ts 0 [.int .u8 0] (fun _ => True) (fun _ => False) rfl rfl ?bP (fun _ hk => hk.elim) ?bF ?bO ?bB ?bS ?bL ?_; (case bP => exact rfl); (case bB => exact (by repeat (first | exact HB1.out | apply below_alloc | apply pw_below_drewN))); (case bF => exact (fun _ _ => trivial)); (case bO => exact (by (with_reducible repeat (first | apply Kd.R_alloc | apply Kd.R_drewN | apply Kd.R_drew)); exact HT1.out)); (case bS => exact (below_size (by repeat (first | exact HB1.out | apply below_alloc | apply pw_below_drewN)))); (case bL => omega); intro v6 w6 ho hb hg hat; rw [← HTT.out.1] at ho; have HX6 := Aside0.mk (Kd.R_over' (v := .slice At ts.length ct) (by (with_reducible repeat (first | apply Kd.R_alloc | apply Kd.R_drewN | apply Kd.R_drew)); exact HX1.out) (Kd.R_typed (by (with_reducible repeat (first | apply Kd.R_alloc | apply Kd.R_drewN | apply Kd.R_drew)); exact HT1.out)) (by decide) hg); have HT6 := Aside0.mk ho; have HB6 := Aside0.mk hb; clear ho hb hg hat; obtain ⟨g, cap, rfl, hg1, hg2, _⟩ := Kd.R_form HT6.out (by omega); obtain ⟨hcW, hfW⟩ := Kd.R_celln 0 HT6.out (ts.length : Int) (by omega) (by omega); rw [Int.toNat_natCast] at hcW hfW; have hput := pl_put (i := ts.length) HX6.out HT6.out (by decide) (c.toNat : Int) HB6.out hg1; rw [HTT.out.2] at hput; have HX2 := Aside0.mk hput.1; have HT2 := Aside0.mk hput.2.1; have HB2 := Aside0.mk hput.2.2; clear hput) | ((with_reducible refine gate_builtin (b := .append) (xs := #[.tmp 43, .tmp 45]) rfl ?_); at_builtin; refine Kd.R_append (Kd.int .i64) (w0 := w) w.heap.size rfl (.tmp 43) (.tmp 45) 28 3 (.int .i64 0) 8 rfl Tryd.underlying28 (by kernel_rfl) rfl (by decide) (by omega) u4 xs (ts.length : Int) [.int .i64 (ts.length : Int)] (fun _ => True) (fun _ => False) rfl ?aXb ?aPb (fun _ hk => hk.elim) ?aFb ?aOb ?aBb ?aSb ?aLb ?_; (case aXb => first | rfl | (refine Eq.trans rfl (congrArg (fun n => Value.slice (some ⟨n, 0, none⟩) 1 1) (?_ : w6.heap.size = _)); simp)); (case aPb => exact rfl); (case aBb => exact (by repeat (first | exact HB2.out | apply below_alloc | apply pw_below_drewN))); (case aFb => exact (fun _ _ => trivial)); (case aOb => exact (by (with_reducible repeat (first | apply Kd.R_alloc | apply Kd.R_drewN | apply Kd.R_drew)); exact HX2.out)); (case aSb => exact (below_size (by repeat (first | exact HB2.out | apply below_alloc | apply pw_below_drewN)))); (case aLb => omega); intro v9 w9 ho hb hg hat; have HX9 := Aside0.mk ho; have HT9 := Aside0.mk (Kd.R_over' (v := u4) (by (with_reducible repeat (first | apply Kd.R_alloc | apply Kd.R_drewN | apply Kd.R_drew)); exact HT2.out) (Kd.R_typed (by (with_reducible repeat (first | apply Kd.R_alloc | apply Kd.R_drewN | apply Kd.R_drew)); exact HX2.out)) (by decide) hg); have HB9 := Aside0.mk hb;  clear ho hb hg hat))
            go_roundg (a0.size - (kk + 1))
            case measure => omega
            case rel =>
              refine ⟨kk + 1, xs ++ [(ts.length : Int)], ts ++ [(c.toNat : Int)], by omega, by omega, by go_num, by simp; omega, by simp; omega, ⟨HST.out.trans HPS.out⟩, HX9, ⟨?_⟩, HB9⟩
              have ht9 := HT9.out
              first | exact ht9 | (rw [hTl] at ht9; exact ht9)
      · have c1 : ((kk : Int) < (a0.size : Int)) = False := eq_false (by omega)
        obtain rfl : kk = a0.size := by omega
        have hf := HF.out
        rw [show a0.data.toList.take a0.size = a0.data.toList from List.take_of_length_le (by rw [hlenL]; exact Nat.le_refl _), HRES.out] at hf
        obtain ⟨rfl, rfl⟩ := Prod.mk.inj hf
        go_wp2_with fail
        go_ret2
        exact ⟨_, _, rfl, HX.out, HT.out, HB.out⟩
  · rw [if_neg hsz] at h
    exact absurd h (by simp)

/-! ### spec_PlacesOfBoxes: function 33 -/
def spec_PlacesOfBoxes.f (k : Nat) (a0 : ByteArray) : Option (List Int × Bool) := (spec_ldGood.f k a0).bind fun t106 => (if t106 = true then ((spec_ldPlaces.f a0).bind fun bt107 => (some (bt107.1, true))) else (some (([] : List Int), false)))
theorem spec_PlacesOfBoxes.mono : ∀ a0 k, LeO (spec_PlacesOfBoxes.f k a0) (spec_PlacesOfBoxes.f (k + 1) a0) := by
  intro a0 k
  unfold spec_PlacesOfBoxes.f
  repeat' first
      | (with_reducible exact spec_ldGood.mono _ _)
      | (with_reducible exact LeO.refl _)
      | (with_reducible exact LeO.none _)
      | (with_reducible refine LeO.ite ?_ ?_)
      | (with_reducible refine LeO.bind ?_ (fun _ => ?_))
      | exact spec_ldGood.mono _ _
      | exact LeO.none _
      | refine LeO.ite ?_ ?_
      | refine LeO.bind ?_ (fun _ => ?_)
set_option maxHeartbeats 8000000 in
set_option maxRecDepth 100000 in
theorem spec_PlacesOfBoxes.calls (k : Nat) (a0 : ByteArray) (r1 : List Int) (r2 : Bool) (w : World) (h : spec_PlacesOfBoxes.f k a0 = some (r1, r2)) :
    Calls Tryd.prog 33 #[.string a0] w fun e w' => ∃ v0_ : Value, e = .returned (.tuple #[v0_, .bool r2]) ∧ Kd.R (Kd.int .i64) 3 w' w.heap.size (fun _ => True) v0_ r1 ∧ Below w.heap.size w w' := by
  have HB := Aside0.mk (Below.refl w.heap.size w)
  have H : ((spec_ldGood.f k a0).bind fun t106 => (if t106 = true then ((spec_ldPlaces.f a0).bind fun bt107 => (some (bt107.1, true))) else (some (([] : List Int), false)))) = some (r1, r2) := h
  clear h
  replace H := Option.bind_eq_some_iff.mp H
  obtain ⟨t106, A20, H⟩ := H
  replace H : (if t106 = true then ((spec_ldPlaces.f a0).bind fun bt107 => (some (bt107.1, true))) else (some (([] : List Int), false))) = some (r1, r2) := H
  have A2 := Aside0.mk A20
  clear A20
  by_cases c3 : t106 = true
  · subst c3
    have H1 : ((spec_ldPlaces.f a0).bind fun bt107 => (some (bt107.1, true))) = some (r1, r2) := by rw [if_pos rfl] at H; exact H
    clear H
    have H := H1
    clear H1
    replace H := Option.bind_eq_some_iff.mp H
    obtain ⟨⟨t107, t108⟩, A40, H⟩ := H
    replace H : (some (t107, true)) = some (r1, r2) := H
    have A4 := Aside0.mk A40
    clear A40
    simp only [Option.some.injEq, Prod.mk.injEq] at H
    obtain ⟨rfl, rfl⟩ := H
    go_enter Tryd.func33, Tryd.ntmps33
    go_wp2_with (first | ((with_reducible refine gate_callee (f := 46) rfl ?_); refine goesL_ (some 7) rfl rfl Tryd.func46 (by kernel_rfl) rfl #[.string a0] rfl (by (try simp only [List.map_toArray, List.map_cons, List.map_nil]); first | done | rfl | (simp only [List.length_drop, List.length_take]; rfl)) ?_; (with_reducible refine (spec_ldGood.calls k a0 true _ A2.out).mono ?_); rintro e w' ⟨rfl, ⟨nd, rfl⟩⟩; refine ⟨_, rfl, ?_⟩) | ((with_reducible refine gate_callee (f := 54) rfl ?_); refine goesL_ (some 11) rfl rfl Tryd.func54 (by kernel_rfl) rfl #[.string a0] rfl (by (try simp only [List.map_toArray, List.map_cons, List.map_nil]); first | done | rfl | (simp only [List.length_drop, List.length_take]; rfl)) ?_; (with_reducible refine (spec_ldPlaces.calls a0 t107 t108 _ A4.out).mono ?_); rintro e w5 ⟨v109, v111, rfl, ho0, ho1, hb⟩; refine ⟨_, rfl, ?_⟩; have n0_ := Aside0.mk (Kd.R_lower ho0 (below_size (by repeat (first | (with_reducible first | exact HB.out | apply below_alloc | apply pw_below_drewN | apply below_drew1) | exact HB.out)))); have n1_ := Aside0.mk (Kd.R_lower ho1 (below_size (by repeat (first | (with_reducible first | exact HB.out | apply below_alloc | apply pw_below_drewN | apply below_drew1) | exact HB.out)))); have n2_ := Aside0.mk (below_step (by repeat (first | (with_reducible first | exact HB.out | apply below_alloc | apply pw_below_drewN | apply below_drew1) | exact HB.out)) hb); clear HB; have HO110 := n0_; have HO112 := n1_; have HB := n2_; clear n0_ n1_ n2_; (try clear hb); (try clear hb2); (try clear hk); (try clear hi); (try clear ho0); (try clear ho1)))
    go_ret2
    exact ⟨_, by first | rfl | (simp [errW_none, errW_some] <;> rfl) | (simp [*, errW_none, errW_some] <;> rfl), by (with_reducible repeat (first | apply Kd.R_alloc | apply Kd.R_drewN | apply Kd.R_drew)); exact HO110.out, by repeat (first | (with_reducible first | exact HB.out | apply below_alloc | apply pw_below_drewN | apply below_drew1) | exact HB.out)⟩
  · replace c3 := Bool.eq_false_iff.mpr c3
    subst c3
    have H1 : (some (([] : List Int), false)) = some (r1, r2) := by rw [if_neg (show ¬ (false = true) by decide)] at H; exact H
    clear H
    have H := H1
    clear H1
    simp only [Option.some.injEq, Prod.mk.injEq] at H
    obtain ⟨rfl, rfl⟩ := H
    go_enter Tryd.func33, Tryd.ntmps33
    go_wp2_with (first | ((with_reducible refine gate_callee (f := 46) rfl ?_); refine goesL_ (some 7) rfl rfl Tryd.func46 (by kernel_rfl) rfl #[.string a0] rfl (by (try simp only [List.map_toArray, List.map_cons, List.map_nil]); first | done | rfl | (simp only [List.length_drop, List.length_take]; rfl)) ?_; (with_reducible refine (spec_ldGood.calls k a0 false _ A2.out).mono ?_); rintro e w' ⟨rfl, ⟨nd, rfl⟩⟩; refine ⟨_, rfl, ?_⟩))
    go_ret2
    exact ⟨_, by first | rfl | (simp [errW_none, errW_some] <;> rfl) | (simp [*, errW_none, errW_some] <;> rfl), by first | exact Kd.R_nil _ _ _ _ _ | exact Kd.N_nil _ _ _ _ _ | exact Kd.V_nil _ _ _ _ _ | exact Kd.Q_nil _ _ _ _ _ | exact Kd.S_nil _ _ _ _ _, by repeat (first | (with_reducible first | exact HB.out | apply below_alloc | apply pw_below_drewN | apply below_drew1) | exact HB.out)⟩

-- given: strings.Trim

/-! ### strings.Trim at an ASCII cutset, by its contract -/
def strings_Trim.f (a0 a1 : ByteArray) : Option ByteArray := if a0.size ≤ 9223372036854775807 ∧ a1.size < 4294967281 ∧ a1.data.toList.all (fun b => decide (b.toNat < 128)) = true then some ⟨(Lib.trimS a0.data.toList a1.data.toList).toArray⟩ else none
theorem strings_Trim.calls (a0 a1 : ByteArray) (r : ByteArray) (w : World) (h : strings_Trim.f a0 a1 = some r) :
    Calls Tryd.prog 47 #[.string a0, .string a1] w fun e w' => e = .returned (.string r) ∧ Below w.heap.size w w' := by
  unfold strings_Trim.f at h
  split at h
  · rename_i hc
    obtain rfl := Option.some.inj h
    exact Any.strings_Trim_laid Tryd.lays160 (by kernel_rfl) a0 a1 w hc.1 hc.2.1 (ascii_of_all hc.2.2)
  · cases h

/-! ### impl_IsLoading: function 17 -/
def impl_IsLoading.f (a0 : ByteArray) : Option (Bool) := if (a0.size : Int) ≤ 12 then ((strings_Trim.f a0 (⟨#[49, 50, 51, 52, 53, 54, 55, 56, 57]⟩ : ByteArray)).bind fun t113 => (some (t113.toList == ([] : List UInt8)))) else (some false)
set_option maxHeartbeats 8000000 in
set_option maxRecDepth 100000 in
theorem impl_IsLoading.calls (a0 : ByteArray) (r : Bool) (w : World) (h : impl_IsLoading.f a0 = some r) :
    Calls Tryd.prog 17 #[.string a0] w fun e w' => e = .returned (.bool r) ∧ Below w.heap.size w w' := by
  have HB := Aside0.mk (Below.refl w.heap.size w)
  have H : (if (a0.size : Int) ≤ 12 then ((strings_Trim.f a0 (⟨#[49, 50, 51, 52, 53, 54, 55, 56, 57]⟩ : ByteArray)).bind fun t113 => (some (t113.toList == ([] : List UInt8)))) else (some false)) = some r := h
  clear h
  by_cases c2 : (a0.size : Int) ≤ 12
  · rw [if_pos c2] at H
    have c2b0 : decide ((a0.size : Int) ≤ 12) = true := decide_eq_true c2
    have c2b1 : decide (a0.size ≤ 12) = true := decide_eq_true (by omega)
    clear c2
    replace H := Option.bind_eq_some_iff.mp H
    obtain ⟨t113, A30, H⟩ := H
    replace H : (some (t113.toList == ([] : List UInt8))) = some r := H
    have A3 := Aside0.mk A30
    clear A30
    obtain rfl := Option.some.inj H
    go_enter Tryd.func17, Tryd.ntmps17
    go_wp2_with (first | (go_at_call 47; (with_reducible refine (strings_Trim.calls a0 (⟨#[49, 50, 51, 52, 53, 54, 55, 56, 57]⟩ : ByteArray) t113 _ A3.out).mono ?_); rintro e w4 ⟨rfl, hb⟩; have n0_ := Aside0.mk (below_step (by repeat (first | (with_reducible first | exact HB.out | apply below_alloc | apply pw_below_drewN | apply below_drew1) | exact HB.out)) hb); clear HB; have HB := n0_; clear n0_; (try clear hb); (try clear hb2); (try clear hk); (try clear hi)))
    go_ret
    exact ⟨by first | rfl | (simp [errW_none, errW_some] <;> rfl) | (simp [*, errW_none, errW_some] <;> rfl), by repeat (first | (with_reducible first | exact HB.out | apply below_alloc | apply pw_below_drewN | apply below_drew1) | exact HB.out)⟩
  · rw [if_neg c2] at H
    have c2b0 : decide ((a0.size : Int) ≤ 12) = false := decide_eq_false c2
    have c2b1 : decide (a0.size ≤ 12) = false := decide_eq_false (by omega)
    clear c2
    obtain rfl := Option.some.inj H
    go_enter Tryd.func17, Tryd.ntmps17
    go_wp2
    go_ret
    exact ⟨by first | rfl | (simp [errW_none, errW_some] <;> rfl) | (simp [*, errW_none, errW_some] <;> rfl), by repeat (first | (with_reducible first | exact HB.out | apply below_alloc | apply pw_below_drewN | apply below_drew1) | exact HB.out)⟩

-- given: part bytesrow
/-! ### the bytes of a string in a row that a conversion made -/
def BytesAt (w : World) (b : Nat) (s : ByteArray) : Prop := ∀ j (h : j < s.data.toList.length), w.cell? ⟨b, j, none⟩ = some (.int .u8 ((s.data.toList[j]'h).toNat : Int))
theorem BytesAt.made (w : World) (e : TypeId) (s : ByteArray) : BytesAt (Lib.bytesWorld w e s) w.heap.size s := by
  intro j h
  rw [Lib.bytesWorld_cell w e s j h]
  congr 3
  simp [List.getD, List.getElem?_eq_getElem h]
theorem BytesAt.below {w w' : World} {b : Nat} {s : ByteArray} (h : BytesAt w b s) (hb : Below w.heap.size w w') : BytesAt w' b s :=
  fun j hj => (hb.cell (World.block_lt_of_cell? w _ (h j hj))).trans (h j hj)
theorem BytesAt.grown {w w' : World} {b : Nat} {s : ByteArray} {o : Option Nat} (h : BytesAt w b s) (hg : w.grownBy w' o) (hne : some b ≠ o) : BytesAt w' b s := by
  intro j hj
  have h1 := h j hj
  rw [← h1]
  unfold World.cell?
  rw [hg.block b (World.block_lt_of_cell? w _ h1) hne]
theorem below_bytes (w : World) (e : TypeId) (s : ByteArray) : Below w.heap.size w (Lib.bytesWorld w e s) :=
  ⟨by simp [Lib.bytesWorld, World.freeze, World.alloc, World.drew, -World.alloc_eq, -World.drew_eq], by simp [Lib.bytesWorld, World.freeze, World.alloc, World.drew, -World.alloc_eq, -World.drew_eq], by simp [Lib.bytesWorld, World.freeze, World.alloc, World.drew, -World.alloc_eq, -World.drew_eq], by rw [Lib.bytesWorld_size]; omega, fun k hk => Lib.bytesWorld_at_old w e s k hk⟩
theorem R_empty {α : Type} (d : Kd α) (W : World) (e base : Nat) (ok : Nat → Prop) (hfresh : ok W.heap.size) (hbase : base ≤ W.heap.size) : d.R e (W.alloc (.cells #[] e)) base ok (.slice (some ⟨W.heap.size, 0, none⟩) 0 0) [] := by
  refine ⟨fun k hk => ?_, [], ?_, Reps.none _ _⟩
  · have : W.heap.size = k := by simpa [Value.ownBlock] using hk
    subst this
    exact hfresh
  · have h2 := World.ownsRow_lit (base := base) (e := e) (size := d.sz) W #[] 0 hbase (by simp [maxLen]) (by simp)
    simpa using h2
theorem two_bytes (w : World) (e : TypeId) (x y : Int) : Kd.C (Kd.int .u8) (w.alloc (.cells #[.int .u8 x, .int .u8 y] e)) (some ⟨w.heap.size, 0, none⟩) 2 [x, y] := by
  refine ⟨rfl, by omega, fun _ => ⟨_, rfl, fun j p hj => ?_⟩⟩
  match j, hj with
  | 0, hj =>
    obtain rfl := Option.some.inj hj
    refine ⟨[.int .u8 x], rfl, rfl, fun i u hu => ?_⟩
    match i, hu with
    | 0, hu => obtain rfl := Option.some.inj hu; simp [Kd.int, Kd.scalar, Addr.add]
    | i + 1, hu => simp at hu
  | 1, hj =>
    obtain rfl := Option.some.inj hj
    refine ⟨[.int .u8 y], rfl, rfl, fun i u hu => ?_⟩
    match i, hu with
    | 0, hu => obtain rfl := Option.some.inj hu; simp [Kd.int, Kd.scalar, Addr.add]
    | i + 1, hu => simp at hu
  | j + 2, hj => simp at hj
theorem one_string {P : Program} {W : World} {e' src dst e : TypeId} (hs : P.underlying src = some (.slice e)) (he : P.underlying e = some (.int .u8)) (hd : P.underlying dst = some .string) (c : UInt8) (x : Int) (hx : x = (c.toNat : Int)) (B : Nat) (hB : B = W.heap.size) :
    (convert src dst (.slice (some ⟨B, 0, none⟩) 1 1)).run P (W.alloc (.cells #[.int .u8 x] e')) = .ok (.string ⟨#[c]⟩) (W.alloc (.cells #[.int .u8 x] e')) := by
  subst hx hB
  have h := run_convert_bytes_arg (W.alloc (.cells #[.int .u8 (c.toNat : Int)] e')) src e hs he W.heap.size 0 1 1 [(c.toNat : Int)] rfl (fun i hi => by
    obtain rfl : i = 0 := by omega
    unfold World.cell?
    rw [heap_alloc_new]
    rfl) dst hd
  rw [h]
  simp [strOfNums]

end Go.Proofs.YtoimgbcbmbpfaaaDoor.L

-- Written by the session's program wip/myprint.py (over the kit's print); the given parts by hand.
import Derived.Test.YtcijldnkigmfeaaM0
import Derived.Test.YtcijldnkigmfeaaM5
namespace Go.Proofs.Ytcijldnkigmfeaa.M
open Go.RowKit Go.Proofs.YtcijldnkigmfeaaW.PrintWords Go.Proofs.YtcijldnkigmfeaaW.PrintLast Go.Proofs.YtcijldnkigmfeaaW.PrintMore
attribute [local go_sem] max2_int min2_int max_two min_two max_three min_three max_four min_four   -- for this text's walks alone
set_option linter.unusedVariables false
set_option linter.unusedSimpArgs false

/-! ### spec_bdCut: function 72 -/
mutual
def spec_bdCut.j0 : Nat → List (List Int) → Int → Int → Bool → Option (Bool × Int × Bool)
  | 0, _, _, _, _ => none
  | k + 1, x0, x1, x2, x37 => if x37 = true then (some (false, 0, false)) else (spec_bdCut.l0 k x0 x1 x2 1)
def spec_bdCut.l0 : Nat → List (List Int) → Int → Int → Int → Option (Bool × Int × Bool)
  | 0, _, _, _, _ => none
  | k + 1, x0, x1, x2, x13 => if (wrap64 (2 * x13)) ≤ x1 then (if 0 ≤ x13 then (if x13 < (x0.length : Int) then (if 0 ≤ x2 then (if x2 < ((rd_L3 x0 x13).length : Int) then (if 0 ≤ (wrap64 (x1 - x13)) then (if (wrap64 (x1 - x13)) < (x0.length : Int) then (if x2 < ((rd_L3 x0 (wrap64 (x1 - x13))).length : Int) then (if 0 ≤ x1 then (if x1 < (x0.length : Int) then (if x2 < ((rd_L3 x0 x1).length : Int) then (if (wrap64 ((rd (rd_L3 x0 x13) x2) + (rd (rd_L3 x0 (wrap64 (x1 - x13))) x2))) = (rd (rd_L3 x0 x1) x2) then (some (true, x13, true)) else (spec_bdCut.l0 k x0 x1 x2 (wrap64 (x13 + 1)))) else (none)) else (none)) else (none)) else (none)) else (none)) else (none)) else (none)) else (none)) else (none)) else (none)) else (spec_bdCut.l1 k x0 x1 x2 1)
def spec_bdCut.l1 : Nat → List (List Int) → Int → Int → Int → Option (Bool × Int × Bool)
  | 0, _, _, _, _ => none
  | k + 1, x0, x1, x2, x14 => if (wrap64 (2 * x14)) ≤ x2 then (if 0 ≤ x1 then (if x1 < (x0.length : Int) then (if 0 ≤ x14 then (if x14 < ((rd_L3 x0 x1).length : Int) then (if 0 ≤ (wrap64 (x2 - x14)) then (if (wrap64 (x2 - x14)) < ((rd_L3 x0 x1).length : Int) then (if 0 ≤ x2 then (if x2 < ((rd_L3 x0 x1).length : Int) then (if (wrap64 ((rd (rd_L3 x0 x1) x14) + (rd (rd_L3 x0 x1) (wrap64 (x2 - x14))))) = (rd (rd_L3 x0 x1) x2) then (some (false, x14, true)) else (spec_bdCut.l1 k x0 x1 x2 (wrap64 (x14 + 1)))) else (none)) else (none)) else (none)) else (none)) else (none)) else (none)) else (none)) else (none)) else (some (false, 0, false))
end
def spec_bdCut.f (k : Nat) (l0 : List (List Int)) (a1 : Int) (a2 : Int) (l3 : List (S35)) (a4 : Bool) : Option (Bool × Int × Bool) := if 0 ≤ a1 then (if a1 < (l0.length : Int) then (if 0 ≤ a2 then (if a2 < ((rd_L3 l0 a1).length : Int) then (if (rd (rd_L3 l0 a1) a2) = 0 then (spec_bdCut.j0 k l0 a1 a2 true) else ((spec_bdKind.f k a1 a2 (rd (rd_L3 l0 a1) a2) l3 a4).bind fun t160 => (spec_bdCut.j0 k l0 a1 a2 (decide (t160 ≥ 0))))) else (none)) else (none)) else (none)) else (none)
theorem spec_bdCut.mono_l : ∀ k, (∀ y0 y1 y2 y3, LeO (spec_bdCut.j0 k y0 y1 y2 y3) (spec_bdCut.j0 (k + 1) y0 y1 y2 y3)) ∧ (∀ y0 y1 y2 y3, LeO (spec_bdCut.l0 k y0 y1 y2 y3) (spec_bdCut.l0 (k + 1) y0 y1 y2 y3)) ∧ (∀ y0 y1 y2 y3, LeO (spec_bdCut.l1 k y0 y1 y2 y3) (spec_bdCut.l1 (k + 1) y0 y1 y2 y3))
  | 0 => ⟨fun _ _ _ _ r h => by simp [spec_bdCut.j0] at h, fun _ _ _ _ r h => by simp [spec_bdCut.l0] at h, fun _ _ _ _ r h => by simp [spec_bdCut.l1] at h⟩
  | k + 1 => by
    obtain ⟨ih0, ih1, ih2⟩ := spec_bdCut.mono_l k
    refine ⟨?_, ?_, ?_⟩
    · intro y0 y1 y2 y3
      unfold spec_bdCut.j0
      repeat' first
      | (with_reducible exact ih0 _ _ _ _)
      | (with_reducible exact ih1 _ _ _ _)
      | (with_reducible exact ih2 _ _ _ _)
      | (with_reducible exact spec_bdKind.mono _ _ _ _ _ _)
      | (with_reducible exact LeO.refl _)
      | (with_reducible exact LeO.none _)
      | (with_reducible refine LeO.ite ?_ ?_)
      | (with_reducible refine LeO.bind ?_ (fun _ => ?_))
      | exact ih0 _ _ _ _
      | exact ih1 _ _ _ _
      | exact ih2 _ _ _ _
      | exact spec_bdKind.mono _ _ _ _ _ _
      | exact LeO.none _
      | refine LeO.ite ?_ ?_
      | refine LeO.bind ?_ (fun _ => ?_)
    · intro y0 y1 y2 y3
      unfold spec_bdCut.l0
      repeat' first
      | (with_reducible exact ih0 _ _ _ _)
      | (with_reducible exact ih1 _ _ _ _)
      | (with_reducible exact ih2 _ _ _ _)
      | (with_reducible exact spec_bdKind.mono _ _ _ _ _ _)
      | (with_reducible exact LeO.refl _)
      | (with_reducible exact LeO.none _)
      | (with_reducible refine LeO.ite ?_ ?_)
      | (with_reducible refine LeO.bind ?_ (fun _ => ?_))
      | exact ih0 _ _ _ _
      | exact ih1 _ _ _ _
      | exact ih2 _ _ _ _
      | exact spec_bdKind.mono _ _ _ _ _ _
      | exact LeO.none _
      | refine LeO.ite ?_ ?_
      | refine LeO.bind ?_ (fun _ => ?_)
    · intro y0 y1 y2 y3
      unfold spec_bdCut.l1
      repeat' first
      | (with_reducible exact ih0 _ _ _ _)
      | (with_reducible exact ih1 _ _ _ _)
      | (with_reducible exact ih2 _ _ _ _)
      | (with_reducible exact spec_bdKind.mono _ _ _ _ _ _)
      | (with_reducible exact LeO.refl _)
      | (with_reducible exact LeO.none _)
      | (with_reducible refine LeO.ite ?_ ?_)
      | (with_reducible refine LeO.bind ?_ (fun _ => ?_))
      | exact ih0 _ _ _ _
      | exact ih1 _ _ _ _
      | exact ih2 _ _ _ _
      | exact spec_bdKind.mono _ _ _ _ _ _
      | exact LeO.none _
      | refine LeO.ite ?_ ?_
      | refine LeO.bind ?_ (fun _ => ?_)
theorem spec_bdCut.mono : ∀ a0 a1 a2 a3 a4 k, LeO (spec_bdCut.f k a0 a1 a2 a3 a4) (spec_bdCut.f (k + 1) a0 a1 a2 a3 a4) := by
  intro a0 a1 a2 a3 a4 k
  obtain ⟨ih0, ih1, ih2⟩ := spec_bdCut.mono_l k
  unfold spec_bdCut.f
  repeat' first
      | (with_reducible exact ih0 _ _ _ _)
      | (with_reducible exact ih1 _ _ _ _)
      | (with_reducible exact ih2 _ _ _ _)
      | (with_reducible exact spec_bdKind.mono _ _ _ _ _ _)
      | (with_reducible exact LeO.refl _)
      | (with_reducible exact LeO.none _)
      | (with_reducible refine LeO.ite ?_ ?_)
      | (with_reducible refine LeO.bind ?_ (fun _ => ?_))
      | exact ih0 _ _ _ _
      | exact ih1 _ _ _ _
      | exact ih2 _ _ _ _
      | exact spec_bdKind.mono _ _ _ _ _ _
      | exact LeO.none _
      | refine LeO.ite ?_ ?_
      | refine LeO.bind ?_ (fun _ => ?_)
set_option maxHeartbeats 8000000 in
set_option maxRecDepth 100000 in
theorem spec_bdCut.calls (k : Nat) (A0 : Option Addr) (c0 : Nat) (l0 : List (List Int)) (a1 : Int) (a2 : Int) (A3 : Option Addr) (c3 : Nat) (l3 : List (S35)) (a4 : Bool) (r1 : Bool) (r2 : Int) (r3 : Bool) (w : World) (hr0 : Kd.C (Kd.slice 3 (Kd.int .i64)) w A0 l0.length l0) (hc0 : l0.length ≤ c0) (hr3 : Kd.C k35 w A3 l3.length l3) (hc3 : l3.length ≤ c3) (h : spec_bdCut.f k l0 a1 a2 l3 a4 = some (r1, r2, r3)) :
    Calls Try.prog 72 #[.slice A0 l0.length c0, .int .i64 a1, .int .i64 a2, .slice A3 l3.length c3, .bool a4] w fun e w' => e = .returned (.tuple #[.bool r1, .int .i64 r2, .bool r3]) ∧ Below w.heap.size w w' := by
  have HR0 := Aside0.mk hr0
  have HC0 := Aside0.mk hc0
  clear hr0 hc0
  have HR3 := Aside0.mk hr3
  have HC3 := Aside0.mk hc3
  clear hr3 hc3
  have HB := Aside0.mk (Below.refl w.heap.size w)
  have H : (if 0 ≤ a1 then (if a1 < (l0.length : Int) then (if 0 ≤ a2 then (if a2 < ((rd_L3 l0 a1).length : Int) then (if (rd (rd_L3 l0 a1) a2) = 0 then (spec_bdCut.j0 k l0 a1 a2 true) else ((spec_bdKind.f k a1 a2 (rd (rd_L3 l0 a1) a2) l3 a4).bind fun t160 => (spec_bdCut.j0 k l0 a1 a2 (decide (t160 ≥ 0))))) else (none)) else (none)) else (none)) else (none)) = some (r1, r2, r3) := h
  clear h
  have HC6 := Aside0.mk H
  clear H
  go_enter Try.func72, Try.ntmps72
  go_upto_region 1 with (fail)
  repeat (go_quiet (fail); go_upto_region 1 with (fail))
  go_cut [37] (fun v37 wc => ∃ (kq : Nat) (x37_5 : Bool), v37 = .bool x37_5 ∧ Aside0 (spec_bdCut.j0 kq l0 a1 a2 x37_5 = some (r1, r2, r3)) ∧ Aside0 (kq ≤ k) ∧ Aside0 (Below w.heap.size w wc))
  case first =>
    have H := HC6.out
    clear HC6
    by_cases c7 : 0 ≤ a1
    · rw [if_pos c7] at H
      have c7b0 : decide (0 ≤ a1) = true := decide_eq_true c7
      clear c7
      (first | rw [c7b0] | (simp only [i64_w, i32_w]; rw [c7b0]) | skip)
      by_cases c8 : a1 < (l0.length : Int)
      · rw [if_pos c8] at H
        have c8b0 : decide (a1 < (l0.length : Int)) = true := decide_eq_true c8
        clear c8
        by_cases c9 : 0 ≤ a2
        · rw [if_pos c9] at H
          have c9b0 : decide (0 ≤ a2) = true := decide_eq_true c9
          clear c9
          by_cases c10 : a2 < ((rd_L3 l0 a1).length : Int)
          · rw [if_pos c10] at H
            have c10b0 : decide (a2 < ((rd_L3 l0 a1).length : Int)) = true := decide_eq_true c10
            clear c10
            by_cases c11 : (rd (rd_L3 l0 a1) a2) = 0
            · rw [if_pos c11] at H
              have c11b0 : ((rd (rd_L3 l0 a1) a2) == 0) = true := beq_iff_eq.mpr c11
              have c11b1 : ((rd (rd_L3 l0 a1) a2) != 0) = false := bne_eq_false_iff_eq.mpr c11
              clear c11
              have H' := Aside0.mk H
              clear H
              have p156 : 0 ≤ (a1 : Int) := of_decide_eq_true (by first | (with_reducible assumption) | assumption)
              have q156 : a1 < (l0.length : Int) := of_decide_eq_true (by first | (with_reducible assumption) | assumption)
              obtain ⟨ad156, A156_0, c156_0, e156, hx156_0, hl156_0, hi156_0⟩ := at_L3 HR0.out a1 p156 q156
              cases e156
              replace hx156_0 := (HB.out.cell (World.block_lt_of_cell? w _ hx156_0)).trans hx156_0
              have HR156_0 := Aside0.mk hi156_0
              have HC156_0 := Aside0.mk hl156_0
              clear hi156_0 hl156_0
              replace p156 := eq_true p156
              replace q156 := eq_true q156
              have p157 : 0 ≤ (a2 : Int) := of_decide_eq_true (by first | (with_reducible assumption) | assumption)
              have q157 : a2 < ((rd_L3 l0 a1).length : Int) := of_decide_eq_true (by first | (with_reducible assumption) | assumption)
              obtain ⟨ad157, e157, hx157_0⟩ := Kd.at_int HR156_0.out a2 p157 q157
              cases e157
              replace hx157_0 := (HB.out.cell (World.block_lt_of_cell? w _ hx157_0)).trans hx157_0
              replace p157 := eq_true p157
              replace q157 := eq_true q157
              go_wp2
              repeat (go_quiet (fail); try go_wp2)
              go_meet
              case rel => exact ⟨_, (true), (by first | rfl | (simp; done) | (simp [*]; done)), H', ⟨by first | omega | exact Nat.le_refl _⟩, ⟨by repeat (first | (with_reducible first | exact HB.out | apply below_alloc | apply pw_below_drewN | apply below_drew1) | exact HB.out)⟩⟩
            · rw [if_neg c11] at H
              have c11b0 : ((rd (rd_L3 l0 a1) a2) == 0) = false := beq_eq_false_iff_ne.mpr c11
              have c11b1 : ((rd (rd_L3 l0 a1) a2) != 0) = true := bne_iff_ne.mpr c11
              replace H := Option.bind_eq_some_iff.mp H
              obtain ⟨t160, A120, H⟩ := H
              replace H : (spec_bdCut.j0 k l0 a1 a2 (decide (t160 ≥ 0))) = some (r1, r2, r3) := H
              have A12 := Aside0.mk A120
              clear A120
              have H' := Aside0.mk H
              clear H
              have p156 : 0 ≤ (a1 : Int) := of_decide_eq_true (by first | (with_reducible assumption) | assumption)
              have q156 : a1 < (l0.length : Int) := of_decide_eq_true (by first | (with_reducible assumption) | assumption)
              obtain ⟨ad156, A156_0, c156_0, e156, hx156_0, hl156_0, hi156_0⟩ := at_L3 HR0.out a1 p156 q156
              cases e156
              replace hx156_0 := (HB.out.cell (World.block_lt_of_cell? w _ hx156_0)).trans hx156_0
              have HR156_0 := Aside0.mk hi156_0
              have HC156_0 := Aside0.mk hl156_0
              clear hi156_0 hl156_0
              replace p156 := eq_true p156
              replace q156 := eq_true q156
              have p157 : 0 ≤ (a2 : Int) := of_decide_eq_true (by first | (with_reducible assumption) | assumption)
              have q157 : a2 < ((rd_L3 l0 a1).length : Int) := of_decide_eq_true (by first | (with_reducible assumption) | assumption)
              obtain ⟨ad157, e157, hx157_0⟩ := Kd.at_int HR156_0.out a2 p157 q157
              cases e157
              replace hx157_0 := (HB.out.cell (World.block_lt_of_cell? w _ hx157_0)).trans hx157_0
              replace p157 := eq_true p157
              replace q157 := eq_true q157
              have p158 : 0 ≤ (a1 : Int) := of_decide_eq_true (by first | (with_reducible assumption) | assumption)
              have q158 : a1 < (l0.length : Int) := of_decide_eq_true (by first | (with_reducible assumption) | assumption)
              obtain ⟨ad158, A158_0, c158_0, e158, hx158_0, hl158_0, hi158_0⟩ := at_L3 HR0.out a1 p158 q158
              obtain rfl : ad156 = ad158 := (by injection e158)
              replace hx158_0 := (HB.out.cell (World.block_lt_of_cell? w _ hx158_0)).trans hx158_0
              have HR158_0 := Aside0.mk hi158_0
              have HC158_0 := Aside0.mk hl158_0
              clear hi158_0 hl158_0
              replace p158 := eq_true p158
              replace q158 := eq_true q158
              have ea_ := Option.some.inj (hx156_0.symm.trans hx158_0)
              injection ea_ with ea_ en_ ec_
              subst ea_
              subst ec_
              clear en_
              have p159 : 0 ≤ (a2 : Int) := of_decide_eq_true (by first | (with_reducible assumption) | assumption)
              have q159 : a2 < ((rd_L3 l0 a1).length : Int) := of_decide_eq_true (by first | (with_reducible assumption) | assumption)
              obtain ⟨ad159, e159, hx159_0⟩ := Kd.at_int HR158_0.out a2 p159 q159
              cases e159
              replace hx159_0 := (HB.out.cell (World.block_lt_of_cell? w _ hx159_0)).trans hx159_0
              replace p159 := eq_true p159
              replace q159 := eq_true q159
              go_wp2_with (first | (go_at_call 86; (with_reducible refine (spec_bdKind.calls k a1 a2 (rd (rd_L3 l0 a1) a2) _ _ l3 a4 t160 _ ?side1 ?side2 A12.out).mono ?_); (case side1 => repeat (first | exact (Kd.C_below HR3.out HB.out) | (with_reducible refine Kd.C_alloc ?_ _) | (with_reducible refine Kd.C_drewN ?_ _) | (with_reducible refine Kd.C_drew ?_))); (case side2 => exact HC3.out); rintro e w13 ⟨rfl, hb⟩; have n0_ := Aside0.mk (below_step (by repeat (first | (with_reducible first | exact HB.out | apply below_alloc | apply pw_below_drewN | apply below_drew1) | exact HB.out)) hb); clear HB; have HB := n0_; clear n0_; (try clear hb); (try clear hb2); (try clear hk); (try clear hi)))
              repeat (go_quiet (first | (go_at_call 86; (with_reducible refine (spec_bdKind.calls k a1 a2 (rd (rd_L3 l0 a1) a2) _ _ l3 a4 t160 _ ?side1 ?side2 A12.out).mono ?_); (case side1 => repeat (first | exact (Kd.C_below HR3.out HB.out) | (with_reducible refine Kd.C_alloc ?_ _) | (with_reducible refine Kd.C_drewN ?_ _) | (with_reducible refine Kd.C_drew ?_))); (case side2 => exact HC3.out); rintro e w13 ⟨rfl, hb⟩; have n0_ := Aside0.mk (below_step (by repeat (first | (with_reducible first | exact HB.out | apply below_alloc | apply pw_below_drewN | apply below_drew1) | exact HB.out)) hb); clear HB; have HB := n0_; clear n0_; (try clear hb); (try clear hb2); (try clear hk); (try clear hi))); try go_wp2_with (first | (go_at_call 86; (with_reducible refine (spec_bdKind.calls k a1 a2 (rd (rd_L3 l0 a1) a2) _ _ l3 a4 t160 _ ?side1 ?side2 A12.out).mono ?_); (case side1 => repeat (first | exact (Kd.C_below HR3.out HB.out) | (with_reducible refine Kd.C_alloc ?_ _) | (with_reducible refine Kd.C_drewN ?_ _) | (with_reducible refine Kd.C_drew ?_))); (case side2 => exact HC3.out); rintro e w13 ⟨rfl, hb⟩; have n0_ := Aside0.mk (below_step (by repeat (first | (with_reducible first | exact HB.out | apply below_alloc | apply pw_below_drewN | apply below_drew1) | exact HB.out)) hb); clear HB; have HB := n0_; clear n0_; (try clear hb); (try clear hb2); (try clear hk); (try clear hi))))
              go_meet
              case rel => exact ⟨_, (decide (t160 ≥ 0)), (by first | rfl | (simp; done) | (simp [*]; done)), H', ⟨by first | omega | exact Nat.le_refl _⟩, ⟨by repeat (first | (with_reducible first | exact HB.out | apply below_alloc | apply pw_below_drewN | apply below_drew1) | exact HB.out)⟩⟩
          · rw [if_neg c10] at H
            exact absurd H (by simp)
        · rw [if_neg c9] at H
          exact absurd H (by simp)
      · rw [if_neg c8] at H
        exact absurd H (by simp)
    · rw [if_neg c7] at H
      exact absurd H (by simp)
  case rest =>
    clear HC6
    try clear c1
    try clear p1
    try clear q1
    try clear hx1
    try clear p2
    try clear c3
    try clear c7
    try clear c7b0
    try clear c8
    try clear c8b0
    try clear c9
    try clear c9b0
    try clear c10
    try clear c10b0
    try clear c11
    try clear c11b0
    try clear c11b1
    try clear hx156_0
    try clear hx157_0
    try clear hx158_0
    try clear hx159_0
    try clear p156
    try clear p157
    try clear p158
    try clear p159
    try clear q156
    try clear q157
    try clear q158
    try clear q159
    obtain ⟨kq, x37_5, rfl, HA, HJ5, HB⟩ := hcut
    cases kq with
    | zero => exact absurd HA.out (by simp [spec_bdCut.j0])
    | succ kj5 =>
      have H := HA.out
      clear HA
      simp only [spec_bdCut.j0] at H
      by_cases c14 : x37_5 = true
      · subst c14
        have H1 : (some (false, 0, false)) = some (r1, r2, r3) := by rw [if_pos rfl] at H; exact H
        clear H
        have H := H1
        clear H1
        simp only [Option.some.injEq, Prod.mk.injEq] at H
        obtain ⟨rfl, rfl, rfl⟩ := H
        go_wp2
        repeat (go_quiet (fail); try go_wp2)
        go_ret3
        exact ⟨by first | rfl | (simp [errW_none, errW_some] <;> rfl) | (simp [*, errW_none, errW_some] <;> rfl), by repeat (first | (with_reducible first | exact HB.out | apply below_alloc | apply pw_below_drewN | apply below_drew1) | exact HB.out)⟩
      · replace c14 := Bool.eq_false_iff.mpr c14
        subst c14
        have H1 : (spec_bdCut.l0 kj5 l0 a1 a2 1) = some (r1, r2, r3) := by rw [if_neg (show ¬ (false = true) by decide)] at H; exact H
        clear H
        have H := H1
        clear H1
        have H' := Aside0.mk H
        clear H
        go_wp2
        repeat (go_quiet (fail); try go_wp2)
        go_loopg [13] kj5 (fun kq v13 w' => ∃ (x13_2 : Int), v13 = .int .i64 x13_2 ∧ Aside0 (spec_bdCut.l0 kq l0 a1 a2 x13_2 = some (r1, r2, r3)) ∧ Aside0 (kq ≤ kj5) ∧ Aside0 (Below w.heap.size w w'))
        case atStart => exact ⟨(1), (by first | rfl | (simp; done) | (simp [*]; done)), H', ⟨Nat.le_refl _⟩, ⟨by repeat (first | (with_reducible first | exact HB.out | apply below_alloc | apply pw_below_drewN | apply below_drew1) | exact HB.out)⟩⟩
        case round =>
          clear H'
          try clear c1
          try clear p1
          try clear q1
          try clear hx1
          try clear p2
          try clear c3
          try clear c7
          try clear c7b0
          try clear c8
          try clear c8b0
          try clear c9
          try clear c9b0
          try clear c10
          try clear c10b0
          try clear c11
          try clear c11b0
          try clear c11b1
          try clear c14
          try clear hx156_0
          try clear hx157_0
          try clear hx158_0
          try clear hx159_0
          try clear p1
          try clear p156
          try clear p157
          try clear p158
          try clear p159
          try clear p2
          try clear q1
          try clear q156
          try clear q157
          try clear q158
          try clear q159
          obtain ⟨x13_2, rfl, HA, HK2, HB⟩ := hrel
          cases gk with
          | zero => exact absurd HA.out (by simp [spec_bdCut.l0])
          | succ k2 =>
            have H := HA.out
            clear HA
            simp only [spec_bdCut.l0] at H
            by_cases c15 : (wrap64 (2 * x13_2)) ≤ a1
            · rw [if_pos c15] at H
              have c15b0 : decide ((wrap64 (2 * x13_2)) ≤ a1) = true := decide_eq_true c15
              clear c15
              by_cases c16 : 0 ≤ x13_2
              · rw [if_pos c16] at H
                have c16b0 : decide (0 ≤ x13_2) = true := decide_eq_true c16
                clear c16
                by_cases c17 : x13_2 < (l0.length : Int)
                · rw [if_pos c17] at H
                  have c17b0 : decide (x13_2 < (l0.length : Int)) = true := decide_eq_true c17
                  clear c17
                  by_cases c18 : 0 ≤ a2
                  · rw [if_pos c18] at H
                    have c18b0 : decide (0 ≤ a2) = true := decide_eq_true c18
                    clear c18
                    by_cases c19 : a2 < ((rd_L3 l0 x13_2).length : Int)
                    · rw [if_pos c19] at H
                      have c19b0 : decide (a2 < ((rd_L3 l0 x13_2).length : Int)) = true := decide_eq_true c19
                      clear c19
                      obtain ⟨ji20, hji20⟩ : ∃ j_ : Int, (wrap64 (a1 - x13_2)) = j_ := ⟨_, rfl⟩
                      replace H : (if 0 ≤ (ji20) then (if (ji20) < (l0.length : Int) then (if a2 < ((rd_L3 l0 (ji20)).length : Int) then (if 0 ≤ a1 then (if a1 < (l0.length : Int) then (if a2 < ((rd_L3 l0 a1).length : Int) then (if (wrap64 ((rd (rd_L3 l0 x13_2) a2) + (rd (rd_L3 l0 (ji20)) a2))) = (rd (rd_L3 l0 a1) a2) then (some (true, x13_2, true)) else (spec_bdCut.l0 k2 l0 a1 a2 (wrap64 (x13_2 + 1)))) else (none)) else (none)) else (none)) else (none)) else (none)) else (none)) = some (r1, r2, r3) := by first | (rw [hji20] at H; exact H) | (simp only [hji20] at H ⊢; exact H)
                      have hji20w : (IntKind.i64.wrap (a1 - x13_2)) = ji20 := (i64_w _).trans hji20
                      by_cases c21 : 0 ≤ (ji20)
                      · rw [if_pos c21] at H
                        have c21b0 : decide (0 ≤ (ji20)) = true := decide_eq_true c21
                        clear c21
                        by_cases c22 : (ji20) < (l0.length : Int)
                        · rw [if_pos c22] at H
                          have c22b0 : decide ((ji20) < (l0.length : Int)) = true := decide_eq_true c22
                          clear c22
                          by_cases c23 : a2 < ((rd_L3 l0 (ji20)).length : Int)
                          · rw [if_pos c23] at H
                            have c23b0 : decide (a2 < ((rd_L3 l0 (ji20)).length : Int)) = true := decide_eq_true c23
                            clear c23
                            by_cases c24 : 0 ≤ a1
                            · rw [if_pos c24] at H
                              have c24b0 : decide (0 ≤ a1) = true := decide_eq_true c24
                              clear c24
                              by_cases c25 : a1 < (l0.length : Int)
                              · rw [if_pos c25] at H
                                have c25b0 : decide (a1 < (l0.length : Int)) = true := decide_eq_true c25
                                clear c25
                                by_cases c26 : a2 < ((rd_L3 l0 a1).length : Int)
                                · rw [if_pos c26] at H
                                  have c26b0 : decide (a2 < ((rd_L3 l0 a1).length : Int)) = true := decide_eq_true c26
                                  clear c26
                                  by_cases c27 : (wrap64 ((rd (rd_L3 l0 x13_2) a2) + (rd (rd_L3 l0 (ji20)) a2))) = (rd (rd_L3 l0 a1) a2)
                                  · rw [if_pos c27] at H
                                    have c27b0 : ((wrap64 ((rd (rd_L3 l0 x13_2) a2) + (rd (rd_L3 l0 (ji20)) a2))) == (rd (rd_L3 l0 a1) a2)) = true := beq_iff_eq.mpr c27
                                    have c27b1 : ((wrap64 ((rd (rd_L3 l0 x13_2) a2) + (rd (rd_L3 l0 (ji20)) a2))) != (rd (rd_L3 l0 a1) a2)) = false := bne_eq_false_iff_eq.mpr c27
                                    clear c27
                                    simp only [Option.some.injEq, Prod.mk.injEq] at H
                                    obtain ⟨rfl, rfl, rfl⟩ := H
                                    have p161 : 0 ≤ (x13_2 : Int) := of_decide_eq_true (by first | (with_reducible assumption) | assumption)
                                    have q161 : x13_2 < (l0.length : Int) := of_decide_eq_true (by first | (with_reducible assumption) | assumption)
                                    obtain ⟨ad161, A161_0, c161_0, e161, hx161_0, hl161_0, hi161_0⟩ := at_L3 HR0.out x13_2 p161 q161
                                    cases e161
                                    replace hx161_0 := (HB.out.cell (World.block_lt_of_cell? w _ hx161_0)).trans hx161_0
                                    have HR161_0 := Aside0.mk hi161_0
                                    have HC161_0 := Aside0.mk hl161_0
                                    clear hi161_0 hl161_0
                                    replace p161 := eq_true p161
                                    replace q161 := eq_true q161
                                    have p162 : 0 ≤ (a2 : Int) := of_decide_eq_true (by first | (with_reducible assumption) | assumption)
                                    have q162 : a2 < ((rd_L3 l0 x13_2).length : Int) := of_decide_eq_true (by first | (with_reducible assumption) | assumption)
                                    obtain ⟨ad162, e162, hx162_0⟩ := Kd.at_int HR161_0.out a2 p162 q162
                                    cases e162
                                    replace hx162_0 := (HB.out.cell (World.block_lt_of_cell? w _ hx162_0)).trans hx162_0
                                    replace p162 := eq_true p162
                                    replace q162 := eq_true q162
                                    have p163 : 0 ≤ ((ji20) : Int) := of_decide_eq_true (by first | (with_reducible assumption) | assumption)
                                    have q163 : (ji20) < (l0.length : Int) := of_decide_eq_true (by first | (with_reducible assumption) | assumption)
                                    obtain ⟨ad163, A163_0, c163_0, e163, hx163_0, hl163_0, hi163_0⟩ := at_L3 HR0.out (ji20) p163 q163
                                    obtain rfl : ad161 = ad163 := (by injection e163)
                                    replace hx163_0 := (HB.out.cell (World.block_lt_of_cell? w _ hx163_0)).trans hx163_0
                                    have HR163_0 := Aside0.mk hi163_0
                                    have HC163_0 := Aside0.mk hl163_0
                                    clear hi163_0 hl163_0
                                    replace p163 := eq_true p163
                                    replace q163 := eq_true q163
                                    have p164 : 0 ≤ (a2 : Int) := of_decide_eq_true (by first | (with_reducible assumption) | assumption)
                                    have q164 : a2 < ((rd_L3 l0 (ji20)).length : Int) := of_decide_eq_true (by first | (with_reducible assumption) | assumption)
                                    obtain ⟨ad164, e164, hx164_0⟩ := Kd.at_int HR163_0.out a2 p164 q164
                                    cases e164
                                    replace hx164_0 := (HB.out.cell (World.block_lt_of_cell? w _ hx164_0)).trans hx164_0
                                    replace p164 := eq_true p164
                                    replace q164 := eq_true q164
                                    have p165 : 0 ≤ (a1 : Int) := of_decide_eq_true (by first | (with_reducible assumption) | assumption)
                                    have q165 : a1 < (l0.length : Int) := of_decide_eq_true (by first | (with_reducible assumption) | assumption)
                                    obtain ⟨ad165, A165_0, c165_0, e165, hx165_0, hl165_0, hi165_0⟩ := at_L3 HR0.out a1 p165 q165
                                    obtain rfl : ad161 = ad165 := (by injection e165)
                                    replace hx165_0 := (HB.out.cell (World.block_lt_of_cell? w _ hx165_0)).trans hx165_0
                                    have HR165_0 := Aside0.mk hi165_0
                                    have HC165_0 := Aside0.mk hl165_0
                                    clear hi165_0 hl165_0
                                    replace p165 := eq_true p165
                                    replace q165 := eq_true q165
                                    have p166 : 0 ≤ (a2 : Int) := of_decide_eq_true (by first | (with_reducible assumption) | assumption)
                                    have q166 : a2 < ((rd_L3 l0 a1).length : Int) := of_decide_eq_true (by first | (with_reducible assumption) | assumption)
                                    obtain ⟨ad166, e166, hx166_0⟩ := Kd.at_int HR165_0.out a2 p166 q166
                                    cases e166
                                    replace hx166_0 := (HB.out.cell (World.block_lt_of_cell? w _ hx166_0)).trans hx166_0
                                    replace p166 := eq_true p166
                                    replace q166 := eq_true q166
                                    go_wp2
                                    repeat (go_quiet (fail); try go_wp2)
                                    go_ret3
                                    exact ⟨by first | rfl | (simp [errW_none, errW_some] <;> rfl) | (simp only [← hji20]; first | rfl | (simp [errW_none, errW_some] <;> rfl)) | (simp [*, errW_none, errW_some] <;> rfl), by repeat (first | (with_reducible first | exact HB.out | apply below_alloc | apply pw_below_drewN | apply below_drew1) | exact HB.out)⟩
                                  · rw [if_neg c27] at H
                                    have c27b0 : ((wrap64 ((rd (rd_L3 l0 x13_2) a2) + (rd (rd_L3 l0 (ji20)) a2))) == (rd (rd_L3 l0 a1) a2)) = false := beq_eq_false_iff_ne.mpr c27
                                    have c27b1 : ((wrap64 ((rd (rd_L3 l0 x13_2) a2) + (rd (rd_L3 l0 (ji20)) a2))) != (rd (rd_L3 l0 a1) a2)) = true := bne_iff_ne.mpr c27
                                    have H' := Aside0.mk H
                                    clear H
                                    have p161 : 0 ≤ (x13_2 : Int) := of_decide_eq_true (by first | (with_reducible assumption) | assumption)
                                    have q161 : x13_2 < (l0.length : Int) := of_decide_eq_true (by first | (with_reducible assumption) | assumption)
                                    obtain ⟨ad161, A161_0, c161_0, e161, hx161_0, hl161_0, hi161_0⟩ := at_L3 HR0.out x13_2 p161 q161
                                    cases e161
                                    replace hx161_0 := (HB.out.cell (World.block_lt_of_cell? w _ hx161_0)).trans hx161_0
                                    have HR161_0 := Aside0.mk hi161_0
                                    have HC161_0 := Aside0.mk hl161_0
                                    clear hi161_0 hl161_0
                                    replace p161 := eq_true p161
                                    replace q161 := eq_true q161
                                    have p162 : 0 ≤ (a2 : Int) := of_decide_eq_true (by first | (with_reducible assumption) | assumption)
                                    have q162 : a2 < ((rd_L3 l0 x13_2).length : Int) := of_decide_eq_true (by first | (with_reducible assumption) | assumption)
                                    obtain ⟨ad162, e162, hx162_0⟩ := Kd.at_int HR161_0.out a2 p162 q162
                                    cases e162
                                    replace hx162_0 := (HB.out.cell (World.block_lt_of_cell? w _ hx162_0)).trans hx162_0
                                    replace p162 := eq_true p162
                                    replace q162 := eq_true q162
                                    have p163 : 0 ≤ ((ji20) : Int) := of_decide_eq_true (by first | (with_reducible assumption) | assumption)
                                    have q163 : (ji20) < (l0.length : Int) := of_decide_eq_true (by first | (with_reducible assumption) | assumption)
                                    obtain ⟨ad163, A163_0, c163_0, e163, hx163_0, hl163_0, hi163_0⟩ := at_L3 HR0.out (ji20) p163 q163
                                    obtain rfl : ad161 = ad163 := (by injection e163)
                                    replace hx163_0 := (HB.out.cell (World.block_lt_of_cell? w _ hx163_0)).trans hx163_0
                                    have HR163_0 := Aside0.mk hi163_0
                                    have HC163_0 := Aside0.mk hl163_0
                                    clear hi163_0 hl163_0
                                    replace p163 := eq_true p163
                                    replace q163 := eq_true q163
                                    have p164 : 0 ≤ (a2 : Int) := of_decide_eq_true (by first | (with_reducible assumption) | assumption)
                                    have q164 : a2 < ((rd_L3 l0 (ji20)).length : Int) := of_decide_eq_true (by first | (with_reducible assumption) | assumption)
                                    obtain ⟨ad164, e164, hx164_0⟩ := Kd.at_int HR163_0.out a2 p164 q164
                                    cases e164
                                    replace hx164_0 := (HB.out.cell (World.block_lt_of_cell? w _ hx164_0)).trans hx164_0
                                    replace p164 := eq_true p164
                                    replace q164 := eq_true q164
                                    have p165 : 0 ≤ (a1 : Int) := of_decide_eq_true (by first | (with_reducible assumption) | assumption)
                                    have q165 : a1 < (l0.length : Int) := of_decide_eq_true (by first | (with_reducible assumption) | assumption)
                                    obtain ⟨ad165, A165_0, c165_0, e165, hx165_0, hl165_0, hi165_0⟩ := at_L3 HR0.out a1 p165 q165
                                    obtain rfl : ad161 = ad165 := (by injection e165)
                                    replace hx165_0 := (HB.out.cell (World.block_lt_of_cell? w _ hx165_0)).trans hx165_0
                                    have HR165_0 := Aside0.mk hi165_0
                                    have HC165_0 := Aside0.mk hl165_0
                                    clear hi165_0 hl165_0
                                    replace p165 := eq_true p165
                                    replace q165 := eq_true q165
                                    have p166 : 0 ≤ (a2 : Int) := of_decide_eq_true (by first | (with_reducible assumption) | assumption)
                                    have q166 : a2 < ((rd_L3 l0 a1).length : Int) := of_decide_eq_true (by first | (with_reducible assumption) | assumption)
                                    obtain ⟨ad166, e166, hx166_0⟩ := Kd.at_int HR165_0.out a2 p166 q166
                                    cases e166
                                    replace hx166_0 := (HB.out.cell (World.block_lt_of_cell? w _ hx166_0)).trans hx166_0
                                    replace p166 := eq_true p166
                                    replace q166 := eq_true q166
                                    go_wp2
                                    repeat (go_quiet (fail); try go_wp2)
                                    go_roundg k2
                                    case measure => have := HJ5.out; have := HK2.out; omega
                                    case rel => exact ⟨(wrap64 (x13_2 + 1)), (by first | rfl | (simp; done) | (simp [*]; done)), H', ⟨by have := HJ5.out; have := HK2.out; omega⟩, ⟨by repeat (first | (with_reducible first | exact HB.out | apply below_alloc | apply pw_below_drewN | apply below_drew1) | exact HB.out)⟩⟩
                                · rw [if_neg c26] at H
                                  exact absurd H (by simp)
                              · rw [if_neg c25] at H
                                exact absurd H (by simp)
                            · rw [if_neg c24] at H
                              exact absurd H (by simp)
                          · rw [if_neg c23] at H
                            exact absurd H (by simp)
                        · rw [if_neg c22] at H
                          exact absurd H (by simp)
                      · rw [if_neg c21] at H
                        exact absurd H (by simp)
                    · rw [if_neg c19] at H
                      exact absurd H (by simp)
                  · rw [if_neg c18] at H
                    exact absurd H (by simp)
                · rw [if_neg c17] at H
                  exact absurd H (by simp)
              · rw [if_neg c16] at H
                exact absurd H (by simp)
            · rw [if_neg c15] at H
              have c15b0 : decide ((wrap64 (2 * x13_2)) ≤ a1) = false := decide_eq_false c15
              clear c15
              have H' := Aside0.mk H
              clear H
              go_wp2
              repeat (go_quiet (fail); try go_wp2)
              go_loopg [14] k2 (fun kq v14 w' => ∃ (x14_3 : Int), v14 = .int .i64 x14_3 ∧ Aside0 (spec_bdCut.l1 kq l0 a1 a2 x14_3 = some (r1, r2, r3)) ∧ Aside0 (kq ≤ k2) ∧ Aside0 (Below w.heap.size w w'))
              case atStart => exact ⟨(1), (by first | rfl | (simp; done) | (simp [*]; done)), H', ⟨Nat.le_refl _⟩, ⟨by repeat (first | (with_reducible first | exact HB.out | apply below_alloc | apply pw_below_drewN | apply below_drew1) | exact HB.out)⟩⟩
              case round =>
                clear H'
                try clear c1
                try clear p1
                try clear q1
                try clear hx1
                try clear c2
                try clear p2
                try clear c3
                try clear p6
                try clear c7
                try clear c7b0
                try clear c8
                try clear c8b0
                try clear c9
                try clear c9b0
                try clear c10
                try clear c10b0
                try clear c11
                try clear c11b0
                try clear c11b1
                try clear c14
                try clear c15
                try clear c15b0
                try clear p15
                try clear q15
                try clear hx15
                try clear c16
                try clear c16b0
                try clear p16
                try clear q16
                try clear hx16
                try clear c17
                try clear c17b0
                try clear c18
                try clear c18b0
                try clear c19
                try clear c19b0
                try clear c21
                try clear c21b0
                try clear c22
                try clear c22b0
                try clear c23
                try clear c23b0
                try clear c24
                try clear c24b0
                try clear c25
                try clear c25b0
                try clear c26
                try clear c26b0
                try clear c27
                try clear c27b0
                try clear c27b1
                try clear hx156_0
                try clear hx157_0
                try clear hx158_0
                try clear hx159_0
                try clear hx161_0
                try clear hx162_0
                try clear hx163_0
                try clear hx164_0
                try clear hx165_0
                try clear hx166_0
                try clear p1
                try clear p156
                try clear p157
                try clear p158
                try clear p159
                try clear p161
                try clear p162
                try clear p163
                try clear p164
                try clear p165
                try clear p166
                try clear p2
                try clear q1
                try clear q156
                try clear q157
                try clear q158
                try clear q159
                try clear q161
                try clear q162
                try clear q163
                try clear q164
                try clear q165
                try clear q166
                obtain ⟨x14_3, rfl, HA, HK3, HB⟩ := hrel
                cases gk with
                | zero => exact absurd HA.out (by simp [spec_bdCut.l1])
                | succ k3 =>
                  have H := HA.out
                  clear HA
                  simp only [spec_bdCut.l1] at H
                  by_cases c28 : (wrap64 (2 * x14_3)) ≤ a2
                  · rw [if_pos c28] at H
                    have c28b0 : decide ((wrap64 (2 * x14_3)) ≤ a2) = true := decide_eq_true c28
                    clear c28
                    by_cases c29 : 0 ≤ a1
                    · rw [if_pos c29] at H
                      have c29b0 : decide (0 ≤ a1) = true := decide_eq_true c29
                      clear c29
                      by_cases c30 : a1 < (l0.length : Int)
                      · rw [if_pos c30] at H
                        have c30b0 : decide (a1 < (l0.length : Int)) = true := decide_eq_true c30
                        clear c30
                        by_cases c31 : 0 ≤ x14_3
                        · rw [if_pos c31] at H
                          have c31b0 : decide (0 ≤ x14_3) = true := decide_eq_true c31
                          clear c31
                          by_cases c32 : x14_3 < ((rd_L3 l0 a1).length : Int)
                          · rw [if_pos c32] at H
                            have c32b0 : decide (x14_3 < ((rd_L3 l0 a1).length : Int)) = true := decide_eq_true c32
                            clear c32
                            obtain ⟨ji33, hji33⟩ : ∃ j_ : Int, (wrap64 (a2 - x14_3)) = j_ := ⟨_, rfl⟩
                            replace H : (if 0 ≤ (ji33) then (if (ji33) < ((rd_L3 l0 a1).length : Int) then (if 0 ≤ a2 then (if a2 < ((rd_L3 l0 a1).length : Int) then (if (wrap64 ((rd (rd_L3 l0 a1) x14_3) + (rd (rd_L3 l0 a1) (ji33)))) = (rd (rd_L3 l0 a1) a2) then (some (false, x14_3, true)) else (spec_bdCut.l1 k3 l0 a1 a2 (wrap64 (x14_3 + 1)))) else (none)) else (none)) else (none)) else (none)) = some (r1, r2, r3) := by first | (rw [hji33] at H; exact H) | (simp only [hji33] at H ⊢; exact H)
                            have hji33w : (IntKind.i64.wrap (a2 - x14_3)) = ji33 := (i64_w _).trans hji33
                            by_cases c34 : 0 ≤ (ji33)
                            · rw [if_pos c34] at H
                              have c34b0 : decide (0 ≤ (ji33)) = true := decide_eq_true c34
                              clear c34
                              by_cases c35 : (ji33) < ((rd_L3 l0 a1).length : Int)
                              · rw [if_pos c35] at H
                                have c35b0 : decide ((ji33) < ((rd_L3 l0 a1).length : Int)) = true := decide_eq_true c35
                                clear c35
                                by_cases c36 : 0 ≤ a2
                                · rw [if_pos c36] at H
                                  have c36b0 : decide (0 ≤ a2) = true := decide_eq_true c36
                                  clear c36
                                  by_cases c37 : a2 < ((rd_L3 l0 a1).length : Int)
                                  · rw [if_pos c37] at H
                                    have c37b0 : decide (a2 < ((rd_L3 l0 a1).length : Int)) = true := decide_eq_true c37
                                    clear c37
                                    by_cases c38 : (wrap64 ((rd (rd_L3 l0 a1) x14_3) + (rd (rd_L3 l0 a1) (ji33)))) = (rd (rd_L3 l0 a1) a2)
                                    · rw [if_pos c38] at H
                                      have c38b0 : ((wrap64 ((rd (rd_L3 l0 a1) x14_3) + (rd (rd_L3 l0 a1) (ji33)))) == (rd (rd_L3 l0 a1) a2)) = true := beq_iff_eq.mpr c38
                                      have c38b1 : ((wrap64 ((rd (rd_L3 l0 a1) x14_3) + (rd (rd_L3 l0 a1) (ji33)))) != (rd (rd_L3 l0 a1) a2)) = false := bne_eq_false_iff_eq.mpr c38
                                      clear c38
                                      simp only [Option.some.injEq, Prod.mk.injEq] at H
                                      obtain ⟨rfl, rfl, rfl⟩ := H
                                      have p167 : 0 ≤ (a1 : Int) := of_decide_eq_true (by first | (with_reducible assumption) | assumption)
                                      have q167 : a1 < (l0.length : Int) := of_decide_eq_true (by first | (with_reducible assumption) | assumption)
                                      obtain ⟨ad167, A167_0, c167_0, e167, hx167_0, hl167_0, hi167_0⟩ := at_L3 HR0.out a1 p167 q167
                                      cases e167
                                      replace hx167_0 := (HB.out.cell (World.block_lt_of_cell? w _ hx167_0)).trans hx167_0
                                      have HR167_0 := Aside0.mk hi167_0
                                      have HC167_0 := Aside0.mk hl167_0
                                      clear hi167_0 hl167_0
                                      replace p167 := eq_true p167
                                      replace q167 := eq_true q167
                                      have p168 : 0 ≤ (x14_3 : Int) := of_decide_eq_true (by first | (with_reducible assumption) | assumption)
                                      have q168 : x14_3 < ((rd_L3 l0 a1).length : Int) := of_decide_eq_true (by first | (with_reducible assumption) | assumption)
                                      obtain ⟨ad168, e168, hx168_0⟩ := Kd.at_int HR167_0.out x14_3 p168 q168
                                      cases e168
                                      replace hx168_0 := (HB.out.cell (World.block_lt_of_cell? w _ hx168_0)).trans hx168_0
                                      replace p168 := eq_true p168
                                      replace q168 := eq_true q168
                                      have p169 : 0 ≤ (a1 : Int) := of_decide_eq_true (by first | (with_reducible assumption) | assumption)
                                      have q169 : a1 < (l0.length : Int) := of_decide_eq_true (by first | (with_reducible assumption) | assumption)
                                      obtain ⟨ad169, A169_0, c169_0, e169, hx169_0, hl169_0, hi169_0⟩ := at_L3 HR0.out a1 p169 q169
                                      obtain rfl : ad167 = ad169 := (by injection e169)
                                      replace hx169_0 := (HB.out.cell (World.block_lt_of_cell? w _ hx169_0)).trans hx169_0
                                      have HR169_0 := Aside0.mk hi169_0
                                      have HC169_0 := Aside0.mk hl169_0
                                      clear hi169_0 hl169_0
                                      replace p169 := eq_true p169
                                      replace q169 := eq_true q169
                                      have ea_ := Option.some.inj (hx167_0.symm.trans hx169_0)
                                      injection ea_ with ea_ en_ ec_
                                      subst ea_
                                      subst ec_
                                      clear en_
                                      have p170 : 0 ≤ ((ji33) : Int) := of_decide_eq_true (by first | (with_reducible assumption) | assumption)
                                      have q170 : (ji33) < ((rd_L3 l0 a1).length : Int) := of_decide_eq_true (by first | (with_reducible assumption) | assumption)
                                      obtain ⟨ad170, e170, hx170_0⟩ := Kd.at_int HR169_0.out (ji33) p170 q170
                                      cases e170
                                      replace hx170_0 := (HB.out.cell (World.block_lt_of_cell? w _ hx170_0)).trans hx170_0
                                      replace p170 := eq_true p170
                                      replace q170 := eq_true q170
                                      have p171 : 0 ≤ (a1 : Int) := of_decide_eq_true (by first | (with_reducible assumption) | assumption)
                                      have q171 : a1 < (l0.length : Int) := of_decide_eq_true (by first | (with_reducible assumption) | assumption)
                                      obtain ⟨ad171, A171_0, c171_0, e171, hx171_0, hl171_0, hi171_0⟩ := at_L3 HR0.out a1 p171 q171
                                      obtain rfl : ad167 = ad171 := (by injection e171)
                                      replace hx171_0 := (HB.out.cell (World.block_lt_of_cell? w _ hx171_0)).trans hx171_0
                                      have HR171_0 := Aside0.mk hi171_0
                                      have HC171_0 := Aside0.mk hl171_0
                                      clear hi171_0 hl171_0
                                      replace p171 := eq_true p171
                                      replace q171 := eq_true q171
                                      have ea_ := Option.some.inj (hx167_0.symm.trans hx171_0)
                                      injection ea_ with ea_ en_ ec_
                                      subst ea_
                                      subst ec_
                                      clear en_
                                      have p172 : 0 ≤ (a2 : Int) := of_decide_eq_true (by first | (with_reducible assumption) | assumption)
                                      have q172 : a2 < ((rd_L3 l0 a1).length : Int) := of_decide_eq_true (by first | (with_reducible assumption) | assumption)
                                      obtain ⟨ad172, e172, hx172_0⟩ := Kd.at_int HR171_0.out a2 p172 q172
                                      cases e172
                                      replace hx172_0 := (HB.out.cell (World.block_lt_of_cell? w _ hx172_0)).trans hx172_0
                                      replace p172 := eq_true p172
                                      replace q172 := eq_true q172
                                      go_wp2
                                      repeat (go_quiet (fail); try go_wp2)
                                      go_ret3
                                      exact ⟨by first | rfl | (simp [errW_none, errW_some] <;> rfl) | (simp only [← hji33]; first | rfl | (simp [errW_none, errW_some] <;> rfl)) | (simp [*, errW_none, errW_some] <;> rfl), by repeat (first | (with_reducible first | exact HB.out | apply below_alloc | apply pw_below_drewN | apply below_drew1) | exact HB.out)⟩
                                    · rw [if_neg c38] at H
                                      have c38b0 : ((wrap64 ((rd (rd_L3 l0 a1) x14_3) + (rd (rd_L3 l0 a1) (ji33)))) == (rd (rd_L3 l0 a1) a2)) = false := beq_eq_false_iff_ne.mpr c38
                                      have c38b1 : ((wrap64 ((rd (rd_L3 l0 a1) x14_3) + (rd (rd_L3 l0 a1) (ji33)))) != (rd (rd_L3 l0 a1) a2)) = true := bne_iff_ne.mpr c38
                                      have H' := Aside0.mk H
                                      clear H
                                      have p167 : 0 ≤ (a1 : Int) := of_decide_eq_true (by first | (with_reducible assumption) | assumption)
                                      have q167 : a1 < (l0.length : Int) := of_decide_eq_true (by first | (with_reducible assumption) | assumption)
                                      obtain ⟨ad167, A167_0, c167_0, e167, hx167_0, hl167_0, hi167_0⟩ := at_L3 HR0.out a1 p167 q167
                                      cases e167
                                      replace hx167_0 := (HB.out.cell (World.block_lt_of_cell? w _ hx167_0)).trans hx167_0
                                      have HR167_0 := Aside0.mk hi167_0
                                      have HC167_0 := Aside0.mk hl167_0
                                      clear hi167_0 hl167_0
                                      replace p167 := eq_true p167
                                      replace q167 := eq_true q167
                                      have p168 : 0 ≤ (x14_3 : Int) := of_decide_eq_true (by first | (with_reducible assumption) | assumption)
                                      have q168 : x14_3 < ((rd_L3 l0 a1).length : Int) := of_decide_eq_true (by first | (with_reducible assumption) | assumption)
                                      obtain ⟨ad168, e168, hx168_0⟩ := Kd.at_int HR167_0.out x14_3 p168 q168
                                      cases e168
                                      replace hx168_0 := (HB.out.cell (World.block_lt_of_cell? w _ hx168_0)).trans hx168_0
                                      replace p168 := eq_true p168
                                      replace q168 := eq_true q168
                                      have p169 : 0 ≤ (a1 : Int) := of_decide_eq_true (by first | (with_reducible assumption) | assumption)
                                      have q169 : a1 < (l0.length : Int) := of_decide_eq_true (by first | (with_reducible assumption) | assumption)
                                      obtain ⟨ad169, A169_0, c169_0, e169, hx169_0, hl169_0, hi169_0⟩ := at_L3 HR0.out a1 p169 q169
                                      obtain rfl : ad167 = ad169 := (by injection e169)
                                      replace hx169_0 := (HB.out.cell (World.block_lt_of_cell? w _ hx169_0)).trans hx169_0
                                      have HR169_0 := Aside0.mk hi169_0
                                      have HC169_0 := Aside0.mk hl169_0
                                      clear hi169_0 hl169_0
                                      replace p169 := eq_true p169
                                      replace q169 := eq_true q169
                                      have ea_ := Option.some.inj (hx167_0.symm.trans hx169_0)
                                      injection ea_ with ea_ en_ ec_
                                      subst ea_
                                      subst ec_
                                      clear en_
                                      have p170 : 0 ≤ ((ji33) : Int) := of_decide_eq_true (by first | (with_reducible assumption) | assumption)
                                      have q170 : (ji33) < ((rd_L3 l0 a1).length : Int) := of_decide_eq_true (by first | (with_reducible assumption) | assumption)
                                      obtain ⟨ad170, e170, hx170_0⟩ := Kd.at_int HR169_0.out (ji33) p170 q170
                                      cases e170
                                      replace hx170_0 := (HB.out.cell (World.block_lt_of_cell? w _ hx170_0)).trans hx170_0
                                      replace p170 := eq_true p170
                                      replace q170 := eq_true q170
                                      have p171 : 0 ≤ (a1 : Int) := of_decide_eq_true (by first | (with_reducible assumption) | assumption)
                                      have q171 : a1 < (l0.length : Int) := of_decide_eq_true (by first | (with_reducible assumption) | assumption)
                                      obtain ⟨ad171, A171_0, c171_0, e171, hx171_0, hl171_0, hi171_0⟩ := at_L3 HR0.out a1 p171 q171
                                      obtain rfl : ad167 = ad171 := (by injection e171)
                                      replace hx171_0 := (HB.out.cell (World.block_lt_of_cell? w _ hx171_0)).trans hx171_0
                                      have HR171_0 := Aside0.mk hi171_0
                                      have HC171_0 := Aside0.mk hl171_0
                                      clear hi171_0 hl171_0
                                      replace p171 := eq_true p171
                                      replace q171 := eq_true q171
                                      have ea_ := Option.some.inj (hx167_0.symm.trans hx171_0)
                                      injection ea_ with ea_ en_ ec_
                                      subst ea_
                                      subst ec_
                                      clear en_
                                      have p172 : 0 ≤ (a2 : Int) := of_decide_eq_true (by first | (with_reducible assumption) | assumption)
                                      have q172 : a2 < ((rd_L3 l0 a1).length : Int) := of_decide_eq_true (by first | (with_reducible assumption) | assumption)
                                      obtain ⟨ad172, e172, hx172_0⟩ := Kd.at_int HR171_0.out a2 p172 q172
                                      cases e172
                                      replace hx172_0 := (HB.out.cell (World.block_lt_of_cell? w _ hx172_0)).trans hx172_0
                                      replace p172 := eq_true p172
                                      replace q172 := eq_true q172
                                      go_wp2
                                      repeat (go_quiet (fail); try go_wp2)
                                      go_roundg k3
                                      case measure => have := HJ5.out; have := HK2.out; have := HK3.out; omega
                                      case rel => exact ⟨(wrap64 (x14_3 + 1)), (by first | rfl | (simp; done) | (simp [*]; done)), H', ⟨by have := HJ5.out; have := HK2.out; have := HK3.out; omega⟩, ⟨by repeat (first | (with_reducible first | exact HB.out | apply below_alloc | apply pw_below_drewN | apply below_drew1) | exact HB.out)⟩⟩
                                  · rw [if_neg c37] at H
                                    exact absurd H (by simp)
                                · rw [if_neg c36] at H
                                  exact absurd H (by simp)
                              · rw [if_neg c35] at H
                                exact absurd H (by simp)
                            · rw [if_neg c34] at H
                              exact absurd H (by simp)
                          · rw [if_neg c32] at H
                            exact absurd H (by simp)
                        · rw [if_neg c31] at H
                          exact absurd H (by simp)
                      · rw [if_neg c30] at H
                        exact absurd H (by simp)
                    · rw [if_neg c29] at H
                      exact absurd H (by simp)
                  · rw [if_neg c28] at H
                    have c28b0 : decide ((wrap64 (2 * x14_3)) ≤ a2) = false := decide_eq_false c28
                    clear c28
                    simp only [Option.some.injEq, Prod.mk.injEq] at H
                    obtain ⟨rfl, rfl, rfl⟩ := H
                    go_wp2
                    repeat (go_quiet (fail); try go_wp2)
                    go_ret3
                    exact ⟨by first | rfl | (simp [errW_none, errW_some] <;> rfl) | (simp [*, errW_none, errW_some] <;> rfl), by repeat (first | (with_reducible first | exact HB.out | apply below_alloc | apply pw_below_drewN | apply below_drew1) | exact HB.out)⟩

end Go.Proofs.Ytcijldnkigmfeaa.M

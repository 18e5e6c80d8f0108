-- Written by the session's program wip/myprint.py (over the kit's print); the given parts by hand.
import Derived.Test.YtekabbefflclaaaQ0
import Derived.Test.YtekabbefflclaaaQ4
namespace Go.Proofs.Ytekabbefflclaaa.Q
open Go.RowKit Go.Proofs.YtekabbefflclaaaW.PrintWords Go.Proofs.YtekabbefflclaaaW.PrintLast Go.Proofs.YtekabbefflclaaaW.PrintMore
attribute [local go_sem] max2_int min2_int max_two min_two max_three min_three max_four min_four   -- for this text's walks alone
set_option linter.unusedVariables false
set_option linter.unusedSimpArgs false

-- given: (loop.example/g01334/impl.cuts).of
/-! ### (cuts).of: by hand: the greatest worth of a cut of what is left, and how many have it, kept in a map -/
def cutN (ps : List Int) (least left : Nat) : Int × Int :=
  if left = 0 then (0, 1) else if h : least = 0 ∨ left < least ∨ ps.length < least then (-1, 0)
  else
    let a := cutN ps (least + 1) left
    let b := cutN ps least (left - least)
    if 0 ≤ b.1 then
      (if a.1 < wrap64 (b.1 + ps.getD (least - 1) 0) then (wrap64 (b.1 + ps.getD (least - 1) 0), b.2)
       else if wrap64 (b.1 + ps.getD (least - 1) 0) = a.1 then (a.1, wrap64 (a.2 + b.2)) else a)
    else a
  termination_by (left, ps.length + 1 - least)
  decreasing_by
    all_goals simp_wf
    · right; omega
    · left; omega
def rodKv (a b : Int) : Value := .agg #[.int .i64 a, .int .i64 b]
def rodKl (a b : Int) : Lit := .string (keyBytes [.int .i64 a, .int .i64 b])
theorem rodArr : WideMaps.ArrKey Try.prog 44 3 2 := ⟨Try.underlying44, by kernel_rfl, by kernel_rfl, by kernel_rfl⟩
theorem rodLaid : laidOutB Try.prog = true := by kernel_rfl
theorem rodMemo : MemoK Try.prog 38 44 44 rodKv rodKl (.agg #[.int .i64 0, .int .i64 0]) 60 where
  law := Go.Maps.Keyed.of_law (deep_law_laid rodLaid (m := 2) (by omega) (of_decide_eq_true (by kernel_rfl)) (by kernel_rfl) (by rw [Try.underlying44]))
  ht := Try.underlying38
  key a b ha ha' hb hb' := WideMaps.keyOf_pair rodArr Try.underlying3 ⟨Try.prog.types.size - 1, by kernel_rfl⟩ (WalkArith.wf_i64 (by omega)) (WalkArith.wf_i64 (by omega))
  kinj a b c d h := by simp [rodKv] at h; exact h
  zero w := by kernel_rfl
  small := by omega
theorem rodOver {w w' : World} {B : Nat} {V : Int → Int → Value} {A : Option Addr} {n : Nat} {xs : List Int} (hr : Kd.C (Kd.int .i64) w A n xs) (hm : Memo Try.prog 44 rodKl 60 V w B) (hg : w.grownBy w' (some B)) : Kd.C (Kd.int .i64) w' A n xs := by
  refine ⟨hr.1, hr.2.1, fun hn => ?_⟩
  obtain ⟨ad, e, hc⟩ := hr.2.2 hn
  obtain ⟨D, ⟨es, clock, hh, _⟩, _⟩ := hm
  refine ⟨ad, e, fun j p hj => ?_⟩
  obtain ⟨c, h1, h2, h3⟩ := hc j p hj
  refine ⟨c, h1, h2, fun i u hu => ?_⟩
  have h4 := h3 i u hu
  have hb : (ad.add (j * (Kd.int .i64).sz + i)).block ≠ B := by
    intro hb
    unfold World.cell? at h4
    rw [hb, hh] at h4
    simp at h4
  rw [← h4]
  unfold World.cell?
  rw [hg.block _ (World.block_lt_of_cell? w _ h4) (by simpa using hb)]
def rodV (ps : List Int) (a b : Int) : Value := .agg #[.int .i64 (cutN ps a.toNat b.toNat).1, .int .i64 (cutN ps a.toNat b.toNat).2]
theorem cutN_zero (ps : List Int) (least : Nat) : cutN ps least 0 = (0, 1) := by rw [cutN, if_pos rfl]
theorem cutN_none (ps : List Int) (least left : Nat) (h : 0 < left) (h1 : left < least ∨ ps.length < least) : cutN ps least left = (-1, 0) := by rw [cutN, if_neg (by omega), dif_pos (by omega)]
theorem cutN_some (ps : List Int) (least left : Nat) (h : 0 < left) (h0 : 0 < least) (h1 : ¬ (left < least ∨ ps.length < least)) :
    cutN ps least left = (if 0 ≤ (cutN ps least (left - least)).1 then
      (if (cutN ps (least + 1) left).1 < wrap64 ((cutN ps least (left - least)).1 + ps.getD (least - 1) 0) then (wrap64 ((cutN ps least (left - least)).1 + ps.getD (least - 1) 0), (cutN ps least (left - least)).2)
       else if wrap64 ((cutN ps least (left - least)).1 + ps.getD (least - 1) 0) = (cutN ps (least + 1) left).1 then ((cutN ps (least + 1) left).1, wrap64 ((cutN ps (least + 1) left).2 + (cutN ps least (left - least)).2)) else cutN ps (least + 1) left)
    else cutN ps (least + 1) left) := by
  rw [cutN, if_neg (by omega), dif_neg (by omega)]
def rodRes (ps : List Int) (a b : Int) : Ending := .returned (.tuple #[.int .i64 (cutN ps a.toNat b.toNat).1, .int .i64 (cutN ps a.toNat b.toNat).2])
def rodPost (ps : List Int) (B : Nat) (a b : Int) (w : World) (e : Ending) (w' : World) : Prop := e = rodRes ps a b ∧ Memo Try.prog 44 rodKl 60 (rodV ps) w' B ∧ w.grownBy w' (some B)
set_option maxHeartbeats 1000000 in
theorem cuts_of (ps : List Int) (hps : ps.length ≤ 60) (A0 : Option Addr) (c0 : Nat) (B : Nat) (n : Nat) : ∀ (least left : Int) (w : World), (left * 100 + (61 - least)).toNat < n → 1 ≤ least → least ≤ 61 → 0 ≤ left → left ≤ 60 →
    Kd.C (Kd.int .i64) w A0 ps.length ps → Memo Try.prog 44 rodKl 60 (rodV ps) w B →
    Calls Try.prog 25 #[.agg #[.slice A0 ps.length c0, .map (some B)], .int .i64 least, .int .i64 left] w (rodPost ps B least left w) := by
  have hu := Try.underlying40
  have hu2 := Try.underlying44
  induction n with
  | zero => intro least left w h1 h2 h3 h4; omega
  | succ n ih =>
    intro least left w hn h1 h61 h0 h60 hr hm
    have HR := Aside0.mk hr
    have HM := Aside0.mk hm
    have IH := Aside0.mk ih
    have hBlt := hm.lt
    clear hr hm ih
    by_cases hl : left = 0
    · subst hl
      go_enter Try.func25, Try.ntmps25
      go_wp2
      go_ret2
      refine ⟨?_, HM.out.below (by repeat (first | exact Below.refl _ _ | apply below_alloc | apply pw_below_drewN)), ?_⟩
      · unfold rodRes
        rw [show (0 : Int).toNat = 0 from rfl, cutN_zero]
        rfl
      · exact grown_of_below (by repeat (first | exact Below.refl _ _ | apply below_alloc | apply pw_below_drewN)) _
    · have hl1 : (left == 0) = false := beq_eq_false_iff_ne.mpr hl
      have hl0 : 0 < left := by omega
      clear hl
      by_cases hlt : left < least ∨ (ps.length : Int) < least
      · have HL := Aside0.mk hlt
        rcases Int.lt_or_le (ps.length : Int) left with hpl | hpl
        all_goals
          have hd : (if (ps.length : Int) < left then (ps.length : Int) else left) < least := by split <;> omega
          clear hlt
          go_enter Try.func25, Try.ntmps25
          go_wp2_with fail
          go_ret2
          refine ⟨?_, HM.out.below (by repeat (first | exact Below.refl _ _ | apply below_alloc | apply pw_below_drewN)), grown_of_below (by repeat (first | exact Below.refl _ _ | apply below_alloc | apply pw_below_drewN)) _⟩
          unfold rodRes
          rw [cutN_none ps _ _ (by omega) (by have := HL.out; omega)]
          rfl
      · have HL := Aside0.mk hlt
        have HM2 := Aside0.mk (HM.out.below (below_alloc (Below.refl w.heap.size w) (.cells #[.slice A0 ps.length c0, .map (some B)] 40)))
        rcases Int.lt_or_le (ps.length : Int) left with hpl | hpl
        all_goals
          have hd : least ≤ (if (ps.length : Int) < left then (ps.length : Int) else left) := by split <;> omega
          have hl60 : least ≤ 60 := by omega
          have hsub : least ≤ left := by omega
          have hidx : least ≤ (ps.length : Int) := by omega
          clear hlt
          rcases Memo.look rodMemo HM2.out (a := least) (b := left) (by omega) (by omega) with hlook | hlook
          · -- it is not there
            simp only [rodKv] at hlook
            go_enter Try.func25, Try.ntmps25
            go_wp2_with fail
            refine (IH.out (least + 1) left _ (by omega) (by omega) (by omega) h0 h60 (Kd.C_below HR.out ?b1) (HM.out.below ?b2)).mono ?_
            case b1 => repeat (first | exact Below.refl _ _ | apply below_alloc | apply pw_below_drewN)
            case b2 => repeat (first | exact Below.refl _ _ | apply below_alloc | apply pw_below_drewN)
            rintro e w1 ⟨rfl, hm1, hg1⟩
            have hwB : w.heap.size ≠ B := by omega
            have hx0 : w1.cell? ⟨w.heap.size, 0, none⟩ = some (.slice A0 ps.length c0) := grown_cell hg1 hwB (by simp)
            have hx1 : w1.cell? ⟨w.heap.size, 1, none⟩ = some (.map (some B)) := grown_cell hg1 hwB (by simp)
            have hr1 := rodOver (Kd.C_below HR.out (by repeat (first | exact Below.refl w.heap.size w | apply below_alloc | apply pw_below_drewN))) (HM.out.below (by repeat (first | exact Below.refl w.heap.size w | apply below_alloc | apply pw_below_drewN))) hg1
            have HR1 := Aside0.mk hr1
            have HM1 := Aside0.mk hm1
            have HG1 := Aside0.mk (grown_blw (by repeat (first | exact Below.refl w.heap.size w | apply below_alloc | apply pw_below_drewN)) hg1)
            clear hm1 hg1 hlook hr1
            unfold rodRes
            generalize hp1 : cutN ps (least + 1).toNat left.toNat = p1
            have HP1 := Aside0.mk hp1
            clear hp1
            go_wp2_with fail
            refine (IH.out least (left - least) _ (by omega) (by omega) (by omega) (by omega) (by omega) (Kd.C_below HR1.out ?b3) (HM1.out.below ?b4)).mono ?_
            case b3 => repeat (first | exact Below.refl _ _ | apply below_alloc | apply pw_below_drewN)
            case b4 => repeat (first | exact Below.refl _ _ | apply below_alloc | apply pw_below_drewN)
            rintro e w2 ⟨rfl, hm2, hg2⟩
            have hy0 : w2.cell? ⟨w.heap.size, 0, none⟩ = some (.slice A0 ps.length c0) := grown_cell hg2 hwB (by simpa using hx0)
            have hy1 : w2.cell? ⟨w.heap.size, 1, none⟩ = some (.map (some B)) := grown_cell hg2 hwB (by simpa using hx1)
            have hr2 := rodOver (Kd.C_below HR1.out (by repeat (first | exact Below.refl w1.heap.size w1 | apply below_alloc | apply pw_below_drewN))) (HM1.out.below (by repeat (first | exact Below.refl w1.heap.size w1 | apply below_alloc | apply pw_below_drewN))) hg2
            have HG2 := Aside0.mk (grown_trans HG1.out (grown_blw (by repeat (first | exact Below.refl w1.heap.size w1 | apply below_alloc | apply pw_below_drewN)) hg2))
            have HR2 := Aside0.mk hr2
            have HM2' := Aside0.mk hm2
            clear hm2 hg2 hr2 hx0 hx1
            unfold rodRes
            generalize hp2 : cutN ps least.toNat (left - least).toNat = p2
            have HP2 := Aside0.mk hp2
            clear hp2
            obtain ⟨ad, rfl, hpr⟩ := Kd.at_int HR2.out (least - 1) (by omega) (by omega)
            rw [show (least - 1).toNat = least.toNat - 1 from by omega, show rd ps (least - 1) = ps.getD (least.toNat - 1) 0 from by unfold rd; rw [show (least - 1).toNat = least.toNat - 1 from by omega]] at hpr
            have HV2 := cutN_some ps least.toNat left.toNat (by omega) (by omega) (by have := HL.out; omega)
            rw [show least.toNat + 1 = (least + 1).toNat from by omega, show left.toNat - least.toNat = (left - least).toNat from by omega, HP1.out, HP2.out] at HV2
            generalize hprice : ps.getD (least.toNat - 1) 0 = price at hpr HV2
            clear hprice
            obtain ⟨w1', hst, hms, hgs⟩ := Memo.store rodMemo (HM2'.out) (a := least) (b := left) (by omega) (by omega)
            have HMS := Aside0.mk hms
            have HGS := Aside0.mk (grown_trans HG2.out hgs)
            clear hms hgs
            have HRES : Aside0 (rodRes ps least left = .returned (.tuple #[.int .i64 (cutN ps least.toNat left.toNat).1, .int .i64 (cutN ps least.toNat left.toNat).2])) := ⟨rfl⟩
            generalize hq : cutN ps least.toNat left.toNat = q at HV2 HRES
            have HQ := Aside0.mk hq
            simp only [rodV, rodKv, HQ.out] at hst
            clear hq HQ
            have fin : ∀ e, e = Ending.returned (.tuple #[.int .i64 q.1, .int .i64 q.2]) → rodPost ps B least left w e w1' := fun e he => ⟨he.trans HRES.out.symm, HMS.out, HGS.out⟩
            have FIN := Aside0.mk fin
            clear fin HRES HGS HMS
            rcases Int.lt_or_le p2.1 0 with hb | hb
            · rw [if_neg (by omega)] at HV2
              subst HV2
              go_wp2_with fail
              go_ret2
              exact FIN.out _ rfl
            · rw [if_pos hb] at HV2
              cases ht1 : decide (p1.1 < wrap64 (p2.1 + price)) with
              | true =>
                rw [if_pos (of_decide_eq_true ht1)] at HV2
                subst HV2
                go_wp2_with fail
                go_ret2
                exact FIN.out _ rfl
              | false =>
                rw [if_neg (of_decide_eq_false ht1)] at HV2
                cases ht2 : decide (wrap64 (p2.1 + price) = p1.1) with
                | true =>
                  have ht3 : (wrap64 (p2.1 + price) == p1.1) = true := beq_iff_eq.mpr (of_decide_eq_true ht2)
                  rw [if_pos (of_decide_eq_true ht2)] at HV2
                  subst HV2
                  go_wp2_with fail
                  go_ret2
                  exact FIN.out _ rfl
                | false =>
                  have ht3 : (wrap64 (p2.1 + price) == p1.1) = false := beq_eq_false_iff_ne.mpr (of_decide_eq_false ht2)
                  rw [if_neg (of_decide_eq_false ht2)] at HV2
                  subst HV2
                  go_wp2_with fail
                  go_ret2
                  exact FIN.out _ rfl
          · -- it is there
            simp only [rodKv, rodV] at hlook
            have HRES : Aside0 (rodRes ps least left = .returned (.tuple #[.int .i64 (cutN ps least.toNat left.toNat).1, .int .i64 (cutN ps least.toNat left.toNat).2])) := ⟨rfl⟩
            generalize hq : cutN ps least.toNat left.toNat = q at hlook HRES
            clear hq
            go_enter Try.func25, Try.ntmps25
            go_wp2_with fail
            go_quiet (fail)
            go_wp2_with fail
            go_ret2
            exact ⟨HRES.out.symm, HM.out.below (by repeat (first | exact Below.refl _ _ | apply below_alloc | apply pw_below_drewN)), grown_of_below (by repeat (first | exact Below.refl _ _ | apply below_alloc | apply pw_below_drewN)) _⟩

end Go.Proofs.Ytekabbefflclaaa.Q

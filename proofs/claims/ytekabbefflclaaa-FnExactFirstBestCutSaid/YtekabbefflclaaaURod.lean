/- The reference's table of the worths and counts of cuts is what the program reckons by recursion. Condition: a rod of at most 60, at most 60 prices. -/
import Derived.Test.YtekabbefflclaaaQ0
import Derived.Test.YtekabbefflclaaaQ3
import Derived.Test.YtekabbefflclaaaQ5
import Derived.Test.YtekabbefflclaaaQ8
import Derived.Test.YtekabbefflclaaaQ9
import Derived.Test.YtekabbefflclaaaUAll
import Derived.Test.YtekabbefflclaaaUWithin
import Derived.Test.YtekabbefflclaaaUTab
namespace Go.Proofs.Ytekabbefflclaaa.Pure
open Go.RowKit Go.Proofs.Ytekabbefflclaaa.Q Go.Proofs.YtekabbefflclaaaW.PrintWords Go.Proofs.YtekabbefflclaaaW.PrintLast Go.Proofs.YtekabbefflclaaaW.PrintMore
set_option linter.unusedVariables false
set_option linter.unusedSimpArgs false
theorem okW_in (a b x : Int) : okW a b x = inB a b x := rfl
theorem prices_are (l : List Int) : impl_arePrices.f l = some (inB 1 60 (l.length : Int) && l.all (inB 0 1000)) := by
  unfold impl_arePrices.f impl_areWithin.f
  rw [within_is]
  have e : okW 0 1000 = inB 0 1000 := rfl
  cases inB 1 60 (l.length : Int) <;> simp [e]
theorem rod_is (a : Int) : impl_isRod.f a = some (inB 1 60 a) := by simp [impl_isRod.f, within_is]
theorem rdPrices_is (l : List Int) (a : Int) (hn : l.length ≤ 9223372036854775807) : Ev (fun k => spec_rdPrices.f k l a) ((inB 1 60 (l.length : Int) && l.all (inB 0 1000)) && inB 1 60 a) := by
  unfold spec_rdPrices.f
  simp only [in_is, Option.bind_some]
  cases h : inB 1 60 (l.length : Int) with
  | false => exact ev_neg (by decide) (Ev.now _)
  | true =>
    refine ev_pos rfl (Ev.bind (all_is 0 1000 l hn) ?_)
    cases h2 : l.all (inB 0 1000) with
    | false => exact ev_neg (by decide) (Ev.now _)
    | true => exact ev_pos rfl (Ev.now _)
theorem cutN_small (ps : List Int) (L j : Nat) (h0 : 0 < L) (h : j < L ∨ ps.length < L) : cutN ps L j = if j = 0 then (0, 1) else (-1, 0) := by
  by_cases hj : j = 0
  · subst hj
    rw [if_pos rfl, cutN_zero]
  · rw [if_neg hj, cutN_none ps L j (by omega) h]
/-- the table in the midst of a round: to n it is of pieces of at least L, from n on of more than L -/
def rodW (ps : List Int) (L n j : Nat) : Int × Int := if j < n then cutN ps L j else cutN ps (L + 1) j
theorem rodW_next (ps : List Int) (L n j : Nat) (h : j ≠ n) : rodW ps L n j = rodW ps L (n + 1) j := by
  unfold rodW
  by_cases h1 : j < n
  · rw [if_pos h1, if_pos (by omega)]
  · rw [if_neg h1, if_neg (by omega)]
theorem rod_inner (ps : List Int) (rod from_ : Nat) (hr : rod ≤ 60) (hp : ps.length ≤ 60) (L : Nat) (h0 : 0 < L) (hL : L ≤ ps.length) (R : List Int × List Int)
    (hK : Ev (fun k => spec_rdWorth.l1 k ps (rod : Int) (from_ : Int) (tab (rod + 1) fun j => (cutN ps L j).1) (tab (rod + 1) fun j => (cutN ps L j).2) ((L - 1 : Nat) : Int)) R) (d : Nat) :
    ∀ n : Nat, rod + 1 - n = d → L ≤ n → Ev (fun k => spec_rdWorth.l2 k ps (rod : Int) (from_ : Int) (tab (rod + 1) fun j => (rodW ps L n j).1) (tab (rod + 1) fun j => (rodW ps L n j).2) (L : Int) (n : Int)) R := by
  induction d with
  | zero =>
    intro n hd hn
    refine Ev.step (fun k => ?_) hK
    simp only [spec_rdWorth.l2]
    rw [if_neg (by omega), w64 (by omega) (by omega), show ((L : Int) - 1) = ((L - 1 : Nat) : Int) from by omega]
    rw [tab_ext _ (fun j => (rodW ps L n j).1) (fun j => (cutN ps L j).1) (fun j hj => by unfold rodW; rw [if_pos (by omega)]),
      tab_ext _ (fun j => (rodW ps L n j).2) (fun j => (cutN ps L j).2) (fun j hj => by unfold rodW; rw [if_pos (by omega)])]
  | succ d ih =>
    intro n hd hn
    refine Ev.step (f := fun k => spec_rdWorth.l2 k ps (rod : Int) (from_ : Int) (tab (rod + 1) fun j => (rodW ps L (n + 1) j).1) (tab (rod + 1) fun j => (rodW ps L (n + 1) j).2) (L : Int) ((n + 1 : Nat) : Int)) (fun k => ?_) (ih (n + 1) (by omega) (by omega))
    have hb : rodW ps L n (n - L) = cutN ps L (n - L) := if_pos (by omega)
    have ha : rodW ps L n n = cutN ps (L + 1) n := if_neg (by omega)
    have hc : rodW ps L (n + 1) n = cutN ps L n := if_pos (by omega)
    have hs := cutN_some ps L n (by omega) h0 (by omega)
    have hrp : rd ps ((L - 1 : Nat) : Int) = ps.getD (L - 1) 0 := by simp [rd]
    have hx : ((n + 1 : Nat) : Int) = (n : Int) + 1 := by omega
    simp only [spec_rdWorth.l2, tab_len]
    rw [if_pos (by omega), w64 (i := (n : Int) - (L : Int)) (by omega) (by omega), w64 (i := (L : Int) - 1) (by omega) (by omega), w64 (i := (n : Int) + 1) (by omega) (by omega), show ((n : Int) - (L : Int)) = ((n - L : Nat) : Int) from by omega, show ((L : Int) - 1) = ((L - 1 : Nat) : Int) from by omega]
    rw [rd_tab _ _ _ (by omega), rd_tab _ _ _ (by omega), rd_tab _ _ _ (by omega), rd_tab _ _ _ (by omega), hb, ha, hrp, hx, Int.toNat_natCast]
    rw [if_pos (by omega), if_pos (by omega)]
    by_cases h1 : (cutN ps L (n - L)).1 < 0
    · rw [if_neg (show ¬ 0 ≤ (cutN ps L (n - L)).1 by omega)] at hs
      rw [if_pos h1, tab_ext _ (fun j => (rodW ps L n j).1) (fun j => (rodW ps L (n + 1) j).1) (fun j hj => ?_), tab_ext _ (fun j => (rodW ps L n j).2) (fun j => (rodW ps L (n + 1) j).2) (fun j hj => ?_)]
      all_goals
        by_cases hjn : j = n
        · subst hjn; simp only [ha, hc, hs]
        · simp only [rodW_next ps L n j hjn]
    · rw [if_pos (show 0 ≤ (cutN ps L (n - L)).1 by omega)] at hs
      rw [if_neg h1, if_pos (by omega), if_pos (by omega), if_pos (by omega), if_pos (by omega)]
      generalize hv : wrap64 ((cutN ps L (n - L)).1 + ps.getD (L - 1) 0) = v at hs ⊢
      by_cases h2 : (cutN ps (L + 1) n).1 < v
      · rw [if_pos h2] at hs
        rw [if_pos h2, if_pos (by omega), if_pos (by omega),
          tab_set _ _ (fun j => (rodW ps L (n + 1) j).1) _ _ (fun _ => by simp only [hc, hs]) (fun j _ hjn => by simp only [rodW_next ps L n j hjn]),
          tab_set _ _ (fun j => (rodW ps L (n + 1) j).2) _ _ (fun _ => by simp only [hc, hs]) (fun j _ hjn => by simp only [rodW_next ps L n j hjn])]
      · rw [if_neg h2] at hs
        rw [if_neg h2]
        by_cases h3 : v = (cutN ps (L + 1) n).1
        · rw [if_pos h3] at hs
          rw [if_pos h3, if_pos (by omega), if_pos (by omega),
            tab_ext _ (fun j => (rodW ps L n j).1) (fun j => (rodW ps L (n + 1) j).1) (fun j hj => ?_),
            tab_set _ _ (fun j => (rodW ps L (n + 1) j).2) _ _ (fun _ => by simp only [hc, hs]) (fun j _ hjn => by simp only [rodW_next ps L n j hjn])]
          by_cases hjn : j = n
          · subst hjn; simp only [ha, hc, hs]
          · simp only [rodW_next ps L n j hjn]
        · rw [if_neg h3] at hs
          rw [if_neg h3, tab_ext _ (fun j => (rodW ps L n j).1) (fun j => (rodW ps L (n + 1) j).1) (fun j hj => ?_), tab_ext _ (fun j => (rodW ps L n j).2) (fun j => (rodW ps L (n + 1) j).2) (fun j hj => ?_)]
          all_goals
            by_cases hjn : j = n
            · subst hjn; simp only [ha, hc, hs]
            · simp only [rodW_next ps L n j hjn]
theorem rod_outer (ps : List Int) (rod from_ : Nat) (hr : rod ≤ 60) (hp : ps.length ≤ 60) (h0 : 0 < from_) : ∀ L : Nat, from_ ≤ L + 1 → L ≤ ps.length →
    Ev (fun k => spec_rdWorth.l1 k ps (rod : Int) (from_ : Int) (tab (rod + 1) fun j => (cutN ps (L + 1) j).1) (tab (rod + 1) fun j => (cutN ps (L + 1) j).2) (L : Int)) (tab (rod + 1) fun j => (cutN ps from_ j).1, tab (rod + 1) fun j => (cutN ps from_ j).2) := by
  intro L
  induction L with
  | zero =>
    intro h1 h2
    obtain rfl : from_ = 1 := by omega
    refine ev_at 1 (fun k => ?_)
    simp only [spec_rdWorth.l1]
    rw [if_neg (by omega)]
  | succ L ih =>
    intro h1 h2
    by_cases h : from_ = L + 1 + 1
    · subst h
      refine ev_at 1 (fun k => ?_)
      simp only [spec_rdWorth.l1]
      rw [if_neg (by omega)]
    · refine Ev.step (fun k => ?_) (rod_inner ps rod from_ hr hp (L + 1) (by omega) h2 _ (ih (by omega) (by omega)) _ (L + 1) rfl (Nat.le_refl _))
      simp only [spec_rdWorth.l1]
      rw [if_pos (by omega), tab_ext _ (fun j => (rodW ps (L + 1) (L + 1) j).1) (fun j => (cutN ps (L + 1 + 1) j).1) (fun j hj => ?_), tab_ext _ (fun j => (rodW ps (L + 1) (L + 1) j).2) (fun j => (cutN ps (L + 1 + 1) j).2) (fun j hj => ?_)]
      all_goals
        unfold rodW
        by_cases hj : j < L + 1
        · rw [if_pos hj, cutN_small ps (L + 1) j (by omega) (by omega), cutN_small ps (L + 1 + 1) j (by omega) (by omega)]
        · rw [if_neg hj]
theorem rod_start (ps : List Int) (rod from_ : Nat) (hr : rod ≤ 60) (hp : ps.length ≤ 60) (h0 : 0 < from_) (h1 : from_ ≤ ps.length + 1) (d : Nat) : ∀ n : Nat, rod + 1 - n = d → 0 < n → n ≤ rod + 1 →
    Ev (fun k => spec_rdWorth.l0 k ps (rod : Int) (from_ : Int) (tab (rod + 1) fun j => if 0 < j ∧ j < n then -1 else 0) (tab (rod + 1) fun _ => 0) (n : Int)) (tab (rod + 1) fun j => (cutN ps from_ j).1, tab (rod + 1) fun j => (cutN ps from_ j).2) := by
  induction d with
  | zero =>
    intro n hd hn hle
    refine Ev.step (fun k => ?_) (rod_outer ps rod from_ hr hp h0 ps.length h1 (Nat.le_refl _))
    simp only [spec_rdWorth.l0, tab_len]
    rw [if_neg (by omega), if_pos (by omega)]
    rw [tab_ext _ (fun j => if 0 < j ∧ j < n then -1 else 0) (fun j => (cutN ps (ps.length + 1) j).1) (fun j hj => ?_),
      tab_set _ _ (fun j => (cutN ps (ps.length + 1) j).2) _ _ (fun _ => ?_) (fun j _ hjn => ?_)]
    · rw [show (0 : Int).toNat = 0 from rfl, cutN_zero]
    · rw [show (0 : Int).toNat = 0 from rfl] at hjn
      rw [cutN_small ps (ps.length + 1) j (by omega) (by omega), if_neg hjn]
    · rw [cutN_small ps (ps.length + 1) j (by omega) (by omega)]
      by_cases hj0 : j = 0
      · rw [if_pos hj0, if_neg (by omega)]
      · rw [if_neg hj0, if_pos (by omega)]
  | succ d ih =>
    intro n hd hn hle
    refine Ev.step (fun k => ?_) (ih (n + 1) (by omega) (by omega) (by omega))
    simp only [spec_rdWorth.l0, tab_len]
    rw [if_pos (by omega), if_pos (by omega), if_pos (by omega), w64 (by omega) (by omega), Int.toNat_natCast,
      tab_set _ _ (fun j => if 0 < j ∧ j < n + 1 then -1 else 0) _ _ (fun _ => if_pos (by omega)) (fun j _ hjn => by
        by_cases h : 0 < j ∧ j < n
        · rw [if_pos h, if_pos (by omega)]
        · rw [if_neg h, if_neg (by omega)])]
    rfl
theorem rdWorth_is (ps : List Int) (rod from_ : Nat) (hr : rod ≤ 60) (hp : ps.length ≤ 60) (h0 : 0 < from_) (h1 : from_ ≤ ps.length + 1) (h2 : 0 < rod) :
    Ev (fun k => spec_rdWorth.f k ps (rod : Int) (from_ : Int)) (tab (rod + 1) fun j => (cutN ps from_ j).1, tab (rod + 1) fun j => (cutN ps from_ j).2) := by
  have h := rod_start ps rod from_ hr hp h0 h1 _ 1 rfl (by omega) (by omega)
  unfold spec_rdWorth.f
  rw [w64 (i := (rod : Int) + 1) (by omega) (by omega), show ((rod : Int) + 1) = ((rod + 1 : Nat) : Int) from by omega, Int.toNat_natCast]
  refine ev_pos (by omega) (ev_pos (by omega) ?_)
  rw [tab_rep]
  have e : (tab (rod + 1) fun j => if 0 < j ∧ j < 1 then (-1 : Int) else 0) = tab (rod + 1) fun _ => 0 := tab_ext _ _ _ (fun j _ => if_neg (by omega))
  rw [e] at h
  exact h

end Go.Proofs.Ytekabbefflclaaa.Pure

/- For every list of prices and every rod: the program's FirstBestCut and the reference's return the same results, and the slice is new memory. No condition. -/
import Derived.Test.YtekabbefflclaaaQ0
import Derived.Test.YtekabbefflclaaaQ13
import Derived.Test.YtekabbefflclaaaQ14
import Derived.Test.YtekabbefflclaaaURod
import Derived.Test.YtekabbefflclaaaUMIntS
namespace Go.Proofs.Ytekabbefflclaaa.Pure
open Go.RowKit Go.Proofs.Ytekabbefflclaaa.Q Go.Proofs.YtekabbefflclaaaW.PrintWords Go.Proofs.YtekabbefflclaaaW.PrintLast Go.Proofs.YtekabbefflclaaaW.PrintMore
set_option linter.unusedVariables false
set_option linter.unusedSimpArgs false
theorem price_in (ps : List Int) (h : ps.all (inB 0 1000) = true) (i : Nat) : 0 ≤ ps.getD i 0 ∧ ps.getD i 0 ≤ 1000 := by
  rw [List.getD_eq_getElem?_getD]
  cases hi : ps[i]? with
  | none => simp
  | some x =>
    have hx := List.all_eq_true.1 h x (List.mem_of_getElem? hi)
    simpa using (inB_iff 0 1000 x).1 hx
theorem cutN_in (ps : List Int) (h : ps.all (inB 0 1000) = true) (hp : ps.length ≤ 60) (d : Nat) : ∀ L n : Nat, n * 100 + (61 - L) ≤ d → 0 < L → n ≤ 60 → -1 ≤ (cutN ps L n).1 ∧ (cutN ps L n).1 ≤ 1000 * (n : Int) := by
  induction d with
  | zero =>
    intro L n hd hL hn
    obtain rfl : n = 0 := by omega
    rw [cutN_zero]
    simp
  | succ d ih =>
    intro L n hd hL hn
    by_cases hn0 : n = 0
    · subst hn0
      rw [cutN_zero]
      simp
    · by_cases hs : n < L ∨ ps.length < L
      · rw [cutN_none ps L n (by omega) hs]
        simp
        omega
      · have ha := ih (L + 1) n (by omega) (by omega) hn
        have hb := ih L (n - L) (by omega) hL (by omega)
        have hq := price_in ps h (L - 1)
        rw [cutN_some ps L n (by omega) hL hs]
        generalize cutN ps (L + 1) n = a at ha ⊢
        generalize cutN ps L (n - L) = b at hb ⊢
        generalize ps.getD (L - 1) 0 = q at hq ⊢
        by_cases h0 : 0 ≤ b.1
        · rw [if_pos h0, w64 (by omega) (by omega)]
          by_cases h1 : a.1 < b.1 + q
          · rw [if_pos h1]
            simp only
            omega
          · rw [if_neg h1]
            by_cases h2 : b.1 + q = a.1
            · rw [if_pos h2]; exact ha
            · rw [if_neg h2]; exact ha
        · rw [if_neg h0]
          exact ha
theorem cutN_val (ps : List Int) (h : ps.all (inB 0 1000) = true) (hp : ps.length ≤ 60) (L n : Nat) (hL : 0 < L) (hn : n ≤ 60) (hs : ¬ (n < L ∨ ps.length < L)) (v : Int) (hv : (cutN ps L (n - L)).1 + ps.getD (L - 1) 0 = v) :
    wrap64 v = v ∧ (0 ≤ (cutN ps L (n - L)).1 ∧ v = (cutN ps L n).1 ∨ (cutN ps L n).1 = (cutN ps (L + 1) n).1 ∧ ¬ (0 ≤ (cutN ps L (n - L)).1 ∧ v = (cutN ps L n).1)) := by
  have ha := cutN_in ps h hp _ (L + 1) n (Nat.le_refl _) (by omega) hn
  have hb := cutN_in ps h hp _ L (n - L) (Nat.le_refl _) hL (by omega)
  have hq := price_in ps h (L - 1)
  have hc := cutN_some ps L n (by omega) hL hs
  generalize cutN ps L n = c at hc ⊢
  generalize cutN ps (L + 1) n = a at ha hc ⊢
  generalize cutN ps L (n - L) = b at hb hc hv ⊢
  generalize ps.getD (L - 1) 0 = q at hq hc hv
  have hw : wrap64 v = v := w64 (by omega) (by omega)
  refine ⟨hw, ?_⟩
  rw [hv, hw] at hc
  by_cases h0 : 0 ≤ b.1
  · rw [if_pos h0] at hc
    by_cases h1 : a.1 < v
    · rw [if_pos h1] at hc
      subst hc
      exact .inl ⟨h0, rfl⟩
    · rw [if_neg h1] at hc
      by_cases h2 : v = a.1
      · rw [if_pos h2] at hc
        subst hc
        exact .inl ⟨h0, h2⟩
      · rw [if_neg h2] at hc
        subst hc
        exact .inr ⟨rfl, fun hh => h2 hh.2⟩
  · rw [if_neg h0] at hc
    subst hc
    exact .inr ⟨rfl, fun hh => h0 hh.1⟩
theorem cutN_one (ps : List Int) (h : ps.all (inB 0 1000) = true) (hp : ps.length ≤ 60) (h1 : 1 ≤ ps.length) : ∀ n : Nat, n ≤ 60 → 0 ≤ (cutN ps 1 n).1 := by
  intro n
  induction n with
  | zero => intro _; rw [cutN_zero]; simp
  | succ n ih =>
    intro hn
    have hb := ih (by omega)
    have hbb := cutN_in ps h hp _ 1 n (Nat.le_refl _) (by omega) (by omega)
    have hq := price_in ps h 0
    have hc := cutN_some ps 1 (n + 1) (by omega) (by omega) (by omega)
    rw [Nat.add_sub_cancel, Nat.sub_self, if_pos hb, w64 (by omega) (by omega)] at hc
    rw [hc]
    generalize cutN ps (1 + 1) (n + 1) = a
    by_cases h1 : a.1 < (cutN ps 1 n).1 + ps.getD 0 0
    · rw [if_pos h1]; simp only; omega
    · rw [if_neg h1]
      by_cases h2 : (cutN ps 1 n).1 + ps.getD 0 0 = a.1
      · rw [if_pos h2]; simp only; omega
      · rw [if_neg h2]; omega
theorem first_loops (ps : List Int) (h : ps.all (inB 0 1000) = true) (hp : ps.length ≤ 60) (d : Nat) : ∀ (rod long : Nat) (out : List Int), rod + (61 - long) ≤ d → 1 ≤ long → rod ≤ 60 → 0 ≤ (cutN ps long rod).1 → out.length + rod ≤ 60 →
    ∃ r, r.length ≤ 60 ∧ Ev (fun k => spec_FirstBestCut.l0 k ps (rod : Int) (cutN ps long rod).1 out (long : Int)) (r, true) ∧ ∀ k, d < k → fbc k ps (rod : Int) (long : Int) out = some (r, true) := by
  induction d with
  | zero =>
    intro rod long out hd hl hr h0 ho
    obtain rfl : rod = 0 := by omega
    refine ⟨out, by omega, ev_at 1 (fun k => ?_), fun k hk => ?_⟩
    · simp only [spec_FirstBestCut.l0]
      rw [if_neg (by omega)]
    · obtain ⟨q, rfl⟩ : ∃ q, k = q + 1 := ⟨k - 1, by omega⟩
      rw [fbc, if_neg (by omega)]
  | succ d ih =>
    intro rod long out hd hl hr h0 ho
    by_cases hr0 : rod = 0
    · subst hr0
      refine ⟨out, by omega, ev_at 1 (fun k => ?_), fun k hk => ?_⟩
      · simp only [spec_FirstBestCut.l0]
        rw [if_neg (by omega)]
      · obtain ⟨q, rfl⟩ : ∃ q, k = q + 1 := ⟨k - 1, by omega⟩
        rw [fbc, if_neg (by omega)]
    · have hs : ¬ (rod < long ∨ ps.length < long) := by
        intro hs
        rw [cutN_none ps long rod (by omega) hs] at h0
        simp at h0
      have hw := rdWorth_is ps rod long hr hp (by omega) (by omega) (by omega)
      obtain ⟨hwv, hv⟩ := cutN_val ps h hp long rod (by omega) hr hs _ rfl
      have hq : rd ps ((long - 1 : Nat) : Int) = ps.getD (long - 1) 0 := by simp [rd]
      have hqb := price_in ps h (long - 1)
      have hbb := cutN_in ps h hp _ long (rod - long) (Nat.le_refl _) (by omega) (by omega)
      have e1 : ((rod : Int) - (long : Int)).toNat = rod - long := by omega
      have e2 : (rod : Int) - (long : Int) = ((rod - long : Nat) : Int) := by omega
      have e3 : (long : Int) - 1 = ((long - 1 : Nat) : Int) := by omega
      have e4 : (long : Int) + 1 = ((long + 1 : Nat) : Int) := by omega
      by_cases hc : 0 ≤ (cutN ps long (rod - long)).1 ∧ (cutN ps long (rod - long)).1 + ps.getD (long - 1) 0 = (cutN ps long rod).1
      · obtain ⟨r, hr1, hr2, hr3⟩ := ih (rod - long) long (out ++ [(long : Int)]) (by omega) hl (by omega) hc.1 (by simp; omega)
        refine ⟨r, hr1, Ev.step (fun k => by simp only [spec_FirstBestCut.l0]; rw [if_pos (by omega)]) (Ev.bind hw ?_), fun k hk => ?_⟩
        · simp only [tab_len]
          rw [w64 (i := (rod : Int) - (long : Int)) (by omega) (by omega), w64 (i := (long : Int) - 1) (by omega) (by omega), e2, e3, rd_tab _ _ _ (by omega), hq, hwv]
          refine ev_pos (by omega) (ev_pos (by omega) (ev_pos (by omega) (ev_pos hc.1 (ev_pos (by omega) (ev_pos (by omega) (ev_pos hc.2 (ev_pos (by omega) ?_)))))))
          rw [← hc.2, show (cutN ps long (rod - long)).1 + ps.getD (long - 1) 0 - ps.getD (long - 1) 0 = (cutN ps long (rod - long)).1 from by omega, w64 (by omega) (by omega)]
          exact hr2
        · obtain ⟨q, rfl⟩ : ∃ q, k = q + 1 := ⟨k - 1, by omega⟩
          rw [fbc, if_pos (by omega), if_neg (by omega), if_pos (by omega), e1, Int.toNat_natCast, Int.toNat_natCast, hwv, if_pos hc, e2]
          exact hr3 q (by omega)
      · have hv2 : (cutN ps long rod).1 = (cutN ps (long + 1) rod).1 := by
          rcases hv with hv | hv
          · exact absurd hv hc
          · exact hv.1
        obtain ⟨r, hr1, hr2, hr3⟩ := ih rod (long + 1) out (by omega) (by omega) hr (by omega) ho
        rw [← hv2] at hr2
        refine ⟨r, hr1, Ev.step (fun k => by simp only [spec_FirstBestCut.l0]; rw [if_pos (by omega)]) (Ev.bind hw ?_), fun k hk => ?_⟩
        · simp only [tab_len]
          rw [w64 (i := (rod : Int) - (long : Int)) (by omega) (by omega), w64 (i := (long : Int) - 1) (by omega) (by omega), w64 (i := (long : Int) + 1) (by omega) (by omega), e2, e3, e4, rd_tab _ _ _ (by omega), hq, hwv]
          refine ev_pos (by omega) (ev_pos (by omega) (ev_pos (by omega) ?_))
          by_cases hb0 : 0 ≤ (cutN ps long (rod - long)).1
          · exact ev_pos hb0 (ev_pos (by omega) (ev_pos (by omega) (ev_neg (fun hh => hc ⟨hb0, hh⟩) hr2)))
          · exact ev_neg hb0 hr2
        · obtain ⟨q, rfl⟩ : ∃ q, k = q + 1 := ⟨k - 1, by omega⟩
          rw [fbc, if_pos (by omega), if_neg (by omega), if_pos (by omega), e1, Int.toNat_natCast, Int.toNat_natCast, hwv, if_neg hc, e4]
          exact hr3 q (by omega)
theorem first_law (l : List Int) (a : Int) (r : List Int) (b : Bool) (hn : l.length ≤ 1048576) (hr : r.length ≤ 60) (hs : Ev (fun k => spec_FirstBestCut.f k l a) (r, b)) (hi : impl_FirstBestCut.f l a = some (r, b)) : Ev (fun k => laws_FnExactFirstBestCut.f k l a) true := by
  have hm1 := markIntS_is l 1 (by omega) (by omega)
  have hm2 := markIntS_is r 1 (by omega) (by omega)
  have hh := heldIntS_is r.length 1 (by omega) (by omega)
  unfold laws_FnExactFirstBestCut.f
  refine ev_neg (by omega) (Ev.bind (toIntS_is l (by omega)) (Ev.bind hs (Ev.bind (toIntS_is l (by omega)) ?_)))
  rw [hi]
  have hb : ¬ (b != b) = true := by cases b <;> decide
  have p1 : ¬ (1 + (l.length : Int), marks 1 l.length).1 < 0 := by show ¬ (1 + (l.length : Int)) < 0; omega
  refine ev_some (Ev.bind (eqIntS_is r (by omega)) (ev_pos rfl (ev_neg hb ?_)))
  refine Ev.bind (toIntS_is l (by omega)) (Ev.bind (eqIntS_is l (by omega)) (ev_pos rfl ?_))
  refine Ev.bind hm1 (ev_neg p1 (Ev.bind (eqIntS_is r (by omega)) (ev_pos rfl ?_)))
  refine Ev.step (fun k => by simp only [laws_FnExactFirstBestCut.j0]; rfl) (ev_neg (by decide) ?_)
  refine Ev.bind hm2 (Ev.bind hh (ev_neg (by omega) (ev_pos rfl ?_)))
  refine Ev.bind (toIntS_is l (by omega)) ?_
  rw [hi]
  refine ev_some (Ev.bind (eqIntS_is r (by omega)) (ev_pos rfl (ev_neg hb ?_)))
  exact Ev.bind hh (ev_neg (by omega) (ev_pos rfl (Ev.now _)))
theorem FnExactFirstBestCut : laws_FnExactFirstBestCut.Pure := by
  intro l a hm _ _ _
  unfold maxLen at hm
  refine Ev.rounds ?_
  by_cases hn : l.length ≤ 1048576
  · have hr := rdPrices_is l a (by omega)
    cases h1 : (inB 1 60 (l.length : Int) && l.all (inB 0 1000)) with
    | false =>
      rw [h1] at hr
      refine first_law l a [] false hn (by simp) ?_ ?_
      · unfold spec_FirstBestCut.f
        exact Ev.bind hr (ev_neg (by simp) (Ev.now _))
      · simp [impl_FirstBestCut.f, prices_are, h1]
    | true =>
      rw [h1] at hr
      cases h2 : inB 1 60 a with
      | false =>
        rw [h2] at hr
        refine first_law l a [] false hn (by simp) ?_ ?_
        · unfold spec_FirstBestCut.f
          exact Ev.bind hr (ev_neg (by simp) (Ev.now _))
        · simp [impl_FirstBestCut.f, prices_are, h1, rod_is, h2]
      | true =>
        rw [h2] at hr
        have hl := (inB_iff 1 60 (l.length : Int)).1 (Bool.and_eq_true_iff.1 h1).1
        have hall := (Bool.and_eq_true_iff.1 h1).2
        have ha := (inB_iff 1 60 a).1 h2
        obtain ⟨m, rfl⟩ := Int.eq_ofNat_of_zero_le (show 0 ≤ a by omega)
        have hw := rdWorth_is l m 1 (by omega) (by omega) (by omega) (by omega) (by omega)
        obtain ⟨r, hr1, hr2, hr3⟩ := first_loops l hall (by omega) _ m 1 [] (Nat.le_refl _) (by omega) (by omega) (cutN_one l hall (by omega) (by omega) m (by omega)) (by simp; omega)
        refine first_law l m r true hn hr1 ?_ ?_
        · unfold spec_FirstBestCut.f
          refine Ev.bind hr (ev_pos rfl (Ev.bind hw ?_))
          simp only [tab_len]
          rw [rd_tab _ _ _ (by omega)]
          exact ev_pos (by omega) (ev_pos (by omega) hr2)
        · simp only [impl_FirstBestCut.f, prices_are, h1, rod_is, h2, Option.bind_some, if_true]
          exact hr3 200 (by omega)
  · unfold laws_FnExactFirstBestCut.f
    exact ev_pos (by omega) (Ev.now _)

end Go.Proofs.Ytekabbefflclaaa.Pure

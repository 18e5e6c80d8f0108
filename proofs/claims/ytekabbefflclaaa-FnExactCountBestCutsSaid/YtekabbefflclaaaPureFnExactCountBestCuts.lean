/- For every list of prices and every rod: the program's CountBestCuts and the reference's return the same two results. No condition. -/
import Derived.Test.YtekabbefflclaaaQ0
import Derived.Test.YtekabbefflclaaaQ12
import Derived.Test.YtekabbefflclaaaURod
import Derived.Test.YtekabbefflclaaaUIntS
namespace Go.Proofs.Ytekabbefflclaaa.Pure
open Go.RowKit Go.Proofs.Ytekabbefflclaaa.Q Go.Proofs.YtekabbefflclaaaW.PrintWords Go.Proofs.YtekabbefflclaaaW.PrintLast Go.Proofs.YtekabbefflclaaaW.PrintMore
set_option linter.unusedVariables false
set_option linter.unusedSimpArgs false
theorem count_law (l : List Int) (a x : Int) (b : Bool) (hn : l.length ≤ 1048576) (hs : Ev (fun k => spec_CountBestCuts.f k l a) (x, b)) (hi : impl_CountBestCuts.f l a = some (x, b)) : Ev (fun k => laws_FnExactCountBestCuts.f k l a) true := by
  unfold laws_FnExactCountBestCuts.f
  refine ev_neg (by omega) (Ev.bind (toIntS_is l (by omega)) (Ev.bind hs (Ev.bind (toIntS_is l (by omega)) ?_)))
  rw [hi]
  refine ev_some (ev_pos rfl (ev_neg (by simp) (Ev.bind (toIntS_is l (by omega)) (Ev.bind (eqIntS_is l (by omega)) (ev_pos rfl (Ev.now _))))))
theorem FnExactCountBestCuts : laws_FnExactCountBestCuts.Pure := by
  intro l a hm _ _ _
  unfold maxLen at hm
  refine Ev.rounds ?_
  by_cases hn : l.length ≤ 1048576
  · have hr := rdPrices_is l a (by omega)
    cases h1 : (inB 1 60 (l.length : Int) && l.all (inB 0 1000)) with
    | false =>
      rw [h1] at hr
      refine count_law l a 0 false hn ?_ ?_
      · unfold spec_CountBestCuts.f
        exact Ev.bind hr (ev_neg (by simp) (Ev.now _))
      · simp [impl_CountBestCuts.f, prices_are, h1]
    | true =>
      rw [h1] at hr
      cases h2 : inB 1 60 a with
      | false =>
        rw [h2] at hr
        refine count_law l a 0 false hn ?_ ?_
        · unfold spec_CountBestCuts.f
          exact Ev.bind hr (ev_neg (by simp) (Ev.now _))
        · simp [impl_CountBestCuts.f, prices_are, h1, rod_is, h2]
      | true =>
        rw [h2] at hr
        have hlen : l.length ≤ 60 := by
          have := (inB_iff 1 60 (l.length : Int)).1 (Bool.and_eq_true_iff.1 h1).1
          omega
        have ha := (inB_iff 1 60 a).1 h2
        obtain ⟨m, rfl⟩ := Int.eq_ofNat_of_zero_le (show 0 ≤ a by omega)
        have hw := rdWorth_is l m 1 (by omega) hlen (by omega) (by omega) (by omega)
        refine count_law l m (cutN l 1 m).2 true hn ?_ ?_
        · unfold spec_CountBestCuts.f
          refine Ev.bind hr (ev_pos rfl (Ev.bind hw ?_))
          simp only [tab_len]
          rw [rd_tab _ _ _ (by omega)]
          exact ev_pos (by omega) (ev_pos (by omega) (Ev.now _))
        · simp [impl_CountBestCuts.f, prices_are, h1, rod_is, h2]
  · unfold laws_FnExactCountBestCuts.f
    exact ev_pos (by omega) (Ev.now _)

end Go.Proofs.Ytekabbefflclaaa.Pure

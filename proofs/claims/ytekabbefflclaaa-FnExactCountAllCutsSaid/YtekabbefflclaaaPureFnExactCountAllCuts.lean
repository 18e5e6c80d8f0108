/- For every rod: the program's CountAllCuts and the reference's return the same two results. No condition. -/
import Derived.Test.YtekabbefflclaaaQ0
import Derived.Test.YtekabbefflclaaaQ8
import Derived.Test.YtekabbefflclaaaURod
import Derived.Test.YtekabbefflclaaaUParts
namespace Go.Proofs.Ytekabbefflclaaa.Pure
open Go.RowKit Go.Proofs.Ytekabbefflclaaa.Q Go.Proofs.YtekabbefflclaaaW.PrintWords Go.Proofs.YtekabbefflclaaaW.PrintLast Go.Proofs.YtekabbefflclaaaW.PrintMore
set_option linter.unusedVariables false
set_option linter.unusedSimpArgs false
theorem wone : wrap64 ((1 : Nat) : Int) = 1 := w64 (by omega) (by omega)
theorem zeros_cut (n : Nat) : ∀ (L m : Nat), m + (61 - L) ≤ n → 1 ≤ L → L ≤ 61 → cutN (List.replicate 60 0) L m = if partN (List.range' L (61 - L)) m = 0 then (-1, 0) else (0, wrap64 (partN (List.range' L (61 - L)) m)) := by
  induction n with
  | zero =>
    intro L m h h1 h2
    obtain rfl : m = 0 := by omega
    rw [cutN_zero, partN_zero, if_neg (by omega), wone]
  | succ n ih =>
    intro L m h h1 h2
    by_cases hm : m = 0
    · subst hm
      rw [cutN_zero, partN_zero, if_neg (by omega), wone]
    · by_cases hL : m < L ∨ 60 < L
      · rw [cutN_none _ L m (by omega) (by simpa using hL)]
        have := partN_drop (List.range' L (61 - L)) [] m (fun s hs => by simp [List.mem_range'_1] at hs; omega)
        rw [List.append_nil, partN_nil, if_neg hm] at this
        rw [if_pos this]
      · have e : List.range' L (61 - L) = L :: List.range' (L + 1) (61 - (L + 1)) := by
          rw [show 61 - L = (61 - (L + 1)) + 1 from by omega, List.range'_succ]
        have ha := ih (L + 1) m (by omega) (by omega) (by omega)
        have hb := ih L (m - L) (by omega) (by omega) (by omega)
        have hp : partN (List.range' L (61 - L)) m = partN (List.range' (L + 1) (61 - (L + 1))) m + partN (List.range' L (61 - L)) (m - L) := by
          conv => lhs; rw [e]
          rw [partN_cons, if_pos (by omega), ← e]
        have hg : (List.replicate 60 (0 : Int)).getD (L - 1) 0 = 0 := by
          rw [List.getD_eq_getElem?_getD, List.getElem?_replicate]
          split <;> rfl
        rw [hp, cutN_some _ L m (by omega) (by omega) (by simpa using hL), ha, hb, hg]
        generalize partN (List.range' (L + 1) (61 - (L + 1))) m = pa
        generalize partN (List.range' L (61 - L)) (m - L) = pb
        have w0 : wrap64 (0 + 0) = 0 := w64 (by omega) (by omega)
        by_cases hpb : pb = 0
        · subst hpb
          rw [if_pos rfl, if_neg (by decide), Nat.add_zero]
        · rw [if_neg hpb, if_pos (show (0 : Int) ≤ 0 by omega)]
          by_cases hpa : pa = 0
          · subst hpa
            rw [if_pos rfl, w0, if_pos (by decide), if_neg (by omega), Nat.zero_add]
          · rw [if_neg hpa, w0, if_neg (show ¬ (0 : Int) < 0 by omega), if_pos rfl, if_neg (by omega), wrap_add]
            congr 2
theorem ways_inner (rod L : Nat) (hr : rod ≤ 60) (hL : L < rod) (R : Int × Bool) (hK : Ev (fun k => spec_CountAllCuts.l0 k (rod : Int) (tab (rod + 1) fun j => wrap64 (partN (dn (L + 1)) j)) ((L + 1 + 1 : Nat) : Int)) R) (d : Nat) :
    ∀ n : Nat, rod + 1 - n = d → L + 1 ≤ n → Ev (fun k => spec_CountAllCuts.l1 k (rod : Int) (tab (rod + 1) fun j => if j < n then wrap64 (partN (dn (L + 1)) j) else wrap64 (partN (dn L) j)) ((L + 1 : Nat) : Int) (n : Int)) R := by
  induction d with
  | zero =>
    intro n hd hn
    refine Ev.step (fun k => ?_) hK
    simp only [spec_CountAllCuts.l1]
    rw [if_neg (by omega), w64 (by omega) (by omega), tab_ext _ _ (fun j => wrap64 (partN (dn (L + 1)) j)) (fun j hj => if_pos (by omega))]
    rfl
  | succ d ih =>
    intro n hd hn
    refine Ev.step (fun k => ?_) (ih (n + 1) (by omega) (by omega))
    simp only [spec_CountAllCuts.l1, tab_len]
    rw [w64 (i := (n : Int) - ((L + 1 : Nat) : Int)) (by omega) (by omega), show (n : Int) - ((L + 1 : Nat) : Int) = ((n - (L + 1) : Nat) : Int) from by omega, rd_tab _ _ _ (by omega), rd_tab _ _ _ (by omega), if_pos (show n - (L + 1) < n by omega), if_neg (show ¬ n < n by omega)]
    rw [if_pos (by omega), if_pos (by omega), if_pos (by omega), if_pos (by omega), if_pos (by omega), wrap_add, w64 (i := (n : Int) + 1) (by omega) (by omega), Int.toNat_natCast,
      tab_set _ _ (fun j => if j < n + 1 then wrap64 (partN (dn (L + 1)) j) else wrap64 (partN (dn L) j)) _ _ (fun _ => ?_) (fun j _ hjn => ?_)]
    · rfl
    · rw [if_pos (by omega)]
      have : partN (dn (L + 1)) n = partN (dn L) n + partN (dn (L + 1)) (n - (L + 1)) := by
        rw [dn, partN_cons, if_pos (by omega)]
      rw [this]
      congr 1
    · by_cases h : j < n
      · rw [if_pos h, if_pos (by omega)]
      · rw [if_neg h, if_neg (by omega)]
theorem ways_outer (rod : Nat) (hr : rod ≤ 60) (d : Nat) : ∀ L : Nat, rod - L = d → L ≤ rod → Ev (fun k => spec_CountAllCuts.l0 k (rod : Int) (tab (rod + 1) fun j => wrap64 (partN (dn L) j)) ((L + 1 : Nat) : Int)) (wrap64 (partN (dn rod) rod), true) := by
  induction d with
  | zero =>
    intro L hd hL
    obtain rfl : L = rod := by omega
    refine ev_at 1 (fun k => ?_)
    simp only [spec_CountAllCuts.l0, tab_len]
    rw [if_neg (by omega), if_pos (by omega), if_pos (by omega), rd_tab _ _ _ (by omega)]
  | succ d ih =>
    intro L hd hL
    refine Ev.step (fun k => ?_) (ways_inner rod L hr (by omega) _ (ih (L + 1) (by omega) (by omega)) _ (L + 1) rfl (Nat.le_refl _))
    simp only [spec_CountAllCuts.l0, tab_len]
    rw [if_pos (by omega), tab_ext _ (fun j => wrap64 (partN (dn L) j)) (fun j => if j < L + 1 then wrap64 (partN (dn (L + 1)) j) else wrap64 (partN (dn L) j)) (fun j hj => ?_)]
    by_cases h : j < L + 1
    · rw [if_pos h, dn, partN_cons, if_neg (by omega)]
      rfl
    · rw [if_neg h]
theorem ways_is (rod : Nat) (h1 : 1 ≤ rod) (hr : rod ≤ 60) : Ev (fun k => spec_CountAllCuts.f k (rod : Int)) (wrap64 (partN (dn rod) rod), true) := by
  unfold spec_CountAllCuts.f
  rw [in_is, (inB_iff 1 60 (rod : Int)).2 (by omega)]
  refine ev_some (ev_pos rfl ?_)
  rw [w64 (i := (rod : Int) + 1) (by omega) (by omega), show ((rod : Int) + 1) = ((rod + 1 : Nat) : Int) from by omega, Int.toNat_natCast]
  refine ev_pos (by omega) (ev_pos (by omega) (ev_some (ev_pos (by simp) ?_)))
  have h := ways_outer rod hr _ 0 rfl (by omega)
  rw [tab_rep, tab_set _ _ (fun j => wrap64 (partN (dn 0) j)) _ _ (fun _ => ?_) (fun j _ hj => ?_)]
  · exact h
  · rw [show (0 : Int).toNat = 0 from rfl, dn, partN_nil, if_pos rfl, wone]
  · rw [dn, partN_nil, if_neg (by simpa using hj)]
    exact (w64 (by omega) (by omega)).symm
theorem all_law (a x : Int) (b : Bool) (hs : Ev (fun k => spec_CountAllCuts.f k a) (x, b)) (hi : impl_CountAllCuts.f a = some (x, b)) : Ev (fun k => laws_FnExactCountAllCuts.f k a) true := by
  unfold laws_FnExactCountAllCuts.f
  refine Ev.bind hs ?_
  rw [hi]
  exact ev_some (ev_pos rfl (ev_neg (by simp) (Ev.now _)))
theorem zeros_ok : impl_arePrices.f (List.replicate 60 0) = some true := by rw [prices_are]; rfl
theorem FnExactCountAllCuts : laws_FnExactCountAllCuts.Pure := by
  intro a _
  refine Ev.rounds ?_
  cases h2 : inB 1 60 a with
  | false =>
    refine all_law a 0 false ?_ ?_
    · unfold spec_CountAllCuts.f
      rw [in_is, h2]
      exact ev_some (ev_neg (by decide) (Ev.now _))
    · simp only [impl_CountAllCuts.f, impl_CountBestCuts.f, zeros_ok, rod_is, h2, Option.bind_some, if_true]
      rfl
  | true =>
    have ha := (inB_iff 1 60 a).1 h2
    obtain ⟨m, rfl⟩ := Int.eq_ofNat_of_zero_le (show 0 ≤ a by omega)
    refine all_law m _ true (ways_is m (by omega) (by omega)) ?_
    have hz := zeros_cut _ 1 m (Nat.le_refl _) (by omega) (by omega)
    have hud := up_dn m (by omega)
    simp only [impl_CountAllCuts.f, impl_CountBestCuts.f, zeros_ok, rod_is, h2, Option.bind_some, if_true, Int.toNat_natCast]
    have hpos : partN (dn m) m ≠ 0 := by
      obtain ⟨q, rfl⟩ : ∃ q, m = q + 1 := ⟨m - 1, by omega⟩
      rw [dn, partN_cons, if_pos (by omega), Nat.sub_self, partN_zero]
      omega
    rw [hz, show 61 - 1 = 60 from rfl, hud, if_neg hpos, if_pos (by omega)]

end Go.Proofs.Ytekabbefflclaaa.Pure

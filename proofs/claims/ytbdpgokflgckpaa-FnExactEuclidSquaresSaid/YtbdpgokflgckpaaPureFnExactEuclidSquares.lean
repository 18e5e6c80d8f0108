/- For all whole numbers wide and high: the program's EuclidSquares and the reference's return the same results, and the slice is new memory. No condition. -/
import Derived.Test.YtbdpgokflgckpaaPFnExactEuclidSquaresx2
namespace Go.Proofs.Ytbdpgokflgckpaa.Pure
open Go.RowKit Go.Proofs.Ytbdpgokflgckpaa.PFnExactEuclidSquares Go.Proofs.YtbdpgokflgckpaaW.PrintWords Go.Proofs.YtbdpgokflgckpaaW.PrintLast Go.Proofs.YtbdpgokflgckpaaW.PrintMore

theorem ev_pos {α : Type} {c : Prop} [Decidable c] {g f : Nat → Option α} {r : α} (hc : c) (h : Ev g r) : Ev (fun k => if c then g k else f k) r := Ev.congr (fun _ => if_pos hc) h
theorem ev_neg {α : Type} {c : Prop} [Decidable c] {g f : Nat → Option α} {r : α} (hc : ¬ c) (h : Ev f r) : Ev (fun k => if c then g k else f k) r := Ev.congr (fun _ => if_neg hc) h
theorem w64 {i : Int} (h0 : -9223372036854775808 ≤ i) (h1 : i ≤ 9223372036854775807) : wrap64 i = i := by
  unfold wrap64
  omega

theorem eqS_l0 (xs : List Int) (hn : xs.length ≤ 1000000) (d : Nat) : ∀ i : Nat, xs.length - i = d → Ev (fun k => laws_eqIntS.l0 k xs xs (i : Int)) true := by
  induction d with
  | zero =>
    intro i hi
    refine Ev.step (f := fun _ => some true) (fun k => ?_) (Ev.now _)
    simp only [laws_eqIntS.l0]
    rw [if_neg (by omega)]
  | succ d ih =>
    intro i hi
    refine Ev.step (f := fun k => laws_eqIntS.l0 k xs xs ((i + 1 : Nat) : Int)) (fun k => ?_) (ih (i + 1) (by omega))
    simp only [laws_eqIntS.l0]
    rw [if_pos (by omega), if_pos (by omega), if_pos (by omega), if_pos True.intro, w64 (by omega) (by omega)]
    rfl
theorem eqS (xs : List Int) (hn : xs.length ≤ 1000000) : Ev (fun k => laws_eqIntS.f k xs xs) true := by
  unfold laws_eqIntS.f
  refine Ev.congr (fun k => if_pos rfl) ?_
  exact eqS_l0 xs hn _ 0 rfl

/-- a row of marks: m, m + 1, .. -/
def marks (m : Int) (n : Nat) : List Int := (List.range n).map fun (j : Nat) => m + (j : Int)
theorem marks_length (m : Int) (n : Nat) : (marks m n).length = n := by simp [marks]
theorem rd_marks (m : Int) (n i : Nat) (h : i < n) : rd (marks m n) (i : Int) = m + (i : Int) := by
  simp [rd, marks, h]
theorem take_set_marks (xs : List Int) (m : Int) (i : Nat) (h : i < xs.length) :
    (marks m i ++ xs.drop i).set i (m + (i : Int)) = marks m (i + 1) ++ xs.drop (i + 1) := by
  have e : xs.drop i = xs[i] :: xs.drop (i + 1) := List.drop_eq_getElem_cons h
  rw [List.set_append_right _ _ (by rw [marks_length]; exact Nat.le_refl _), marks_length, Nat.sub_self, e, List.set_cons_zero]
  simp [marks, List.range_succ]
theorem markS_l0 (xs : List Int) (hn : xs.length ≤ 1000000) (d : Nat) : ∀ i : Nat, xs.length - i = d → i ≤ xs.length →
    Ev (fun k => laws_markIntS.l0 k (marks 1 i ++ xs.drop i) (1 + (i : Int)) (i : Int)) (1 + (xs.length : Int), marks 1 xs.length) := by
  induction d with
  | zero =>
    intro i hi hle
    obtain rfl : i = xs.length := by omega
    refine Ev.step (f := fun _ => some _) (fun k => ?_) (Ev.now _)
    simp only [laws_markIntS.l0]
    rw [if_neg (by simp [marks_length]), List.drop_length, List.append_nil]
  | succ d ih =>
    intro i hi hle
    refine Ev.step (f := fun k => laws_markIntS.l0 k (marks 1 (i + 1) ++ xs.drop (i + 1)) (1 + ((i + 1 : Nat) : Int)) ((i + 1 : Nat) : Int)) (fun k => ?_) (ih (i + 1) (by omega) (by omega))
    simp only [laws_markIntS.l0]
    rw [if_pos (by simp [marks_length]; omega), if_pos (by omega), w64 (by omega) (by omega), w64 (by omega) (by omega), Int.toNat_natCast, take_set_marks xs 1 i (by omega)]
    congr 1
theorem heldS_l0 (n : Nat) (hn : n ≤ 1000000) (d : Nat) : ∀ i : Nat, n - i = d → i ≤ n →
    Ev (fun k => laws_heldIntS.l0 k (marks 1 n) (1 + (i : Int)) (i : Int)) (1 + (n : Int)) := by
  induction d with
  | zero =>
    intro i hi hle
    obtain rfl : i = n := by omega
    refine Ev.step (f := fun _ => some _) (fun k => ?_) (Ev.now _)
    simp only [laws_heldIntS.l0]
    rw [if_neg (by simp [marks_length])]
  | succ d ih =>
    intro i hi hle
    refine Ev.step (f := fun k => laws_heldIntS.l0 k (marks 1 n) (1 + ((i + 1 : Nat) : Int)) ((i + 1 : Nat) : Int)) (fun k => ?_) (ih (i + 1) (by omega) (by omega))
    simp only [laws_heldIntS.l0]
    rw [if_pos (by rw [marks_length]; omega), if_pos (by omega), if_pos (rd_marks 1 n i (by omega)), w64 (by omega) (by omega), w64 (by omega) (by omega)]
    congr 1
theorem markS (xs : List Int) (hn : xs.length ≤ 1000000) : Ev (fun k => laws_markIntS.f k xs 1) (1 + (xs.length : Int), marks 1 xs.length) := by
  have h := markS_l0 xs hn _ 0 rfl (Nat.zero_le _)
  simpa [laws_markIntS.f, marks] using h
theorem heldS (n : Nat) (hn : n ≤ 1000000) : Ev (fun k => laws_heldIntS.f k (marks 1 n) 1) (1 + (n : Int)) := by
  have h := heldS_l0 n hn _ 0 rfl (Nat.zero_le _)
  simpa [laws_heldIntS.f] using h

theorem loops (d : Nat) : ∀ (a b : Int) (l : List Int), 0 ≤ a → 0 ≤ b → a ≤ 24 → b ≤ 24 → a + b ≤ d → l.length + (a + b).toNat ≤ 48 →
    ∃ r, Ev (fun k => spec_EuclidSquares.l0 k a b l) (r, true) ∧ Ev (fun k => impl_EuclidSquares.l0 k a b l) (r, true) ∧ r.length ≤ 48 := by
  induction d with
  | zero =>
    intro a b l ha hb _ _ hd hl
    obtain rfl : a = 0 := by omega
    refine ⟨l, Ev.step (f := fun k => spec_EuclidSquares.j1 k 0 b l false) (fun k => by simp only [spec_EuclidSquares.l0]; rw [if_neg (by omega)]) (Ev.step (f := fun _ => some (l, true)) (fun k => by simp only [spec_EuclidSquares.j1]; rw [if_neg (by decide)]) (Ev.now _)),
      Ev.step (f := fun k => impl_EuclidSquares.j1 k 0 b l false) (fun k => by simp only [impl_EuclidSquares.l0]; rw [if_neg (by omega)]) (Ev.step (f := fun _ => some (l, true)) (fun k => by simp only [impl_EuclidSquares.j1]; rw [if_neg (by decide)]) (Ev.now _)), by omega⟩
  | succ d ih =>
    intro a b l ha hb ha' hb' hd hl
    by_cases h0 : 0 < a
    · by_cases h1 : 0 < b
      · by_cases hab : b ≤ a
        · obtain ⟨r, hs, hi, hr⟩ := ih (a - b) b (l ++ [b]) (by omega) hb (by omega) hb' (by omega) (by simp; omega)
          have hm : mn a b = b := by unfold mn; split <;> omega
          refine ⟨r, Ev.step (f := fun k => spec_EuclidSquares.j1 k a b l true) (fun k => ?_) (Ev.step (f := fun k => spec_EuclidSquares.l0 k (a - b) b (l ++ [b])) (fun k => ?_) hs),
            Ev.step (f := fun k => impl_EuclidSquares.j1 k a b l true) (fun k => ?_) (Ev.step (f := fun k => impl_EuclidSquares.l0 k (a - b) b (l ++ [b])) (fun k => ?_) hi), hr⟩
          · simp only [spec_EuclidSquares.l0]; rw [if_pos h0, decide_eq_true h1]
          · simp only [spec_EuclidSquares.j1]; rw [if_pos True.intro, if_pos hab, if_pos (by omega), w64 (by omega) (by omega)]
          · simp only [impl_EuclidSquares.l0]; rw [if_pos h0, decide_eq_true h1]
          · simp only [impl_EuclidSquares.j1]; rw [if_pos True.intro, if_pos (by omega)]; simp only [Option.bind_some]; rw [if_pos hab, hm, w64 (by omega) (by omega)]
        · obtain ⟨r, hs, hi, hr⟩ := ih a (b - a) (l ++ [a]) ha (by omega) ha' (by omega) (by omega) (by simp; omega)
          have hm : mn a b = a := by unfold mn; split <;> omega
          refine ⟨r, Ev.step (f := fun k => spec_EuclidSquares.j1 k a b l true) (fun k => ?_) (Ev.step (f := fun k => spec_EuclidSquares.l0 k a (b - a) (l ++ [a])) (fun k => ?_) hs),
            Ev.step (f := fun k => impl_EuclidSquares.j1 k a b l true) (fun k => ?_) (Ev.step (f := fun k => impl_EuclidSquares.l0 k a (b - a) (l ++ [a])) (fun k => ?_) hi), hr⟩
          · simp only [spec_EuclidSquares.l0]; rw [if_pos h0, decide_eq_true h1]
          · simp only [spec_EuclidSquares.j1]; rw [if_pos True.intro, if_neg hab, if_pos (by omega), w64 (by omega) (by omega)]
          · simp only [impl_EuclidSquares.l0]; rw [if_pos h0, decide_eq_true h1]
          · simp only [impl_EuclidSquares.j1]; rw [if_pos True.intro, if_pos (by omega)]; simp only [Option.bind_some]; rw [if_neg hab, hm, w64 (by omega) (by omega)]
      · refine ⟨l, Ev.step (f := fun k => spec_EuclidSquares.j1 k a b l false) (fun k => by simp only [spec_EuclidSquares.l0]; rw [if_pos h0, decide_eq_false (by omega)]) (Ev.step (f := fun _ => some (l, true)) (fun k => by simp only [spec_EuclidSquares.j1]; rw [if_neg (by decide)]) (Ev.now _)),
          Ev.step (f := fun k => impl_EuclidSquares.j1 k a b l false) (fun k => by simp only [impl_EuclidSquares.l0]; rw [if_pos h0, decide_eq_false (by omega)]) (Ev.step (f := fun _ => some (l, true)) (fun k => by simp only [impl_EuclidSquares.j1]; rw [if_neg (by decide)]) (Ev.now _)), by omega⟩
    · refine ⟨l, Ev.step (f := fun k => spec_EuclidSquares.j1 k a b l false) (fun k => by simp only [spec_EuclidSquares.l0]; rw [if_neg (by omega)]) (Ev.step (f := fun _ => some (l, true)) (fun k => by simp only [spec_EuclidSquares.j1]; rw [if_neg (by decide)]) (Ev.now _)),
        Ev.step (f := fun k => impl_EuclidSquares.j1 k a b l false) (fun k => by simp only [impl_EuclidSquares.l0]; rw [if_neg (by omega)]) (Ev.step (f := fun _ => some (l, true)) (fun k => by simp only [impl_EuclidSquares.j1]; rw [if_neg (by decide)]) (Ev.now _)), by omega⟩

theorem in_is (a lo hi : Int) : spec_l1In.f a lo hi = some (decide (lo ≤ a ∧ a ≤ hi)) := by
  unfold spec_l1In.f
  split <;> simp <;> omega
theorem within_is (a lo hi : Int) : impl_within.f a lo hi = some (decide (lo ≤ a ∧ a ≤ hi)) := by
  unfold impl_within.f
  split <;> simp <;> omega
theorem good_is (a b : Int) : spec_bdGood.f a b = some (decide ((1 ≤ a ∧ a ≤ 24) ∧ 1 ≤ b ∧ b ≤ 24)) := by
  unfold spec_bdGood.f
  rw [in_is, in_is]
  by_cases h : 1 ≤ a ∧ a ≤ 24
  · simp [h]
  · simp [h]
theorem board_is (a b : Int) : impl_isBoard.f a b = some (decide ((1 ≤ a ∧ a ≤ 24) ∧ 1 ≤ b ∧ b ≤ 24)) := by
  unfold impl_isBoard.f
  rw [within_is, within_is]
  by_cases h : 1 ≤ a ∧ a ≤ 24
  · simp [h]
  · simp [h]

theorem law (a b : Int) (r : List Int) (ok : Bool) (hs : Ev (fun k => spec_EuclidSquares.f k a b) (r, ok)) (hi : Ev (fun k => impl_EuclidSquares.f k a b) (r, ok)) (hr : r.length ≤ 48) :
    Ev (fun k => laws_FnExactEuclidSquares.f k a b) true := by
  have hb : (ok != ok) = false := by cases ok <;> rfl
  unfold laws_FnExactEuclidSquares.f
  refine Ev.bind hs (Ev.bind hi (Ev.bind (eqS r (by omega)) (ev_pos rfl ?_)))
  simp only [hb]
  refine Ev.step (fun k => by simp only [laws_FnExactEuclidSquares.j0]; rfl) (ev_neg (by decide) ?_)
  refine Ev.bind (markS r (by omega)) (Ev.bind (heldS r.length (by omega)) (ev_neg (by omega) (ev_pos rfl ?_)))
  refine Ev.bind hi (Ev.bind (eqS r (by omega)) (ev_pos rfl ?_))
  simp only [hb]
  refine Ev.step (fun k => by simp only [laws_FnExactEuclidSquares.j1]; rfl) (ev_neg (by decide) ?_)
  exact Ev.bind (heldS r.length (by omega)) (ev_neg (by omega) (ev_pos rfl (Ev.now _)))

theorem FnExactEuclidSquares : laws_FnExactEuclidSquares.Pure := by
  intro a b _ _
  refine Ev.rounds ?_
  by_cases h : (1 ≤ a ∧ a ≤ 24) ∧ 1 ≤ b ∧ b ≤ 24
  · obtain ⟨r, hs, hi, hr⟩ := loops 48 a b [] (by omega) (by omega) (by omega) (by omega) (by omega) (by simp; omega)
    refine law a b r true ?_ ?_ hr
    · unfold spec_EuclidSquares.f
      rw [good_is, decide_eq_true h]
      exact Ev.bind (Ev.now true) (ev_pos rfl hs)
    · unfold impl_EuclidSquares.f
      rw [board_is, decide_eq_true h]
      exact Ev.bind (Ev.now true) (ev_pos rfl hi)
  · refine law a b [] false ?_ ?_ (by simp)
    · unfold spec_EuclidSquares.f
      rw [good_is, decide_eq_false h]
      exact Ev.bind (Ev.now false) (ev_neg (by decide) (Ev.now _))
    · unfold impl_EuclidSquares.f
      rw [board_is, decide_eq_false h]
      exact Ev.bind (Ev.now false) (ev_neg (by decide) (Ev.now _))

end Go.Proofs.Ytbdpgokflgckpaa.Pure

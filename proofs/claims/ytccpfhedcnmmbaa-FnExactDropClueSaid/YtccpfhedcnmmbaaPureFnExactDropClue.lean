/- For every puzzle and every index: the program's DropClue and the reference's return the same, what is returned is new memory, and the puzzle is not changed. Condition: what the law itself lets in. -/
import Derived.Test.YtccpfhedcnmmbaaL0
import Derived.Test.YtccpfhedcnmmbaaL1
import Derived.Test.YtccpfhedcnmmbaaL2
import Derived.Test.YtccpfhedcnmmbaaL3
import Derived.Test.YtccpfhedcnmmbaaL4
import Derived.Test.YtccpfhedcnmmbaaL5
import Derived.Test.YtccpfhedcnmmbaaL6
import Derived.Test.YtccpfhedcnmmbaaL7
import Derived.Test.YtccpfhedcnmmbaaSFnExactDropClue
namespace Go.Proofs.Ytccpfhedcnmmbaa.Pure
open Go.RowKit Go.Proofs.Ytccpfhedcnmmbaa.L Go.Proofs.YtccpfhedcnmmbaaW.PrintWords Go.Proofs.YtccpfhedcnmmbaaW.PrintLast Go.Proofs.YtccpfhedcnmmbaaW.PrintMore
set_option linter.unusedVariables false
set_option linter.unusedSimpArgs false
theorem ev_pos {α : Type} {c : Prop} [Decidable c] {g f : Nat → Option α} {r : α} (hc : c) (h : Ev g r) : Ev (fun k => if c then g k else f k) r := Ev.congr (fun _ => if_pos hc) h
theorem ev_neg {α : Type} {c : Prop} [Decidable c] {g f : Nat → Option α} {r : α} (hc : ¬ c) (h : Ev f r) : Ev (fun k => if c then g k else f k) r := Ev.congr (fun _ => if_neg hc) h
theorem ev_some {α β : Type} {a : α} {f : Nat → α → Option β} {r : β} (h : Ev (fun n => f n a) r) : Ev (fun n => (some a).bind (f n)) r := Ev.bind (Ev.now a) h
theorem ev_ret {α : Type} {g : Nat → Option α} {r : α} (h : Ev g r) : Ev (fun n => (g n).bind fun t => some t) r := Ev.bind h (Ev.now r)
theorem ev_at {α : Type} {g : Nat → Option α} {r : α} (K : Nat) (h : ∀ k, g (k + K) = some r) : Ev g r := ⟨K, fun n hn => by obtain ⟨m, rfl⟩ : ∃ m, n = m + K := ⟨n - K, by omega⟩; exact h m⟩
theorem w64 {i : Int} (h0 : -9223372036854775808 ≤ i) (h1 : i ≤ 9223372036854775807) : wrap64 i = i := by
  unfold wrap64
  omega
theorem bne_self (b : Bool) : (b != b) = false := by cases b <;> rfl
theorem cons_drop {α : Type} (xs : List α) (i : Nat) (h : i < xs.length) : xs.drop i = xs[i] :: xs.drop (i + 1) := List.drop_eq_getElem_cons h
/-- a loop over the indexes of a list: what holds of one round holds of all -/
theorem ev_for {β ρ : Type} (n : Nat) (l : Nat → β → Int → Option ρ) (st : Nat → β) (r : ρ) (hstep : ∀ i, i < n → ∀ k, l (k + 1) (st i) (i : Int) = l k (st (i + 1)) ((i : Int) + 1)) (hend : ∀ k, l (k + 1) (st n) (n : Int) = some r) : ∀ i, i ≤ n → Ev (fun k => l k (st i) (i : Int)) r := by
  intro i hi
  obtain ⟨d, hd⟩ : ∃ d, n - i = d := ⟨_, rfl⟩
  induction d generalizing i with
  | zero =>
    obtain rfl : i = n := by omega
    exact ev_at 1 hend
  | succ d ih =>
    refine Ev.step (f := fun k => l k (st (i + 1)) ((i : Int) + 1)) (fun k => hstep i (by omega) k) ?_
    have := ih (i + 1) (by omega) (by omega)
    rwa [show ((i + 1 : Nat) : Int) = (i : Int) + 1 from by omega] at this

def inB (lo hi a : Int) : Bool := decide (lo ≤ a) && decide (a ≤ hi)
theorem inB_iff (lo hi a : Int) : inB lo hi a = true ↔ lo ≤ a ∧ a ≤ hi := by simp [inB]
theorem in_is (a lo hi : Int) : spec_l1In.f a lo hi = some (inB lo hi a) := by
  unfold spec_l1In.f inB
  by_cases h : lo ≤ a
  · rw [if_pos h, decide_eq_true h, Bool.true_and]
  · rw [if_neg h, decide_eq_false h, Bool.false_and]

theorem okW_in2 (a b x : Int) : okW a b x = inB a b x := rfl
theorem things_is (t : Int) : spec_pzThings.f t = some (inB 2 4 t) := by simp [spec_pzThings.f, in_is]
theorem pz_j1 (k : Nat) (q p : Bool) (kd a b c : Int) : spec_pzClue.j1 (k + 1) q p kd a b c = some (clueJ p q kd a b c) := by
  simp only [spec_pzClue.j1, in_is, clueJ, Option.bind_some, okW_in2]
  by_cases h0 : kd = 0
  · simp only [if_pos h0]; cases q <;> rfl
  by_cases h1 : kd = 1
  · simp only [if_neg h0, if_pos h1]; cases p <;> rfl
  by_cases h2 : kd = 2
  · simp only [if_neg h0, if_neg h1, if_pos h2]
    by_cases hb : b = 0
    · simp only [if_pos hb, hb]; cases inB 6 24 a <;> rfl
    · simp only [if_neg hb, beq_eq_false_iff_ne.mpr hb]; cases inB 6 24 a <;> rfl
  by_cases h3 : kd = 3
  · simp only [if_neg h0, if_neg h1, if_neg h2, if_pos h3]
    by_cases hb : b = 0
    · simp only [if_pos hb, hb]; cases inB 1 24 a <;> rfl
    · simp only [if_neg hb, beq_eq_false_iff_ne.mpr hb]; cases inB 1 24 a <;> rfl
  by_cases h4 : kd = 4
  · simp only [if_neg h0, if_neg h1, if_neg h2, if_neg h3, if_pos h4]; cases p <;> rfl
  by_cases h5 : kd = 5
  · simp only [if_neg h0, if_neg h1, if_neg h2, if_neg h3, if_neg h4, if_pos h5]; cases q <;> rfl
  · simp only [if_neg h0, if_neg h1, if_neg h2, if_neg h3, if_neg h4, if_neg h5]
theorem pair_is (t a b : Int) (h : inB 2 4 t = true) : pairB t a b = (inB 0 (t - 1) a && (inB 0 (t - 1) b && (a != b))) := by
  rw [inB_iff] at h
  rw [Bool.eq_iff_iff]
  simp [pairB, inB, bne_iff_ne]
  omega
theorem pz_is (t : Int) (x : S32) (h : inB 2 4 t = true) : Ev (fun k => spec_pzClue.f k t x.f0 x.f1 x.f2 x.f3) (okClue t x) := by
  have hp := pair_is t x.f1 x.f2 h
  have ht := (inB_iff 2 4 t).1 h
  refine ev_at 2 (fun k => ?_)
  have j0 : ∀ q : Bool, spec_pzClue.j0 (k + 2) t q x.f0 x.f1 x.f2 x.f3 = some (clueJ (pairB t x.f1 x.f2) q x.f0 x.f1 x.f2 x.f3) := by
    intro q
    simp only [spec_pzClue.j0, in_is, Option.bind_some, pz_j1]
    rw [w64 (by omega) (by omega), hp]
    cases inB 0 (t - 1) x.f1 with
    | true => cases inB 0 (t - 1) x.f2 <;> rfl
    | false => rfl
  simp only [spec_pzClue.f, j0, okClue, okW_in2, h, Bool.true_and]
  by_cases ha : x.f1 = 0
  · rw [if_pos ha, ha]; rfl
  · rw [if_neg ha, beq_eq_false_iff_ne.mpr ha, Bool.false_and]

def convClue (s : S30) : S32 := ⟨s.f0, s.f1, s.f2, s.f3⟩
theorem convClue_step (xs : List S30) (i : Nat) (h : i < xs.length) : ((xs.take i).map convClue ++ List.replicate (xs.length - i) z32).set i (convClue xs[i]) = (xs.take (i + 1)).map convClue ++ List.replicate (xs.length - (i + 1)) z32 := by
  have e : xs.length - i = (xs.length - (i + 1)) + 1 := by omega
  rw [List.set_append_right _ _ (by simp; omega), e, List.replicate_succ]
  have e2 : i - (List.map convClue (List.take i xs)).length = 0 := by simp; omega
  rw [e2, List.set_cons_zero, List.take_succ_eq_append_getElem h, List.map_append]
  simp
theorem toClue_l0 (xs : List S30) (hn : xs.length ≤ 1048576) (d : Nat) : ∀ i : Nat, xs.length - i = d → i ≤ xs.length →
    Ev (fun k => laws_toClueS.l0 k xs ((xs.take i).map convClue ++ List.replicate (xs.length - i) z32) (i : Int)) (xs.map convClue) := by
  induction d with
  | zero =>
    intro i hd hle
    obtain rfl : i = xs.length := by omega
    exact ev_at 1 (fun k => by simp only [laws_toClueS.l0]; rw [if_neg (by omega)]; simp)
  | succ d ih =>
    intro i hd hle
    have hlt : i < xs.length := by omega
    have hr : rd_T30 xs (i : Int) = xs[i] := by simp [rd_T30, hlt]
    refine Ev.step (f := fun k => laws_toClueS.l0 k xs ((xs.take (i + 1)).map convClue ++ List.replicate (xs.length - (i + 1)) z32) ((i + 1 : Nat) : Int)) (fun k => ?_) (ih (i + 1) (by omega) (by omega))
    simp only [laws_toClueS.l0, laws_toClue.f, Option.bind_some]
    rw [if_pos (by omega), if_pos (by omega), if_pos (by simp; omega), hr, w64 (by omega) (by omega), Int.toNat_natCast, ← convClue_step xs i hlt]
    rfl
theorem toClue_is (xs : List S30) (hn : xs.length ≤ 1048576) : Ev (fun k => laws_toClueS.f k xs) (xs.map convClue) := by
  unfold laws_toClueS.f
  refine ev_pos (by omega) (ev_pos (by simp; omega) ?_)
  have := toClue_l0 xs hn _ 0 rfl (Nat.zero_le _)
  simpa using this
theorem eqClue_self (x : S32) : laws_eqClue.f x.f0 x.f1 x.f2 x.f3 x.f0 x.f1 x.f2 x.f3 = some true := by simp [laws_eqClue.f]
theorem eqClue_l0 (xs : List S32) (hn : xs.length ≤ 1048577) (d : Nat) : ∀ i : Nat, xs.length - i = d → i ≤ xs.length → Ev (fun k => laws_eqClueS.l0 k xs xs (i : Int)) true := by
  induction d with
  | zero =>
    intro i hd hle
    exact ev_at 1 (fun k => by simp only [laws_eqClueS.l0]; rw [if_neg (by omega)])
  | succ d ih =>
    intro i hd hle
    refine Ev.step (f := fun k => laws_eqClueS.l0 k xs xs ((i + 1 : Nat) : Int)) (fun k => ?_) (ih (i + 1) (by omega) (by omega))
    simp only [laws_eqClueS.l0]
    rw [if_pos (by omega), if_pos (by omega), if_pos (by omega), eqClue_self, w64 (by omega) (by omega)]
    rfl
theorem eqClue_is (xs : List S32) (hn : xs.length ≤ 1048577) : Ev (fun k => laws_eqClueS.f k xs xs) true := by
  unfold laws_eqClueS.f
  exact ev_pos rfl (eqClue_l0 xs hn _ 0 rfl (Nat.zero_le _))
theorem szClue_is (xs : List S30) (hn : xs.length ≤ maxLen) : laws_szClueS.f xs 1048576 = some (if xs.length ≤ 1048576 then 1048576 - (xs.length : Int) else -1) := by
  unfold maxLen at hn
  unfold laws_szClueS.f
  rw [w64 (by omega) (by omega)]
  by_cases h : xs.length ≤ 1048576
  · rw [if_neg (by omega), if_pos h]
  · rw [if_pos (by omega), if_neg h]

theorem toPuzzle_is (t : Int) (xs : List S30) (hn : xs.length ≤ 1048576) : Ev (fun k => laws_toPuzzle.f k t xs) (t, xs.map convClue) := by
  unfold laws_toPuzzle.f
  exact Ev.bind (toClue_is xs hn) (Ev.now _)
theorem eqPuzzle_is (t : Int) (xs : List S32) (hn : xs.length ≤ 1048577) : Ev (fun k => laws_eqPuzzle.f k t xs t xs) true := by
  unfold laws_eqPuzzle.f
  exact ev_pos rfl (Ev.bind (eqClue_is xs hn) (ev_pos rfl (Ev.now _)))
theorem szPuzzle_is (t : Int) (xs : List S30) (hn : xs.length ≤ maxLen) : laws_szPuzzle.f t xs 1048576 = some (if xs.length ≤ 1048576 then 1048576 - (xs.length : Int) else -1) := by
  unfold laws_szPuzzle.f
  rw [szClue_is xs hn]
  by_cases h : xs.length ≤ 1048576
  · rw [if_pos h]
    simp only [Option.bind_some]
    rw [if_neg (by omega)]
  · rw [if_neg h]
    rfl
theorem pzGood_l0 (t : Int) (ht : inB 2 4 t = true) (xs : List S32) (hn : xs.length ≤ 1048576) (d : Nat) : ∀ i : Nat, xs.length - i = d → i ≤ xs.length →
    Ev (fun k => spec_pzGood.l0 k xs (xs.length : Int) (i : Int) t xs) ((xs.drop i).all (okClue t)) := by
  induction d with
  | zero =>
    intro i hd hle
    obtain rfl : i = xs.length := by omega
    rw [List.drop_length]
    exact ev_at 1 (fun k => by simp only [spec_pzGood.l0]; rw [if_neg (by omega)]; rfl)
  | succ d ih =>
    intro i hd hle
    have hlt : i < xs.length := by omega
    have hr : rd_T32 xs (i : Int) = xs[i] := by simp [rd_T32, hlt]
    rw [cons_drop xs i hlt, List.all_cons]
    refine Ev.step (f := fun k => (spec_pzClue.f k t xs[i].f0 xs[i].f1 xs[i].f2 xs[i].f3).bind fun t1 => if t1 = true then spec_pzGood.l0 k xs (xs.length : Int) ((i + 1 : Nat) : Int) t xs else some false) (fun k => ?_) ?_
    · simp only [spec_pzGood.l0]
      rw [if_pos (by omega), if_pos (by omega), if_pos (by omega), hr, w64 (by omega) (by omega)]
      rfl
    · have hg := pz_is t xs[i] ht
      cases hb : okClue t xs[i] with
      | true => exact Ev.bind (hb ▸ hg) (ev_pos rfl (ih (i + 1) (by omega) (by omega)))
      | false => exact Ev.bind (hb ▸ hg) (ev_neg (by decide) (Ev.now _))
def puzzleB (t : Int) (xs : List S32) : Bool := okW 2 4 t && (decide ((xs.length : Int) ≤ 6) && xs.all (okClue t))
theorem pzGood_is (t : Int) (xs : List S32) (hn : xs.length ≤ 1048576) : Ev (fun k => spec_pzGood.f k t xs) (puzzleB t xs) := by
  unfold spec_pzGood.f puzzleB
  rw [things_is, okW_in2]
  cases ht : inB 2 4 t with
  | true =>
    refine ev_some (ev_pos rfl ?_)
    by_cases h6 : (xs.length : Int) > 6
    · rw [decide_eq_true h6, decide_eq_false (show ¬ (xs.length : Int) ≤ 6 by omega)]
      exact ev_at 1 (fun k => by simp only [spec_pzGood.j0]; rfl)
    · rw [decide_eq_false h6, decide_eq_true (show (xs.length : Int) ≤ 6 by omega)]
      refine Ev.step (f := fun k => spec_pzGood.l0 k xs (xs.length : Int) 0 t xs) (fun k => by simp only [spec_pzGood.j0]; rfl) ?_
      simpa using pzGood_l0 t ht xs hn _ 0 rfl (Nat.zero_le _)
  | false =>
    refine ev_some (ev_neg (by decide) ?_)
    exact ev_at 1 (fun k => by simp only [spec_pzGood.j0]; rfl)

def tab {α : Type} (n : Nat) (f : Nat → α) : List α := (List.range n).map f
theorem tab_len {α : Type} (n : Nat) (f : Nat → α) : (tab n f).length = n := by simp [tab]
theorem tab_rep {α : Type} (n : Nat) (x : α) : List.replicate n x = tab n (fun _ => x) := by simp [tab, List.map_const']
theorem tab_get {α : Type} (n : Nat) (f : Nat → α) (i : Nat) (h : i < n) (z : α) : (tab n f).getD i z = f i := by simp [tab, h]
theorem rd_tab (n : Nat) (f : Nat → Int) (i : Nat) (h : i < n) : rd (tab n f) (i : Int) = f i := by simp [rd, tab, h]
theorem tab_ext {α : Type} (n : Nat) (f g : Nat → α) (h : ∀ j, j < n → f j = g j) : tab n f = tab n g := by
  unfold tab
  exact List.map_congr_left (fun j hj => h j (List.mem_range.1 hj))
theorem tab_set {α : Type} (n : Nat) (f g : Nat → α) (i : Nat) (x : α) (hx : i < n → g i = x) (ho : ∀ j, j < n → j ≠ i → f j = g j) : (tab n f).set i x = tab n g := by
  apply List.ext_getElem
  · simp [tab]
  · intro j h1 h2
    have hj' : j < n := by simpa [tab] using h1
    rw [List.getElem_set]
    by_cases hj : i = j
    · subst hj
      rw [if_pos rfl]
      simp [tab, hx hj']
    · rw [if_neg hj]
      simp [tab, ho j hj' (fun h => hj h.symm)]

def marksClue (m : Int) (n : Nat) : List S32 := tab n fun j => (⟨m + 4 * (j : Int), m + 4 * (j : Int) + 1, m + 4 * (j : Int) + 2, m + 4 * (j : Int) + 3⟩ : S32)
theorem marksClue_length (m : Int) (n : Nat) : (marksClue m n).length = n := tab_len _ _
theorem rd_marksClue (m : Int) (n i : Nat) (h : i < n) : rd_T32 (marksClue m n) (i : Int) = (⟨m + 4 * (i : Int), m + 4 * (i : Int) + 1, m + 4 * (i : Int) + 2, m + 4 * (i : Int) + 3⟩ : S32) := by
  simp [rd_T32, marksClue, tab, h]
theorem rd_setClue (xs : List S32) (i : Nat) (x : S32) (h : i < xs.length) : rd_T32 (xs.set i x) (i : Int) = x := by
  simp [rd_T32, List.getD_eq_getElem?_getD, h]
theorem markClue_l0 (xs : List S32) (m : Int) (hm : 0 ≤ m ∧ m ≤ 1000000000) (hn : xs.length ≤ 1048577) (d : Nat) : ∀ i : Nat, xs.length - i = d → i ≤ xs.length →
    Ev (fun k => laws_markClueS.l0 k (tab xs.length fun j => if j < i then (⟨m + 4 * (j : Int), m + 4 * (j : Int) + 1, m + 4 * (j : Int) + 2, m + 4 * (j : Int) + 3⟩ : S32) else xs.getD j z32) (m + 4 * (i : Int)) (i : Int)) (m + 4 * (xs.length : Int), marksClue m xs.length) := by
  induction d with
  | zero =>
    intro i hd hle
    obtain rfl : i = xs.length := by omega
    refine ev_at 1 (fun k => ?_)
    simp only [laws_markClueS.l0]
    rw [if_neg (by rw [tab_len]; omega), tab_ext _ _ (fun j => (⟨m + 4 * (j : Int), m + 4 * (j : Int) + 1, m + 4 * (j : Int) + 2, m + 4 * (j : Int) + 3⟩ : S32)) (fun j hj => if_pos hj)]
    rfl
  | succ d ih =>
    intro i hd hle
    have hlt : i < (tab xs.length fun j => if j < i then (⟨m + 4 * (j : Int), m + 4 * (j : Int) + 1, m + 4 * (j : Int) + 2, m + 4 * (j : Int) + 3⟩ : S32) else xs.getD j z32).length := by rw [tab_len]; omega
    have hset : (tab xs.length fun j => if j < i then (⟨m + 4 * (j : Int), m + 4 * (j : Int) + 1, m + 4 * (j : Int) + 2, m + 4 * (j : Int) + 3⟩ : S32) else xs.getD j z32).set i (⟨m + 4 * (i : Int), m + 4 * (i : Int) + 1, m + 4 * (i : Int) + 2, m + 4 * (i : Int) + 3⟩ : S32) = tab xs.length fun j => if j < i + 1 then (⟨m + 4 * (j : Int), m + 4 * (j : Int) + 1, m + 4 * (j : Int) + 2, m + 4 * (j : Int) + 3⟩ : S32) else xs.getD j z32 :=
      tab_set _ _ _ _ _ (fun _ => if_pos (by omega)) (fun j _ hj => by
        by_cases h : j < i
        · rw [if_pos h, if_pos (by omega)]
        · rw [if_neg h, if_neg (by omega)])
    refine Ev.step (fun k => ?_) (ih (i + 1) (by omega) (by omega))
    rw [← hset]
    generalize (tab xs.length fun j => if j < i then (⟨m + 4 * (j : Int), m + 4 * (j : Int) + 1, m + 4 * (j : Int) + 2, m + 4 * (j : Int) + 3⟩ : S32) else xs.getD j z32) = L at hlt
    simp only [laws_markClueS.l0]
    rw [if_pos (by omega), if_pos (by omega)]
    simp only [Int.toNat_natCast, Option.bind_some, rd_setClue, hlt, List.length_set, List.set_set]
    rw [w64 (i := m + 4 * (i : Int) + 1) (by omega) (by omega), w64 (i := m + 4 * (i : Int) + 1 + 1) (by omega) (by omega), w64 (i := m + 4 * (i : Int) + 1 + 1 + 1) (by omega) (by omega), w64 (i := m + 4 * (i : Int) + 1 + 1 + 1 + 1) (by omega) (by omega), w64 (i := (i : Int) + 1) (by omega) (by omega)]
    rw [show m + 4 * (i : Int) + 1 + 1 + 1 + 1 = m + 4 * ((i + 1 : Nat) : Int) from by omega, show m + 4 * (i : Int) + 1 + 1 + 1 = m + 4 * (i : Int) + 3 from by omega, show m + 4 * (i : Int) + 1 + 1 = m + 4 * (i : Int) + 2 from by omega, show (i : Int) + 1 = ((i + 1 : Nat) : Int) from by omega]
theorem markClue_is (xs : List S32) (m : Int) (hm : 0 ≤ m ∧ m ≤ 1000000000) (hn : xs.length ≤ 1048577) : Ev (fun k => laws_markClueS.f k xs m) (m + 4 * (xs.length : Int), marksClue m xs.length) := by
  have h := markClue_l0 xs m hm hn _ 0 rfl (Nat.zero_le _)
  have e : (tab xs.length fun j => if j < 0 then (⟨m + 4 * (j : Int), m + 4 * (j : Int) + 1, m + 4 * (j : Int) + 2, m + 4 * (j : Int) + 3⟩ : S32) else xs.getD j z32) = xs := by
    apply List.ext_getElem
    · simp [tab]
    · intro j h1 h2
      simp [tab, h2]
  rw [e] at h
  simpa [laws_markClueS.f] using h

theorem heldClue_l0 (n : Nat) (m : Int) (hm : 0 ≤ m ∧ m ≤ 1000000000) (hn : n ≤ 1048577) (d : Nat) : ∀ i : Nat, n - i = d → i ≤ n →
    Ev (fun k => laws_heldClueS.l0 k (marksClue m n) (m + 4 * (i : Int)) (i : Int)) (m + 4 * (n : Int)) := by
  induction d with
  | zero =>
    intro i hi hle
    obtain rfl : i = n := by omega
    refine ev_at 1 (fun k => ?_)
    simp only [laws_heldClueS.l0]
    rw [if_neg (by rw [marksClue_length]; omega)]
  | succ d ih =>
    intro i hi hle
    refine Ev.step (fun k => ?_) (ih (i + 1) (by omega) (by omega))
    simp only [laws_heldClueS.l0]
    rw [if_pos (by rw [marksClue_length]; omega), if_pos (by omega), rd_marksClue m n i (by omega), w64 (i := m + 4 * (i : Int) + 1) (by omega) (by omega), w64 (i := m + 4 * (i : Int) + 1 + 1) (by omega) (by omega), w64 (i := m + 4 * (i : Int) + 1 + 1 + 1) (by omega) (by omega), w64 (i := m + 4 * (i : Int) + 1 + 1 + 1 + 1) (by omega) (by omega), w64 (i := (i : Int) + 1) (by omega) (by omega)]
    rw [show m + 4 * (i : Int) + 1 + 1 + 1 + 1 = m + 4 * ((i + 1 : Nat) : Int) from by omega, show m + 4 * (i : Int) + 1 + 1 + 1 = m + 4 * (i : Int) + 3 from by omega, show m + 4 * (i : Int) + 1 + 1 = m + 4 * (i : Int) + 2 from by omega, show (i : Int) + 1 = ((i + 1 : Nat) : Int) from by omega]
    simp only [if_true]
theorem heldClue_is (n : Nat) (m : Int) (hm : 0 ≤ m ∧ m ≤ 1000000000) (hn : n ≤ 1048577) : Ev (fun k => laws_heldClueS.f k (marksClue m n) m) (m + 4 * (n : Int)) := by
  have h := heldClue_l0 n m hm hn _ 0 rfl (Nat.zero_le _)
  simpa [laws_heldClueS.f] using h


theorem markPuzzle_is (t : Int) (xs : List S32) (hn : xs.length ≤ 1048577) : Ev (fun k => laws_markPuzzle.f k t xs 1) (1 + 4 * (xs.length : Int), marksClue 1 xs.length) := by
  unfold laws_markPuzzle.f
  exact Ev.bind (markClue_is xs 1 (by omega) hn) (Ev.now _)
theorem heldPuzzle_is (t : Int) (n : Nat) (hn : n ≤ 1048577) : Ev (fun k => laws_heldPuzzle.f k t (marksClue 1 n) 1) (1 + 4 * (n : Int)) := by
  unfold laws_heldPuzzle.f
  exact Ev.bind (heldClue_is n 1 (by omega) hn) (ev_neg (by omega) (Ev.now _))

theorem drop_law (t : Int) (xs : List S30) (a : Int) (h : xs.length ≤ 1048576) (rt : Int) (R : List S32) (ok : Bool) (hR : R.length ≤ 1048577)
    (hs : Ev (fun k => spec_DropClue.f k t (xs.map convClue) a) (rt, R, ok)) (hi : Ev (fun k => impl_DropClue.f t (xs.map convClue) a) (rt, R, ok)) : Ev (fun k => laws_FnExactDropClue.f k t xs a) true := by
  have hc := toPuzzle_is t xs h
  have hA : (xs.map convClue).length ≤ 1048577 := by rw [List.length_map]; omega
  have heq := eqPuzzle_is rt R hR
  have hb : ¬ (ok != ok) = true := by cases ok <;> decide
  unfold laws_FnExactDropClue.f
  rw [szPuzzle_is t xs (by unfold maxLen; omega), if_pos h]
  refine ev_some (ev_neg (by omega) ?_)
  refine Ev.bind hc ?_
  refine Ev.bind hs (Ev.bind hc (Ev.bind hi (Ev.bind heq (ev_pos rfl (ev_neg hb ?_)))))
  refine Ev.bind hc (Ev.bind (eqPuzzle_is t _ hA) (ev_pos rfl ?_))
  refine Ev.bind (markPuzzle_is t _ hA) (ev_neg (by simp; omega) ?_)
  refine Ev.bind heq (ev_pos rfl ?_)
  refine Ev.step (fun k => by simp only [laws_FnExactDropClue.j0]; rfl) ?_
  refine ev_neg Bool.false_ne_true ?_
  refine Ev.bind (markPuzzle_is rt R hR) (Ev.bind (heldPuzzle_is rt R.length hR) (ev_neg (by omega) (ev_pos rfl ?_)))
  refine Ev.bind hc ?_
  refine Ev.bind hi (Ev.bind heq (ev_pos rfl (ev_neg hb ?_)))
  exact Ev.bind (heldPuzzle_is rt R.length hR) (ev_neg (by omega) (ev_pos rfl (Ev.now _)))
theorem without_is (xs : List S32) (n : Nat) (hn : n < xs.length) (h6 : xs.length ≤ 1000) : spec_pzWithout.f xs (n : Int) = some (xs.eraseIdx n) := by
  unfold spec_pzWithout.f
  rw [Option.bind_some, if_pos (by omega), if_pos (by omega), Option.bind_some, Int.toNat_natCast, if_pos (by simp; omega), Option.bind_some, w64 (by omega) (by omega), if_pos (by omega), if_pos (by omega), Option.bind_some, show ((n : Int) + 1).toNat = n + 1 by omega, if_pos (by simp; omega), List.nil_append, List.eraseIdx_eq_take_drop_succ]
theorem FnExactDropClue : laws_FnExactDropClue.Pure := by
  intro t xs a _ hl ha
  refine Ev.rounds ?_
  by_cases h : xs.length ≤ 1048576
  · have hp := pzGood_is t (xs.map convClue) (by rw [List.length_map]; exact h)
    have hi0 : impl_IsPuzzle.f t (xs.map convClue) = some (puzzleB t (xs.map convClue)) := rfl
    have hlen : (xs.map convClue).length = xs.length := List.length_map _
    cases hb : puzzleB t (xs.map convClue) with
    | false =>
      rw [hb] at hp hi0
      refine drop_law t xs a h 0 [] false (by simp) ?_ ?_
      · unfold spec_DropClue.f
        exact Ev.bind hp (ev_neg Bool.false_ne_true (Ev.now _))
      · unfold impl_DropClue.f
        rw [hi0]
        exact ev_some (ev_neg Bool.false_ne_true (Ev.now _))
    | true =>
      have hq := hb
      rw [hb] at hp hi0
      simp only [puzzleB, Bool.and_eq_true, okW_in2, decide_eq_true_eq] at hq
      have h6 : xs.length ≤ 6 := by omega
      by_cases hx : 0 ≤ a ∧ a ≤ (xs.length : Int) - 1
      · obtain ⟨n, rfl⟩ := Int.eq_ofNat_of_zero_le hx.1
        have he : ((xs.map convClue).eraseIdx n).length ≤ 1048577 := by
          have := List.length_eraseIdx_le (xs.map convClue) n
          omega
        refine drop_law t xs n h t ((xs.map convClue).eraseIdx n) true he ?_ ?_
        · unfold spec_DropClue.f
          refine Ev.bind hp (ev_pos rfl ?_)
          rw [hlen, w64 (by omega) (by omega), show spec_l1In.f (n : Int) 0 ((xs.length : Int) - 1) = some true by unfold spec_l1In.f; rw [if_pos (by omega)]; simp; omega]
          refine ev_some (ev_pos rfl ?_)
          rw [without_is _ n (by omega) (by omega)]
          exact ev_some (Ev.now _)
        · unfold impl_DropClue.f
          rw [hi0]
          refine ev_some (ev_pos rfl ?_)
          rw [hlen, w64 (by omega) (by omega), show impl_within.f (n : Int) 0 ((xs.length : Int) - 1) = some true by unfold impl_within.f; rw [if_pos (by omega)]; simp; omega]
          refine ev_some (ev_pos rfl ?_)
          unfold impl_dropped.f
          rw [if_pos ⟨by omega, by omega, by omega⟩, Int.toNat_natCast]
          exact ev_some (Ev.now _)
      · refine drop_law t xs a h 0 [] false (by simp) ?_ ?_
        · unfold spec_DropClue.f
          refine Ev.bind hp (ev_pos rfl ?_)
          have hw : spec_l1In.f a 0 ((xs.length : Int) - 1) = some false := by
            unfold spec_l1In.f
            by_cases h1 : a ≥ 0
            · rw [if_pos h1]; simp; omega
            · exact if_neg h1
          rw [hlen, w64 (by omega) (by omega), hw]
          exact ev_some (ev_neg Bool.false_ne_true (Ev.now _))
        · unfold impl_DropClue.f
          rw [hi0]
          refine ev_some (ev_pos rfl ?_)
          have hw : impl_within.f a 0 ((xs.length : Int) - 1) = some false := by
            unfold impl_within.f
            by_cases h1 : 0 ≤ a
            · rw [if_pos h1]; simp; omega
            · exact if_neg h1
          rw [hlen, w64 (by omega) (by omega), hw]
          exact ev_some (ev_neg Bool.false_ne_true (Ev.now _))
  · unfold laws_FnExactDropClue.f
    rw [szPuzzle_is t xs hl, if_neg h]
    exact ev_some (ev_pos (by omega) (Ev.now _))

end Go.Proofs.Ytccpfhedcnmmbaa.Pure

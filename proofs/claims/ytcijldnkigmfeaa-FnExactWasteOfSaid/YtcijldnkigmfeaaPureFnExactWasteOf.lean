/- For every board and every list of pieces (whose numbers may be any): the program's WasteOf and the reference's return the same results, and the list is not changed. Condition: what the law itself lets in. -/
import Derived.Test.YtcijldnkigmfeaaM0
import Derived.Test.YtcijldnkigmfeaaM10
import Derived.Test.YtcijldnkigmfeaaM2
import Derived.Test.YtcijldnkigmfeaaM3
import Derived.Test.YtcijldnkigmfeaaM4
import Derived.Test.YtcijldnkigmfeaaM5
import Derived.Test.YtcijldnkigmfeaaM6
import Derived.Test.YtcijldnkigmfeaaM7
import Derived.Test.YtcijldnkigmfeaaM8
import Derived.Test.YtcijldnkigmfeaaM9
import Derived.Test.YtcijldnkigmfeaaSFnExactWasteOf
namespace Go.Proofs.Ytcijldnkigmfeaa.Pure
open Go.RowKit Go.Proofs.Ytcijldnkigmfeaa.M Go.Proofs.YtcijldnkigmfeaaW.PrintWords Go.Proofs.YtcijldnkigmfeaaW.PrintLast Go.Proofs.YtcijldnkigmfeaaW.PrintMore
set_option linter.unusedVariables false
set_option linter.unusedSimpArgs false
theorem ev_pos {α : Type} {c : Prop} [Decidable c] {g f : Nat → Option α} {r : α} (hc : c) (h : Ev g r) : Ev (fun k => if c then g k else f k) r := Ev.congr (fun _ => if_pos hc) h
theorem ev_neg {α : Type} {c : Prop} [Decidable c] {g f : Nat → Option α} {r : α} (hc : ¬ c) (h : Ev f r) : Ev (fun k => if c then g k else f k) r := Ev.congr (fun _ => if_neg hc) h
theorem ev_some {α β : Type} {a : α} {f : Nat → α → Option β} {r : β} (h : Ev (fun n => f n a) r) : Ev (fun n => (some a).bind (f n)) r := Ev.bind (Ev.now a) h
theorem ev_ret {α : Type} {g : Nat → Option α} {r : α} (h : Ev g r) : Ev (fun n => (g n).bind fun t => some t) r := Ev.bind h (Ev.now r)
theorem ev_at {α : Type} {g : Nat → Option α} {r : α} (K : Nat) (h : ∀ k, g (k + K) = some r) : Ev g r := ⟨K, fun n hn => by obtain ⟨m, rfl⟩ : ∃ m, n = m + K := ⟨n - K, by omega⟩; exact h m⟩
theorem w64 {i : Int} (h0 : -9223372036854775808 ≤ i) (h1 : i ≤ 9223372036854775807) : wrap64 i = i := by
  unfold wrap64
  omega
theorem bne_self (b : Bool) : (b != b) = false := by cases b <;> rfl
theorem cons_drop {α : Type} (xs : List α) (i : Nat) (h : i < xs.length) : xs.drop i = xs[i] :: xs.drop (i + 1) := List.drop_eq_getElem_cons h
/-- a loop over the indexes of a list: what holds of one round holds of all -/
theorem ev_for {β ρ : Type} (n : Nat) (l : Nat → β → Int → Option ρ) (st : Nat → β) (r : ρ) (hstep : ∀ i, i < n → ∀ k, l (k + 1) (st i) (i : Int) = l k (st (i + 1)) ((i : Int) + 1)) (hend : ∀ k, l (k + 1) (st n) (n : Int) = some r) : ∀ i, i ≤ n → Ev (fun k => l k (st i) (i : Int)) r := by
  intro i hi
  obtain ⟨d, hd⟩ : ∃ d, n - i = d := ⟨_, rfl⟩
  induction d generalizing i with
  | zero =>
    obtain rfl : i = n := by omega
    exact ev_at 1 hend
  | succ d ih =>
    refine Ev.step (f := fun k => l k (st (i + 1)) ((i : Int) + 1)) (fun k => hstep i (by omega) k) ?_
    have := ih (i + 1) (by omega) (by omega)
    rwa [show ((i + 1 : Nat) : Int) = (i : Int) + 1 from by omega] at this

def tab {α : Type} (n : Nat) (f : Nat → α) : List α := (List.range n).map f
theorem tab_len {α : Type} (n : Nat) (f : Nat → α) : (tab n f).length = n := by simp [tab]
theorem tab_rep {α : Type} (n : Nat) (x : α) : List.replicate n x = tab n (fun _ => x) := by simp [tab, List.map_const']
theorem tab_get {α : Type} (n : Nat) (f : Nat → α) (i : Nat) (h : i < n) (z : α) : (tab n f).getD i z = f i := by simp [tab, h]
theorem rd_tab (n : Nat) (f : Nat → Int) (i : Nat) (h : i < n) : rd (tab n f) (i : Int) = f i := by simp [rd, tab, h]
theorem tab_ext {α : Type} (n : Nat) (f g : Nat → α) (h : ∀ j, j < n → f j = g j) : tab n f = tab n g := by
  unfold tab
  exact List.map_congr_left (fun j hj => h j (List.mem_range.1 hj))
theorem tab_set {α : Type} (n : Nat) (f g : Nat → α) (i : Nat) (x : α) (hx : i < n → g i = x) (ho : ∀ j, j < n → j ≠ i → f j = g j) : (tab n f).set i x = tab n g := by
  apply List.ext_getElem
  · simp [tab]
  · intro j h1 h2
    have hj' : j < n := by simpa [tab] using h1
    rw [List.getElem_set]
    by_cases hj : i = j
    · subst hj
      rw [if_pos rfl]
      simp [tab, hx hj']
    · rw [if_neg hj]
      simp [tab, ho j hj' (fun h => hj h.symm)]

def rowsT (a b : Nat) (V : Nat → Nat → Int) (w h : Nat) : List (List Int) := tab (a + 1) fun i => if i = 0 then [] else if i < w then tab (b + 1) (fun j => V i j) else if i = w then tab (b + 1) (fun j => if j < h then V i j else 0) else []
theorem rows_len (a b : Nat) (V : Nat → Nat → Int) (w h : Nat) : (rowsT a b V w h).length = a + 1 := tab_len _ _
theorem rows_old (a b : Nat) (V : Nat → Nat → Int) (w h i : Nat) (h0 : 0 < i) (h1 : i < w) (h2 : i ≤ a) : rd_L3 (rowsT a b V w h) (i : Int) = tab (b + 1) (fun j => V i j) := by
  simp only [rd_L3, rowsT, Int.toNat_natCast]
  rw [tab_get _ _ _ (by omega), if_neg (by omega), if_pos h1]
theorem rows_cur (a b : Nat) (V : Nat → Nat → Int) (w h : Nat) (h0 : 0 < w) (h2 : w ≤ a) : rd_L3 (rowsT a b V w h) (w : Int) = tab (b + 1) (fun j => if j < h then V w j else 0) := by
  simp only [rd_L3, rowsT, Int.toNat_natCast]
  rw [tab_get _ _ _ (by omega), if_neg (by omega), if_neg (by omega), if_pos rfl]
theorem rows_set (a b : Nat) (V : Nat → Nat → Int) (w h : Nat) (h0 : 0 < w) : (rowsT a b V w h).set w ((tab (b + 1) (fun j => if j < h then V w j else 0)).set h (V w h)) = rowsT a b V w (h + 1) := by
  refine tab_set _ _ _ _ _ (fun _ => ?_) (fun j _ hj => ?_)
  · rw [if_neg (by omega), if_neg (by omega), if_pos rfl]
    refine (tab_set _ _ (fun j => if j < h + 1 then V w j else 0) _ _ (fun _ => if_pos (by omega)) (fun j _ hj => ?_)).symm
    by_cases h1 : j < h
    · rw [if_pos h1, if_pos (by omega)]
    · rw [if_neg h1, if_neg (by omega)]
  · by_cases h1 : j = 0
    · rw [if_pos h1, if_pos h1]
    · rw [if_neg h1, if_neg h1, if_neg hj, if_neg hj]
theorem rows_next (a b : Nat) (V : Nat → Nat → Int) (hV : ∀ i, V i 0 = 0) (w : Nat) : (rowsT a b V w (b + 1)).set (w + 1) (List.replicate (b + 1) 0) = rowsT a b V (w + 1) 1 := by
  refine tab_set _ _ _ _ _ (fun _ => ?_) (fun j _ hj => ?_)
  · rw [if_neg (by omega), if_neg (by omega), if_pos rfl, tab_rep]
    refine tab_ext _ _ _ (fun j _ => ?_)
    by_cases h1 : j < 1
    · obtain rfl : j = 0 := by omega
      rw [if_pos h1, hV]
    · rw [if_neg h1]
  · by_cases h1 : j = 0
    · rw [if_pos h1, if_pos h1]
    · rw [if_neg h1, if_neg h1]
      by_cases h2 : j < w
      · rw [if_pos h2, if_pos (by omega)]
      · rw [if_neg h2]
        by_cases h3 : j = w
        · subst h3
          rw [if_pos rfl, if_pos (by omega)]
          exact tab_ext _ _ _ (fun i hi => if_pos hi)
        · rw [if_neg h3, if_neg (by omega), if_neg (by omega)]
theorem rows_none (a b : Nat) (V : Nat → Nat → Int) : List.replicate (a + 1) [] = rowsT a b V 0 (b + 1) := by
  rw [tab_rep]
  refine tab_ext _ _ _ (fun j _ => ?_)
  by_cases h1 : j = 0
  · rw [if_pos h1]
  · rw [if_neg h1, if_neg (by omega), if_neg (by omega)]
theorem rows_all (a b : Nat) (V : Nat → Nat → Int) (i j : Nat) (h0 : 0 < i) (h1 : i ≤ a) (h2 : j ≤ b) : rd_L3 (rowsT a b V a (b + 1)) (i : Int) = tab (b + 1) (fun j => V i j) := by
  by_cases h : i < a
  · exact rows_old a b V a (b + 1) i h0 h h1
  · obtain rfl : i = a := by omega
    rw [rows_cur i b V i (b + 1) h0 (Nat.le_refl _)]
    exact tab_ext _ _ _ (fun j hj => if_pos hj)

def inB (lo hi a : Int) : Bool := decide (lo ≤ a) && decide (a ≤ hi)
theorem inB_iff (lo hi a : Int) : inB lo hi a = true ↔ lo ≤ a ∧ a ≤ hi := by simp [inB]
theorem in_is (a lo hi : Int) : spec_l1In.f a lo hi = some (inB lo hi a) := by
  unfold spec_l1In.f inB
  by_cases h : lo ≤ a
  · rw [if_pos h, decide_eq_true h, Bool.true_and]
  · rw [if_neg h, decide_eq_false h, Bool.false_and]

theorem within_is (a lo hi : Int) : impl_within.f a lo hi = some (inB lo hi a) := by
  unfold impl_within.f inB
  by_cases h : lo ≤ a
  · rw [if_pos h, decide_eq_true h, Bool.true_and]
  · rw [if_neg h, decide_eq_false h, Bool.false_and]

theorem okW_in (a b x : Int) : okW a b x = inB a b x := rfl
def boardB (a b : Int) : Bool := inB 1 24 a && inB 1 24 b
theorem boardB_iff (a b : Int) : boardB a b = true ↔ (1 ≤ a ∧ a ≤ 24) ∧ 1 ≤ b ∧ b ≤ 24 := by simp [boardB, inB]
theorem good_is (a b : Int) : spec_bdGood.f a b = some (boardB a b) := by
  unfold spec_bdGood.f boardB
  rw [in_is, in_is]
  cases inB 1 24 a <;> rfl
theorem board_is (a b : Int) : impl_isBoard.f a b = some (boardB a b) := by
  unfold impl_isBoard.f boardB
  rw [within_is, within_is]
  cases inB 1 24 a <;> rfl

def convPiece (s : S33) : S35 := ⟨s.f0, s.f1, s.f2⟩
theorem convPiece_step (xs : List S33) (i : Nat) (h : i < xs.length) : ((xs.take i).map convPiece ++ List.replicate (xs.length - i) z35).set i (convPiece xs[i]) = (xs.take (i + 1)).map convPiece ++ List.replicate (xs.length - (i + 1)) z35 := by
  have e : xs.length - i = (xs.length - (i + 1)) + 1 := by omega
  rw [List.set_append_right _ _ (by simp; omega), e, List.replicate_succ]
  have e2 : i - (List.map convPiece (List.take i xs)).length = 0 := by simp; omega
  rw [e2, List.set_cons_zero, List.take_succ_eq_append_getElem h, List.map_append]
  simp
theorem toPiece_l0 (xs : List S33) (hn : xs.length ≤ 1048576) (d : Nat) : ∀ i : Nat, xs.length - i = d → i ≤ xs.length →
    Ev (fun k => laws_toPieceS.l0 k xs ((xs.take i).map convPiece ++ List.replicate (xs.length - i) z35) (i : Int)) (xs.map convPiece) := by
  induction d with
  | zero =>
    intro i hd hle
    obtain rfl : i = xs.length := by omega
    exact ev_at 1 (fun k => by simp only [laws_toPieceS.l0]; rw [if_neg (by omega)]; simp)
  | succ d ih =>
    intro i hd hle
    have hlt : i < xs.length := by omega
    have hr : rd_T33 xs (i : Int) = xs[i] := by simp [rd_T33, hlt]
    refine Ev.step (f := fun k => laws_toPieceS.l0 k xs ((xs.take (i + 1)).map convPiece ++ List.replicate (xs.length - (i + 1)) z35) ((i + 1 : Nat) : Int)) (fun k => ?_) (ih (i + 1) (by omega) (by omega))
    simp only [laws_toPieceS.l0, laws_toPiece.f, Option.bind_some]
    rw [if_pos (by omega), if_pos (by omega), if_pos (by simp; omega), hr, w64 (by omega) (by omega), Int.toNat_natCast, ← convPiece_step xs i hlt]
    rfl
theorem toPiece_is (xs : List S33) (hn : xs.length ≤ 1048576) : Ev (fun k => laws_toPieceS.f k xs) (xs.map convPiece) := by
  unfold laws_toPieceS.f
  refine ev_pos (by omega) (ev_pos (by simp; omega) ?_)
  have := toPiece_l0 xs hn _ 0 rfl (Nat.zero_le _)
  simpa using this
theorem eqPiece_self (x : S35) : laws_eqPiece.f x.f0 x.f1 x.f2 x.f0 x.f1 x.f2 = some true := by simp [laws_eqPiece.f]
theorem eqPiece_l0 (xs : List S35) (hn : xs.length ≤ 1048577) (d : Nat) : ∀ i : Nat, xs.length - i = d → i ≤ xs.length → Ev (fun k => laws_eqPieceS.l0 k xs xs (i : Int)) true := by
  induction d with
  | zero =>
    intro i hd hle
    exact ev_at 1 (fun k => by simp only [laws_eqPieceS.l0]; rw [if_neg (by omega)])
  | succ d ih =>
    intro i hd hle
    refine Ev.step (f := fun k => laws_eqPieceS.l0 k xs xs ((i + 1 : Nat) : Int)) (fun k => ?_) (ih (i + 1) (by omega) (by omega))
    simp only [laws_eqPieceS.l0]
    rw [if_pos (by omega), if_pos (by omega), if_pos (by omega), eqPiece_self, w64 (by omega) (by omega)]
    rfl
theorem eqPiece_is (xs : List S35) (hn : xs.length ≤ 1048577) : Ev (fun k => laws_eqPieceS.f k xs xs) true := by
  unfold laws_eqPieceS.f
  exact ev_pos rfl (eqPiece_l0 xs hn _ 0 rfl (Nat.zero_le _))
theorem szPiece_is (xs : List S33) (hn : xs.length ≤ maxLen) : laws_szPieceS.f xs 1048576 = some (if xs.length ≤ 1048576 then 1048576 - (xs.length : Int) else -1) := by
  unfold maxLen at hn
  unfold laws_szPieceS.f
  rw [w64 (by omega) (by omega)]
  by_cases h : xs.length ≤ 1048576
  · rw [if_neg (by omega), if_pos h]
  · rw [if_pos (by omega), if_neg h]

theorem okPiece_is (b : S35) : okPiece b = (boardB b.f0 b.f1 && inB 0 1000 b.f2) := rfl
theorem bdPieces_l0 (xs : List S35) (hn : xs.length ≤ 1048576) (d : Nat) : ∀ i : Nat, xs.length - i = d → i ≤ xs.length →
    Ev (fun k => spec_bdPieces.l0 k xs (xs.length : Int) (i : Int)) ((xs.drop i).all okPiece) := by
  induction d with
  | zero =>
    intro i hd hle
    obtain rfl : i = xs.length := by omega
    rw [List.drop_length]
    exact ev_at 1 (fun k => by simp only [spec_bdPieces.l0]; rw [if_neg (by omega)]; rfl)
  | succ d ih =>
    intro i hd hle
    have hlt : i < xs.length := by omega
    have hr : rd_T35 xs (i : Int) = xs[i] := by simp [rd_T35, hlt]
    rw [cons_drop xs i hlt, List.all_cons, okPiece_is]
    cases h1 : boardB xs[i].f0 xs[i].f1 with
    | false =>
      refine ev_at 1 (fun k => ?_)
      simp only [spec_bdPieces.l0]
      rw [if_pos (by omega), if_pos (by omega), if_pos (by omega), hr, good_is, h1]
      rfl
    | true =>
      cases h2 : inB 0 1000 xs[i].f2 with
      | false =>
        refine ev_at 1 (fun k => ?_)
        simp only [spec_bdPieces.l0]
        rw [if_pos (by omega), if_pos (by omega), if_pos (by omega), hr, good_is, h1, in_is, h2]
        rfl
      | true =>
        refine Ev.step (f := fun k => spec_bdPieces.l0 k xs (xs.length : Int) ((i + 1 : Nat) : Int)) (fun k => ?_) (ih (i + 1) (by omega) (by omega))
        simp only [spec_bdPieces.l0]
        rw [if_pos (by omega), if_pos (by omega), if_pos (by omega), hr, good_is, h1, in_is, h2, w64 (by omega) (by omega)]
        rfl
def piecesB (xs : List S35) : Bool := inB 1 4 (xs.length : Int) && xs.all okPiece
theorem bdPieces_is (xs : List S35) (hn : xs.length ≤ 1048576) : Ev (fun k => spec_bdPieces.f k xs) (piecesB xs) := by
  unfold spec_bdPieces.f piecesB
  rw [in_is]
  cases inB 1 4 (xs.length : Int) with
  | true => exact ev_some (ev_pos rfl (by simpa using bdPieces_l0 xs hn _ 0 rfl (Nat.zero_le _)))
  | false => exact ev_some (ev_neg (by decide) (Ev.now _))
theorem arePieces_is (xs : List S35) : impl_ArePieces.f xs = some (piecesB xs) := rfl

theorem most_is (a b : Int) : spec_l1Most.f a b = some (mx a b) := by
  unfold spec_l1Most.f mx
  by_cases h : a > b
  · rw [if_pos h, if_neg (by omega)]
  · rw [if_neg h]
    by_cases h2 : a < b
    · rw [if_pos h2]
    · rw [if_neg h2]
      congr 1
      omega
theorem bdIs_is (a b : Int) (x : S35) (tn : Bool) : spec_bdIs.f a b x.f0 x.f1 x.f2 tn = some (justB a b tn x) := by
  unfold spec_bdIs.f justB
  by_cases h0 : a = x.f0 <;> by_cases h1 : b = x.f1 <;> cases tn <;> by_cases h2 : a = x.f1 <;> by_cases h3 : b = x.f0 <;> simp [h0, h1, h2, h3] <;> simp_all
/-- the value of a board that is not cut -/
def whF (a b : Int) (tn : Bool) (best : Int) (x : S35) : Int := if justB a b tn x = true then mx best x.f2 else best
theorem wholeN_fold (a b : Int) (tn : Bool) (l : List S35) : ∀ i best kind, (wholeN a b tn l i best kind).1 = l.foldl (whF a b tn) best := by
  induction l with
  | nil => intro i best kind; rfl
  | cons x l ih =>
    intro i best kind
    rw [wholeN, List.foldl_cons]
    unfold whF
    cases h : justB a b tn x with
    | false => rw [Bool.false_and, if_neg (by decide), if_neg (by decide), ih]; rfl
    | true =>
      rw [Bool.true_and, if_pos rfl]
      unfold mx
      by_cases h2 : best < x.f2
      · rw [decide_eq_true h2, if_pos rfl, if_pos h2, ih]; rfl
      · rw [decide_eq_false h2, if_neg (by decide), if_neg h2, ih]; rfl
def valV (l : List S35) (tn : Bool) (i j : Nat) : Int := if j = 0 then 0 else cvN (whN l tn) (i : Int) (j : Int)
theorem valV_pos (l : List S35) (tn : Bool) (i j : Nat) (h : 0 < j) : valV l tn i j = cvN (whN l tn) (i : Int) (j : Int) := if_neg (by omega)
section
variable (a b : Nat) (l : List S35) (tn : Bool) (ha : a ≤ 24) (hb : b ≤ 24) (hl : l.length ≤ 1048576)
set_option linter.unusedSectionVars false
include ha hb hl
theorem val_l4 (w h : Nat) (h1 : 0 < w) (h2 : w ≤ a) (h3 : 0 < h) (h4 : h ≤ b) (R : List (List Int)) (d : Nat) : ∀ (p : Nat) (best : Int), h / 2 + 1 - p = d → 1 ≤ p → p ≤ h / 2 + 1 →
    ((List.range' p d).map (fun (p : Nat) => (⟨false, (p : Int)⟩ : S62))).foldl (cvStep (whN l tn) (w : Int) (h : Int)) best = cvN (whN l tn) (w : Int) (h : Int) →
    Ev (fun k => spec_bdValues.l1 k (a : Int) (b : Int) l tn (rowsT a b (valV l tn) w (h + 1)) (w : Int) ((h + 1 : Nat) : Int)) R →
    Ev (fun k => spec_bdValues.l4 k (a : Int) (b : Int) l tn (rowsT a b (valV l tn) w h) (w : Int) (h : Int) best (p : Int)) R := by
  induction d with
  | zero =>
    intro p best hd hp hp2 hf hK
    refine Ev.step (fun k => ?_) hK
    simp only [List.range'_zero, List.map_nil, List.foldl_nil] at hf
    simp only [spec_bdValues.l4]
    rw [w64 (i := 2 * (p : Int)) (by omega) (by omega), if_neg (by omega), rows_len, rows_cur _ _ _ _ _ h1 h2, tab_len, if_pos (by omega), if_pos (by omega), if_pos (by omega), if_pos (by omega), Int.toNat_natCast, Int.toNat_natCast, hf, ← valV_pos l tn w h h3, rows_set _ _ _ _ _ h1, w64 (by omega) (by omega)]
    rfl
  | succ d ih =>
    intro p best hd hp hp2 hf hK
    rw [List.range'_succ, List.map_cons, List.foldl_cons] at hf
    refine Ev.step (fun k => ?_) (ih (p + 1) _ (by omega) (by omega) (by omega) hf hK)
    simp only [spec_bdValues.l4]
    rw [w64 (i := 2 * (p : Int)) (by omega) (by omega), if_pos (by omega), rows_len, rows_cur _ _ _ _ _ h1 h2, tab_len, w64 (i := (h : Int) - (p : Int)) (by omega) (by omega), show (h : Int) - (p : Int) = ((h - p : Nat) : Int) from by omega, rd_tab _ _ _ (by omega), rd_tab _ _ _ (by omega), if_pos (show p < h by omega), if_pos (show h - p < h by omega), valV_pos _ _ _ _ (by omega), valV_pos _ _ _ _ (by omega)]
    rw [if_pos (by omega), if_pos (by omega), if_pos (by omega), if_pos (by omega), if_pos (by omega), if_pos (by omega), most_is, Option.bind_some, w64 (i := (p : Int) + 1) (by omega) (by omega)]
    unfold cvStep partsOf
    simp only [Bool.false_eq_true, if_false]
    rw [show (h : Int) - (p : Int) = ((h - p : Nat) : Int) from by omega]
    rfl
theorem val_l3 (w h : Nat) (h1 : 0 < w) (h2 : w ≤ a) (h3 : 0 < h) (h4 : h ≤ b) (R : List (List Int)) (d : Nat) : ∀ (p : Nat) (best : Int), w / 2 + 1 - p = d → 1 ≤ p → p ≤ w / 2 + 1 →
    ((List.range' 1 (h / 2)).map (fun (p : Nat) => (⟨false, (p : Int)⟩ : S62))).foldl (cvStep (whN l tn) (w : Int) (h : Int)) (((List.range' p d).map (fun (p : Nat) => (⟨true, (p : Int)⟩ : S62))).foldl (cvStep (whN l tn) (w : Int) (h : Int)) best) = cvN (whN l tn) (w : Int) (h : Int) →
    Ev (fun k => spec_bdValues.l1 k (a : Int) (b : Int) l tn (rowsT a b (valV l tn) w (h + 1)) (w : Int) ((h + 1 : Nat) : Int)) R →
    Ev (fun k => spec_bdValues.l3 k (a : Int) (b : Int) l tn (rowsT a b (valV l tn) w h) (w : Int) (h : Int) best (p : Int)) R := by
  induction d with
  | zero =>
    intro p best hd hp hp2 hf hK
    simp only [List.range'_zero, List.map_nil, List.foldl_nil] at hf
    refine Ev.step (fun k => ?_) (val_l4 a b l tn ha hb hl w h h1 h2 h3 h4 R (h / 2) 1 best (by omega) (by omega) (by omega) hf hK)
    simp only [spec_bdValues.l3]
    rw [w64 (i := 2 * (p : Int)) (by omega) (by omega), if_neg (by omega)]
    rfl
  | succ d ih =>
    intro p best hd hp hp2 hf hK
    rw [List.range'_succ, List.map_cons, List.foldl_cons] at hf
    refine Ev.step (fun k => ?_) (ih (p + 1) _ (by omega) (by omega) (by omega) hf hK)
    simp only [spec_bdValues.l3]
    rw [w64 (i := 2 * (p : Int)) (by omega) (by omega), if_pos (by omega), rows_len, w64 (i := (w : Int) - (p : Int)) (by omega) (by omega), show (w : Int) - (p : Int) = ((w - p : Nat) : Int) from by omega, rows_old _ _ _ _ _ p (by omega) (by omega) (by omega), rows_old _ _ _ _ _ (w - p) (by omega) (by omega) (by omega), tab_len, tab_len, rd_tab _ _ _ (by omega), rd_tab _ _ _ (by omega), valV_pos _ _ _ _ h3, valV_pos _ _ _ _ h3]
    rw [if_pos (by omega), if_pos (by omega), if_pos (by omega), if_pos (by omega), if_pos (by omega), if_pos (by omega), if_pos (by omega), most_is, Option.bind_some, w64 (i := (p : Int) + 1) (by omega) (by omega)]
    unfold cvStep partsOf
    simp only [if_true]
    rw [show (w : Int) - (p : Int) = ((w - p : Nat) : Int) from by omega]
    rfl
theorem val_l2 (w h : Nat) (T R : List (List Int)) (r : Int) (hK : Ev (fun k => spec_bdValues.l3 k (a : Int) (b : Int) l tn T (w : Int) (h : Int) r 1) R) (d : Nat) : ∀ (i : Nat) (best : Int), l.length - i = d → i ≤ l.length →
    (l.drop i).foldl (whF (w : Int) (h : Int) tn) best = r →
    Ev (fun k => spec_bdValues.l2 k (a : Int) (b : Int) l tn T (w : Int) (h : Int) best l (l.length : Int) (i : Int)) R := by
  induction d with
  | zero =>
    intro i best hd hi hf
    obtain rfl : i = l.length := by omega
    rw [List.drop_length, List.foldl_nil] at hf
    refine Ev.step (fun k => ?_) hK
    simp only [spec_bdValues.l2]
    rw [if_neg (by omega), hf]
  | succ d ih =>
    intro i best hd hi hf
    have hlt : i < l.length := by omega
    rw [cons_drop l i hlt, List.foldl_cons] at hf
    have hr : rd_T35 l (i : Int) = l[i] := by simp [rd_T35, hlt]
    refine Ev.step (fun k => ?_) (ih (i + 1) _ (by omega) (by omega) hf)
    simp only [spec_bdValues.l2]
    rw [if_pos (by omega), if_pos (by omega), if_pos (by omega), hr, bdIs_is, w64 (by omega) (by omega)]
    unfold whF
    cases justB (w : Int) (h : Int) tn l[i] with
    | true => simp only [Option.bind_some, if_true, most_is]; rfl
    | false => simp only [Option.bind_some, Bool.false_eq_true, if_false]; rfl
theorem val_l1 (w : Nat) (h1 : 0 < w) (h2 : w ≤ a) (R : List (List Int)) (hK : Ev (fun k => spec_bdValues.l0 k (a : Int) (b : Int) l tn (rowsT a b (valV l tn) w (b + 1)) ((w + 1 : Nat) : Int)) R) (d : Nat) : ∀ h : Nat, b + 1 - h = d → 0 < h → h ≤ b + 1 →
    Ev (fun k => spec_bdValues.l1 k (a : Int) (b : Int) l tn (rowsT a b (valV l tn) w h) (w : Int) (h : Int)) R := by
  induction d with
  | zero =>
    intro h hd h3 h4
    obtain rfl : h = b + 1 := by omega
    refine Ev.step (fun k => ?_) hK
    simp only [spec_bdValues.l1]
    rw [if_neg (by omega), w64 (by omega) (by omega)]
    rfl
  | succ d ih =>
    intro h hd h3 h4
    have hih := ih (h + 1) (by omega) (by omega) (by omega)
    have hcv := cvN_eq (whN l tn) (w : Int) (h : Int) (by omega) (by omega)
    rw [Int.toNat_natCast, Int.toNat_natCast] at hcv
    unfold cutsL at hcv
    rw [show min (w - 1) (w / 2) = w / 2 from by omega, show min (h - 1) (h / 2) = h / 2 from by omega, List.foldl_append] at hcv
    have h3' := val_l3 a b l tn ha hb hl w h h1 h2 h3 (by omega) R (w / 2) 1 (whN l tn (w : Int) (h : Int)) (by omega) (by omega) (by omega) hcv.symm hih
    have h2' := val_l2 a b l tn ha hb hl w h _ R _ h3' _ 0 0 rfl (Nat.zero_le _) (by rw [List.drop_zero, ← wholeN_fold _ _ _ l 0 0 (-1)]; rfl)
    refine Ev.step (fun k => ?_) h2'
    simp only [spec_bdValues.l1]
    rw [if_pos (by omega)]
    rfl
theorem val_l0 (d : Nat) : ∀ w : Nat, a - w = d → w ≤ a → Ev (fun k => spec_bdValues.l0 k (a : Int) (b : Int) l tn (rowsT a b (valV l tn) w (b + 1)) ((w + 1 : Nat) : Int)) (rowsT a b (valV l tn) a (b + 1)) := by
  induction d with
  | zero =>
    intro w hd hw
    obtain rfl : w = a := by omega
    refine ev_at 1 (fun k => ?_)
    simp only [spec_bdValues.l0]
    rw [if_neg (by omega)]
  | succ d ih =>
    intro w hd hw
    refine Ev.step (fun k => ?_) (val_l1 a b l tn ha hb hl (w + 1) (by omega) (by omega) _ (ih (w + 1) (by omega) (by omega)) _ 1 rfl (by omega) (by omega))
    simp only [spec_bdValues.l0]
    rw [if_pos (by omega), w64 (i := (b : Int) + 1) (by omega) (by omega), show (b : Int) + 1 = ((b + 1 : Nat) : Int) from by omega, rows_len, if_pos (by omega), if_pos (by omega), if_pos (by omega), if_pos (by omega), Int.toNat_natCast, Int.toNat_natCast, rows_next _ _ _ (fun _ => if_pos rfl)]
    rfl
theorem bdValues_is : Ev (fun k => spec_bdValues.f k (a : Int) (b : Int) l tn) (rowsT a b (valV l tn) a (b + 1)) := by
  have h := val_l0 a b l tn ha hb hl _ 0 rfl (Nat.zero_le _)
  unfold spec_bdValues.f
  rw [w64 (i := (a : Int) + 1) (by omega) (by omega), show (a : Int) + 1 = ((a + 1 : Nat) : Int) from by omega, Int.toNat_natCast]
  refine ev_pos (by omega) (ev_pos (by omega) ?_)
  rw [rows_none a b (valV l tn)]
  exact h
end

theorem mx_le1 (a b : Int) : a ≤ mx a b := by unfold mx; split <;> omega
theorem mx_le2 (a b : Int) : b ≤ mx a b := by unfold mx; split <;> omega
theorem whF_le (a b : Int) (tn : Bool) (l : List S35) : ∀ best, best ≤ l.foldl (whF a b tn) best := by
  induction l with
  | nil => intro best; exact Int.le_refl _
  | cons x l ih =>
    intro best
    refine Int.le_trans ?_ (ih _)
    unfold whF
    split
    · exact mx_le1 _ _
    · exact Int.le_refl _
theorem whF_mem (a b : Int) (tn : Bool) (l : List S35) : ∀ best x, x ∈ l → justB a b tn x = true → x.f2 ≤ l.foldl (whF a b tn) best := by
  induction l with
  | nil => intro best x hx; simp at hx
  | cons y l ih =>
    intro best x hx hj
    rcases List.mem_cons.1 hx with rfl | hx
    · rw [List.foldl_cons]
      refine Int.le_trans ?_ (whF_le a b tn l _)
      unfold whF
      rw [if_pos hj]
      exact mx_le2 _ _
    · exact ih _ x hx hj
theorem whF_some (a b : Int) (tn : Bool) (l : List S35) : ∀ best, l.foldl (whF a b tn) best = best ∨ ∃ x ∈ l, justB a b tn x = true ∧ x.f2 = l.foldl (whF a b tn) best := by
  induction l with
  | nil => intro best; exact .inl rfl
  | cons y l ih =>
    intro best
    rw [List.foldl_cons]
    rcases ih (whF a b tn best y) with h | ⟨x, hx, hj, hv⟩
    · rw [h]
      unfold whF
      by_cases hj : justB a b tn y = true
      · rw [if_pos hj]
        unfold mx
        by_cases hlt : best < y.f2
        · rw [if_pos hlt]; exact .inr ⟨y, by simp, hj, rfl⟩
        · rw [if_neg hlt]; exact .inl rfl
      · rw [if_neg hj]; exact .inl rfl
    · exact .inr ⟨x, by simp [hx], hj, hv⟩
theorem whN_fold (l : List S35) (tn : Bool) (a b : Int) : whN l tn a b = l.foldl (whF a b tn) 0 := wholeN_fold a b tn l 0 0 (-1)
theorem cvStep_le (wh : Int → Int → Int) (a b : Int) (L : List S62) : ∀ best, best ≤ L.foldl (cvStep wh a b) best := by
  induction L with
  | nil => intro best; exact Int.le_refl _
  | cons x l ih => intro best; exact Int.le_trans (mx_le1 _ _) (ih _)
theorem wh_le_cv (l : List S35) (tn : Bool) (a b : Int) (h1 : 1 ≤ a) (h2 : 1 ≤ b) : whN l tn a b ≤ cvN (whN l tn) a b := by
  rw [cvN_eq _ _ _ h1 h2]
  exact cvStep_le _ _ _ _ _
theorem kind_l0 (a b v : Int) (tn : Bool) (l : List S35) (hl : l.length ≤ 1048576) (d : Nat) : ∀ i : Nat, l.length - i = d → i ≤ l.length →
    ∃ r : Int, Ev (fun k => spec_bdKind.l0 k a b v tn l (l.length : Int) (i : Int)) r ∧ (0 ≤ r ↔ ∃ x ∈ l.drop i, justB a b tn x = true ∧ x.f2 = v) := by
  induction d with
  | zero =>
    intro i hd hi
    obtain rfl : i = l.length := by omega
    refine ⟨-1, ev_at 1 (fun k => ?_), ?_⟩
    · simp only [spec_bdKind.l0]
      rw [if_neg (by omega)]
    · rw [List.drop_length]
      simp
  | succ d ih =>
    intro i hd hi
    have hlt : i < l.length := by omega
    have hr : rd_T35 l (i : Int) = l[i] := by simp [rd_T35, hlt]
    obtain ⟨r, hr1, hr2⟩ := ih (i + 1) (by omega) (by omega)
    rw [cons_drop l i hlt]
    by_cases hj : justB a b tn l[i] = true ∧ l[i].f2 = v
    · refine ⟨i, ev_at 1 (fun k => ?_), ?_⟩
      · simp only [spec_bdKind.l0]
        rw [if_pos (by omega), if_pos (by omega), if_pos (by omega), hr, bdIs_is, hj.1]
        simp only [Option.bind_some, if_true]
        rw [if_pos hj.2]
      · constructor
        · intro _; exact ⟨l[i], List.mem_cons_self, hj⟩
        · intro _; omega
    · refine ⟨r, Ev.step (fun k => ?_) hr1, ?_⟩
      · simp only [spec_bdKind.l0]
        rw [if_pos (by omega), if_pos (by omega), if_pos (by omega), hr, bdIs_is, w64 (i := (i : Int) + 1) (by omega) (by omega)]
        cases hb : justB a b tn l[i] with
        | true =>
          simp only [Option.bind_some, if_true]
          rw [if_neg (fun h => hj ⟨hb, h⟩)]
          rfl
        | false =>
          simp only [Option.bind_some, Bool.false_eq_true, if_false]
          rfl
      · rw [hr2]
        constructor
        · rintro ⟨x, hx, h⟩; exact ⟨x, List.mem_cons_of_mem _ hx, h⟩
        · rintro ⟨x, hx, h⟩
          rcases List.mem_cons.1 hx with rfl | hx
          · exact absurd h hj
          · exact ⟨x, hx, h⟩
theorem kind_is (a b v : Int) (tn : Bool) (l : List S35) (hl : l.length ≤ 1048576) : ∃ r : Int, Ev (fun k => spec_bdKind.f k a b v l tn) r ∧ (0 ≤ r ↔ ∃ x ∈ l, justB a b tn x = true ∧ x.f2 = v) := by
  obtain ⟨r, h1, h2⟩ := kind_l0 a b v tn l hl _ 0 rfl (Nat.zero_le _)
  exact ⟨r, by simpa [spec_bdKind.f] using h1, by simpa using h2⟩
/-- uncut: the value is nothing, or that of a piece which the board is -/
theorem uncut_iff (l : List S35) (tn : Bool) (a b : Int) (h1 : 1 ≤ a) (h2 : 1 ≤ b) : whN l tn a b = cvN (whN l tn) a b ↔ cvN (whN l tn) a b = 0 ∨ ∃ x ∈ l, justB a b tn x = true ∧ x.f2 = cvN (whN l tn) a b := by
  have hle := wh_le_cv l tn a b h1 h2
  have h0 : 0 ≤ whN l tn a b := by rw [whN_fold]; exact whF_le _ _ _ _ _
  constructor
  · intro h
    rw [← h]
    rcases whF_some a b tn l 0 with hs | hs
    · left; rw [whN_fold]; exact hs
    · right; rw [whN_fold]; exact hs
  · rintro (h | ⟨x, hx, hj, hv⟩)
    · omega
    · have := whF_mem a b tn l 0 x hx hj
      rw [← whN_fold] at this
      omega
def cutR (r : S62 × Bool) : Bool × Int × Bool := (r.1.f0, r.1.f1, r.2)
section
variable (a b : Nat) (l : List S35) (tn : Bool) (ha : a ≤ 24) (hb : b ≤ 24) (hl : l.length ≤ 1048576) (w h : Nat) (h1 : 0 < w) (h2 : w ≤ a) (h3 : 0 < h) (h4 : h ≤ b)
set_option linter.unusedSectionVars false
include ha hb hl h1 h2 h3 h4
theorem cut_l1 (d : Nat) : ∀ p : Nat, h / 2 + 1 - p = d → 1 ≤ p → p ≤ h / 2 + 1 →
    Ev (fun k => spec_bdCut.l1 k (rowsT a b (valV l tn) a (b + 1)) (w : Int) (h : Int) (p : Int)) (cutR (firstL (whN l tn) (w : Int) (h : Int) (cvN (whN l tn) (w : Int) (h : Int)) ((List.range' p d).map (fun (p : Nat) => (⟨false, (p : Int)⟩ : S62))))) := by
  induction d with
  | zero =>
    intro p hd hp hp2
    refine ev_at 1 (fun k => ?_)
    simp only [spec_bdCut.l1]
    rw [w64 (i := 2 * (p : Int)) (by omega) (by omega), if_neg (by omega)]
    rfl
  | succ d ih =>
    intro p hd hp hp2
    have hr := rows_all a b (valV l tn) w (0) h1 h2 (by omega)
    rw [List.range'_succ, List.map_cons, firstL]
    unfold partsOf
    simp only [Bool.false_eq_true, if_false]
    rw [show (h : Int) - (p : Int) = ((h - p : Nat) : Int) from by omega]
    by_cases hc : wrap64 (cvN (whN l tn) (w : Int) (p : Int) + cvN (whN l tn) (w : Int) ((h - p : Nat) : Int)) = cvN (whN l tn) (w : Int) (h : Int)
    · rw [if_pos hc]
      refine ev_at 1 (fun k => ?_)
      simp only [spec_bdCut.l1]
      rw [w64 (i := 2 * (p : Int)) (by omega) (by omega), if_pos (by omega), rows_len, hr, tab_len, w64 (i := (h : Int) - (p : Int)) (by omega) (by omega), show (h : Int) - (p : Int) = ((h - p : Nat) : Int) from by omega, rd_tab _ _ _ (by omega), rd_tab _ _ _ (by omega), rd_tab _ _ _ (by omega), valV_pos _ _ _ _ (by omega), valV_pos _ _ _ _ (by omega), valV_pos _ _ _ _ (by omega)]
      rw [if_pos (by omega), if_pos (by omega), if_pos (by omega), if_pos (by omega), if_pos (by omega), if_pos (by omega), if_pos (by omega), if_pos (by omega), if_pos hc]
      rfl
    · rw [if_neg hc]
      refine Ev.step (fun k => ?_) (ih (p + 1) (by omega) (by omega) (by omega))
      simp only [spec_bdCut.l1]
      rw [w64 (i := 2 * (p : Int)) (by omega) (by omega), if_pos (by omega), rows_len, hr, tab_len, w64 (i := (h : Int) - (p : Int)) (by omega) (by omega), show (h : Int) - (p : Int) = ((h - p : Nat) : Int) from by omega, rd_tab _ _ _ (by omega), rd_tab _ _ _ (by omega), rd_tab _ _ _ (by omega), valV_pos _ _ _ _ (by omega), valV_pos _ _ _ _ (by omega), valV_pos _ _ _ _ (by omega)]
      rw [if_pos (by omega), if_pos (by omega), if_pos (by omega), if_pos (by omega), if_pos (by omega), if_pos (by omega), if_pos (by omega), if_pos (by omega), if_neg hc, w64 (i := (p : Int) + 1) (by omega) (by omega)]
      rfl
theorem cut_l0 (d : Nat) : ∀ p : Nat, w / 2 + 1 - p = d → 1 ≤ p → p ≤ w / 2 + 1 →
    Ev (fun k => spec_bdCut.l0 k (rowsT a b (valV l tn) a (b + 1)) (w : Int) (h : Int) (p : Int)) (cutR (firstL (whN l tn) (w : Int) (h : Int) (cvN (whN l tn) (w : Int) (h : Int)) ((List.range' p d).map (fun (p : Nat) => (⟨true, (p : Int)⟩ : S62)) ++ (List.range' 1 (h / 2)).map (fun (p : Nat) => (⟨false, (p : Int)⟩ : S62))))) := by
  induction d with
  | zero =>
    intro p hd hp hp2
    refine Ev.step (fun k => ?_) (cut_l1 a b l tn ha hb hl w h h1 h2 h3 h4 (h / 2) 1 (by omega) (by omega) (by omega))
    simp only [spec_bdCut.l0]
    rw [w64 (i := 2 * (p : Int)) (by omega) (by omega), if_neg (by omega)]
    rfl
  | succ d ih =>
    intro p hd hp hp2
    have hr := rows_all a b (valV l tn) w (0) h1 h2 (by omega)
    have hrp := rows_all a b (valV l tn) p (0) (by omega) (by omega) (by omega)
    have hrq := rows_all a b (valV l tn) (w - p) (0) (by omega) (by omega) (by omega)
    rw [List.range'_succ, List.map_cons, List.cons_append, firstL]
    unfold partsOf
    simp only [if_true]
    rw [show (w : Int) - (p : Int) = ((w - p : Nat) : Int) from by omega]
    by_cases hc : wrap64 (cvN (whN l tn) (p : Int) (h : Int) + cvN (whN l tn) ((w - p : Nat) : Int) (h : Int)) = cvN (whN l tn) (w : Int) (h : Int)
    · rw [if_pos hc]
      refine ev_at 1 (fun k => ?_)
      simp only [spec_bdCut.l0]
      rw [w64 (i := 2 * (p : Int)) (by omega) (by omega), if_pos (by omega), rows_len, w64 (i := (w : Int) - (p : Int)) (by omega) (by omega), show (w : Int) - (p : Int) = ((w - p : Nat) : Int) from by omega, hr, hrp, hrq, tab_len, tab_len, tab_len, rd_tab _ _ _ (by omega), rd_tab _ _ _ (by omega), rd_tab _ _ _ (by omega), valV_pos _ _ _ _ h3, valV_pos _ _ _ _ h3, valV_pos _ _ _ _ h3]
      rw [if_pos (by omega), if_pos (by omega), if_pos (by omega), if_pos (by omega), if_pos (by omega), if_pos (by omega), if_pos (by omega), if_pos (by omega), if_pos (by omega), if_pos (by omega), if_pos hc]
      rfl
    · rw [if_neg hc]
      refine Ev.step (fun k => ?_) (ih (p + 1) (by omega) (by omega) (by omega))
      simp only [spec_bdCut.l0]
      rw [w64 (i := 2 * (p : Int)) (by omega) (by omega), if_pos (by omega), rows_len, w64 (i := (w : Int) - (p : Int)) (by omega) (by omega), show (w : Int) - (p : Int) = ((w - p : Nat) : Int) from by omega, hr, hrp, hrq, tab_len, tab_len, tab_len, rd_tab _ _ _ (by omega), rd_tab _ _ _ (by omega), rd_tab _ _ _ (by omega), valV_pos _ _ _ _ h3, valV_pos _ _ _ _ h3, valV_pos _ _ _ _ h3]
      rw [if_pos (by omega), if_pos (by omega), if_pos (by omega), if_pos (by omega), if_pos (by omega), if_pos (by omega), if_pos (by omega), if_pos (by omega), if_pos (by omega), if_pos (by omega), if_neg hc, w64 (i := (p : Int) + 1) (by omega) (by omega)]
      rfl
theorem bdCut_is : Ev (fun k => spec_bdCut.f k (rowsT a b (valV l tn) a (b + 1)) (w : Int) (h : Int) l tn) (cutR (firstN (whN l tn) (w : Int) (h : Int))) := by
  have hr := rows_all a b (valV l tn) w (0) h1 h2 (by omega)
  have hun := uncut_iff l tn (w : Int) (h : Int) (by omega) (by omega)
  have hloop := cut_l0 a b l tn ha hb hl w h h1 h2 h3 h4 (w / 2) 1 (by omega) (by omega) (by omega)
  obtain ⟨r, hr1, hr2⟩ := kind_is (w : Int) (h : Int) (cvN (whN l tn) (w : Int) (h : Int)) tn l hl
  have hN : firstN (whN l tn) (w : Int) (h : Int) = if whN l tn (w : Int) (h : Int) = cvN (whN l tn) (w : Int) (h : Int) then (⟨false, 0⟩, false) else firstL (whN l tn) (w : Int) (h : Int) (cvN (whN l tn) (w : Int) (h : Int)) ((List.range' 1 (w / 2)).map (fun (p : Nat) => (⟨true, (p : Int)⟩ : S62)) ++ (List.range' 1 (h / 2)).map (fun (p : Nat) => (⟨false, (p : Int)⟩ : S62))) := by
    unfold firstN cutsL
    rw [Int.toNat_natCast, Int.toNat_natCast, show min (w - 1) (w / 2) = w / 2 from by omega, show min (h - 1) (h / 2) = h / 2 from by omega]
  rw [hN]
  unfold spec_bdCut.f
  rw [rows_len, hr, tab_len, rd_tab _ _ _ (by omega), valV_pos _ _ _ _ h3]
  refine ev_pos (by omega) (ev_pos (by omega) (ev_pos (by omega) (ev_pos (by omega) ?_)))
  by_cases hz : cvN (whN l tn) (w : Int) (h : Int) = 0
  · rw [if_pos (hun.2 (.inl hz))]
    refine ev_pos hz (ev_at 1 (fun k => ?_))
    simp only [spec_bdCut.j0]
    rfl
  · refine ev_neg hz (Ev.bind hr1 ?_)
    by_cases hk : 0 ≤ r
    · rw [if_pos (hun.2 (.inr (hr2.1 hk)))]
      refine ev_at 1 (fun k => ?_)
      simp only [spec_bdCut.j0]
      rw [if_pos (by simpa using hk)]
      rfl
    · rw [if_neg (fun hh => by
        rcases hun.1 hh with h0 | h0
        · exact hz h0
        · exact hk (hr2.2 h0))]
      refine Ev.step (fun k => ?_) hloop
      simp only [spec_bdCut.j0]
      rw [if_neg (by simpa using hk)]
      rfl
end

theorem cvStep_some (wh : Int → Int → Int) (a b : Int) (L : List S62) : ∀ best, L.foldl (cvStep wh a b) best = best ∨ ∃ c ∈ L, wrap64 (cvN wh (partsOf a b c).1.1 (partsOf a b c).1.2 + cvN wh (partsOf a b c).2.1 (partsOf a b c).2.2) = L.foldl (cvStep wh a b) best := by
  induction L with
  | nil => intro best; exact .inl rfl
  | cons c L ih =>
    intro best
    rw [List.foldl_cons]
    rcases ih (cvStep wh a b best c) with h | ⟨d, hd, he⟩
    · rw [h]
      unfold cvStep mx
      split
      · right; exact ⟨c, List.mem_cons_self, rfl⟩
      · left; rfl
    · right; exact ⟨d, List.mem_cons_of_mem _ hd, he⟩
theorem firstL_found (wh : Int → Int → Int) (a b best : Int) : ∀ L : List S62, (∃ c ∈ L, wrap64 (cvN wh (partsOf a b c).1.1 (partsOf a b c).1.2 + cvN wh (partsOf a b c).2.1 (partsOf a b c).2.2) = best) → (firstL wh a b best L).2 = true
  | [], h => by obtain ⟨c, hc, _⟩ := h; simp at hc
  | x :: L, h => by
    rw [firstL]
    split
    · rfl
    · rename_i hx
      obtain ⟨c, hc, he⟩ := h
      rcases List.mem_cons.1 hc with rfl | hc
      · exact absurd he hx
      · exact firstL_found wh a b best L ⟨c, hc, he⟩
theorem firstN_uncut (wh : Int → Int → Int) (a b : Int) (h1 : 1 ≤ a) (h2 : 1 ≤ b) (h : (firstN wh a b).2 = false) : wh a b = cvN wh a b := by
  unfold firstN at h
  by_cases hc : wh a b = cvN wh a b
  · exact hc
  · exfalso
    rw [if_neg hc] at h
    rcases cvStep_some wh a b (cutsL a.toNat b.toNat 2) (wh a b) with hs | hs
    · rw [← cvN_eq wh a b h1 h2] at hs; exact hc hs.symm
    · rw [← cvN_eq wh a b h1 h2] at hs
      rw [firstL_found wh a b _ _ hs] at h
      cases h
def kfind (a b v : Int) (tn : Bool) : List S35 → Int → Int
  | [], _ => -1
  | x :: l, i => if justB a b tn x = true ∧ x.f2 = v then i else kfind a b v tn l (i + 1)
theorem wholeN_ge (a b : Int) (tn : Bool) (l : List S35) (i best kind : Int) : best ≤ (wholeN a b tn l i best kind).1 := by
  rw [wholeN_fold]
  exact whF_le a b tn l best
theorem wholeN_find (a b : Int) (tn : Bool) : ∀ (l : List S35) (i best kind : Int), (wholeN a b tn l i best kind).2 = if (wholeN a b tn l i best kind).1 = best then kind else kfind a b (wholeN a b tn l i best kind).1 tn l i
  | [], i, best, kind => by rw [wholeN, if_pos rfl]
  | x :: l, i, best, kind => by
    rw [wholeN]
    by_cases hc : (justB a b tn x && decide (best < x.f2)) = true
    · rw [if_pos hc]
      rw [Bool.and_eq_true, decide_eq_true_eq] at hc
      have ih := wholeN_find a b tn l (i + 1) x.f2 i
      have hge := wholeN_ge a b tn l (i + 1) x.f2 i
      rw [ih]
      generalize (wholeN a b tn l (i + 1) x.f2 i).1 = v at hge
      rw [if_neg (show ¬ v = best by omega), kfind]
      by_cases hv : v = x.f2
      · rw [if_pos hv, if_pos ⟨hc.1, hv.symm⟩]
      · rw [if_neg hv, if_neg (fun h => hv h.2.symm)]
    · rw [if_neg hc]
      have ih := wholeN_find a b tn l (i + 1) best kind
      have hge := wholeN_ge a b tn l (i + 1) best kind
      rw [ih]
      generalize (wholeN a b tn l (i + 1) best kind).1 = v at hge
      by_cases hv : v = best
      · rw [if_pos hv, if_pos hv]
      · rw [if_neg hv, if_neg hv, kfind, if_neg]
        rintro ⟨hj, he⟩
        apply hc
        rw [Bool.and_eq_true, decide_eq_true_eq]
        exact ⟨hj, by omega⟩
theorem kfind_found (a b v : Int) (tn : Bool) : ∀ (l : List S35) (i : Int), 0 ≤ i → (∃ x ∈ l, justB a b tn x = true ∧ x.f2 = v) → 0 ≤ kfind a b v tn l i
  | [], _, _, h => by obtain ⟨x, hx, _⟩ := h; simp at hx
  | y :: l, i, hi, h => by
    rw [kfind]
    split
    · exact hi
    · rename_i hy
      obtain ⟨x, hx, he⟩ := h
      rcases List.mem_cons.1 hx with rfl | hx
      · exact absurd he hy
      · exact kfind_found a b v tn l (i + 1) (by omega) ⟨x, hx, he⟩
theorem kfind_l0 (a b v : Int) (tn : Bool) (l : List S35) (hl : l.length ≤ 1048576) (d : Nat) : ∀ i : Nat, l.length - i = d → i ≤ l.length →
    Ev (fun k => spec_bdKind.l0 k a b v tn l (l.length : Int) (i : Int)) (kfind a b v tn (l.drop i) (i : Int)) := by
  induction d with
  | zero =>
    intro i hd hi
    obtain rfl : i = l.length := by omega
    refine ev_at 1 (fun k => ?_)
    simp only [spec_bdKind.l0]
    rw [if_neg (by omega), List.drop_length]
    rfl
  | succ d ih =>
    intro i hd hi
    have hlt : i < l.length := by omega
    have hr : rd_T35 l (i : Int) = l[i] := by simp [rd_T35, hlt]
    have hi2 := ih (i + 1) (by omega) (by omega)
    rw [cons_drop l i hlt, kfind]
    by_cases hj : justB a b tn l[i] = true ∧ l[i].f2 = v
    · rw [if_pos hj]
      refine ev_at 1 (fun k => ?_)
      simp only [spec_bdKind.l0]
      rw [if_pos (by omega), if_pos (by omega), if_pos (by omega), hr, bdIs_is, hj.1]
      simp only [Option.bind_some, if_true]
      rw [if_pos hj.2]
    · rw [if_neg hj]
      refine Ev.step (fun k => ?_) hi2
      simp only [spec_bdKind.l0]
      rw [if_pos (by omega), if_pos (by omega), if_pos (by omega), hr, bdIs_is, w64 (i := (i : Int) + 1) (by omega) (by omega)]
      cases hb : justB a b tn l[i] with
      | true =>
        simp only [Option.bind_some, if_true]
        rw [if_neg (fun h => hj ⟨hb, h⟩)]
        rfl
      | false =>
        simp only [Option.bind_some, Bool.false_eq_true, if_false]
        rfl
section
variable (a b : Nat) (l : List S35) (tn : Bool) (ha : a ≤ 24) (hb : b ≤ 24) (hl : l.length ≤ 1048576) (h0 : 0 < l.length)
set_option linter.unusedSectionVars false
include ha hb hl h0
theorem count_is (s : Nat) : ∀ (w h : Nat) (out : List Int), 0 < w → w ≤ a → 0 < h → h ≤ b → w + h ≤ s → out.length = l.length →
    Ev (fun k => spec_bdCount.f k (rowsT a b (valV l tn) a (b + 1)) (w : Int) (h : Int) l tn out) (countF (whN l tn) (kdN l tn) s (w : Int) (h : Int) out) := by
  induction s with
  | zero => intro w h out h1 h2 h3 h4 h5; omega
  | succ s ih =>
    intro w h out h1 h2 h3 h4 h5 hol
    have hcut := bdCut_is a b l tn ha hb hl w h h1 h2 h3 h4
    have hmem := firstN_mem (whN l tn) (w : Int) (h : Int)
    have hunc := firstN_uncut (whN l tn) (w : Int) (h : Int) (by omega) (by omega)
    rw [countF]
    generalize firstN (whN l tn) (w : Int) (h : Int) = fr at hcut hmem hunc ⊢
    obtain ⟨c, ok⟩ := fr
    unfold cutR at hcut
    simp only at hcut hmem hunc ⊢
    cases ok with
    | true =>
      have hc := cutsL_mem _ _ _ c (hmem rfl)
      rw [Int.toNat_natCast, Int.toNat_natCast] at hc
      rw [if_pos rfl]
      obtain ⟨u, x⟩ := c
      simp only at hc hcut ⊢
      cases u with
      | true =>
        replace hc : 1 ≤ x ∧ x < (w : Int) := by
          rcases hc with ⟨_, h6⟩ | ⟨h6, _⟩
          · exact h6
          · cases h6
        obtain ⟨p, rfl⟩ := Int.eq_ofNat_of_zero_le (show 0 ≤ x by omega)
        unfold partsOf
        simp only [if_true]
        have hi1 := ih p h out (by omega) (by omega) h3 h4 (by omega) hol
        have hi2 := ih (w - p) h (countF (whN l tn) (kdN l tn) s (p : Int) (h : Int) out) (by omega) (by omega) h3 h4 (by omega) (by rw [countF_len]; exact hol)
        rw [show ((w - p : Nat) : Int) = (w : Int) - (p : Int) by omega] at hi2
        refine Ev.step (f := fun k => (spec_bdCut.f k (rowsT a b (valV l tn) a (b + 1)) (w : Int) (h : Int) l tn).bind fun bt180 => (if bt180.2.2 = true then (spec_bdCount.j0 k (rowsT a b (valV l tn) a (b + 1)) (w : Int) (h : Int) l tn out bt180.2.1 bt180.2.2 bt180.1) else (spec_bdCount.j0 k (rowsT a b (valV l tn) a (b + 1)) (w : Int) (h : Int) l tn out bt180.2.1 bt180.2.2 false))) (fun k => by simp only [spec_bdCount.f]) (Ev.bind hcut (ev_pos rfl ?_))
        refine Ev.step (f := fun k => (spec_bdCount.f k (rowsT a b (valV l tn) a (b + 1)) (p : Int) (h : Int) l tn out).bind fun t183 => ((spec_bdCount.f k (rowsT a b (valV l tn) a (b + 1)) (wrap64 ((w : Int) - (p : Int))) (h : Int) l tn t183).bind fun t184 => (some t184))) (fun k => by simp only [spec_bdCount.j0]; rw [if_pos True.intro]) (Ev.bind hi1 ?_)
        rw [w64 (i := (w : Int) - (p : Int)) (by omega) (by omega)]
        exact Ev.bind hi2 (Ev.now _)
      | false =>
        replace hc : 1 ≤ x ∧ x < (h : Int) := by
          rcases hc with ⟨h6, _⟩ | ⟨_, h6⟩
          · cases h6
          · exact h6
        obtain ⟨p, rfl⟩ := Int.eq_ofNat_of_zero_le (show 0 ≤ x by omega)
        unfold partsOf
        simp only [Bool.false_eq_true, if_false]
        have hi1 := ih w p out h1 h2 (by omega) (by omega) (by omega) hol
        have hi2 := ih w (h - p) (countF (whN l tn) (kdN l tn) s (w : Int) (p : Int) out) h1 h2 (by omega) (by omega) (by omega) (by rw [countF_len]; exact hol)
        rw [show ((h - p : Nat) : Int) = (h : Int) - (p : Int) by omega] at hi2
        refine Ev.step (f := fun k => (spec_bdCut.f k (rowsT a b (valV l tn) a (b + 1)) (w : Int) (h : Int) l tn).bind fun bt180 => (if bt180.2.2 = true then (spec_bdCount.j0 k (rowsT a b (valV l tn) a (b + 1)) (w : Int) (h : Int) l tn out bt180.2.1 bt180.2.2 bt180.1) else (spec_bdCount.j0 k (rowsT a b (valV l tn) a (b + 1)) (w : Int) (h : Int) l tn out bt180.2.1 bt180.2.2 false))) (fun k => by simp only [spec_bdCount.f]) (Ev.bind hcut (ev_pos rfl ?_))
        refine Ev.step (f := fun k => (spec_bdCount.f k (rowsT a b (valV l tn) a (b + 1)) (w : Int) (p : Int) l tn out).bind fun t185 => ((spec_bdCount.f k (rowsT a b (valV l tn) a (b + 1)) (w : Int) (wrap64 ((h : Int) - (p : Int))) l tn t185).bind fun t186 => (some t186))) (fun k => by simp only [spec_bdCount.j0]; rw [if_neg (by simp), if_pos True.intro]) (Ev.bind hi1 ?_)
        rw [w64 (i := (h : Int) - (p : Int)) (by omega) (by omega)]
        exact Ev.bind hi2 (Ev.now _)
    | false =>
      have hun := hunc rfl
      rw [if_neg (by simp)]
      have hr := rows_all a b (valV l tn) w (0) h1 h2 (by omega)
      have hkd := kdN_in l tn (w : Int) (h : Int) h0
      have hk0 : kdN l tn (w : Int) (h : Int) = if cvN (whN l tn) (w : Int) (h : Int) = 0 then -1 else kfind (w : Int) (h : Int) (cvN (whN l tn) (w : Int) (h : Int)) tn l 0 := by
        rw [← hun]
        exact wholeN_find (w : Int) (h : Int) tn l 0 0 (-1)
      have hge : 0 ≤ cvN (whN l tn) (w : Int) (h : Int) := by rw [← hun]; exact wholeN_ge (w : Int) (h : Int) tn l 0 0 (-1)
      have hex := (uncut_iff l tn (w : Int) (h : Int) (by omega) (by omega)).1 hun
      refine Ev.step (f := fun k => (spec_bdCut.f k (rowsT a b (valV l tn) a (b + 1)) (w : Int) (h : Int) l tn).bind fun bt180 => (if bt180.2.2 = true then (spec_bdCount.j0 k (rowsT a b (valV l tn) a (b + 1)) (w : Int) (h : Int) l tn out bt180.2.1 bt180.2.2 bt180.1) else (spec_bdCount.j0 k (rowsT a b (valV l tn) a (b + 1)) (w : Int) (h : Int) l tn out bt180.2.1 bt180.2.2 false))) (fun k => by simp only [spec_bdCount.f]) (Ev.bind hcut (ev_neg (by simp) ?_))
      have hrl := rows_len a b (valV l tn) a (b + 1)
      by_cases hz : cvN (whN l tn) (w : Int) (h : Int) = 0
      · rw [if_pos hz] at hk0
        rw [hk0, if_neg (by omega)]
        refine ev_at 1 (fun k => ?_)
        simp only [spec_bdCount.j0]
        rw [if_neg (by simp), if_neg (by simp), hrl, hr, tab_len, rd_tab _ _ _ (by omega), valV_pos _ _ _ _ h3, if_pos (by omega), if_pos (by omega), if_pos (by omega), if_pos (by omega), if_neg (by omega)]
      · rw [if_neg hz] at hk0
        have hki := kfind_l0 (w : Int) (h : Int) (cvN (whN l tn) (w : Int) (h : Int)) tn l hl _ 0 rfl (Nat.zero_le _)
        rw [List.drop_zero, show ((0 : Nat) : Int) = 0 from rfl, ← hk0] at hki
        have hk1 : 0 ≤ kdN l tn (w : Int) (h : Int) := by
          rw [hk0]
          exact kfind_found _ _ _ _ l 0 (by omega) (hex.resolve_left hz)
        rw [if_pos hk1]
        refine Ev.step (f := fun k => (spec_bdKind.f k (w : Int) (h : Int) (cvN (whN l tn) (w : Int) (h : Int)) l tn).bind fun t191 => (if 0 ≤ t191 then (if t191 < (out.length : Int) then (some (out.set (t191 : Int).toNat (wrap64 ((rd out t191) + 1)))) else (none)) else (none))) (fun k => ?_) (Ev.bind (show Ev (fun k => spec_bdKind.f k (w : Int) (h : Int) (cvN (whN l tn) (w : Int) (h : Int)) l tn) (kdN l tn (w : Int) (h : Int)) from by unfold spec_bdKind.f; exact hki) ?_)
        · simp only [spec_bdCount.j0]
          rw [if_neg (by simp), if_neg (by simp), hrl, hr, tab_len, rd_tab _ _ _ (by omega), valV_pos _ _ _ _ h3, if_pos (by omega), if_pos (by omega), if_pos (by omega), if_pos (by omega), if_pos (by omega)]
        · refine ev_pos hk1 (ev_pos (by omega) ?_)
          rw [show rd out (kdN l tn (w : Int) (h : Int)) = out.getD (kdN l tn (w : Int) (h : Int)).toNat 0 from rfl]
          exact Ev.now _
end

theorem asked_is (a b : Int) (xs : List S35) (hn : xs.length ≤ 1048576) : Ev (fun k => spec_bdAsked.f k a b xs) (boardB a b && piecesB xs) := by
  unfold spec_bdAsked.f
  rw [good_is]
  cases boardB a b with
  | false => exact ev_some (ev_neg (by decide) (Ev.now _))
  | true => exact ev_some (ev_pos rfl (ev_ret (bdPieces_is xs hn)))
theorem areCut_is (a b : Int) (xs : List S35) : impl_areCut.f a b xs = some (boardB a b && piecesB xs) := by
  unfold impl_areCut.f
  rw [board_is, arePieces_is]
  cases boardB a b <;> rfl

theorem counts_is (m n : Nat) (l : List S35) (tn : Bool) (h1 : 1 ≤ m) (h2 : m ≤ 24) (h3 : 1 ≤ n) (h4 : n ≤ 24) (h0 : 0 < l.length) (hl : l.length ≤ 1048576) : Ev (fun k => spec_bdCounts.f k (m : Int) (n : Int) l tn) (countF (whN l tn) (kdN l tn) (m + n) (m : Int) (n : Int) (List.replicate l.length 0)) := by
  unfold spec_bdCounts.f
  rw [Int.toNat_natCast]
  refine ev_pos (by omega) (ev_pos (by omega) (Ev.bind (bdValues_is m n l tn (by omega) (by omega) hl) ?_))
  exact Ev.bind (count_is m n l tn h2 h4 hl h0 (m + n) m n _ (by omega) (Nat.le_refl _) (by omega) (Nat.le_refl _) (Nat.le_refl _) (List.length_replicate ..)) (Ev.now _)

theorem waste_same (l : List S35) (cs : List Int) (n : Int) : ∀ (k : Nat) (x i : Int), impl_WasteOf.l0 k l x cs n i = spec_WasteOf.l0 k l x cs n i
  | 0, _, _ => rfl
  | k + 1, x, i => by simp only [impl_WasteOf.l0, spec_WasteOf.l0, waste_same l cs n k]
theorem waste_ev (l : List S35) (cs : List Int) (hl : cs.length = l.length) (hn : l.length ≤ 1000) (d : Nat) : ∀ (i : Nat) (x : Int), cs.length - i = d → i ≤ cs.length → ∃ r : Int, Ev (fun k => spec_WasteOf.l0 k l x cs (cs.length : Int) (i : Int)) (r, true) := by
  induction d with
  | zero =>
    intro i x hd hi
    refine ⟨x, ev_at 1 (fun k => ?_)⟩
    simp only [spec_WasteOf.l0]
    rw [if_neg (by omega)]
  | succ d ih =>
    intro i x hd hi
    obtain ⟨r, hr⟩ := ih (i + 1) (wrap64 (x - (wrap64 ((wrap64 ((rd cs (i : Int)) * ((rd_T35 l (i : Int)).f0))) * ((rd_T35 l (i : Int)).f1))))) (by omega) (by omega)
    refine ⟨r, Ev.step (fun k => ?_) hr⟩
    simp only [spec_WasteOf.l0]
    rw [if_pos (by omega), if_pos (by omega), if_pos (by omega), if_pos (by omega), w64 (i := (i : Int) + 1) (by omega) (by omega)]
    rfl
theorem waste_law (a b : Int) (xs : List S33) (tn : Bool) (h : xs.length ≤ 1048576) (x : Int) (ok : Bool) (hs : Ev (fun k => spec_WasteOf.f k a b (xs.map convPiece) tn) (x, ok)) (hi : Ev (fun k => impl_WasteOf.f k a b (xs.map convPiece) tn) (x, ok)) : Ev (fun k => laws_FnExactWasteOf.f k a b xs tn) true := by
  have hc := toPiece_is xs h
  unfold laws_FnExactWasteOf.f
  rw [szPiece_is xs (by unfold maxLen; omega), if_pos h]
  have hb : ¬ (ok != ok) = true := by cases ok <;> decide
  refine ev_some (ev_neg (by omega) (Ev.bind hc (Ev.bind hs (Ev.bind hc (Ev.bind hi (ev_pos rfl (ev_neg hb ?_)))))))
  exact Ev.bind hc (Ev.bind (eqPiece_is _ (by simp; omega)) (ev_pos rfl (Ev.now _)))
theorem FnExactWasteOf : laws_FnExactWasteOf.Pure := by
  intro a b xs tn _ _ hl
  refine Ev.rounds ?_
  by_cases h : xs.length ≤ 1048576
  · have hn : (xs.map convPiece).length ≤ 1048576 := by simpa using h
    cases hq : (boardB a b && piecesB (xs.map convPiece)) with
    | false =>
      refine waste_law a b xs tn h 0 false ?_ ?_
      · unfold spec_WasteOf.f
        exact Ev.bind (hq ▸ asked_is a b _ hn) (ev_neg (by decide) (Ev.now _))
      · unfold impl_WasteOf.f impl_PiecesCut.f
        rw [areCut_is, hq]
        exact Ev.bind (Ev.now ([], false)) (ev_neg (by decide) (Ev.now _))
    | true =>
      have hb := (boardB_iff a b).1 (Bool.and_eq_true_iff.1 hq).1
      have hp := (Bool.and_eq_true_iff.1 hq).2
      simp only [piecesB, Bool.and_eq_true, inB, decide_eq_true_eq] at hp
      obtain ⟨m, rfl⟩ := Int.eq_ofNat_of_zero_le (show 0 ≤ a by omega)
      obtain ⟨n, rfl⟩ := Int.eq_ofNat_of_zero_le (show 0 ≤ b by omega)
      have hcl : (countF (whN (xs.map convPiece) tn) (kdN (xs.map convPiece) tn) (m + n) m n (List.replicate (xs.map convPiece).length 0)).length = (xs.map convPiece).length := by rw [countF_len, List.length_replicate]
      obtain ⟨r, hr⟩ := waste_ev (xs.map convPiece) _ hcl (by omega) _ 0 (wrap64 ((m : Int) * (n : Int))) rfl (Nat.zero_le _)
      refine waste_law _ _ xs tn h r true ?_ ?_
      · unfold spec_WasteOf.f
        exact Ev.bind (hq ▸ asked_is _ _ _ hn) (ev_pos rfl (Ev.bind (counts_is m n _ tn (by omega) (by omega) (by omega) (by omega) (by omega) hn) hr))
      · unfold impl_WasteOf.f impl_PiecesCut.f
        rw [areCut_is, hq, Option.bind_some, if_pos rfl, if_pos ⟨by omega, by omega⟩, show ((m : Int) + (n : Int)).toNat = m + n by omega]
        refine ev_some (ev_pos rfl ?_)
        refine Ev.congr (fun k => ?_) hr
        exact waste_same _ _ _ k _ _
  · unfold laws_FnExactWasteOf.f
    rw [szPiece_is xs hl, if_neg h]
    exact ev_some (ev_pos (by omega) (Ev.now _))

end Go.Proofs.Ytcijldnkigmfeaa.Pure

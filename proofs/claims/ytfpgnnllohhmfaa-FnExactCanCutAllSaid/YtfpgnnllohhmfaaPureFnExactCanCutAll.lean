/- For every board and every list of pieces (whose numbers may be any): the program's CanCutAll and the reference's return the same two results, and the list is not changed. Condition: what the law itself lets in. -/
import Derived.Test.YtfpgnnllohhmfaaY0
import Derived.Test.YtfpgnnllohhmfaaY2
import Derived.Test.YtfpgnnllohhmfaaY3
import Derived.Test.YtfpgnnllohhmfaaY4
import Derived.Test.YtfpgnnllohhmfaaY5
import Derived.Test.YtfpgnnllohhmfaaY6
import Derived.Test.YtfpgnnllohhmfaaY7
import Derived.Test.YtfpgnnllohhmfaaSFnExactCanCutAll
namespace Go.Proofs.Ytfpgnnllohhmfaa.Pure
open Go.RowKit Go.Proofs.Ytfpgnnllohhmfaa.Y Go.Proofs.YtfpgnnllohhmfaaW.PrintWords Go.Proofs.YtfpgnnllohhmfaaW.PrintLast Go.Proofs.YtfpgnnllohhmfaaW.PrintMore
set_option linter.unusedVariables false
set_option linter.unusedSimpArgs false
theorem ev_pos {α : Type} {c : Prop} [Decidable c] {g f : Nat → Option α} {r : α} (hc : c) (h : Ev g r) : Ev (fun k => if c then g k else f k) r := Ev.congr (fun _ => if_pos hc) h
theorem ev_neg {α : Type} {c : Prop} [Decidable c] {g f : Nat → Option α} {r : α} (hc : ¬ c) (h : Ev f r) : Ev (fun k => if c then g k else f k) r := Ev.congr (fun _ => if_neg hc) h
theorem ev_some {α β : Type} {a : α} {f : Nat → α → Option β} {r : β} (h : Ev (fun n => f n a) r) : Ev (fun n => (some a).bind (f n)) r := Ev.bind (Ev.now a) h
theorem ev_ret {α : Type} {g : Nat → Option α} {r : α} (h : Ev g r) : Ev (fun n => (g n).bind fun t => some t) r := Ev.bind h (Ev.now r)
theorem ev_at {α : Type} {g : Nat → Option α} {r : α} (K : Nat) (h : ∀ k, g (k + K) = some r) : Ev g r := ⟨K, fun n hn => by obtain ⟨m, rfl⟩ : ∃ m, n = m + K := ⟨n - K, by omega⟩; exact h m⟩
theorem w64 {i : Int} (h0 : -9223372036854775808 ≤ i) (h1 : i ≤ 9223372036854775807) : wrap64 i = i := by
  unfold wrap64
  omega
theorem bne_self (b : Bool) : (b != b) = false := by cases b <;> rfl
theorem cons_drop {α : Type} (xs : List α) (i : Nat) (h : i < xs.length) : xs.drop i = xs[i] :: xs.drop (i + 1) := List.drop_eq_getElem_cons h
/-- a loop over the indexes of a list: what holds of one round holds of all -/
theorem ev_for {β ρ : Type} (n : Nat) (l : Nat → β → Int → Option ρ) (st : Nat → β) (r : ρ) (hstep : ∀ i, i < n → ∀ k, l (k + 1) (st i) (i : Int) = l k (st (i + 1)) ((i : Int) + 1)) (hend : ∀ k, l (k + 1) (st n) (n : Int) = some r) : ∀ i, i ≤ n → Ev (fun k => l k (st i) (i : Int)) r := by
  intro i hi
  obtain ⟨d, hd⟩ : ∃ d, n - i = d := ⟨_, rfl⟩
  induction d generalizing i with
  | zero =>
    obtain rfl : i = n := by omega
    exact ev_at 1 hend
  | succ d ih =>
    refine Ev.step (f := fun k => l k (st (i + 1)) ((i : Int) + 1)) (fun k => hstep i (by omega) k) ?_
    have := ih (i + 1) (by omega) (by omega)
    rwa [show ((i + 1 : Nat) : Int) = (i : Int) + 1 from by omega] at this

def tab {α : Type} (n : Nat) (f : Nat → α) : List α := (List.range n).map f
theorem tab_len {α : Type} (n : Nat) (f : Nat → α) : (tab n f).length = n := by simp [tab]
theorem tab_rep {α : Type} (n : Nat) (x : α) : List.replicate n x = tab n (fun _ => x) := by simp [tab, List.map_const']
theorem tab_get {α : Type} (n : Nat) (f : Nat → α) (i : Nat) (h : i < n) (z : α) : (tab n f).getD i z = f i := by simp [tab, h]
theorem rd_tab (n : Nat) (f : Nat → Int) (i : Nat) (h : i < n) : rd (tab n f) (i : Int) = f i := by simp [rd, tab, h]
theorem tab_ext {α : Type} (n : Nat) (f g : Nat → α) (h : ∀ j, j < n → f j = g j) : tab n f = tab n g := by
  unfold tab
  exact List.map_congr_left (fun j hj => h j (List.mem_range.1 hj))
theorem tab_set {α : Type} (n : Nat) (f g : Nat → α) (i : Nat) (x : α) (hx : i < n → g i = x) (ho : ∀ j, j < n → j ≠ i → f j = g j) : (tab n f).set i x = tab n g := by
  apply List.ext_getElem
  · simp [tab]
  · intro j h1 h2
    have hj' : j < n := by simpa [tab] using h1
    rw [List.getElem_set]
    by_cases hj : i = j
    · subst hj
      rw [if_pos rfl]
      simp [tab, hx hj']
    · rw [if_neg hj]
      simp [tab, ho j hj' (fun h => hj h.symm)]

def rowsT (a b : Nat) (V : Nat → Nat → Int) (w h : Nat) : List (List Int) := tab (a + 1) fun i => if i = 0 then [] else if i < w then tab (b + 1) (fun j => V i j) else if i = w then tab (b + 1) (fun j => if j < h then V i j else 0) else []
theorem rows_len (a b : Nat) (V : Nat → Nat → Int) (w h : Nat) : (rowsT a b V w h).length = a + 1 := tab_len _ _
theorem rows_old (a b : Nat) (V : Nat → Nat → Int) (w h i : Nat) (h0 : 0 < i) (h1 : i < w) (h2 : i ≤ a) : rd_L3 (rowsT a b V w h) (i : Int) = tab (b + 1) (fun j => V i j) := by
  simp only [rd_L3, rowsT, Int.toNat_natCast]
  rw [tab_get _ _ _ (by omega), if_neg (by omega), if_pos h1]
theorem rows_cur (a b : Nat) (V : Nat → Nat → Int) (w h : Nat) (h0 : 0 < w) (h2 : w ≤ a) : rd_L3 (rowsT a b V w h) (w : Int) = tab (b + 1) (fun j => if j < h then V w j else 0) := by
  simp only [rd_L3, rowsT, Int.toNat_natCast]
  rw [tab_get _ _ _ (by omega), if_neg (by omega), if_neg (by omega), if_pos rfl]
theorem rows_set (a b : Nat) (V : Nat → Nat → Int) (w h : Nat) (h0 : 0 < w) : (rowsT a b V w h).set w ((tab (b + 1) (fun j => if j < h then V w j else 0)).set h (V w h)) = rowsT a b V w (h + 1) := by
  refine tab_set _ _ _ _ _ (fun _ => ?_) (fun j _ hj => ?_)
  · rw [if_neg (by omega), if_neg (by omega), if_pos rfl]
    refine (tab_set _ _ (fun j => if j < h + 1 then V w j else 0) _ _ (fun _ => if_pos (by omega)) (fun j _ hj => ?_)).symm
    by_cases h1 : j < h
    · rw [if_pos h1, if_pos (by omega)]
    · rw [if_neg h1, if_neg (by omega)]
  · by_cases h1 : j = 0
    · rw [if_pos h1, if_pos h1]
    · rw [if_neg h1, if_neg h1, if_neg hj, if_neg hj]
theorem rows_next (a b : Nat) (V : Nat → Nat → Int) (hV : ∀ i, V i 0 = 0) (w : Nat) : (rowsT a b V w (b + 1)).set (w + 1) (List.replicate (b + 1) 0) = rowsT a b V (w + 1) 1 := by
  refine tab_set _ _ _ _ _ (fun _ => ?_) (fun j _ hj => ?_)
  · rw [if_neg (by omega), if_neg (by omega), if_pos rfl, tab_rep]
    refine tab_ext _ _ _ (fun j _ => ?_)
    by_cases h1 : j < 1
    · obtain rfl : j = 0 := by omega
      rw [if_pos h1, hV]
    · rw [if_neg h1]
  · by_cases h1 : j = 0
    · rw [if_pos h1, if_pos h1]
    · rw [if_neg h1, if_neg h1]
      by_cases h2 : j < w
      · rw [if_pos h2, if_pos (by omega)]
      · rw [if_neg h2]
        by_cases h3 : j = w
        · subst h3
          rw [if_pos rfl, if_pos (by omega)]
          exact tab_ext _ _ _ (fun i hi => if_pos hi)
        · rw [if_neg h3, if_neg (by omega), if_neg (by omega)]
theorem rows_none (a b : Nat) (V : Nat → Nat → Int) : List.replicate (a + 1) [] = rowsT a b V 0 (b + 1) := by
  rw [tab_rep]
  refine tab_ext _ _ _ (fun j _ => ?_)
  by_cases h1 : j = 0
  · rw [if_pos h1]
  · rw [if_neg h1, if_neg (by omega), if_neg (by omega)]
theorem rows_all (a b : Nat) (V : Nat → Nat → Int) (i j : Nat) (h0 : 0 < i) (h1 : i ≤ a) (h2 : j ≤ b) : rd_L3 (rowsT a b V a (b + 1)) (i : Int) = tab (b + 1) (fun j => V i j) := by
  by_cases h : i < a
  · exact rows_old a b V a (b + 1) i h0 h h1
  · obtain rfl : i = a := by omega
    rw [rows_cur i b V i (b + 1) h0 (Nat.le_refl _)]
    exact tab_ext _ _ _ (fun j hj => if_pos hj)

def inB (lo hi a : Int) : Bool := decide (lo ≤ a) && decide (a ≤ hi)
theorem inB_iff (lo hi a : Int) : inB lo hi a = true ↔ lo ≤ a ∧ a ≤ hi := by simp [inB]
theorem in_is (a lo hi : Int) : spec_l1In.f a lo hi = some (inB lo hi a) := by
  unfold spec_l1In.f inB
  by_cases h : lo ≤ a
  · rw [if_pos h, decide_eq_true h, Bool.true_and]
  · rw [if_neg h, decide_eq_false h, Bool.false_and]

theorem within_is (a lo hi : Int) : impl_within.f a lo hi = some (inB lo hi a) := by
  unfold impl_within.f inB
  by_cases h : lo ≤ a
  · rw [if_pos h, decide_eq_true h, Bool.true_and]
  · rw [if_neg h, decide_eq_false h, Bool.false_and]

theorem okW_in (a b x : Int) : okW a b x = inB a b x := rfl
def boardB (a b : Int) : Bool := inB 1 24 a && inB 1 24 b
theorem boardB_iff (a b : Int) : boardB a b = true ↔ (1 ≤ a ∧ a ≤ 24) ∧ 1 ≤ b ∧ b ≤ 24 := by simp [boardB, inB]
theorem good_is (a b : Int) : spec_bdGood.f a b = some (boardB a b) := by
  unfold spec_bdGood.f boardB
  rw [in_is, in_is]
  cases inB 1 24 a <;> rfl
theorem board_is (a b : Int) : impl_isBoard.f a b = some (boardB a b) := by
  unfold impl_isBoard.f boardB
  rw [within_is, within_is]
  cases inB 1 24 a <;> rfl

def convPiece (s : S36) : S38 := ⟨s.f0, s.f1, s.f2⟩
theorem convPiece_step (xs : List S36) (i : Nat) (h : i < xs.length) : ((xs.take i).map convPiece ++ List.replicate (xs.length - i) z38).set i (convPiece xs[i]) = (xs.take (i + 1)).map convPiece ++ List.replicate (xs.length - (i + 1)) z38 := by
  have e : xs.length - i = (xs.length - (i + 1)) + 1 := by omega
  rw [List.set_append_right _ _ (by simp; omega), e, List.replicate_succ]
  have e2 : i - (List.map convPiece (List.take i xs)).length = 0 := by simp; omega
  rw [e2, List.set_cons_zero, List.take_succ_eq_append_getElem h, List.map_append]
  simp
theorem toPiece_l0 (xs : List S36) (hn : xs.length ≤ 1048576) (d : Nat) : ∀ i : Nat, xs.length - i = d → i ≤ xs.length →
    Ev (fun k => laws_toPieceS.l0 k xs ((xs.take i).map convPiece ++ List.replicate (xs.length - i) z38) (i : Int)) (xs.map convPiece) := by
  induction d with
  | zero =>
    intro i hd hle
    obtain rfl : i = xs.length := by omega
    exact ev_at 1 (fun k => by simp only [laws_toPieceS.l0]; rw [if_neg (by omega)]; simp)
  | succ d ih =>
    intro i hd hle
    have hlt : i < xs.length := by omega
    have hr : rd_T36 xs (i : Int) = xs[i] := by simp [rd_T36, hlt]
    refine Ev.step (f := fun k => laws_toPieceS.l0 k xs ((xs.take (i + 1)).map convPiece ++ List.replicate (xs.length - (i + 1)) z38) ((i + 1 : Nat) : Int)) (fun k => ?_) (ih (i + 1) (by omega) (by omega))
    simp only [laws_toPieceS.l0, laws_toPiece.f, Option.bind_some]
    rw [if_pos (by omega), if_pos (by omega), if_pos (by simp; omega), hr, w64 (by omega) (by omega), Int.toNat_natCast, ← convPiece_step xs i hlt]
    rfl
theorem toPiece_is (xs : List S36) (hn : xs.length ≤ 1048576) : Ev (fun k => laws_toPieceS.f k xs) (xs.map convPiece) := by
  unfold laws_toPieceS.f
  refine ev_pos (by omega) (ev_pos (by simp; omega) ?_)
  have := toPiece_l0 xs hn _ 0 rfl (Nat.zero_le _)
  simpa using this
theorem eqPiece_self (x : S38) : laws_eqPiece.f x.f0 x.f1 x.f2 x.f0 x.f1 x.f2 = some true := by simp [laws_eqPiece.f]
theorem eqPiece_l0 (xs : List S38) (hn : xs.length ≤ 1048577) (d : Nat) : ∀ i : Nat, xs.length - i = d → i ≤ xs.length → Ev (fun k => laws_eqPieceS.l0 k xs xs (i : Int)) true := by
  induction d with
  | zero =>
    intro i hd hle
    exact ev_at 1 (fun k => by simp only [laws_eqPieceS.l0]; rw [if_neg (by omega)])
  | succ d ih =>
    intro i hd hle
    refine Ev.step (f := fun k => laws_eqPieceS.l0 k xs xs ((i + 1 : Nat) : Int)) (fun k => ?_) (ih (i + 1) (by omega) (by omega))
    simp only [laws_eqPieceS.l0]
    rw [if_pos (by omega), if_pos (by omega), if_pos (by omega), eqPiece_self, w64 (by omega) (by omega)]
    rfl
theorem eqPiece_is (xs : List S38) (hn : xs.length ≤ 1048577) : Ev (fun k => laws_eqPieceS.f k xs xs) true := by
  unfold laws_eqPieceS.f
  exact ev_pos rfl (eqPiece_l0 xs hn _ 0 rfl (Nat.zero_le _))
theorem szPiece_is (xs : List S36) (hn : xs.length ≤ maxLen) : laws_szPieceS.f xs 1048576 = some (if xs.length ≤ 1048576 then 1048576 - (xs.length : Int) else -1) := by
  unfold maxLen at hn
  unfold laws_szPieceS.f
  rw [w64 (by omega) (by omega)]
  by_cases h : xs.length ≤ 1048576
  · rw [if_neg (by omega), if_pos h]
  · rw [if_pos (by omega), if_neg h]

theorem okPiece_is (b : S38) : okPiece b = (boardB b.f0 b.f1 && inB 0 1000 b.f2) := rfl
theorem bdPieces_l0 (xs : List S38) (hn : xs.length ≤ 1048576) (d : Nat) : ∀ i : Nat, xs.length - i = d → i ≤ xs.length →
    Ev (fun k => spec_bdPieces.l0 k xs (xs.length : Int) (i : Int)) ((xs.drop i).all okPiece) := by
  induction d with
  | zero =>
    intro i hd hle
    obtain rfl : i = xs.length := by omega
    rw [List.drop_length]
    exact ev_at 1 (fun k => by simp only [spec_bdPieces.l0]; rw [if_neg (by omega)]; rfl)
  | succ d ih =>
    intro i hd hle
    have hlt : i < xs.length := by omega
    have hr : rd_T38 xs (i : Int) = xs[i] := by simp [rd_T38, hlt]
    rw [cons_drop xs i hlt, List.all_cons, okPiece_is]
    cases h1 : boardB xs[i].f0 xs[i].f1 with
    | false =>
      refine ev_at 1 (fun k => ?_)
      simp only [spec_bdPieces.l0]
      rw [if_pos (by omega), if_pos (by omega), if_pos (by omega), hr, good_is, h1]
      rfl
    | true =>
      cases h2 : inB 0 1000 xs[i].f2 with
      | false =>
        refine ev_at 1 (fun k => ?_)
        simp only [spec_bdPieces.l0]
        rw [if_pos (by omega), if_pos (by omega), if_pos (by omega), hr, good_is, h1, in_is, h2]
        rfl
      | true =>
        refine Ev.step (f := fun k => spec_bdPieces.l0 k xs (xs.length : Int) ((i + 1 : Nat) : Int)) (fun k => ?_) (ih (i + 1) (by omega) (by omega))
        simp only [spec_bdPieces.l0]
        rw [if_pos (by omega), if_pos (by omega), if_pos (by omega), hr, good_is, h1, in_is, h2, w64 (by omega) (by omega)]
        rfl
def piecesB (xs : List S38) : Bool := inB 1 4 (xs.length : Int) && xs.all okPiece
theorem bdPieces_is (xs : List S38) (hn : xs.length ≤ 1048576) : Ev (fun k => spec_bdPieces.f k xs) (piecesB xs) := by
  unfold spec_bdPieces.f piecesB
  rw [in_is]
  cases inB 1 4 (xs.length : Int) with
  | true => exact ev_some (ev_pos rfl (by simpa using bdPieces_l0 xs hn _ 0 rfl (Nat.zero_le _)))
  | false => exact ev_some (ev_neg (by decide) (Ev.now _))
theorem arePieces_is (xs : List S38) : impl_ArePieces.f xs = some (piecesB xs) := rfl

theorem most_is (a b : Int) : spec_l1Most.f a b = some (mx a b) := by
  unfold spec_l1Most.f mx
  by_cases h : a > b
  · rw [if_pos h, if_neg (by omega)]
  · rw [if_neg h]
    by_cases h2 : a < b
    · rw [if_pos h2]
    · rw [if_neg h2]
      congr 1
      omega
theorem bdIs_is (a b : Int) (x : S38) (tn : Bool) : spec_bdIs.f a b x.f0 x.f1 x.f2 tn = some (justB a b tn x) := by
  unfold spec_bdIs.f justB
  by_cases h0 : a = x.f0 <;> by_cases h1 : b = x.f1 <;> cases tn <;> by_cases h2 : a = x.f1 <;> by_cases h3 : b = x.f0 <;> simp [h0, h1, h2, h3] <;> simp_all
/-- the value of a board that is not cut -/
def whF (a b : Int) (tn : Bool) (best : Int) (x : S38) : Int := if justB a b tn x = true then mx best x.f2 else best
theorem wholeN_fold (a b : Int) (tn : Bool) (l : List S38) : ∀ i best kind, (wholeN a b tn l i best kind).1 = l.foldl (whF a b tn) best := by
  induction l with
  | nil => intro i best kind; rfl
  | cons x l ih =>
    intro i best kind
    rw [wholeN, List.foldl_cons]
    unfold whF
    cases h : justB a b tn x with
    | false => rw [Bool.false_and, if_neg (by decide), if_neg (by decide), ih]; rfl
    | true =>
      rw [Bool.true_and, if_pos rfl]
      unfold mx
      by_cases h2 : best < x.f2
      · rw [decide_eq_true h2, if_pos rfl, if_pos h2, ih]; rfl
      · rw [decide_eq_false h2, if_neg (by decide), if_neg h2, ih]; rfl
def valV (l : List S38) (tn : Bool) (i j : Nat) : Int := if j = 0 then 0 else cvN (whN l tn) (i : Int) (j : Int)
theorem valV_pos (l : List S38) (tn : Bool) (i j : Nat) (h : 0 < j) : valV l tn i j = cvN (whN l tn) (i : Int) (j : Int) := if_neg (by omega)
section
variable (a b : Nat) (l : List S38) (tn : Bool) (ha : a ≤ 24) (hb : b ≤ 24) (hl : l.length ≤ 1048576)
set_option linter.unusedSectionVars false
include ha hb hl
theorem val_l4 (w h : Nat) (h1 : 0 < w) (h2 : w ≤ a) (h3 : 0 < h) (h4 : h ≤ b) (R : List (List Int)) (d : Nat) : ∀ (p : Nat) (best : Int), h / 2 + 1 - p = d → 1 ≤ p → p ≤ h / 2 + 1 →
    ((List.range' p d).map (fun (p : Nat) => (⟨false, (p : Int)⟩ : S63))).foldl (cvStep (whN l tn) (w : Int) (h : Int)) best = cvN (whN l tn) (w : Int) (h : Int) →
    Ev (fun k => spec_bdValues.l1 k (a : Int) (b : Int) l tn (rowsT a b (valV l tn) w (h + 1)) (w : Int) ((h + 1 : Nat) : Int)) R →
    Ev (fun k => spec_bdValues.l4 k (a : Int) (b : Int) l tn (rowsT a b (valV l tn) w h) (w : Int) (h : Int) best (p : Int)) R := by
  induction d with
  | zero =>
    intro p best hd hp hp2 hf hK
    refine Ev.step (fun k => ?_) hK
    simp only [List.range'_zero, List.map_nil, List.foldl_nil] at hf
    simp only [spec_bdValues.l4]
    rw [w64 (i := 2 * (p : Int)) (by omega) (by omega), if_neg (by omega), rows_len, rows_cur _ _ _ _ _ h1 h2, tab_len, if_pos (by omega), if_pos (by omega), if_pos (by omega), if_pos (by omega), Int.toNat_natCast, Int.toNat_natCast, hf, ← valV_pos l tn w h h3, rows_set _ _ _ _ _ h1, w64 (by omega) (by omega)]
    rfl
  | succ d ih =>
    intro p best hd hp hp2 hf hK
    rw [List.range'_succ, List.map_cons, List.foldl_cons] at hf
    refine Ev.step (fun k => ?_) (ih (p + 1) _ (by omega) (by omega) (by omega) hf hK)
    simp only [spec_bdValues.l4]
    rw [w64 (i := 2 * (p : Int)) (by omega) (by omega), if_pos (by omega), rows_len, rows_cur _ _ _ _ _ h1 h2, tab_len, w64 (i := (h : Int) - (p : Int)) (by omega) (by omega), show (h : Int) - (p : Int) = ((h - p : Nat) : Int) from by omega, rd_tab _ _ _ (by omega), rd_tab _ _ _ (by omega), if_pos (show p < h by omega), if_pos (show h - p < h by omega), valV_pos _ _ _ _ (by omega), valV_pos _ _ _ _ (by omega)]
    rw [if_pos (by omega), if_pos (by omega), if_pos (by omega), if_pos (by omega), if_pos (by omega), if_pos (by omega), most_is, Option.bind_some, w64 (i := (p : Int) + 1) (by omega) (by omega)]
    unfold cvStep partsOf
    simp only [Bool.false_eq_true, if_false]
    rw [show (h : Int) - (p : Int) = ((h - p : Nat) : Int) from by omega]
    rfl
theorem val_l3 (w h : Nat) (h1 : 0 < w) (h2 : w ≤ a) (h3 : 0 < h) (h4 : h ≤ b) (R : List (List Int)) (d : Nat) : ∀ (p : Nat) (best : Int), w / 2 + 1 - p = d → 1 ≤ p → p ≤ w / 2 + 1 →
    ((List.range' 1 (h / 2)).map (fun (p : Nat) => (⟨false, (p : Int)⟩ : S63))).foldl (cvStep (whN l tn) (w : Int) (h : Int)) (((List.range' p d).map (fun (p : Nat) => (⟨true, (p : Int)⟩ : S63))).foldl (cvStep (whN l tn) (w : Int) (h : Int)) best) = cvN (whN l tn) (w : Int) (h : Int) →
    Ev (fun k => spec_bdValues.l1 k (a : Int) (b : Int) l tn (rowsT a b (valV l tn) w (h + 1)) (w : Int) ((h + 1 : Nat) : Int)) R →
    Ev (fun k => spec_bdValues.l3 k (a : Int) (b : Int) l tn (rowsT a b (valV l tn) w h) (w : Int) (h : Int) best (p : Int)) R := by
  induction d with
  | zero =>
    intro p best hd hp hp2 hf hK
    simp only [List.range'_zero, List.map_nil, List.foldl_nil] at hf
    refine Ev.step (fun k => ?_) (val_l4 a b l tn ha hb hl w h h1 h2 h3 h4 R (h / 2) 1 best (by omega) (by omega) (by omega) hf hK)
    simp only [spec_bdValues.l3]
    rw [w64 (i := 2 * (p : Int)) (by omega) (by omega), if_neg (by omega)]
    rfl
  | succ d ih =>
    intro p best hd hp hp2 hf hK
    rw [List.range'_succ, List.map_cons, List.foldl_cons] at hf
    refine Ev.step (fun k => ?_) (ih (p + 1) _ (by omega) (by omega) (by omega) hf hK)
    simp only [spec_bdValues.l3]
    rw [w64 (i := 2 * (p : Int)) (by omega) (by omega), if_pos (by omega), rows_len, w64 (i := (w : Int) - (p : Int)) (by omega) (by omega), show (w : Int) - (p : Int) = ((w - p : Nat) : Int) from by omega, rows_old _ _ _ _ _ p (by omega) (by omega) (by omega), rows_old _ _ _ _ _ (w - p) (by omega) (by omega) (by omega), tab_len, tab_len, rd_tab _ _ _ (by omega), rd_tab _ _ _ (by omega), valV_pos _ _ _ _ h3, valV_pos _ _ _ _ h3]
    rw [if_pos (by omega), if_pos (by omega), if_pos (by omega), if_pos (by omega), if_pos (by omega), if_pos (by omega), if_pos (by omega), most_is, Option.bind_some, w64 (i := (p : Int) + 1) (by omega) (by omega)]
    unfold cvStep partsOf
    simp only [if_true]
    rw [show (w : Int) - (p : Int) = ((w - p : Nat) : Int) from by omega]
    rfl
theorem val_l2 (w h : Nat) (T R : List (List Int)) (r : Int) (hK : Ev (fun k => spec_bdValues.l3 k (a : Int) (b : Int) l tn T (w : Int) (h : Int) r 1) R) (d : Nat) : ∀ (i : Nat) (best : Int), l.length - i = d → i ≤ l.length →
    (l.drop i).foldl (whF (w : Int) (h : Int) tn) best = r →
    Ev (fun k => spec_bdValues.l2 k (a : Int) (b : Int) l tn T (w : Int) (h : Int) best l (l.length : Int) (i : Int)) R := by
  induction d with
  | zero =>
    intro i best hd hi hf
    obtain rfl : i = l.length := by omega
    rw [List.drop_length, List.foldl_nil] at hf
    refine Ev.step (fun k => ?_) hK
    simp only [spec_bdValues.l2]
    rw [if_neg (by omega), hf]
  | succ d ih =>
    intro i best hd hi hf
    have hlt : i < l.length := by omega
    rw [cons_drop l i hlt, List.foldl_cons] at hf
    have hr : rd_T38 l (i : Int) = l[i] := by simp [rd_T38, hlt]
    refine Ev.step (fun k => ?_) (ih (i + 1) _ (by omega) (by omega) hf)
    simp only [spec_bdValues.l2]
    rw [if_pos (by omega), if_pos (by omega), if_pos (by omega), hr, bdIs_is, w64 (by omega) (by omega)]
    unfold whF
    cases justB (w : Int) (h : Int) tn l[i] with
    | true => simp only [Option.bind_some, if_true, most_is]; rfl
    | false => simp only [Option.bind_some, Bool.false_eq_true, if_false]; rfl
theorem val_l1 (w : Nat) (h1 : 0 < w) (h2 : w ≤ a) (R : List (List Int)) (hK : Ev (fun k => spec_bdValues.l0 k (a : Int) (b : Int) l tn (rowsT a b (valV l tn) w (b + 1)) ((w + 1 : Nat) : Int)) R) (d : Nat) : ∀ h : Nat, b + 1 - h = d → 0 < h → h ≤ b + 1 →
    Ev (fun k => spec_bdValues.l1 k (a : Int) (b : Int) l tn (rowsT a b (valV l tn) w h) (w : Int) (h : Int)) R := by
  induction d with
  | zero =>
    intro h hd h3 h4
    obtain rfl : h = b + 1 := by omega
    refine Ev.step (fun k => ?_) hK
    simp only [spec_bdValues.l1]
    rw [if_neg (by omega), w64 (by omega) (by omega)]
    rfl
  | succ d ih =>
    intro h hd h3 h4
    have hih := ih (h + 1) (by omega) (by omega) (by omega)
    have hcv := cvN_eq (whN l tn) (w : Int) (h : Int) (by omega) (by omega)
    rw [Int.toNat_natCast, Int.toNat_natCast] at hcv
    unfold cutsL at hcv
    rw [show min (w - 1) (w / 2) = w / 2 from by omega, show min (h - 1) (h / 2) = h / 2 from by omega, List.foldl_append] at hcv
    have h3' := val_l3 a b l tn ha hb hl w h h1 h2 h3 (by omega) R (w / 2) 1 (whN l tn (w : Int) (h : Int)) (by omega) (by omega) (by omega) hcv.symm hih
    have h2' := val_l2 a b l tn ha hb hl w h _ R _ h3' _ 0 0 rfl (Nat.zero_le _) (by rw [List.drop_zero, ← wholeN_fold _ _ _ l 0 0 (-1)]; rfl)
    refine Ev.step (fun k => ?_) h2'
    simp only [spec_bdValues.l1]
    rw [if_pos (by omega)]
    rfl
theorem val_l0 (d : Nat) : ∀ w : Nat, a - w = d → w ≤ a → Ev (fun k => spec_bdValues.l0 k (a : Int) (b : Int) l tn (rowsT a b (valV l tn) w (b + 1)) ((w + 1 : Nat) : Int)) (rowsT a b (valV l tn) a (b + 1)) := by
  induction d with
  | zero =>
    intro w hd hw
    obtain rfl : w = a := by omega
    refine ev_at 1 (fun k => ?_)
    simp only [spec_bdValues.l0]
    rw [if_neg (by omega)]
  | succ d ih =>
    intro w hd hw
    refine Ev.step (fun k => ?_) (val_l1 a b l tn ha hb hl (w + 1) (by omega) (by omega) _ (ih (w + 1) (by omega) (by omega)) _ 1 rfl (by omega) (by omega))
    simp only [spec_bdValues.l0]
    rw [if_pos (by omega), w64 (i := (b : Int) + 1) (by omega) (by omega), show (b : Int) + 1 = ((b + 1 : Nat) : Int) from by omega, rows_len, if_pos (by omega), if_pos (by omega), if_pos (by omega), if_pos (by omega), Int.toNat_natCast, Int.toNat_natCast, rows_next _ _ _ (fun _ => if_pos rfl)]
    rfl
theorem bdValues_is : Ev (fun k => spec_bdValues.f k (a : Int) (b : Int) l tn) (rowsT a b (valV l tn) a (b + 1)) := by
  have h := val_l0 a b l tn ha hb hl _ 0 rfl (Nat.zero_le _)
  unfold spec_bdValues.f
  rw [w64 (i := (a : Int) + 1) (by omega) (by omega), show (a : Int) + 1 = ((a + 1 : Nat) : Int) from by omega, Int.toNat_natCast]
  refine ev_pos (by omega) (ev_pos (by omega) ?_)
  rw [rows_none a b (valV l tn)]
  exact h
end

theorem asked_is (a b : Int) (xs : List S38) (hn : xs.length ≤ 1048576) : Ev (fun k => spec_bdAsked.f k a b xs) (boardB a b && piecesB xs) := by
  unfold spec_bdAsked.f
  rw [good_is]
  cases boardB a b with
  | false => exact ev_some (ev_neg (by decide) (Ev.now _))
  | true => exact ev_some (ev_pos rfl (ev_ret (bdPieces_is xs hn)))
theorem areCut_is (a b : Int) (xs : List S38) : impl_areCut.f a b xs = some (boardB a b && piecesB xs) := by
  unfold impl_areCut.f
  rw [board_is, arePieces_is]
  cases boardB a b <;> rfl

theorem worth_l0 (xs : List S38) (hn : xs.length ≤ 4) (d : Nat) : ∀ (i : Nat) (out : List S38), xs.length - i = d → i ≤ xs.length → out.length ≤ i →
    Ev (fun k => spec_bdWorth.l0 k out xs (xs.length : Int) (i : Int)) (out ++ (xs.drop i).map areaP) := by
  induction d with
  | zero =>
    intro i out hd hi ho
    obtain rfl : i = xs.length := by omega
    refine ev_at 1 (fun k => ?_)
    simp only [spec_bdWorth.l0]
    rw [if_neg (by omega), List.drop_length, List.map_nil, List.append_nil]
  | succ d ih =>
    intro i out hd hi ho
    have hlt : i < xs.length := by omega
    have hr : rd_T38 xs (i : Int) = xs[i] := by simp [rd_T38, hlt]
    have h := ih (i + 1) (out ++ [areaP xs[i]]) (by omega) (by omega) (by simp; omega)
    rw [cons_drop xs i hlt, List.map_cons]
    rw [List.append_assoc] at h
    refine Ev.step (fun k => ?_) h
    simp only [spec_bdWorth.l0]
    rw [if_pos (by omega), if_pos (by omega), if_pos (by omega), if_pos (by omega), hr, w64 (i := (i : Int) + 1) (by omega) (by omega)]
    rfl
theorem cut_law (a b : Int) (xs : List S36) (tn : Bool) (h : xs.length ≤ 1048576) (x : Bool) (ok : Bool) (hs : Ev (fun k => spec_CanCutAll.f k a b (xs.map convPiece) tn) (x, ok)) (hi : impl_CanCutAll.f a b (xs.map convPiece) tn = some (x, ok)) : Ev (fun k => laws_FnExactCanCutAll.f k a b xs tn) true := by
  have hc := toPiece_is xs h
  unfold laws_FnExactCanCutAll.f
  rw [szPiece_is xs (by unfold maxLen; omega), if_pos h]
  refine ev_some (ev_neg (by omega) (Ev.bind hc (Ev.bind hs (Ev.bind hc ?_))))
  rw [hi]
  have hb : ¬ (ok != ok) = true := by cases ok <;> decide
  have hx : ¬ (x != x) = true := by cases x <;> decide
  exact ev_some (ev_neg hx (ev_neg hb (Ev.bind hc (Ev.bind (eqPiece_is _ (by simp; omega)) (ev_pos rfl (Ev.now _))))))
theorem FnExactCanCutAll : laws_FnExactCanCutAll.Pure := by
  intro a b xs tn _ _ hl
  refine Ev.rounds ?_
  by_cases h : xs.length ≤ 1048576
  · have hn : (xs.map convPiece).length ≤ 1048576 := by simpa using h
    cases hq : (boardB a b && piecesB (xs.map convPiece)) with
    | false =>
      refine cut_law a b xs tn h false false ?_ ?_
      · unfold spec_CanCutAll.f
        exact Ev.bind (hq ▸ asked_is a b _ hn) (ev_neg (by decide) (Ev.now _))
      · simp [impl_CanCutAll.f, areCut_is, hq]
    | true =>
      have hb := (boardB_iff a b).1 (Bool.and_eq_true_iff.1 hq).1
      have hp := (Bool.and_eq_true_iff.1 hq).2
      simp only [piecesB, Bool.and_eq_true, inB, decide_eq_true_eq] at hp
      obtain ⟨m, rfl⟩ := Int.eq_ofNat_of_zero_le (show 0 ≤ a by omega)
      obtain ⟨n, rfl⟩ := Int.eq_ofNat_of_zero_le (show 0 ≤ b by omega)
      have hw := worth_l0 (xs.map convPiece) (by omega) _ 0 [] rfl (Nat.zero_le _) (Nat.zero_le _)
      rw [List.drop_zero, List.nil_append] at hw
      have hn2 : ((xs.map convPiece).map areaP).length ≤ 1048576 := by rw [List.length_map]; exact hn
      refine cut_law _ _ xs tn h (cvN (whN ((xs.map convPiece).map areaP) tn) m n == wrap64 ((m : Int) * (n : Int))) true ?_ ?_
      · unfold spec_CanCutAll.f
        refine Ev.bind (hq ▸ asked_is _ _ _ hn) (ev_pos rfl (Ev.bind hw (Ev.bind (bdValues_is m n _ tn (by omega) (by omega) hn2) ?_)))
        rw [rows_len, rows_all _ _ _ m n (by omega) (Nat.le_refl _) (Nat.le_refl _), tab_len, rd_tab _ _ _ (by omega), valV_pos _ _ _ _ (by omega)]
        exact ev_pos (by omega) (ev_pos (by omega) (ev_pos (by omega) (ev_pos (by omega) (Ev.now _))))
      · simp only [impl_CanCutAll.f, areCut_is, hq, Option.bind_some, if_true]
        rw [if_pos ⟨by omega, by omega⟩]
  · unfold laws_FnExactCanCutAll.f
    rw [szPiece_is xs hl, if_neg h]
    exact ev_some (ev_pos (by omega) (Ev.now _))

end Go.Proofs.Ytfpgnnllohhmfaa.Pure

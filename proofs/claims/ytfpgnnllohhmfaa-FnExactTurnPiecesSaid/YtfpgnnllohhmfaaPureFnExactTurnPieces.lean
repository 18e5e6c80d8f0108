/- For every list of pieces (whose numbers may be any): the program's TurnPieces and the reference's return the same, what is returned is new memory, and the list is not changed. Condition: what the law itself lets in. -/
import Derived.Test.YtfpgnnllohhmfaaX0
import Derived.Test.YtfpgnnllohhmfaaX1
import Derived.Test.YtfpgnnllohhmfaaX2
import Derived.Test.YtfpgnnllohhmfaaX3
import Derived.Test.YtfpgnnllohhmfaaSFnExactTurnPieces
namespace Go.Proofs.Ytfpgnnllohhmfaa.Pure
open Go.RowKit Go.Proofs.Ytfpgnnllohhmfaa.X Go.Proofs.YtfpgnnllohhmfaaW.PrintWords Go.Proofs.YtfpgnnllohhmfaaW.PrintLast Go.Proofs.YtfpgnnllohhmfaaW.PrintMore
set_option linter.unusedVariables false
set_option linter.unusedSimpArgs false
theorem ev_pos {α : Type} {c : Prop} [Decidable c] {g f : Nat → Option α} {r : α} (hc : c) (h : Ev g r) : Ev (fun k => if c then g k else f k) r := Ev.congr (fun _ => if_pos hc) h
theorem ev_neg {α : Type} {c : Prop} [Decidable c] {g f : Nat → Option α} {r : α} (hc : ¬ c) (h : Ev f r) : Ev (fun k => if c then g k else f k) r := Ev.congr (fun _ => if_neg hc) h
theorem ev_some {α β : Type} {a : α} {f : Nat → α → Option β} {r : β} (h : Ev (fun n => f n a) r) : Ev (fun n => (some a).bind (f n)) r := Ev.bind (Ev.now a) h
theorem ev_ret {α : Type} {g : Nat → Option α} {r : α} (h : Ev g r) : Ev (fun n => (g n).bind fun t => some t) r := Ev.bind h (Ev.now r)
theorem ev_at {α : Type} {g : Nat → Option α} {r : α} (K : Nat) (h : ∀ k, g (k + K) = some r) : Ev g r := ⟨K, fun n hn => by obtain ⟨m, rfl⟩ : ∃ m, n = m + K := ⟨n - K, by omega⟩; exact h m⟩
theorem w64 {i : Int} (h0 : -9223372036854775808 ≤ i) (h1 : i ≤ 9223372036854775807) : wrap64 i = i := by
  unfold wrap64
  omega
theorem bne_self (b : Bool) : (b != b) = false := by cases b <;> rfl
theorem cons_drop {α : Type} (xs : List α) (i : Nat) (h : i < xs.length) : xs.drop i = xs[i] :: xs.drop (i + 1) := List.drop_eq_getElem_cons h
/-- a loop over the indexes of a list: what holds of one round holds of all -/
theorem ev_for {β ρ : Type} (n : Nat) (l : Nat → β → Int → Option ρ) (st : Nat → β) (r : ρ) (hstep : ∀ i, i < n → ∀ k, l (k + 1) (st i) (i : Int) = l k (st (i + 1)) ((i : Int) + 1)) (hend : ∀ k, l (k + 1) (st n) (n : Int) = some r) : ∀ i, i ≤ n → Ev (fun k => l k (st i) (i : Int)) r := by
  intro i hi
  obtain ⟨d, hd⟩ : ∃ d, n - i = d := ⟨_, rfl⟩
  induction d generalizing i with
  | zero =>
    obtain rfl : i = n := by omega
    exact ev_at 1 hend
  | succ d ih =>
    refine Ev.step (f := fun k => l k (st (i + 1)) ((i : Int) + 1)) (fun k => hstep i (by omega) k) ?_
    have := ih (i + 1) (by omega) (by omega)
    rwa [show ((i + 1 : Nat) : Int) = (i : Int) + 1 from by omega] at this

def inB (lo hi a : Int) : Bool := decide (lo ≤ a) && decide (a ≤ hi)
theorem inB_iff (lo hi a : Int) : inB lo hi a = true ↔ lo ≤ a ∧ a ≤ hi := by simp [inB]
theorem in_is (a lo hi : Int) : spec_l1In.f a lo hi = some (inB lo hi a) := by
  unfold spec_l1In.f inB
  by_cases h : lo ≤ a
  · rw [if_pos h, decide_eq_true h, Bool.true_and]
  · rw [if_neg h, decide_eq_false h, Bool.false_and]

theorem within_is (a lo hi : Int) : impl_within.f a lo hi = some (inB lo hi a) := by
  unfold impl_within.f inB
  by_cases h : lo ≤ a
  · rw [if_pos h, decide_eq_true h, Bool.true_and]
  · rw [if_neg h, decide_eq_false h, Bool.false_and]

theorem okW_in (a b x : Int) : okW a b x = inB a b x := rfl
def boardB (a b : Int) : Bool := inB 1 24 a && inB 1 24 b
theorem boardB_iff (a b : Int) : boardB a b = true ↔ (1 ≤ a ∧ a ≤ 24) ∧ 1 ≤ b ∧ b ≤ 24 := by simp [boardB, inB]
theorem good_is (a b : Int) : spec_bdGood.f a b = some (boardB a b) := by
  unfold spec_bdGood.f boardB
  rw [in_is, in_is]
  cases inB 1 24 a <;> rfl
theorem board_is (a b : Int) : impl_isBoard.f a b = some (boardB a b) := by
  unfold impl_isBoard.f boardB
  rw [within_is, within_is]
  cases inB 1 24 a <;> rfl

def convPiece (s : S36) : S38 := ⟨s.f0, s.f1, s.f2⟩
theorem convPiece_step (xs : List S36) (i : Nat) (h : i < xs.length) : ((xs.take i).map convPiece ++ List.replicate (xs.length - i) z38).set i (convPiece xs[i]) = (xs.take (i + 1)).map convPiece ++ List.replicate (xs.length - (i + 1)) z38 := by
  have e : xs.length - i = (xs.length - (i + 1)) + 1 := by omega
  rw [List.set_append_right _ _ (by simp; omega), e, List.replicate_succ]
  have e2 : i - (List.map convPiece (List.take i xs)).length = 0 := by simp; omega
  rw [e2, List.set_cons_zero, List.take_succ_eq_append_getElem h, List.map_append]
  simp
theorem toPiece_l0 (xs : List S36) (hn : xs.length ≤ 1048576) (d : Nat) : ∀ i : Nat, xs.length - i = d → i ≤ xs.length →
    Ev (fun k => laws_toPieceS.l0 k xs ((xs.take i).map convPiece ++ List.replicate (xs.length - i) z38) (i : Int)) (xs.map convPiece) := by
  induction d with
  | zero =>
    intro i hd hle
    obtain rfl : i = xs.length := by omega
    exact ev_at 1 (fun k => by simp only [laws_toPieceS.l0]; rw [if_neg (by omega)]; simp)
  | succ d ih =>
    intro i hd hle
    have hlt : i < xs.length := by omega
    have hr : rd_T36 xs (i : Int) = xs[i] := by simp [rd_T36, hlt]
    refine Ev.step (f := fun k => laws_toPieceS.l0 k xs ((xs.take (i + 1)).map convPiece ++ List.replicate (xs.length - (i + 1)) z38) ((i + 1 : Nat) : Int)) (fun k => ?_) (ih (i + 1) (by omega) (by omega))
    simp only [laws_toPieceS.l0, laws_toPiece.f, Option.bind_some]
    rw [if_pos (by omega), if_pos (by omega), if_pos (by simp; omega), hr, w64 (by omega) (by omega), Int.toNat_natCast, ← convPiece_step xs i hlt]
    rfl
theorem toPiece_is (xs : List S36) (hn : xs.length ≤ 1048576) : Ev (fun k => laws_toPieceS.f k xs) (xs.map convPiece) := by
  unfold laws_toPieceS.f
  refine ev_pos (by omega) (ev_pos (by simp; omega) ?_)
  have := toPiece_l0 xs hn _ 0 rfl (Nat.zero_le _)
  simpa using this
theorem eqPiece_self (x : S38) : laws_eqPiece.f x.f0 x.f1 x.f2 x.f0 x.f1 x.f2 = some true := by simp [laws_eqPiece.f]
theorem eqPiece_l0 (xs : List S38) (hn : xs.length ≤ 1048577) (d : Nat) : ∀ i : Nat, xs.length - i = d → i ≤ xs.length → Ev (fun k => laws_eqPieceS.l0 k xs xs (i : Int)) true := by
  induction d with
  | zero =>
    intro i hd hle
    exact ev_at 1 (fun k => by simp only [laws_eqPieceS.l0]; rw [if_neg (by omega)])
  | succ d ih =>
    intro i hd hle
    refine Ev.step (f := fun k => laws_eqPieceS.l0 k xs xs ((i + 1 : Nat) : Int)) (fun k => ?_) (ih (i + 1) (by omega) (by omega))
    simp only [laws_eqPieceS.l0]
    rw [if_pos (by omega), if_pos (by omega), if_pos (by omega), eqPiece_self, w64 (by omega) (by omega)]
    rfl
theorem eqPiece_is (xs : List S38) (hn : xs.length ≤ 1048577) : Ev (fun k => laws_eqPieceS.f k xs xs) true := by
  unfold laws_eqPieceS.f
  exact ev_pos rfl (eqPiece_l0 xs hn _ 0 rfl (Nat.zero_le _))
theorem szPiece_is (xs : List S36) (hn : xs.length ≤ maxLen) : laws_szPieceS.f xs 1048576 = some (if xs.length ≤ 1048576 then 1048576 - (xs.length : Int) else -1) := by
  unfold maxLen at hn
  unfold laws_szPieceS.f
  rw [w64 (by omega) (by omega)]
  by_cases h : xs.length ≤ 1048576
  · rw [if_neg (by omega), if_pos h]
  · rw [if_pos (by omega), if_neg h]

theorem okPiece_is (b : S38) : okPiece b = (boardB b.f0 b.f1 && inB 0 1000 b.f2) := rfl
theorem bdPieces_l0 (xs : List S38) (hn : xs.length ≤ 1048576) (d : Nat) : ∀ i : Nat, xs.length - i = d → i ≤ xs.length →
    Ev (fun k => spec_bdPieces.l0 k xs (xs.length : Int) (i : Int)) ((xs.drop i).all okPiece) := by
  induction d with
  | zero =>
    intro i hd hle
    obtain rfl : i = xs.length := by omega
    rw [List.drop_length]
    exact ev_at 1 (fun k => by simp only [spec_bdPieces.l0]; rw [if_neg (by omega)]; rfl)
  | succ d ih =>
    intro i hd hle
    have hlt : i < xs.length := by omega
    have hr : rd_T38 xs (i : Int) = xs[i] := by simp [rd_T38, hlt]
    rw [cons_drop xs i hlt, List.all_cons, okPiece_is]
    cases h1 : boardB xs[i].f0 xs[i].f1 with
    | false =>
      refine ev_at 1 (fun k => ?_)
      simp only [spec_bdPieces.l0]
      rw [if_pos (by omega), if_pos (by omega), if_pos (by omega), hr, good_is, h1]
      rfl
    | true =>
      cases h2 : inB 0 1000 xs[i].f2 with
      | false =>
        refine ev_at 1 (fun k => ?_)
        simp only [spec_bdPieces.l0]
        rw [if_pos (by omega), if_pos (by omega), if_pos (by omega), hr, good_is, h1, in_is, h2]
        rfl
      | true =>
        refine Ev.step (f := fun k => spec_bdPieces.l0 k xs (xs.length : Int) ((i + 1 : Nat) : Int)) (fun k => ?_) (ih (i + 1) (by omega) (by omega))
        simp only [spec_bdPieces.l0]
        rw [if_pos (by omega), if_pos (by omega), if_pos (by omega), hr, good_is, h1, in_is, h2, w64 (by omega) (by omega)]
        rfl
def piecesB (xs : List S38) : Bool := inB 1 4 (xs.length : Int) && xs.all okPiece
theorem bdPieces_is (xs : List S38) (hn : xs.length ≤ 1048576) : Ev (fun k => spec_bdPieces.f k xs) (piecesB xs) := by
  unfold spec_bdPieces.f piecesB
  rw [in_is]
  cases inB 1 4 (xs.length : Int) with
  | true => exact ev_some (ev_pos rfl (by simpa using bdPieces_l0 xs hn _ 0 rfl (Nat.zero_le _)))
  | false => exact ev_some (ev_neg (by decide) (Ev.now _))
theorem arePieces_is (xs : List S38) : impl_ArePieces.f xs = some (piecesB xs) := rfl

def tab {α : Type} (n : Nat) (f : Nat → α) : List α := (List.range n).map f
theorem tab_len {α : Type} (n : Nat) (f : Nat → α) : (tab n f).length = n := by simp [tab]
theorem tab_rep {α : Type} (n : Nat) (x : α) : List.replicate n x = tab n (fun _ => x) := by simp [tab, List.map_const']
theorem tab_get {α : Type} (n : Nat) (f : Nat → α) (i : Nat) (h : i < n) (z : α) : (tab n f).getD i z = f i := by simp [tab, h]
theorem rd_tab (n : Nat) (f : Nat → Int) (i : Nat) (h : i < n) : rd (tab n f) (i : Int) = f i := by simp [rd, tab, h]
theorem tab_ext {α : Type} (n : Nat) (f g : Nat → α) (h : ∀ j, j < n → f j = g j) : tab n f = tab n g := by
  unfold tab
  exact List.map_congr_left (fun j hj => h j (List.mem_range.1 hj))
theorem tab_set {α : Type} (n : Nat) (f g : Nat → α) (i : Nat) (x : α) (hx : i < n → g i = x) (ho : ∀ j, j < n → j ≠ i → f j = g j) : (tab n f).set i x = tab n g := by
  apply List.ext_getElem
  · simp [tab]
  · intro j h1 h2
    have hj' : j < n := by simpa [tab] using h1
    rw [List.getElem_set]
    by_cases hj : i = j
    · subst hj
      rw [if_pos rfl]
      simp [tab, hx hj']
    · rw [if_neg hj]
      simp [tab, ho j hj' (fun h => hj h.symm)]

def marksPiece (m : Int) (n : Nat) : List S38 := tab n fun j => (⟨m + 3 * (j : Int), m + 3 * (j : Int) + 1, m + 3 * (j : Int) + 2⟩ : S38)
theorem marksPiece_length (m : Int) (n : Nat) : (marksPiece m n).length = n := tab_len _ _
theorem rd_marksPiece (m : Int) (n i : Nat) (h : i < n) : rd_T38 (marksPiece m n) (i : Int) = (⟨m + 3 * (i : Int), m + 3 * (i : Int) + 1, m + 3 * (i : Int) + 2⟩ : S38) := by
  simp [rd_T38, marksPiece, tab, h]
theorem rd_setPiece (xs : List S38) (i : Nat) (x : S38) (h : i < xs.length) : rd_T38 (xs.set i x) (i : Int) = x := by
  simp [rd_T38, List.getD_eq_getElem?_getD, h]
theorem markPiece_l0 (xs : List S38) (m : Int) (hm : 0 ≤ m ∧ m ≤ 1000000000) (hn : xs.length ≤ 1048577) (d : Nat) : ∀ i : Nat, xs.length - i = d → i ≤ xs.length →
    Ev (fun k => laws_markPieceS.l0 k (tab xs.length fun j => if j < i then (⟨m + 3 * (j : Int), m + 3 * (j : Int) + 1, m + 3 * (j : Int) + 2⟩ : S38) else xs.getD j z38) (m + 3 * (i : Int)) (i : Int)) (m + 3 * (xs.length : Int), marksPiece m xs.length) := by
  induction d with
  | zero =>
    intro i hd hle
    obtain rfl : i = xs.length := by omega
    refine ev_at 1 (fun k => ?_)
    simp only [laws_markPieceS.l0]
    rw [if_neg (by rw [tab_len]; omega), tab_ext _ _ (fun j => (⟨m + 3 * (j : Int), m + 3 * (j : Int) + 1, m + 3 * (j : Int) + 2⟩ : S38)) (fun j hj => if_pos hj)]
    rfl
  | succ d ih =>
    intro i hd hle
    have hlt : i < (tab xs.length fun j => if j < i then (⟨m + 3 * (j : Int), m + 3 * (j : Int) + 1, m + 3 * (j : Int) + 2⟩ : S38) else xs.getD j z38).length := by rw [tab_len]; omega
    have hset : (tab xs.length fun j => if j < i then (⟨m + 3 * (j : Int), m + 3 * (j : Int) + 1, m + 3 * (j : Int) + 2⟩ : S38) else xs.getD j z38).set i (⟨m + 3 * (i : Int), m + 3 * (i : Int) + 1, m + 3 * (i : Int) + 2⟩ : S38) = tab xs.length fun j => if j < i + 1 then (⟨m + 3 * (j : Int), m + 3 * (j : Int) + 1, m + 3 * (j : Int) + 2⟩ : S38) else xs.getD j z38 :=
      tab_set _ _ _ _ _ (fun _ => if_pos (by omega)) (fun j _ hj => by
        by_cases h : j < i
        · rw [if_pos h, if_pos (by omega)]
        · rw [if_neg h, if_neg (by omega)])
    refine Ev.step (fun k => ?_) (ih (i + 1) (by omega) (by omega))
    rw [← hset]
    generalize (tab xs.length fun j => if j < i then (⟨m + 3 * (j : Int), m + 3 * (j : Int) + 1, m + 3 * (j : Int) + 2⟩ : S38) else xs.getD j z38) = L at hlt
    simp only [laws_markPieceS.l0]
    rw [if_pos (by omega), if_pos (by omega)]
    simp only [Int.toNat_natCast, Option.bind_some, rd_setPiece, hlt, List.length_set, List.set_set]
    rw [w64 (i := m + 3 * (i : Int) + 1) (by omega) (by omega), w64 (i := m + 3 * (i : Int) + 1 + 1) (by omega) (by omega), w64 (i := m + 3 * (i : Int) + 1 + 1 + 1) (by omega) (by omega), w64 (i := (i : Int) + 1) (by omega) (by omega)]
    rw [show m + 3 * (i : Int) + 1 + 1 + 1 = m + 3 * ((i + 1 : Nat) : Int) from by omega, show m + 3 * (i : Int) + 1 + 1 = m + 3 * (i : Int) + 2 from by omega, show (i : Int) + 1 = ((i + 1 : Nat) : Int) from by omega]
theorem markPiece_is (xs : List S38) (m : Int) (hm : 0 ≤ m ∧ m ≤ 1000000000) (hn : xs.length ≤ 1048577) : Ev (fun k => laws_markPieceS.f k xs m) (m + 3 * (xs.length : Int), marksPiece m xs.length) := by
  have h := markPiece_l0 xs m hm hn _ 0 rfl (Nat.zero_le _)
  have e : (tab xs.length fun j => if j < 0 then (⟨m + 3 * (j : Int), m + 3 * (j : Int) + 1, m + 3 * (j : Int) + 2⟩ : S38) else xs.getD j z38) = xs := by
    apply List.ext_getElem
    · simp [tab]
    · intro j h1 h2
      simp [tab, h2]
  rw [e] at h
  simpa [laws_markPieceS.f] using h

theorem heldPiece_l0 (n : Nat) (m : Int) (hm : 0 ≤ m ∧ m ≤ 1000000000) (hn : n ≤ 1048577) (d : Nat) : ∀ i : Nat, n - i = d → i ≤ n →
    Ev (fun k => laws_heldPieceS.l0 k (marksPiece m n) (m + 3 * (i : Int)) (i : Int)) (m + 3 * (n : Int)) := by
  induction d with
  | zero =>
    intro i hi hle
    obtain rfl : i = n := by omega
    refine ev_at 1 (fun k => ?_)
    simp only [laws_heldPieceS.l0]
    rw [if_neg (by rw [marksPiece_length]; omega)]
  | succ d ih =>
    intro i hi hle
    refine Ev.step (fun k => ?_) (ih (i + 1) (by omega) (by omega))
    simp only [laws_heldPieceS.l0]
    rw [if_pos (by rw [marksPiece_length]; omega), if_pos (by omega), rd_marksPiece m n i (by omega), w64 (i := m + 3 * (i : Int) + 1) (by omega) (by omega), w64 (i := m + 3 * (i : Int) + 1 + 1) (by omega) (by omega), w64 (i := m + 3 * (i : Int) + 1 + 1 + 1) (by omega) (by omega), w64 (i := (i : Int) + 1) (by omega) (by omega)]
    rw [show m + 3 * (i : Int) + 1 + 1 + 1 = m + 3 * ((i + 1 : Nat) : Int) from by omega, show m + 3 * (i : Int) + 1 + 1 = m + 3 * (i : Int) + 2 from by omega, show (i : Int) + 1 = ((i + 1 : Nat) : Int) from by omega]
    simp only [if_true]
theorem heldPiece_is (n : Nat) (m : Int) (hm : 0 ≤ m ∧ m ≤ 1000000000) (hn : n ≤ 1048577) : Ev (fun k => laws_heldPieceS.f k (marksPiece m n) m) (m + 3 * (n : Int)) := by
  have h := heldPiece_l0 n m hm hn _ 0 rfl (Nat.zero_le _)
  simpa [laws_heldPieceS.f] using h

theorem turn_spec (xs : List S38) (hn : xs.length ≤ 4) (d : Nat) : ∀ (i : Nat) (out : List S38), xs.length - i = d → i ≤ xs.length → out.length ≤ i →
    Ev (fun k => spec_TurnPieces.l0 k out xs (xs.length : Int) (i : Int)) (out ++ (xs.drop i).map turnP, true) := by
  induction d with
  | zero =>
    intro i out hd hi ho
    obtain rfl : i = xs.length := by omega
    refine ev_at 1 (fun k => ?_)
    simp only [spec_TurnPieces.l0]
    rw [if_neg (by omega), List.drop_length, List.map_nil, List.append_nil]
  | succ d ih =>
    intro i out hd hi ho
    have hlt : i < xs.length := by omega
    have hr : rd_T38 xs (i : Int) = xs[i] := by simp [rd_T38, hlt]
    have h := ih (i + 1) (out ++ [turnP xs[i]]) (by omega) (by omega) (by simp; omega)
    rw [cons_drop xs i hlt, List.map_cons]
    rw [List.append_assoc] at h
    refine Ev.step (fun k => ?_) h
    simp only [spec_TurnPieces.l0]
    rw [if_pos (by omega), if_pos (by omega), if_pos (by omega), if_pos (by omega), hr, w64 (i := (i : Int) + 1) (by omega) (by omega)]
    rfl
theorem turn_law (xs : List S36) (h : xs.length ≤ 1048576) (R : List S38) (ok : Bool) (hR : R.length ≤ 1048577)
    (hs : Ev (fun k => spec_TurnPieces.f k (xs.map convPiece)) (R, ok)) (hi : impl_TurnPieces.f (xs.map convPiece) = some (R, ok)) : Ev (fun k => laws_FnExactTurnPieces.f k xs) true := by
  have hc := toPiece_is xs h
  have hA : (xs.map convPiece).length ≤ 1048577 := by rw [List.length_map]; omega
  have heq := eqPiece_is R hR
  have hb : ¬ (ok != ok) = true := by cases ok <;> decide
  unfold laws_FnExactTurnPieces.f
  rw [szPiece_is xs (by unfold maxLen; omega), if_pos h]
  refine ev_some (ev_neg (by omega) ?_)
  refine Ev.bind hc (Ev.bind hs (Ev.bind hc ?_))
  rw [hi]
  refine ev_some (Ev.bind heq (ev_pos rfl (ev_neg hb ?_)))
  refine Ev.bind hc (Ev.bind (eqPiece_is _ hA) (ev_pos rfl ?_))
  refine Ev.bind (markPiece_is _ 1 (by omega) hA) (ev_neg (by simp; omega) ?_)
  refine Ev.bind heq (ev_pos rfl ?_)
  refine Ev.step (fun k => by simp only [laws_FnExactTurnPieces.j0]; rfl) ?_
  refine ev_neg Bool.false_ne_true ?_
  refine Ev.bind (markPiece_is R 1 (by omega) hR) (Ev.bind (heldPiece_is R.length 1 (by omega) hR) (ev_neg (by omega) (ev_pos rfl ?_)))
  refine Ev.bind hc ?_
  rw [hi]
  refine ev_some (Ev.bind heq (ev_pos rfl (ev_neg hb ?_)))
  exact Ev.bind (heldPiece_is R.length 1 (by omega) hR) (ev_neg (by omega) (ev_pos rfl (Ev.now _)))
theorem FnExactTurnPieces : laws_FnExactTurnPieces.Pure := by
  intro xs hl
  refine Ev.rounds ?_
  by_cases h : xs.length ≤ 1048576
  · have hp := bdPieces_is (xs.map convPiece) (by rw [List.length_map]; exact h)
    have hi0 := arePieces_is (xs.map convPiece)
    cases hb : piecesB (xs.map convPiece) with
    | false =>
      rw [hb] at hp hi0
      refine turn_law xs h [] false (by simp) ?_ ?_
      · unfold spec_TurnPieces.f
        exact Ev.bind hp (ev_neg Bool.false_ne_true (Ev.now _))
      · unfold impl_TurnPieces.f
        rw [hi0]
        rfl
    | true =>
      have hq := hb
      simp only [piecesB, Bool.and_eq_true, inB, decide_eq_true_eq] at hq
      have h4 : (xs.map convPiece).length ≤ 4 := by omega
      rw [hb] at hp hi0
      refine turn_law xs h ((xs.map convPiece).map turnP) true (by rw [List.length_map]; omega) ?_ ?_
      · unfold spec_TurnPieces.f
        have h3 := turn_spec (xs.map convPiece) h4 _ 0 [] rfl (Nat.zero_le _) (Nat.zero_le _)
        rw [List.drop_zero, List.nil_append] at h3
        exact Ev.bind hp (ev_pos rfl h3)
      · unfold impl_TurnPieces.f
        rw [hi0, Option.bind_some, if_pos rfl, if_pos h4]
  · unfold laws_FnExactTurnPieces.f
    rw [szPiece_is xs hl, if_neg h]
    exact ev_some (ev_pos (by omega) (Ev.now _))

end Go.Proofs.Ytfpgnnllohhmfaa.Pure

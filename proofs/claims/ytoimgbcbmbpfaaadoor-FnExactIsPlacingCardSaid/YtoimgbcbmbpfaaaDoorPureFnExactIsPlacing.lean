/- For every text and row: the program's IsPlacing and the reference's return the same and change no argument. Condition: what the law itself lets in (at most 1048576 bytes and numbers). -/
import Derived.Test.YtoimgbcbmbpfaaaDoorQ0
import Derived.Test.YtoimgbcbmbpfaaaDoorQ1
import Derived.Test.YtoimgbcbmbpfaaaDoorQ2
import Derived.Test.YtoimgbcbmbpfaaaDoorQ3
import Derived.Shelf.Strings.SlTrimAscii
namespace Go.Proofs.YtoimgbcbmbpfaaaDoor.Pure
open Go.RowKit Go.Proofs.YtoimgbcbmbpfaaaDoor.Q Go.Proofs.YtoimgbcbmbpfaaaDoorW.PrintWords Go.Proofs.YtoimgbcbmbpfaaaDoorW.PrintLast Go.Proofs.YtoimgbcbmbpfaaaDoorW.PrintMore
set_option linter.unusedVariables false
set_option linter.unusedSimpArgs false
theorem ev_pos {α : Type} {c : Prop} [Decidable c] {g f : Nat → Option α} {r : α} (hc : c) (h : Ev g r) : Ev (fun k => if c then g k else f k) r := Ev.congr (fun _ => if_pos hc) h
theorem ev_neg {α : Type} {c : Prop} [Decidable c] {g f : Nat → Option α} {r : α} (hc : ¬ c) (h : Ev f r) : Ev (fun k => if c then g k else f k) r := Ev.congr (fun _ => if_neg hc) h
theorem ev_some {α β : Type} {a : α} {f : Nat → α → Option β} {r : β} (h : Ev (fun n => f n a) r) : Ev (fun n => (some a).bind (f n)) r := Ev.bind (Ev.now a) h
theorem ev_ret {α : Type} {g : Nat → Option α} {r : α} (h : Ev g r) : Ev (fun n => (g n).bind fun t => some t) r := Ev.bind h (Ev.now r)
theorem ev_at {α : Type} {g : Nat → Option α} {r : α} (K : Nat) (h : ∀ k, g (k + K) = some r) : Ev g r := ⟨K, fun n hn => by obtain ⟨m, rfl⟩ : ∃ m, n = m + K := ⟨n - K, by omega⟩; exact h m⟩
theorem w64 {i : Int} (h0 : -9223372036854775808 ≤ i) (h1 : i ≤ 9223372036854775807) : wrap64 i = i := by
  unfold wrap64
  omega
theorem bne_self (b : Bool) : (b != b) = false := by cases b <;> rfl
theorem cons_drop {α : Type} (xs : List α) (i : Nat) (h : i < xs.length) : xs.drop i = xs[i] :: xs.drop (i + 1) := List.drop_eq_getElem_cons h
/-- a loop over the indexes of a list: what holds of one round holds of all -/
theorem ev_for {β ρ : Type} (n : Nat) (l : Nat → β → Int → Option ρ) (st : Nat → β) (r : ρ) (hstep : ∀ i, i < n → ∀ k, l (k + 1) (st i) (i : Int) = l k (st (i + 1)) ((i : Int) + 1)) (hend : ∀ k, l (k + 1) (st n) (n : Int) = some r) : ∀ i, i ≤ n → Ev (fun k => l k (st i) (i : Int)) r := by
  intro i hi
  obtain ⟨d, hd⟩ : ∃ d, n - i = d := ⟨_, rfl⟩
  induction d generalizing i with
  | zero =>
    obtain rfl : i = n := by omega
    exact ev_at 1 hend
  | succ d ih =>
    refine Ev.step (f := fun k => l k (st (i + 1)) ((i : Int) + 1)) (fun k => hstep i (by omega) k) ?_
    have := ih (i + 1) (by omega) (by omega)
    rwa [show ((i + 1 : Nat) : Int) = (i : Int) + 1 from by omega] at this

theorem len_list (s : ByteArray) : s.data.toList.length = s.size := rfl
theorem bt_list (s : ByteArray) (i : Nat) (h : i < s.data.toList.length) : bt s (i : Int) = ((s.data.toList[i]'h).toNat : Int) := by
  have h2 : i < s.size := h
  have e : (i : Int).toNat = i := Int.toNat_natCast i
  unfold bt
  rw [dif_pos (by rw [e]; exact h2)]
  simp only [e]
  rfl
theorem u8_lt (c : UInt8) : c.toNat < 256 := c.toNat_lt
theorem str_eq (a b : ByteArray) : (a.toList == b.toList) = decide (a = b) := by
  rw [Lib.toList_data, Lib.toList_data]
  by_cases h : a = b
  · subst h; simp
  · rw [decide_eq_false h]
    rw [beq_eq_false_iff_ne]
    intro e
    apply h
    cases a; cases b
    simp at e
    simp [e]

theorem all_of_drop {α : Type} (p : α → Bool) : ∀ m : List α, (m.dropWhile p).all p = true → m.all p = true
  | [], _ => rfl
  | a :: m, h => by
    cases hp : p a with
    | true =>
      rw [List.dropWhile_cons, if_pos hp] at h
      rw [List.all_cons, hp, all_of_drop p m h]
      rfl
    | false =>
      simp [List.dropWhile_cons, hp] at h
theorem drop_all {α : Type} (p : α → Bool) : ∀ m : List α, m.all p = true → m.dropWhile p = []
  | [], _ => rfl
  | a :: m, h => by
    rw [List.all_cons, Bool.and_eq_true] at h
    rw [List.dropWhile_cons, if_pos h.1, drop_all p m h.2]
theorem trim_nil (l cs : List UInt8) : (Lib.trimS l cs == []) = l.all (cs.contains ·) := by
  unfold Lib.trimS Lib.trimLeftS Lib.trimRightS
  cases h : l.all (cs.contains ·) with
  | true =>
    rw [drop_all (cs.contains ·) l.reverse (by rw [List.all_reverse]; exact h)]
    rfl
  | false =>
    rw [beq_eq_false_iff_ne]
    intro e
    have h1 : ((l.reverse.dropWhile (cs.contains ·)).reverse).all (cs.contains ·) = true := all_of_drop _ _ (by rw [e]; rfl)
    rw [List.all_reverse] at h1
    have h2 := all_of_drop _ _ h1
    rw [List.all_reverse, h] at h2
    exact absurd h2 (by decide)

def inB (lo hi a : Int) : Bool := decide (lo ≤ a) && decide (a ≤ hi)
theorem inB_iff (lo hi a : Int) : inB lo hi a = true ↔ lo ≤ a ∧ a ≤ hi := by simp [inB]
theorem in_is (a lo hi : Int) : spec_l1In.f a lo hi = some (inB lo hi a) := by
  unfold spec_l1In.f inB
  by_cases h : lo ≤ a
  · rw [if_pos h, decide_eq_true h, Bool.true_and]
  · rw [if_neg h, decide_eq_false h, Bool.false_and]

def isDig (c : UInt8) : Bool := decide (49 ≤ c.toNat) && decide (c.toNat ≤ 57)
def loadB (s : ByteArray) : Bool := decide (s.size ≤ 12) && s.data.toList.all isDig
theorem dig_in (c : UInt8) : inB 1 9 (wrap64 (wrap64 (c.toNat : Int) - 48)) = isDig c := by
  have := u8_lt c
  rw [w64 (i := (c.toNat : Int)) (by omega) (by omega), w64 (by omega) (by omega)]
  unfold inB isDig
  rw [Bool.eq_iff_iff]
  simp only [Bool.and_eq_true, decide_eq_true_eq]
  omega
theorem dig_contains (c : UInt8) : [49, 50, 51, 52, 53, 54, 55, 56, 57].contains c = isDig c := by
  unfold isDig
  rw [Bool.eq_iff_iff]
  simp only [List.contains_cons, List.contains_nil, Bool.or_false, Bool.or_eq_true, beq_iff_eq, Bool.and_eq_true, decide_eq_true_eq, ← UInt8.toNat_inj]
  simp
  omega
theorem good_l0 (s : ByteArray) (hn : s.size ≤ 1048576) (d : Nat) : ∀ i : Nat, s.size - i = d → i ≤ s.size →
    Ev (fun k => spec_ldGood.l0 k s (i : Int)) ((s.data.toList.drop i).all isDig) := by
  induction d with
  | zero =>
    intro i hd hle
    obtain rfl : i = s.size := by omega
    rw [← len_list, List.drop_length]
    exact ev_at 1 (fun k => by simp only [spec_ldGood.l0]; rw [len_list, if_neg (by omega)]; rfl)
  | succ d ih =>
    intro i hd hle
    have hlt : i < s.size := by omega
    have hl : i < s.data.toList.length := hlt
    rw [cons_drop s.data.toList i hl, List.all_cons]
    cases hb : isDig s.data.toList[i] with
    | true =>
      refine Ev.step (f := fun k => spec_ldGood.l0 k s ((i + 1 : Nat) : Int)) (fun k => ?_) (ih (i + 1) (by omega) (by omega))
      simp only [spec_ldGood.l0]
      rw [if_pos (by omega), if_pos (by omega), bt_list s i hl, in_is, dig_in, hb, w64 (by omega) (by omega)]
      rfl
    | false =>
      refine ev_at 1 (fun k => ?_)
      simp only [spec_ldGood.l0]
      rw [if_pos (by omega), if_pos (by omega), bt_list s i hl, in_is, dig_in, hb]
      rfl
theorem ldGood_is (s : ByteArray) (hn : s.size ≤ 1048576) : Ev (fun k => spec_ldGood.f k s) (loadB s) := by
  unfold spec_ldGood.f loadB
  by_cases h : s.size ≤ 12
  · rw [decide_eq_true h, Bool.true_and]
    exact ev_neg (by omega) (by simpa using good_l0 s hn _ 0 rfl (Nat.zero_le _))
  · rw [decide_eq_false h, Bool.false_and]
    exact ev_pos (by omega) (Ev.now _)
theorem isLoading_is (s : ByteArray) (hn : s.size ≤ 1048576) : impl_IsLoading.f s = some (loadB s) := by
  unfold impl_IsLoading.f loadB strings_Trim.f
  by_cases h : s.size ≤ 12
  · rw [if_pos (by omega), if_pos ⟨by omega, by decide, by decide⟩, Option.bind_some, decide_eq_true h, Bool.true_and, Lib.toList_data]
    show some (Lib.trimS s.data.toList [49, 50, 51, 52, 53, 54, 55, 56, 57] == []) = _
    rw [trim_nil]
    congr 2
    funext c
    exact dig_contains c
  · rw [if_neg (by omega), decide_eq_false h, Bool.false_and]

def ixF (x : Int) : List Int → Int → Int
  | [], _ => -1
  | y :: ys, i => if x = y then i else ixF x ys (i + 1)
theorem ixF_range (x : Int) (ys : List Int) : ∀ i : Int, 0 ≤ i → ixF x ys i = -1 ∨ (i ≤ ixF x ys i ∧ ixF x ys i < i + ys.length) := by
  induction ys with
  | nil => intro i _; exact .inl rfl
  | cons y ys ih =>
    intro i hi
    unfold ixF
    rw [List.length_cons]
    by_cases h : x = y
    · rw [if_pos h]; right; omega
    · rw [if_neg h]
      rcases ih (i + 1) (by omega) with h1 | h1
      · exact .inl h1
      · right; omega
theorem ixF_snoc (x : Int) (ys : List Int) : ∀ i : Int, 0 ≤ i → ixF x ys i = -1 → ixF x (ys ++ [x]) i = i + ys.length := by
  induction ys with
  | nil =>
    intro i _ _
    show ixF x [x] i = i + (([] : List Int).length : Int)
    unfold ixF
    rw [if_pos rfl]
    simp
  | cons y ys ih =>
    intro i hi h
    unfold ixF at h
    by_cases e : x = y
    · rw [if_pos e] at h; omega
    · rw [if_neg e] at h
      rw [List.cons_append]
      unfold ixF
      rw [if_neg e, ih (i + 1) (by omega) h, List.length_cons]
      omega
theorem index_l0 (xs : List Int) (x : Int) (hn : xs.length ≤ 1000000) (d : Nat) : ∀ i : Nat, xs.length - i = d → i ≤ xs.length →
    Ev (fun k => slices_Index_int_int.l0 k xs x (xs.length : Int) (i : Int)) (ixF x (xs.drop i) (i : Int)) := by
  induction d with
  | zero =>
    intro i hd hi
    obtain rfl : i = xs.length := by omega
    rw [List.drop_length]
    refine ev_at 1 (fun k => ?_)
    simp only [slices_Index_int_int.l0]
    rw [if_neg (by omega)]
    rfl
  | succ d ih =>
    intro i hd hi
    have hlt : i < xs.length := by omega
    have hr : rd xs (i : Int) = xs[i] := by simp [rd, hlt]
    rw [cons_drop xs i hlt]
    unfold ixF
    by_cases e : x = xs[i]
    · rw [if_pos e]
      refine ev_at 1 (fun k => ?_)
      simp only [slices_Index_int_int.l0]
      rw [if_pos (by omega), if_pos (by omega), if_pos (by omega), hr, if_pos e]
    · rw [if_neg e]
      refine Ev.step (f := fun k => slices_Index_int_int.l0 k xs x (xs.length : Int) ((i + 1 : Nat) : Int)) (fun k => ?_) (by have := ih (i + 1) (by omega) (by omega); rwa [show ((i + 1 : Nat) : Int) = (i : Int) + 1 from by omega] at this ⊢)
      simp only [slices_Index_int_int.l0]
      rw [if_pos (by omega), if_pos (by omega), if_pos (by omega), hr, if_neg e, w64 (by omega) (by omega)]
      rfl
theorem index_is (xs : List Int) (x : Int) (hn : xs.length ≤ 1000000) : Ev (fun k => slices_Index_int_int.f k xs x) (ixF x xs 0) := by
  have := index_l0 xs x hn _ 0 rfl (Nat.zero_le _)
  simpa [slices_Index_int_int.f] using this
theorem containsI_is (xs : List Int) (x : Int) (hn : xs.length ≤ 1000000) : Ev (fun k => slices_Contains_int_int.f k xs x) (decide (ixF x xs 0 ≥ 0)) := by
  unfold slices_Contains_int_int.f
  exact Ev.bind (index_is xs x hn) (Ev.now _)
def namedL : List Int → List Int → List Int
  | _, [] => []
  | seen, x :: xs => if ixF x seen 0 ≥ 0 then ixF x seen 0 :: namedL seen xs else ixF x (seen ++ [x]) 0 :: namedL (seen ++ [x]) xs
theorem named_l0 (xs : List Int) (hn : xs.length ≤ 1000) (d : Nat) : ∀ (i : Nat) (res seen : List Int), xs.length - i = d → i ≤ xs.length → res.length ≤ i → seen.length ≤ i →
    Ev (fun k => impl_named.l0 k res seen xs (xs.length : Int) (i : Int)) (res ++ namedL seen (xs.drop i)) := by
  induction d with
  | zero =>
    intro i res seen hd hi _ _
    obtain rfl : i = xs.length := by omega
    rw [List.drop_length, namedL, List.append_nil]
    refine ev_at 1 (fun k => ?_)
    simp only [impl_named.l0]
    rw [if_neg (by omega)]
  | succ d ih =>
    intro i res seen hd hi h1 h2
    have hlt : i < xs.length := by omega
    have hr : rd xs (i : Int) = xs[i] := by simp [rd, hlt]
    rw [cons_drop xs i hlt, namedL]
    refine Ev.step (f := fun k => (slices_Contains_int_int.f k seen xs[i]).bind fun t131 => (if t131 = true then ((slices_Index_int_int.f k seen xs[i]).bind fun t132 => (if res.length < 17592186044416 then (impl_named.l0 k (res ++ [t132]) seen xs (xs.length : Int) (wrap64 ((i : Int) + 1))) else (none))) else (if seen.length < 17592186044416 then ((some (seen ++ [xs[i]] : List Int)).bind fun y136 => ((slices_Index_int_int.f k y136 xs[i]).bind fun t139 => (if res.length < 17592186044416 then (impl_named.l0 k (res ++ [t139]) y136 xs (xs.length : Int) (wrap64 ((i : Int) + 1))) else (none)))) else (none)))) (fun k => ?_) ?_
    · simp only [impl_named.l0]
      rw [if_pos (by omega), if_pos (by omega), if_pos (by omega), hr]
    · refine Ev.bind (containsI_is seen xs[i] (by omega)) ?_
      rw [w64 (by omega) (by omega), show (i : Int) + 1 = ((i + 1 : Nat) : Int) by omega]
      by_cases hc : ixF xs[i] seen 0 ≥ 0
      · rw [if_pos hc]
        refine ev_pos (decide_eq_true hc) (Ev.bind (index_is seen xs[i] (by omega)) (ev_pos (by omega) ?_))
        have := ih (i + 1) (res ++ [ixF xs[i] seen 0]) seen (by omega) (by omega) (by simp; omega) (by omega)
        rwa [List.append_assoc, List.singleton_append] at this
      · rw [if_neg hc]
        refine ev_neg (by simpa using hc) (ev_pos (by omega) (ev_some (Ev.bind (index_is (seen ++ [xs[i]]) xs[i] (by simp; omega)) (ev_pos (by omega) ?_))))
        have := ih (i + 1) (res ++ [ixF xs[i] (seen ++ [xs[i]]) 0]) (seen ++ [xs[i]]) (by omega) (by omega) (by simp; omega) (by simp; omega)
        rwa [List.append_assoc, List.singleton_append] at this
theorem named_is (xs : List Int) (hn : xs.length ≤ 1000) : Ev (fun k => impl_named.f k xs) (namedL [] xs) := by
  have := named_l0 xs hn _ 0 [] [] rfl (Nat.zero_le _) (Nat.le_refl _) (Nat.le_refl _)
  simpa [impl_named.f] using this
theorem namedL_len (xs : List Int) : ∀ seen, (namedL seen xs).length = xs.length := by
  induction xs with
  | nil => intro seen; rfl
  | cons x xs ih =>
    intro seen
    rw [namedL]
    split
    · rw [List.length_cons, ih, List.length_cons]
    · rw [List.length_cons, ih, List.length_cons]
theorem equalI_l0 (xs ys : List Int) (hl : xs.length = ys.length) (hn : xs.length ≤ 1000000) (d : Nat) : ∀ i : Nat, xs.length - i = d → i ≤ xs.length →
    Ev (fun k => slices_Equal_int_int.l0 k xs ys (xs.length : Int) (i : Int)) (decide (xs.drop i = ys.drop i)) := by
  induction d with
  | zero =>
    intro i hd hi
    obtain rfl : i = xs.length := by omega
    refine ev_at 1 (fun k => ?_)
    simp only [slices_Equal_int_int.l0]
    rw [if_neg (by omega), List.drop_length, hl, List.drop_length]
    rfl
  | succ d ih =>
    intro i hd hi
    have hlt : i < xs.length := by omega
    have hlt2 : i < ys.length := by omega
    have hr : rd xs (i : Int) = xs[i] := by simp [rd, hlt]
    have hr2 : rd ys (i : Int) = ys[i] := by simp [rd, hlt2]
    rw [cons_drop xs i hlt, cons_drop ys i hlt2]
    by_cases e : xs[i] = ys[i]
    · have hd2 : decide (xs[i] :: xs.drop (i + 1) = ys[i] :: ys.drop (i + 1)) = decide (xs.drop (i + 1) = ys.drop (i + 1)) := decide_eq_decide.mpr ⟨fun h => (List.cons.inj h).2, fun h => by rw [e, h]⟩
      rw [hd2]
      refine Ev.step (f := fun k => slices_Equal_int_int.l0 k xs ys (xs.length : Int) ((i + 1 : Nat) : Int)) (fun k => ?_) (ih (i + 1) (by omega) (by omega))
      simp only [slices_Equal_int_int.l0]
      rw [if_pos (by omega), if_pos (by omega), if_pos (by omega), if_pos (by omega), hr, hr2, if_pos e, w64 (by omega) (by omega)]
      rfl
    · refine ev_at 1 (fun k => ?_)
      simp only [slices_Equal_int_int.l0]
      rw [if_pos (by omega), if_pos (by omega), if_pos (by omega), if_pos (by omega), hr, hr2, if_neg e, decide_eq_false (fun h => e (List.cons.inj h).1)]
theorem equalI_is (xs ys : List Int) (hl : xs.length = ys.length) (hn : xs.length ≤ 1000000) : Ev (fun k => slices_Equal_int_int.f k xs ys) (decide (xs = ys)) := by
  have := equalI_l0 xs ys hl hn _ 0 rfl (Nat.zero_le _)
  unfold slices_Equal_int_int.f
  exact ev_pos (by omega) (by simpa using this)
def upFrom (a : Nat) : Nat → List Int
  | 0 => []
  | m + 1 => (a : Int) :: upFrom (a + 1) m
theorem upFrom_len (m : Nat) : ∀ a, (upFrom a m).length = m := by
  induction m with
  | zero => intro a; rfl
  | succ m ih => intro a; rw [upFrom, List.length_cons, ih]
theorem upFrom_snoc (m : Nat) : ∀ a, upFrom a (m + 1) = upFrom a m ++ [((a + m : Nat) : Int)] := by
  induction m with
  | zero => intro a; rfl
  | succ m ih =>
    intro a
    rw [upFrom, ih (a + 1), upFrom, List.cons_append, show a + 1 + m = a + (m + 1) by omega]
theorem upFrom_ix (x : Int) (m : Nat) : ∀ a : Nat, ixF x (upFrom a m) (a : Int) = if (a : Int) ≤ x ∧ x < a + m then x else -1 := by
  induction m with
  | zero =>
    intro a
    rw [if_neg (by omega)]
    rfl
  | succ m ih =>
    intro a
    rw [upFrom, ixF]
    by_cases h : x = (a : Int)
    · rw [if_pos h, if_pos (by omega), h]
    · rw [if_neg h, show (a : Int) + 1 = ((a + 1 : Nat) : Int) by omega, ih (a + 1)]
      by_cases h2 : ((a + 1 : Nat) : Int) ≤ x ∧ x < ((a + 1 : Nat) : Int) + m
      · rw [if_pos h2, if_pos (by omega)]
      · rw [if_neg h2, if_neg (by omega)]
def rgL (m : Nat) : List Int → Bool
  | [] => true
  | x :: xs => decide (0 ≤ x ∧ x ≤ m) && rgL (if x = m then m + 1 else m) xs
theorem named_rg (xs : List Int) : ∀ m : Nat, decide (namedL (upFrom 0 m) xs = xs) = rgL m xs := by
  induction xs with
  | nil => intro m; rfl
  | cons x xs ih =>
    intro m
    rw [namedL, rgL]
    have hix := upFrom_ix x m 0
    rw [show ((0 : Nat) : Int) = 0 from rfl] at hix
    by_cases h : (0 : Int) ≤ x ∧ x < 0 + m
    · rw [if_pos h] at hix
      rw [hix, if_pos (by omega), if_neg (by omega), decide_eq_true (p := 0 ≤ x ∧ x ≤ (m : Int)) (by omega), Bool.true_and, ← ih m]
      simp
    · rw [if_neg h] at hix
      rw [hix, if_neg (by omega), ixF_snoc x _ 0 (by omega) hix, upFrom_len]
      by_cases e : x = (m : Int)
      · have h3 : upFrom 0 m ++ [x] = upFrom 0 (m + 1) := by rw [upFrom_snoc, e, Nat.zero_add]
        rw [if_pos e, h3, decide_eq_true (p := 0 ≤ x ∧ x ≤ (m : Int)) (by omega), Bool.true_and, ← ih (m + 1), show (0 : Int) + (m : Int) = x by omega]
        simp
      · rw [decide_eq_false (p := 0 ≤ x ∧ x ≤ (m : Int)) (by omega), Bool.false_and, decide_eq_false]
        intro hh
        have := (List.cons.inj hh).1
        omega
theorem rg_bound (xs : List Int) : ∀ m : Nat, rgL m xs = true → ∀ x ∈ xs, 0 ≤ x ∧ x ≤ m + xs.length := by
  induction xs with
  | nil => intro m _ x hx; cases hx
  | cons y ys ih =>
    intro m h x hx
    rw [rgL, Bool.and_eq_true, decide_eq_true_eq] at h
    rw [List.length_cons]
    rcases List.mem_cons.mp hx with rfl | hx
    · omega
    · have := ih _ h.2 x hx
      split at this <;> omega

def tab {α : Type} (n : Nat) (f : Nat → α) : List α := (List.range n).map f
theorem tab_len {α : Type} (n : Nat) (f : Nat → α) : (tab n f).length = n := by simp [tab]
theorem tab_rep {α : Type} (n : Nat) (x : α) : List.replicate n x = tab n (fun _ => x) := by simp [tab, List.map_const']
theorem tab_get {α : Type} (n : Nat) (f : Nat → α) (i : Nat) (h : i < n) (z : α) : (tab n f).getD i z = f i := by simp [tab, h]
theorem rd_tab (n : Nat) (f : Nat → Int) (i : Nat) (h : i < n) : rd (tab n f) (i : Int) = f i := by simp [rd, tab, h]
theorem tab_ext {α : Type} (n : Nat) (f g : Nat → α) (h : ∀ j, j < n → f j = g j) : tab n f = tab n g := by
  unfold tab
  exact List.map_congr_left (fun j hj => h j (List.mem_range.1 hj))
theorem tab_set {α : Type} (n : Nat) (f g : Nat → α) (i : Nat) (x : α) (hx : i < n → g i = x) (ho : ∀ j, j < n → j ≠ i → f j = g j) : (tab n f).set i x = tab n g := by
  apply List.ext_getElem
  · simp [tab]
  · intro j h1 h2
    have hj' : j < n := by simpa [tab] using h1
    rw [List.getElem_set]
    by_cases hj : i = j
    · subst hj
      rw [if_pos rfl]
      simp [tab, hx hj']
    · rw [if_neg hj]
      simp [tab, ho j hj' (fun h => hj h.symm)]

theorem toIntS_l0 (xs : List Int) (hn : xs.length ≤ 1048577) (d : Nat) : ∀ i : Nat, xs.length - i = d → i ≤ xs.length →
    Ev (fun k => laws_toIntS.l0 k xs (tab xs.length fun j => if j < i then xs.getD j 0 else 0) (i : Int)) xs := by
  induction d with
  | zero =>
    intro i hd hle
    obtain rfl : i = xs.length := by omega
    refine ev_at 1 (fun k => ?_)
    simp only [laws_toIntS.l0]
    rw [if_neg (by omega)]
    congr 1
    apply List.ext_getElem
    · simp [tab]
    · intro j h1 h2
      simp [tab, h2]
  | succ d ih =>
    intro i hd hle
    refine Ev.step (f := fun k => laws_toIntS.l0 k xs (tab xs.length fun j => if j < i + 1 then xs.getD j 0 else 0) ((i + 1 : Nat) : Int)) (fun k => ?_) (ih (i + 1) (by omega) (by omega))
    simp only [laws_toIntS.l0]
    rw [if_pos (by omega), if_pos (by omega), if_pos (by rw [tab_len]; omega), w64 (by omega) (by omega), Int.toNat_natCast, tab_set _ _ (fun j => if j < i + 1 then xs.getD j 0 else 0) _ _ (fun _ => by rw [if_pos (by omega)]; simp [rd]) (fun j _ hj => by
      by_cases h : j < i
      · rw [if_pos h, if_pos (by omega)]
      · rw [if_neg h, if_neg (by omega)])]
    rfl
theorem toIntS_is (xs : List Int) (hn : xs.length ≤ 1048577) : Ev (fun k => laws_toIntS.f k xs) xs := by
  unfold laws_toIntS.f
  refine ev_pos (by omega) (ev_pos (by rw [Int.toNat_natCast]; omega) ?_)
  have := toIntS_l0 xs hn _ 0 rfl (Nat.zero_le _)
  simpa [tab_rep] using this

theorem eqIntS_l0 (xs : List Int) (hn : xs.length ≤ 1048577) (d : Nat) : ∀ i : Nat, xs.length - i = d → Ev (fun k => laws_eqIntS.l0 k xs xs (i : Int)) true := by
  induction d with
  | zero =>
    intro i hi
    refine ev_at 1 (fun k => ?_)
    simp only [laws_eqIntS.l0]
    rw [if_neg (by omega)]
  | succ d ih =>
    intro i hi
    refine Ev.step (f := fun k => laws_eqIntS.l0 k xs xs ((i + 1 : Nat) : Int)) (fun k => ?_) (ih (i + 1) (by omega))
    simp only [laws_eqIntS.l0]
    rw [if_pos (by omega), if_pos (by omega), if_pos (by omega), if_pos True.intro, w64 (by omega) (by omega)]
    rfl
theorem eqIntS_is (xs : List Int) (hn : xs.length ≤ 1048577) : Ev (fun k => laws_eqIntS.f k xs xs) true := by
  unfold laws_eqIntS.f
  exact ev_pos rfl (eqIntS_l0 xs hn _ 0 rfl)

def tpG : List Int → List Int → List UInt8 → Bool
  | ts, x :: xs, c :: cs => if 0 ≤ x ∧ x ≤ ts.length then (if (if x = ts.length then ts ++ [57] else ts).getD x.toNat 0 < (c.toNat : Int) then false else tpG ((if x = ts.length then ts ++ [57] else ts).set x.toNat (c.toNat : Int)) xs cs) else false
  | _, _, _ => true
theorem tp_l0 (s : ByteArray) (xs : List Int) (hl : xs.length = s.size) (hn : s.size ≤ 12) (d : Nat) : ∀ (i : Nat) (ts : List Int), xs.length - i = d → i ≤ xs.length → ts.length ≤ i →
    Ev (fun k => spec_IsPlacing.l0 k s ts xs (xs.length : Int) (i : Int)) (tpG ts (xs.drop i) (s.data.toList.drop i), true) := by
  induction d with
  | zero =>
    intro i ts hd hi _
    obtain rfl : i = xs.length := by omega
    rw [List.drop_length]
    refine ev_at 1 (fun k => ?_)
    simp only [spec_IsPlacing.l0]
    rw [if_neg (by omega)]
    rfl
  | succ d ih =>
    intro i ts hd hi ht
    have hlt : i < xs.length := by omega
    have hs : i < s.data.toList.length := by rw [len_list]; omega
    have hr : rd xs (i : Int) = xs[i] := by simp [rd, hlt]
    rw [cons_drop xs i hlt, cons_drop s.data.toList i hs, tpG]
    by_cases hx : 0 ≤ xs[i] ∧ xs[i] ≤ (ts.length : Int)
    · rw [if_pos hx]
      by_cases e : xs[i] = (ts.length : Int)
      · rw [if_pos e]
        by_cases hlow : (ts ++ [57]).getD xs[i].toNat 0 < (s.data.toList[i].toNat : Int)
        · rw [if_pos hlow]
          refine ev_at 1 (fun k => ?_)
          simp only [spec_IsPlacing.l0]
          rw [if_pos (by omega), if_pos (by omega), if_pos (by omega), hr, in_is, (inB_iff _ _ _).mpr hx, Option.bind_some, if_pos rfl, if_pos e, if_pos (by omega), Option.bind_some, if_pos (by omega), if_pos (by first | omega | (simp; omega)), if_pos (by omega), bt_list s i hs, if_pos (by exact hlow)]
        · rw [if_neg hlow]
          refine Ev.step (f := fun k => spec_IsPlacing.l0 k s ((ts ++ [57]).set xs[i].toNat (s.data.toList[i].toNat : Int)) xs (xs.length : Int) ((i + 1 : Nat) : Int)) (fun k => ?_) (ih (i + 1) ((ts ++ [57]).set xs[i].toNat (s.data.toList[i].toNat : Int)) (by omega) (by omega) (by simp; omega))
          simp only [spec_IsPlacing.l0]
          rw [if_pos (by omega), if_pos (by omega), if_pos (by omega), hr, in_is, (inB_iff _ _ _).mpr hx, Option.bind_some, if_pos rfl, if_pos e, if_pos (by omega), Option.bind_some, if_pos (by omega), if_pos (by first | omega | (simp; omega)), if_pos (by omega), bt_list s i hs, if_neg (by exact hlow), w64 (by omega) (by omega)]
          rfl
      · rw [if_neg e]
        by_cases hlow : ts.getD xs[i].toNat 0 < (s.data.toList[i].toNat : Int)
        · rw [if_pos hlow]
          refine ev_at 1 (fun k => ?_)
          simp only [spec_IsPlacing.l0]
          rw [if_pos (by omega), if_pos (by omega), if_pos (by omega), hr, in_is, (inB_iff _ _ _).mpr hx, Option.bind_some, if_pos rfl, if_neg e, if_pos (by omega), if_pos (by omega), if_pos (by omega), bt_list s i hs, if_pos (by exact hlow)]
        · rw [if_neg hlow]
          refine Ev.step (f := fun k => spec_IsPlacing.l0 k s (ts.set xs[i].toNat (s.data.toList[i].toNat : Int)) xs (xs.length : Int) ((i + 1 : Nat) : Int)) (fun k => ?_) (ih (i + 1) (ts.set xs[i].toNat (s.data.toList[i].toNat : Int)) (by omega) (by omega) (by simp; omega))
          simp only [spec_IsPlacing.l0]
          rw [if_pos (by omega), if_pos (by omega), if_pos (by omega), hr, in_is, (inB_iff _ _ _).mpr hx, Option.bind_some, if_pos rfl, if_neg e, if_pos (by omega), if_pos (by omega), if_pos (by omega), bt_list s i hs, if_neg (by exact hlow), w64 (by omega) (by omega)]
          rfl
    · rw [if_neg hx]
      have hb : inB 0 (ts.length : Int) xs[i] = false := by
        cases hq : inB 0 (ts.length : Int) xs[i] with
        | false => rfl
        | true => exact absurd ((inB_iff _ _ _).mp hq) hx
      refine ev_at 1 (fun k => ?_)
      simp only [spec_IsPlacing.l0]
      rw [if_pos (by omega), if_pos (by omega), if_pos (by omega), hr, in_is, hb, Option.bind_some, if_neg (by decide)]
theorem tp_pl (xs : List Int) : ∀ (cs : List UInt8) (ts : List Int) (f : Int → Option Int), xs.length = cs.length → (∀ c ∈ cs, c.toNat ≤ 57) → (∀ k : Int, f k = if 0 ≤ k then ts[k.toNat]? else none) → tpG ts xs cs = (rgL ts.length xs && plF xs cs f) := by
  induction xs with
  | nil => intro cs ts f _ _ _; simp [tpG, rgL, plF]
  | cons x xs ih =>
    intro cs ts f hl hc hf
    cases cs with
    | nil => simp at hl
    | cons c cs =>
      have hl2 : xs.length = cs.length := by simpa using hl
      have hc0 := hc c (List.mem_cons_self ..)
      have hc2 : ∀ y ∈ cs, y.toNat ≤ 57 := fun y hy => hc y (List.mem_cons_of_mem _ hy)
      rw [tpG, rgL, plF]
      by_cases hx : 0 ≤ x ∧ x ≤ (ts.length : Int)
      · rw [if_pos hx, decide_eq_true hx, Bool.true_and]
        by_cases e : x = (ts.length : Int)
        · have hfx : f x = none := by
            rw [hf, if_pos hx.1, List.getElem?_eq_none_iff]
            omega
          have hxt : x.toNat = ts.length := by omega
          rw [if_pos e, if_pos e, hfx, hxt, if_neg (by simp [List.getD]; omega), if_neg (by simp), ih cs _ (fun y => if y = x then some (c.toNat : Int) else f y) hl2 hc2, List.length_set, List.length_append, List.length_singleton]
          intro k
          by_cases hk : k = x
          · subst hk
            rw [if_pos rfl, if_pos hx.1, hxt]
            simp
          · rw [if_neg hk, hf]
            by_cases h0 : 0 ≤ k
            · rw [if_pos h0, if_pos h0, List.getElem?_set_ne (by omega)]
              by_cases h3 : k.toNat < ts.length
              · rw [List.getElem?_append_left h3]
              · rw [List.getElem?_eq_none (by omega), List.getElem?_eq_none (by simp; omega)]
            · rw [if_neg h0, if_neg h0]
        · have hlt : x.toNat < ts.length := by omega
          have hfx : f x = some ts[x.toNat] := by rw [hf, if_pos hx.1, List.getElem?_eq_getElem hlt]
          have hg : ts.getD x.toNat 0 = ts[x.toNat] := by simp [List.getD, hlt]
          rw [if_neg e, if_neg e, hfx, hg, Option.isSome_some, Option.getD_some]
          by_cases hlow : ts[x.toNat] < (c.toNat : Int)
          · rw [if_pos hlow, if_pos ⟨rfl, hlow⟩, Bool.and_false]
          · rw [if_neg hlow, if_neg (fun h => hlow h.2), ih cs _ (fun y => if y = x then some (c.toNat : Int) else f y) hl2 hc2, List.length_set]
            intro k
            by_cases hk : k = x
            · subst hk
              rw [if_pos rfl, if_pos hx.1]
              simp [hlt]
            · rw [if_neg hk, hf]
              by_cases h0 : 0 ≤ k
              · rw [if_pos h0, if_pos h0, List.getElem?_set_ne (by omega)]
              · rw [if_neg h0, if_neg h0]
      · rw [if_neg hx, decide_eq_false hx, Bool.false_and, Bool.false_and]
theorem FnExactIsPlacing : laws_FnExactIsPlacing.Pure := by
  intro s xs hs _ _ _
  refine Ev.rounds ?_
  unfold laws_FnExactIsPlacing.f
  by_cases h : s.size ≤ 1048576
  · by_cases h2 : xs.length ≤ 1048576
    · have key : ∃ r : Bool × Bool, Ev (fun k => spec_IsPlacing.f k s xs) r ∧ Ev (fun k => impl_IsPlacing.f k s xs) r := by
        cases hq : loadB s with
        | false =>
          refine ⟨(false, false), ?_, ?_⟩
          · unfold spec_IsPlacing.f
            exact Ev.bind (hq ▸ ldGood_is s h) (ev_neg (by decide) (Ev.now _))
          · unfold impl_IsPlacing.f
            rw [isLoading_is s h, hq]
            exact ev_some (ev_neg (by decide) (Ev.now _))
        | true =>
          have hq2 := hq
          unfold loadB at hq2
          rw [Bool.and_eq_true, decide_eq_true_eq, List.all_eq_true] at hq2
          by_cases hl : xs.length = s.size
          · have hd : ∀ c ∈ s.data.toList, c.toNat ≤ 57 := fun c hc => by
              have := hq2.2 c hc
              unfold isDig at this
              simp only [Bool.and_eq_true, decide_eq_true_eq] at this
              omega
            refine ⟨(tpG [] xs s.data.toList, true), ?_, ?_⟩
            · unfold spec_IsPlacing.f
              refine Ev.bind (hq ▸ ldGood_is s h) (ev_pos rfl (ev_pos (by omega) ?_))
              have := tp_l0 s xs hl hq2.1 _ 0 [] rfl (Nat.zero_le _) (Nat.le_refl _)
              simpa using this
            · have hrg := named_rg xs 0
              rw [show upFrom 0 0 = [] from rfl] at hrg
              rw [tp_pl xs s.data.toList [] (fun _ => none) (by rw [len_list]; exact hl) hd (fun k => by simp), List.length_nil, ← hrg]
              unfold impl_IsPlacing.f
              rw [isLoading_is s h, hq]
              refine ev_some (ev_pos rfl (ev_pos hl (Ev.bind (named_is xs (by omega)) (Ev.bind (equalI_is _ xs (namedL_len xs []) (by rw [namedL_len]; omega)) ?_))))
              cases hb : decide (namedL [] xs = xs) with
              | false => exact ev_neg (by decide) (Ev.now _)
              | true =>
                rw [hb] at hrg
                have hbd := rg_bound xs 0 hrg.symm
                refine ev_pos rfl (ev_pos ⟨hq2.1, ?_⟩ (Ev.now _))
                rw [List.all_eq_true]
                intro x hx
                have := hbd x hx
                simp only [Bool.and_eq_true, decide_eq_true_eq]
                omega
          · refine ⟨(false, true), ?_, ?_⟩
            · unfold spec_IsPlacing.f
              exact Ev.bind (hq ▸ ldGood_is s h) (ev_pos rfl (ev_neg (by omega) (Ev.now _)))
            · unfold impl_IsPlacing.f
              rw [isLoading_is s h, hq]
              exact ev_some (ev_pos rfl (ev_neg hl (Ev.now _)))
      obtain ⟨⟨r1, r2⟩, h3, h4⟩ := key
      refine ev_neg (by omega) (ev_neg (by omega) (Ev.bind (toIntS_is xs (by omega)) (Ev.bind h3 (Ev.bind (toIntS_is xs (by omega)) (Ev.bind h4 ?_)))))
      refine ev_neg (by simp) (ev_neg (by simp) (Ev.bind (toIntS_is xs (by omega)) (Ev.bind (eqIntS_is xs (by omega)) (ev_pos rfl (Ev.now _)))))
    · exact ev_neg (by omega) (ev_pos (by omega) (Ev.now _))
  · exact ev_pos (by omega) (Ev.now _)

end Go.Proofs.YtoimgbcbmbpfaaaDoor.Pure

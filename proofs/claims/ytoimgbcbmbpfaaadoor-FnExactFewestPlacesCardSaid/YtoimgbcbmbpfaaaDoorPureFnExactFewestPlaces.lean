/- For every text: the program's FewestPlaces and the reference's return the same. Condition: what the law itself lets in (at most 1048576 bytes). -/
import Derived.Test.YtoimgbcbmbpfaaaDoorM0
import Derived.Test.YtoimgbcbmbpfaaaDoorM1
import Derived.Shelf.Strings.SlTrimAscii
namespace Go.Proofs.YtoimgbcbmbpfaaaDoor.Pure
open Go.RowKit Go.Proofs.YtoimgbcbmbpfaaaDoor.M Go.Proofs.YtoimgbcbmbpfaaaDoorW.PrintWords Go.Proofs.YtoimgbcbmbpfaaaDoorW.PrintLast Go.Proofs.YtoimgbcbmbpfaaaDoorW.PrintMore
set_option linter.unusedVariables false
set_option linter.unusedSimpArgs false
theorem ev_pos {α : Type} {c : Prop} [Decidable c] {g f : Nat → Option α} {r : α} (hc : c) (h : Ev g r) : Ev (fun k => if c then g k else f k) r := Ev.congr (fun _ => if_pos hc) h
theorem ev_neg {α : Type} {c : Prop} [Decidable c] {g f : Nat → Option α} {r : α} (hc : ¬ c) (h : Ev f r) : Ev (fun k => if c then g k else f k) r := Ev.congr (fun _ => if_neg hc) h
theorem ev_some {α β : Type} {a : α} {f : Nat → α → Option β} {r : β} (h : Ev (fun n => f n a) r) : Ev (fun n => (some a).bind (f n)) r := Ev.bind (Ev.now a) h
theorem ev_ret {α : Type} {g : Nat → Option α} {r : α} (h : Ev g r) : Ev (fun n => (g n).bind fun t => some t) r := Ev.bind h (Ev.now r)
theorem ev_at {α : Type} {g : Nat → Option α} {r : α} (K : Nat) (h : ∀ k, g (k + K) = some r) : Ev g r := ⟨K, fun n hn => by obtain ⟨m, rfl⟩ : ∃ m, n = m + K := ⟨n - K, by omega⟩; exact h m⟩
theorem w64 {i : Int} (h0 : -9223372036854775808 ≤ i) (h1 : i ≤ 9223372036854775807) : wrap64 i = i := by
  unfold wrap64
  omega
theorem bne_self (b : Bool) : (b != b) = false := by cases b <;> rfl
theorem cons_drop {α : Type} (xs : List α) (i : Nat) (h : i < xs.length) : xs.drop i = xs[i] :: xs.drop (i + 1) := List.drop_eq_getElem_cons h
/-- a loop over the indexes of a list: what holds of one round holds of all -/
theorem ev_for {β ρ : Type} (n : Nat) (l : Nat → β → Int → Option ρ) (st : Nat → β) (r : ρ) (hstep : ∀ i, i < n → ∀ k, l (k + 1) (st i) (i : Int) = l k (st (i + 1)) ((i : Int) + 1)) (hend : ∀ k, l (k + 1) (st n) (n : Int) = some r) : ∀ i, i ≤ n → Ev (fun k => l k (st i) (i : Int)) r := by
  intro i hi
  obtain ⟨d, hd⟩ : ∃ d, n - i = d := ⟨_, rfl⟩
  induction d generalizing i with
  | zero =>
    obtain rfl : i = n := by omega
    exact ev_at 1 hend
  | succ d ih =>
    refine Ev.step (f := fun k => l k (st (i + 1)) ((i : Int) + 1)) (fun k => hstep i (by omega) k) ?_
    have := ih (i + 1) (by omega) (by omega)
    rwa [show ((i + 1 : Nat) : Int) = (i : Int) + 1 from by omega] at this

theorem len_list (s : ByteArray) : s.data.toList.length = s.size := rfl
theorem bt_list (s : ByteArray) (i : Nat) (h : i < s.data.toList.length) : bt s (i : Int) = ((s.data.toList[i]'h).toNat : Int) := by
  have h2 : i < s.size := h
  have e : (i : Int).toNat = i := Int.toNat_natCast i
  unfold bt
  rw [dif_pos (by rw [e]; exact h2)]
  simp only [e]
  rfl
theorem u8_lt (c : UInt8) : c.toNat < 256 := c.toNat_lt
theorem str_eq (a b : ByteArray) : (a.toList == b.toList) = decide (a = b) := by
  rw [Lib.toList_data, Lib.toList_data]
  by_cases h : a = b
  · subst h; simp
  · rw [decide_eq_false h]
    rw [beq_eq_false_iff_ne]
    intro e
    apply h
    cases a; cases b
    simp at e
    simp [e]

theorem all_of_drop {α : Type} (p : α → Bool) : ∀ m : List α, (m.dropWhile p).all p = true → m.all p = true
  | [], _ => rfl
  | a :: m, h => by
    cases hp : p a with
    | true =>
      rw [List.dropWhile_cons, if_pos hp] at h
      rw [List.all_cons, hp, all_of_drop p m h]
      rfl
    | false =>
      simp [List.dropWhile_cons, hp] at h
theorem drop_all {α : Type} (p : α → Bool) : ∀ m : List α, m.all p = true → m.dropWhile p = []
  | [], _ => rfl
  | a :: m, h => by
    rw [List.all_cons, Bool.and_eq_true] at h
    rw [List.dropWhile_cons, if_pos h.1, drop_all p m h.2]
theorem trim_nil (l cs : List UInt8) : (Lib.trimS l cs == []) = l.all (cs.contains ·) := by
  unfold Lib.trimS Lib.trimLeftS Lib.trimRightS
  cases h : l.all (cs.contains ·) with
  | true =>
    rw [drop_all (cs.contains ·) l.reverse (by rw [List.all_reverse]; exact h)]
    rfl
  | false =>
    rw [beq_eq_false_iff_ne]
    intro e
    have h1 : ((l.reverse.dropWhile (cs.contains ·)).reverse).all (cs.contains ·) = true := all_of_drop _ _ (by rw [e]; rfl)
    rw [List.all_reverse] at h1
    have h2 := all_of_drop _ _ h1
    rw [List.all_reverse, h] at h2
    exact absurd h2 (by decide)

def inB (lo hi a : Int) : Bool := decide (lo ≤ a) && decide (a ≤ hi)
theorem inB_iff (lo hi a : Int) : inB lo hi a = true ↔ lo ≤ a ∧ a ≤ hi := by simp [inB]
theorem in_is (a lo hi : Int) : spec_l1In.f a lo hi = some (inB lo hi a) := by
  unfold spec_l1In.f inB
  by_cases h : lo ≤ a
  · rw [if_pos h, decide_eq_true h, Bool.true_and]
  · rw [if_neg h, decide_eq_false h, Bool.false_and]

def isDig (c : UInt8) : Bool := decide (49 ≤ c.toNat) && decide (c.toNat ≤ 57)
def loadB (s : ByteArray) : Bool := decide (s.size ≤ 12) && s.data.toList.all isDig
theorem dig_in (c : UInt8) : inB 1 9 (wrap64 (wrap64 (c.toNat : Int) - 48)) = isDig c := by
  have := u8_lt c
  rw [w64 (i := (c.toNat : Int)) (by omega) (by omega), w64 (by omega) (by omega)]
  unfold inB isDig
  rw [Bool.eq_iff_iff]
  simp only [Bool.and_eq_true, decide_eq_true_eq]
  omega
theorem dig_contains (c : UInt8) : [49, 50, 51, 52, 53, 54, 55, 56, 57].contains c = isDig c := by
  unfold isDig
  rw [Bool.eq_iff_iff]
  simp only [List.contains_cons, List.contains_nil, Bool.or_false, Bool.or_eq_true, beq_iff_eq, Bool.and_eq_true, decide_eq_true_eq, ← UInt8.toNat_inj]
  simp
  omega
theorem good_l0 (s : ByteArray) (hn : s.size ≤ 1048576) (d : Nat) : ∀ i : Nat, s.size - i = d → i ≤ s.size →
    Ev (fun k => spec_ldGood.l0 k s (i : Int)) ((s.data.toList.drop i).all isDig) := by
  induction d with
  | zero =>
    intro i hd hle
    obtain rfl : i = s.size := by omega
    rw [← len_list, List.drop_length]
    exact ev_at 1 (fun k => by simp only [spec_ldGood.l0]; rw [len_list, if_neg (by omega)]; rfl)
  | succ d ih =>
    intro i hd hle
    have hlt : i < s.size := by omega
    have hl : i < s.data.toList.length := hlt
    rw [cons_drop s.data.toList i hl, List.all_cons]
    cases hb : isDig s.data.toList[i] with
    | true =>
      refine Ev.step (f := fun k => spec_ldGood.l0 k s ((i + 1 : Nat) : Int)) (fun k => ?_) (ih (i + 1) (by omega) (by omega))
      simp only [spec_ldGood.l0]
      rw [if_pos (by omega), if_pos (by omega), bt_list s i hl, in_is, dig_in, hb, w64 (by omega) (by omega)]
      rfl
    | false =>
      refine ev_at 1 (fun k => ?_)
      simp only [spec_ldGood.l0]
      rw [if_pos (by omega), if_pos (by omega), bt_list s i hl, in_is, dig_in, hb]
      rfl
theorem ldGood_is (s : ByteArray) (hn : s.size ≤ 1048576) : Ev (fun k => spec_ldGood.f k s) (loadB s) := by
  unfold spec_ldGood.f loadB
  by_cases h : s.size ≤ 12
  · rw [decide_eq_true h, Bool.true_and]
    exact ev_neg (by omega) (by simpa using good_l0 s hn _ 0 rfl (Nat.zero_le _))
  · rw [decide_eq_false h, Bool.false_and]
    exact ev_pos (by omega) (Ev.now _)
theorem isLoading_is (s : ByteArray) (hn : s.size ≤ 1048576) : impl_IsLoading.f s = some (loadB s) := by
  unfold impl_IsLoading.f loadB strings_Trim.f
  by_cases h : s.size ≤ 12
  · rw [if_pos (by omega), if_pos ⟨by omega, by decide, by decide⟩, Option.bind_some, decide_eq_true h, Bool.true_and, Lib.toList_data]
    show some (Lib.trimS s.data.toList [49, 50, 51, 52, 53, 54, 55, 56, 57] == []) = _
    rw [trim_nil]
    congr 2
    funext c
    exact dig_contains c
  · rw [if_neg (by omega), decide_eq_false h, Bool.false_and]

def mostL (xs : List Int) : Int := xs.foldl (fun m x => mx m (x + 1)) 0
theorem mostL_snoc (xs : List Int) (x : Int) : mostL (xs ++ [x]) = mx (mostL xs) (x + 1) := by
  unfold mostL
  rw [List.foldl_append]
  rfl
def PlInv (n : Nat) (p : List Int × List Int) : Prop := (∀ x ∈ p.1, 0 ≤ x ∧ x < n) ∧ mostL p.1 = (p.2.length : Int) ∧ p.1.length = n ∧ p.2.length ≤ n
theorem plInv_step (n : Nat) (p : List Int × List Int) (c : UInt8) (h : PlInv n p) : PlInv (n + 1) (plStep p c) := by
  obtain ⟨h1, h2, h3, h4⟩ := h
  obtain ⟨xs, ts⟩ := p
  simp only at h1 h2 h3 h4
  unfold plStep
  simp only
  by_cases hn : fIdx (c.toNat : Int) ts < 0
  · rw [if_pos hn]
    refine ⟨?_, ?_, by simp; omega, by simp; omega⟩
    · intro x hx
      rw [List.mem_append, List.mem_singleton] at hx
      rcases hx with hx | rfl
      · have := h1 x hx; omega
      · omega
    · simp only
      rw [mostL_snoc, h2, List.length_set, List.length_append, List.length_singleton]
      unfold mx
      rw [if_pos (by omega)]
      omega
  · rw [if_neg hn]
    have hr := fIdx_range (c.toNat : Int) ts
    refine ⟨?_, ?_, by simp; omega, by simp; omega⟩
    · intro x hx
      rw [List.mem_append, List.mem_singleton] at hx
      rcases hx with hx | rfl
      · have := h1 x hx; omega
      · omega
    · simp only
      rw [mostL_snoc, h2, List.length_set]
      unfold mx
      rw [if_neg (by omega)]
theorem plInv_all (l : List UInt8) : ∀ (n : Nat) (p : List Int × List Int), PlInv n p → PlInv (n + l.length) (l.foldl plStep p) := by
  induction l with
  | nil => intro n p h; exact h
  | cons c l ih =>
    intro n p h
    have := ih (n + 1) _ (plInv_step n p c h)
    rw [List.foldl_cons, List.length_cons, show n + (l.length + 1) = n + 1 + l.length by omega]
    exact this
theorem few_l0 (ok : Bool) (xs : List Int) (hx : ∀ x ∈ xs, 0 ≤ x ∧ x < 2000) (hl : xs.length ≤ 1000) (d : Nat) : ∀ i : Nat, xs.length - i = d → i ≤ xs.length →
    Ev (fun k => impl_FewestPlaces.l0 k ok (mostL (xs.take i)) xs (xs.length : Int) (i : Int)) (mostL xs, ok) := by
  induction d with
  | zero =>
    intro i hd hi
    obtain rfl : i = xs.length := by omega
    refine ev_at 1 (fun k => ?_)
    simp only [impl_FewestPlaces.l0]
    rw [if_neg (by omega), List.take_length]
  | succ d ih =>
    intro i hd hi
    have hlt : i < xs.length := by omega
    have hi2 := ih (i + 1) (by omega) (by omega)
    rw [List.take_add_one, List.getElem?_eq_getElem hlt, show (some xs[i]).toList = [xs[i]] from rfl, mostL_snoc] at hi2
    have hb := hx xs[i] (List.getElem_mem hlt)
    refine Ev.step (fun k => ?_) hi2
    simp only [impl_FewestPlaces.l0]
    rw [if_pos (by omega), if_pos (by omega), if_pos (by omega), show rd xs (i : Int) = xs[i] by simp [rd, hlt], w64 (i := xs[i] + 1) (by omega) (by omega), w64 (i := (i : Int) + 1) (by omega) (by omega)]
    rfl
theorem FnExactFewestPlaces : laws_FnExactFewestPlaces.Pure := by
  intro s hs
  refine Ev.rounds ?_
  unfold laws_FnExactFewestPlaces.f
  by_cases h : s.size ≤ 1048576
  · refine ev_neg (by omega) ?_
    have key : ∃ r : Int × Bool, Ev (fun k => spec_FewestPlaces.f k s) r ∧ Ev (fun k => impl_FewestPlaces.f k s) r := by
      cases hq : loadB s with
      | false =>
        refine ⟨(0, false), ?_, ?_⟩
        · unfold spec_FewestPlaces.f
          exact Ev.bind (hq ▸ ldGood_is s h) (ev_neg (by decide) (Ev.now _))
        · unfold impl_FewestPlaces.f impl_PlacesOfBoxes.f
          rw [isLoading_is s h, hq]
          exact Ev.bind (ev_some (ev_neg (by decide) (Ev.now ([], false)))) (few_l0 false [] (by simp) (by simp) 0 0 rfl (by simp))
      | true =>
        have hq2 := hq
        unfold loadB at hq2
        rw [Bool.and_eq_true, decide_eq_true_eq] at hq2
        have hv := plInv_all s.data.toList 0 ([], []) ⟨by simp, rfl, rfl, by simp⟩
        rw [len_list, Nat.zero_add] at hv
        obtain ⟨h1, h2, h3, h4⟩ := hv
        refine ⟨(((s.data.toList.foldl plStep ([], [])).2.length : Int), true), ?_, ?_⟩
        · unfold spec_FewestPlaces.f
          refine Ev.bind (hq ▸ ldGood_is s h) (ev_pos rfl ?_)
          unfold spec_ldPlaces.f
          rw [if_pos (by omega)]
          exact ev_some (Ev.now _)
        · unfold impl_FewestPlaces.f impl_PlacesOfBoxes.f
          rw [isLoading_is s h, hq]
          rw [← h2]
          exact Ev.bind (ev_some (ev_pos rfl (ev_pos (by omega) (Ev.now _)))) (few_l0 true (s.data.toList.foldl plStep ([], [])).1 (fun x hx => by have := h1 x hx; omega) (by omega) _ 0 rfl (Nat.zero_le _))
    obtain ⟨r, h1, h2⟩ := key
    exact Ev.bind h1 (Ev.bind h2 (ev_pos rfl (ev_neg (by simp) (Ev.now _))))
  · exact ev_pos (by omega) (Ev.now _)

end Go.Proofs.YtoimgbcbmbpfaaaDoor.Pure

/- For every text: the program's PlacesOfBoxes and the reference's return the same results, and the slice is new memory. Condition: what the law itself lets in (at most 1048576 bytes). -/
import Derived.Test.YtoimgbcbmbpfaaaDoorL0
import Derived.Test.YtoimgbcbmbpfaaaDoorL1
import Derived.Test.YtoimgbcbmbpfaaaDoorL2
import Derived.Shelf.Strings.SlTrimAscii
namespace Go.Proofs.YtoimgbcbmbpfaaaDoor.Pure
open Go.RowKit Go.Proofs.YtoimgbcbmbpfaaaDoor.L Go.Proofs.YtoimgbcbmbpfaaaDoorW.PrintWords Go.Proofs.YtoimgbcbmbpfaaaDoorW.PrintLast Go.Proofs.YtoimgbcbmbpfaaaDoorW.PrintMore
set_option linter.unusedVariables false
set_option linter.unusedSimpArgs false
theorem ev_pos {α : Type} {c : Prop} [Decidable c] {g f : Nat → Option α} {r : α} (hc : c) (h : Ev g r) : Ev (fun k => if c then g k else f k) r := Ev.congr (fun _ => if_pos hc) h
theorem ev_neg {α : Type} {c : Prop} [Decidable c] {g f : Nat → Option α} {r : α} (hc : ¬ c) (h : Ev f r) : Ev (fun k => if c then g k else f k) r := Ev.congr (fun _ => if_neg hc) h
theorem ev_some {α β : Type} {a : α} {f : Nat → α → Option β} {r : β} (h : Ev (fun n => f n a) r) : Ev (fun n => (some a).bind (f n)) r := Ev.bind (Ev.now a) h
theorem ev_ret {α : Type} {g : Nat → Option α} {r : α} (h : Ev g r) : Ev (fun n => (g n).bind fun t => some t) r := Ev.bind h (Ev.now r)
theorem ev_at {α : Type} {g : Nat → Option α} {r : α} (K : Nat) (h : ∀ k, g (k + K) = some r) : Ev g r := ⟨K, fun n hn => by obtain ⟨m, rfl⟩ : ∃ m, n = m + K := ⟨n - K, by omega⟩; exact h m⟩
theorem w64 {i : Int} (h0 : -9223372036854775808 ≤ i) (h1 : i ≤ 9223372036854775807) : wrap64 i = i := by
  unfold wrap64
  omega
theorem bne_self (b : Bool) : (b != b) = false := by cases b <;> rfl
theorem cons_drop {α : Type} (xs : List α) (i : Nat) (h : i < xs.length) : xs.drop i = xs[i] :: xs.drop (i + 1) := List.drop_eq_getElem_cons h
/-- a loop over the indexes of a list: what holds of one round holds of all -/
theorem ev_for {β ρ : Type} (n : Nat) (l : Nat → β → Int → Option ρ) (st : Nat → β) (r : ρ) (hstep : ∀ i, i < n → ∀ k, l (k + 1) (st i) (i : Int) = l k (st (i + 1)) ((i : Int) + 1)) (hend : ∀ k, l (k + 1) (st n) (n : Int) = some r) : ∀ i, i ≤ n → Ev (fun k => l k (st i) (i : Int)) r := by
  intro i hi
  obtain ⟨d, hd⟩ : ∃ d, n - i = d := ⟨_, rfl⟩
  induction d generalizing i with
  | zero =>
    obtain rfl : i = n := by omega
    exact ev_at 1 hend
  | succ d ih =>
    refine Ev.step (f := fun k => l k (st (i + 1)) ((i : Int) + 1)) (fun k => hstep i (by omega) k) ?_
    have := ih (i + 1) (by omega) (by omega)
    rwa [show ((i + 1 : Nat) : Int) = (i : Int) + 1 from by omega] at this

theorem len_list (s : ByteArray) : s.data.toList.length = s.size := rfl
theorem bt_list (s : ByteArray) (i : Nat) (h : i < s.data.toList.length) : bt s (i : Int) = ((s.data.toList[i]'h).toNat : Int) := by
  have h2 : i < s.size := h
  have e : (i : Int).toNat = i := Int.toNat_natCast i
  unfold bt
  rw [dif_pos (by rw [e]; exact h2)]
  simp only [e]
  rfl
theorem u8_lt (c : UInt8) : c.toNat < 256 := c.toNat_lt
theorem str_eq (a b : ByteArray) : (a.toList == b.toList) = decide (a = b) := by
  rw [Lib.toList_data, Lib.toList_data]
  by_cases h : a = b
  · subst h; simp
  · rw [decide_eq_false h]
    rw [beq_eq_false_iff_ne]
    intro e
    apply h
    cases a; cases b
    simp at e
    simp [e]

theorem all_of_drop {α : Type} (p : α → Bool) : ∀ m : List α, (m.dropWhile p).all p = true → m.all p = true
  | [], _ => rfl
  | a :: m, h => by
    cases hp : p a with
    | true =>
      rw [List.dropWhile_cons, if_pos hp] at h
      rw [List.all_cons, hp, all_of_drop p m h]
      rfl
    | false =>
      simp [List.dropWhile_cons, hp] at h
theorem drop_all {α : Type} (p : α → Bool) : ∀ m : List α, m.all p = true → m.dropWhile p = []
  | [], _ => rfl
  | a :: m, h => by
    rw [List.all_cons, Bool.and_eq_true] at h
    rw [List.dropWhile_cons, if_pos h.1, drop_all p m h.2]
theorem trim_nil (l cs : List UInt8) : (Lib.trimS l cs == []) = l.all (cs.contains ·) := by
  unfold Lib.trimS Lib.trimLeftS Lib.trimRightS
  cases h : l.all (cs.contains ·) with
  | true =>
    rw [drop_all (cs.contains ·) l.reverse (by rw [List.all_reverse]; exact h)]
    rfl
  | false =>
    rw [beq_eq_false_iff_ne]
    intro e
    have h1 : ((l.reverse.dropWhile (cs.contains ·)).reverse).all (cs.contains ·) = true := all_of_drop _ _ (by rw [e]; rfl)
    rw [List.all_reverse] at h1
    have h2 := all_of_drop _ _ h1
    rw [List.all_reverse, h] at h2
    exact absurd h2 (by decide)

def inB (lo hi a : Int) : Bool := decide (lo ≤ a) && decide (a ≤ hi)
theorem inB_iff (lo hi a : Int) : inB lo hi a = true ↔ lo ≤ a ∧ a ≤ hi := by simp [inB]
theorem in_is (a lo hi : Int) : spec_l1In.f a lo hi = some (inB lo hi a) := by
  unfold spec_l1In.f inB
  by_cases h : lo ≤ a
  · rw [if_pos h, decide_eq_true h, Bool.true_and]
  · rw [if_neg h, decide_eq_false h, Bool.false_and]

def isDig (c : UInt8) : Bool := decide (49 ≤ c.toNat) && decide (c.toNat ≤ 57)
def loadB (s : ByteArray) : Bool := decide (s.size ≤ 12) && s.data.toList.all isDig
theorem dig_in (c : UInt8) : inB 1 9 (wrap64 (wrap64 (c.toNat : Int) - 48)) = isDig c := by
  have := u8_lt c
  rw [w64 (i := (c.toNat : Int)) (by omega) (by omega), w64 (by omega) (by omega)]
  unfold inB isDig
  rw [Bool.eq_iff_iff]
  simp only [Bool.and_eq_true, decide_eq_true_eq]
  omega
theorem dig_contains (c : UInt8) : [49, 50, 51, 52, 53, 54, 55, 56, 57].contains c = isDig c := by
  unfold isDig
  rw [Bool.eq_iff_iff]
  simp only [List.contains_cons, List.contains_nil, Bool.or_false, Bool.or_eq_true, beq_iff_eq, Bool.and_eq_true, decide_eq_true_eq, ← UInt8.toNat_inj]
  simp
  omega
theorem good_l0 (s : ByteArray) (hn : s.size ≤ 1048576) (d : Nat) : ∀ i : Nat, s.size - i = d → i ≤ s.size →
    Ev (fun k => spec_ldGood.l0 k s (i : Int)) ((s.data.toList.drop i).all isDig) := by
  induction d with
  | zero =>
    intro i hd hle
    obtain rfl : i = s.size := by omega
    rw [← len_list, List.drop_length]
    exact ev_at 1 (fun k => by simp only [spec_ldGood.l0]; rw [len_list, if_neg (by omega)]; rfl)
  | succ d ih =>
    intro i hd hle
    have hlt : i < s.size := by omega
    have hl : i < s.data.toList.length := hlt
    rw [cons_drop s.data.toList i hl, List.all_cons]
    cases hb : isDig s.data.toList[i] with
    | true =>
      refine Ev.step (f := fun k => spec_ldGood.l0 k s ((i + 1 : Nat) : Int)) (fun k => ?_) (ih (i + 1) (by omega) (by omega))
      simp only [spec_ldGood.l0]
      rw [if_pos (by omega), if_pos (by omega), bt_list s i hl, in_is, dig_in, hb, w64 (by omega) (by omega)]
      rfl
    | false =>
      refine ev_at 1 (fun k => ?_)
      simp only [spec_ldGood.l0]
      rw [if_pos (by omega), if_pos (by omega), bt_list s i hl, in_is, dig_in, hb]
      rfl
theorem ldGood_is (s : ByteArray) (hn : s.size ≤ 1048576) : Ev (fun k => spec_ldGood.f k s) (loadB s) := by
  unfold spec_ldGood.f loadB
  by_cases h : s.size ≤ 12
  · rw [decide_eq_true h, Bool.true_and]
    exact ev_neg (by omega) (by simpa using good_l0 s hn _ 0 rfl (Nat.zero_le _))
  · rw [decide_eq_false h, Bool.false_and]
    exact ev_pos (by omega) (Ev.now _)
theorem isLoading_is (s : ByteArray) (hn : s.size ≤ 1048576) : impl_IsLoading.f s = some (loadB s) := by
  unfold impl_IsLoading.f loadB strings_Trim.f
  by_cases h : s.size ≤ 12
  · rw [if_pos (by omega), if_pos ⟨by omega, by decide, by decide⟩, Option.bind_some, decide_eq_true h, Bool.true_and, Lib.toList_data]
    show some (Lib.trimS s.data.toList [49, 50, 51, 52, 53, 54, 55, 56, 57] == []) = _
    rw [trim_nil]
    congr 2
    funext c
    exact dig_contains c
  · rw [if_neg (by omega), decide_eq_false h, Bool.false_and]

def tab {α : Type} (n : Nat) (f : Nat → α) : List α := (List.range n).map f
theorem tab_len {α : Type} (n : Nat) (f : Nat → α) : (tab n f).length = n := by simp [tab]
theorem tab_rep {α : Type} (n : Nat) (x : α) : List.replicate n x = tab n (fun _ => x) := by simp [tab, List.map_const']
theorem tab_get {α : Type} (n : Nat) (f : Nat → α) (i : Nat) (h : i < n) (z : α) : (tab n f).getD i z = f i := by simp [tab, h]
theorem rd_tab (n : Nat) (f : Nat → Int) (i : Nat) (h : i < n) : rd (tab n f) (i : Int) = f i := by simp [rd, tab, h]
theorem tab_ext {α : Type} (n : Nat) (f g : Nat → α) (h : ∀ j, j < n → f j = g j) : tab n f = tab n g := by
  unfold tab
  exact List.map_congr_left (fun j hj => h j (List.mem_range.1 hj))
theorem tab_set {α : Type} (n : Nat) (f g : Nat → α) (i : Nat) (x : α) (hx : i < n → g i = x) (ho : ∀ j, j < n → j ≠ i → f j = g j) : (tab n f).set i x = tab n g := by
  apply List.ext_getElem
  · simp [tab]
  · intro j h1 h2
    have hj' : j < n := by simpa [tab] using h1
    rw [List.getElem_set]
    by_cases hj : i = j
    · subst hj
      rw [if_pos rfl]
      simp [tab, hx hj']
    · rw [if_neg hj]
      simp [tab, ho j hj' (fun h => hj h.symm)]

theorem eqIntS_l0 (xs : List Int) (hn : xs.length ≤ 1048577) (d : Nat) : ∀ i : Nat, xs.length - i = d → Ev (fun k => laws_eqIntS.l0 k xs xs (i : Int)) true := by
  induction d with
  | zero =>
    intro i hi
    refine ev_at 1 (fun k => ?_)
    simp only [laws_eqIntS.l0]
    rw [if_neg (by omega)]
  | succ d ih =>
    intro i hi
    refine Ev.step (f := fun k => laws_eqIntS.l0 k xs xs ((i + 1 : Nat) : Int)) (fun k => ?_) (ih (i + 1) (by omega))
    simp only [laws_eqIntS.l0]
    rw [if_pos (by omega), if_pos (by omega), if_pos (by omega), if_pos True.intro, w64 (by omega) (by omega)]
    rfl
theorem eqIntS_is (xs : List Int) (hn : xs.length ≤ 1048577) : Ev (fun k => laws_eqIntS.f k xs xs) true := by
  unfold laws_eqIntS.f
  exact ev_pos rfl (eqIntS_l0 xs hn _ 0 rfl)

def marks (m : Int) (n : Nat) : List Int := tab n fun j => m + (j : Int)
theorem marks_length (m : Int) (n : Nat) : (marks m n).length = n := tab_len _ _
theorem rd_marks (m : Int) (n i : Nat) (h : i < n) : rd (marks m n) (i : Int) = m + (i : Int) := rd_tab _ _ _ h
theorem markS_l0 (xs : List Int) (m : Int) (hm : 0 ≤ m ∧ m ≤ 1000000000) (hn : xs.length ≤ 1048577) (d : Nat) : ∀ i : Nat, xs.length - i = d → i ≤ xs.length →
    Ev (fun k => laws_markIntS.l0 k (tab xs.length fun j => if j < i then m + (j : Int) else xs.getD j 0) (m + (i : Int)) (i : Int)) (m + (xs.length : Int), marks m xs.length) := by
  induction d with
  | zero =>
    intro i hi hle
    obtain rfl : i = xs.length := by omega
    refine ev_at 1 (fun k => ?_)
    simp only [laws_markIntS.l0]
    rw [if_neg (by rw [tab_len]; omega)]
    rw [tab_ext _ _ (fun j => m + (j : Int)) (fun j hj => if_pos hj)]
    rfl
  | succ d ih =>
    intro i hi hle
    refine Ev.step (f := fun k => laws_markIntS.l0 k (tab xs.length fun j => if j < i + 1 then m + (j : Int) else xs.getD j 0) (m + ((i + 1 : Nat) : Int)) ((i + 1 : Nat) : Int)) (fun k => ?_) (ih (i + 1) (by omega) (by omega))
    simp only [laws_markIntS.l0]
    rw [if_pos (by rw [tab_len]; omega), if_pos (by omega), w64 (by omega) (by omega), w64 (by omega) (by omega), Int.toNat_natCast, tab_set _ _ (fun j => if j < i + 1 then m + (j : Int) else xs.getD j 0) _ _ (fun _ => if_pos (by omega)) (fun j _ hj => by
      by_cases h : j < i
      · rw [if_pos h, if_pos (by omega)]
      · rw [if_neg h, if_neg (by omega)])]
    congr 1
    omega
theorem markIntS_is (xs : List Int) (m : Int) (hm : 0 ≤ m ∧ m ≤ 1000000000) (hn : xs.length ≤ 1048577) : Ev (fun k => laws_markIntS.f k xs m) (m + (xs.length : Int), marks m xs.length) := by
  have h := markS_l0 xs m hm hn _ 0 rfl (Nat.zero_le _)
  have e : (tab xs.length fun j => if j < 0 then m + (j : Int) else xs.getD j 0) = xs := by
    apply List.ext_getElem
    · simp [tab]
    · intro j h1 h2
      simp [tab, h2]
  rw [e] at h
  simpa [laws_markIntS.f] using h
theorem heldS_l0 (n : Nat) (m : Int) (hm : 0 ≤ m ∧ m ≤ 1000000000) (hn : n ≤ 1048577) (d : Nat) : ∀ i : Nat, n - i = d → i ≤ n →
    Ev (fun k => laws_heldIntS.l0 k (marks m n) (m + (i : Int)) (i : Int)) (m + (n : Int)) := by
  induction d with
  | zero =>
    intro i hi hle
    obtain rfl : i = n := by omega
    refine ev_at 1 (fun k => ?_)
    simp only [laws_heldIntS.l0]
    rw [if_neg (by simp [marks_length])]
  | succ d ih =>
    intro i hi hle
    refine Ev.step (f := fun k => laws_heldIntS.l0 k (marks m n) (m + ((i + 1 : Nat) : Int)) ((i + 1 : Nat) : Int)) (fun k => ?_) (ih (i + 1) (by omega) (by omega))
    simp only [laws_heldIntS.l0]
    rw [if_pos (by rw [marks_length]; omega), if_pos (by omega), if_pos (rd_marks m n i (by omega)), w64 (by omega) (by omega), w64 (by omega) (by omega)]
    congr 1
    omega
theorem heldIntS_is (n : Nat) (m : Int) (hm : 0 ≤ m ∧ m ≤ 1000000000) (hn : n ≤ 1048577) : Ev (fun k => laws_heldIntS.f k (marks m n) m) (m + (n : Int)) := by
  have h := heldS_l0 n m hm hn _ 0 rfl (Nat.zero_le _)
  simpa [laws_heldIntS.f] using h

theorem intS_law {impl : Nat → Option (List Int × Bool)} (r : List Int) (ok : Bool) (hr : r.length ≤ 1000000) (hi : Ev impl (r, ok)) :
    Ev (fun k => (laws_eqIntS.f k r r).bind fun t127 => (if t127 = true then (if (ok != ok) = true then (none) else ((laws_markIntS.f k r 1).bind fun bt128 => ((laws_heldIntS.f k bt128.2 1).bind fun t130 => (if t130 < 0 then (some false) else (if t130 = bt128.1 then ((impl k).bind fun bt131 => ((laws_eqIntS.f k bt131.1 r).bind fun t135 => (if t135 = true then (if (bt131.2 != ok) = true then (none) else ((laws_heldIntS.f k bt128.2 1).bind fun t136 => (if t136 < 0 then (some false) else (if t136 = bt128.1 then (some true) else (none))))) else (none)))) else (none)))))) else (none))) true := by
  have hb : ¬ (ok != ok) = true := by cases ok <;> decide
  have hm2 := markIntS_is r 1 (by omega) (by omega)
  have hh := heldIntS_is r.length 1 (by omega) (by omega)
  refine Ev.bind (eqIntS_is r (by omega)) (ev_pos rfl (ev_neg hb ?_))
  refine Ev.bind hm2 (Ev.bind hh (ev_neg (by omega) (ev_pos rfl ?_)))
  refine Ev.bind hi (Ev.bind (eqIntS_is r (by omega)) (ev_pos rfl (ev_neg hb ?_)))
  exact Ev.bind hh (ev_neg (by omega) (ev_pos rfl (Ev.now _)))

theorem places_len (l : List UInt8) : ∀ p : List Int × List Int, (l.foldl plStep p).1.length = p.1.length + l.length := by
  induction l with
  | nil => intro p; rfl
  | cons c l ih =>
    intro p
    rw [List.foldl_cons, ih, (plStep_len p c).1, List.length_cons]
    omega
theorem places_law (s : ByteArray) (h : s.size ≤ 1048576) (r : List Int) (ok : Bool) (hr : r.length ≤ 1000000) (hs : Ev (fun k => spec_PlacesOfBoxes.f k s) (r, ok)) (hi : Ev (fun k => impl_PlacesOfBoxes.f s) (r, ok)) : Ev (fun k => laws_FnExactPlacesOfBoxes.f k s) true := by
  unfold laws_FnExactPlacesOfBoxes.f
  exact ev_neg (by omega) (Ev.bind hs (Ev.bind hi (intS_law r ok hr hi)))
theorem FnExactPlacesOfBoxes : laws_FnExactPlacesOfBoxes.Pure := by
  intro s hs
  refine Ev.rounds ?_
  by_cases h : s.size ≤ 1048576
  · cases hq : loadB s with
    | false =>
      refine places_law s h [] false (by simp) ?_ ?_
      · unfold spec_PlacesOfBoxes.f
        exact Ev.bind (hq ▸ ldGood_is s h) (ev_neg (by decide) (Ev.now _))
      · unfold impl_PlacesOfBoxes.f
        rw [isLoading_is s h, hq]
        exact ev_some (ev_neg (by decide) (Ev.now _))
    | true =>
      have hq2 := hq
      unfold loadB at hq2
      rw [Bool.and_eq_true, decide_eq_true_eq] at hq2
      have hl := places_len s.data.toList ([], [])
      rw [len_list, List.length_nil] at hl
      refine places_law s h (s.data.toList.foldl plStep ([], [])).1 true (by omega) ?_ ?_
      · unfold spec_PlacesOfBoxes.f
        refine Ev.bind (hq ▸ ldGood_is s h) (ev_pos rfl ?_)
        unfold spec_ldPlaces.f
        rw [if_pos (by omega)]
        exact ev_some (Ev.now _)
      · unfold impl_PlacesOfBoxes.f
        rw [isLoading_is s h, hq]
        exact ev_some (ev_pos rfl (ev_pos (by omega) (Ev.now _)))
  · unfold laws_FnExactPlacesOfBoxes.f
    exact ev_pos (by omega) (Ev.now _)

end Go.Proofs.YtoimgbcbmbpfaaaDoor.Pure

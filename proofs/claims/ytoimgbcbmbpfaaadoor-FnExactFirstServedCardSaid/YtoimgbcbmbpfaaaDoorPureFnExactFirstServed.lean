/- For all arguments: the program's FirstServed and the reference's return the same. No condition. -/
import Derived.Test.YtoimgbcbmbpfaaaDoorQ0
import Derived.Test.YtoimgbcbmbpfaaaDoorQ1
import Derived.Lib.ConvBytes
import Derived.Lib.IndexAny
import Derived.Shelf.Strings.SlTrimAscii
namespace Go.Proofs.YtoimgbcbmbpfaaaDoor.Pure
open Go.RowKit Go.Proofs.YtoimgbcbmbpfaaaDoor.Q Go.Proofs.YtoimgbcbmbpfaaaDoorW.PrintWords Go.Proofs.YtoimgbcbmbpfaaaDoorW.PrintLast Go.Proofs.YtoimgbcbmbpfaaaDoorW.PrintMore
set_option linter.unusedVariables false
set_option linter.unusedSimpArgs false
theorem ev_pos {α : Type} {c : Prop} [Decidable c] {g f : Nat → Option α} {r : α} (hc : c) (h : Ev g r) : Ev (fun k => if c then g k else f k) r := Ev.congr (fun _ => if_pos hc) h
theorem ev_neg {α : Type} {c : Prop} [Decidable c] {g f : Nat → Option α} {r : α} (hc : ¬ c) (h : Ev f r) : Ev (fun k => if c then g k else f k) r := Ev.congr (fun _ => if_neg hc) h
theorem ev_some {α β : Type} {a : α} {f : Nat → α → Option β} {r : β} (h : Ev (fun n => f n a) r) : Ev (fun n => (some a).bind (f n)) r := Ev.bind (Ev.now a) h
theorem ev_ret {α : Type} {g : Nat → Option α} {r : α} (h : Ev g r) : Ev (fun n => (g n).bind fun t => some t) r := Ev.bind h (Ev.now r)
theorem ev_at {α : Type} {g : Nat → Option α} {r : α} (K : Nat) (h : ∀ k, g (k + K) = some r) : Ev g r := ⟨K, fun n hn => by obtain ⟨m, rfl⟩ : ∃ m, n = m + K := ⟨n - K, by omega⟩; exact h m⟩
theorem w64 {i : Int} (h0 : -9223372036854775808 ≤ i) (h1 : i ≤ 9223372036854775807) : wrap64 i = i := by
  unfold wrap64
  omega
theorem bne_self (b : Bool) : (b != b) = false := by cases b <;> rfl
theorem cons_drop {α : Type} (xs : List α) (i : Nat) (h : i < xs.length) : xs.drop i = xs[i] :: xs.drop (i + 1) := List.drop_eq_getElem_cons h
/-- a loop over the indexes of a list: what holds of one round holds of all -/
theorem ev_for {β ρ : Type} (n : Nat) (l : Nat → β → Int → Option ρ) (st : Nat → β) (r : ρ) (hstep : ∀ i, i < n → ∀ k, l (k + 1) (st i) (i : Int) = l k (st (i + 1)) ((i : Int) + 1)) (hend : ∀ k, l (k + 1) (st n) (n : Int) = some r) : ∀ i, i ≤ n → Ev (fun k => l k (st i) (i : Int)) r := by
  intro i hi
  obtain ⟨d, hd⟩ : ∃ d, n - i = d := ⟨_, rfl⟩
  induction d generalizing i with
  | zero =>
    obtain rfl : i = n := by omega
    exact ev_at 1 hend
  | succ d ih =>
    refine Ev.step (f := fun k => l k (st (i + 1)) ((i : Int) + 1)) (fun k => hstep i (by omega) k) ?_
    have := ih (i + 1) (by omega) (by omega)
    rwa [show ((i + 1 : Nat) : Int) = (i : Int) + 1 from by omega] at this

theorem len_list (s : ByteArray) : s.data.toList.length = s.size := rfl
theorem bt_list (s : ByteArray) (i : Nat) (h : i < s.data.toList.length) : bt s (i : Int) = ((s.data.toList[i]'h).toNat : Int) := by
  have h2 : i < s.size := h
  have e : (i : Int).toNat = i := Int.toNat_natCast i
  unfold bt
  rw [dif_pos (by rw [e]; exact h2)]
  simp only [e]
  rfl
theorem u8_lt (c : UInt8) : c.toNat < 256 := c.toNat_lt
theorem str_eq (a b : ByteArray) : (a.toList == b.toList) = decide (a = b) := by
  rw [Lib.toList_data, Lib.toList_data]
  by_cases h : a = b
  · subst h; simp
  · rw [decide_eq_false h]
    rw [beq_eq_false_iff_ne]
    intro e
    apply h
    cases a; cases b
    simp at e
    simp [e]

theorem all_of_drop {α : Type} (p : α → Bool) : ∀ m : List α, (m.dropWhile p).all p = true → m.all p = true
  | [], _ => rfl
  | a :: m, h => by
    cases hp : p a with
    | true =>
      rw [List.dropWhile_cons, if_pos hp] at h
      rw [List.all_cons, hp, all_of_drop p m h]
      rfl
    | false =>
      simp [List.dropWhile_cons, hp] at h
theorem drop_all {α : Type} (p : α → Bool) : ∀ m : List α, m.all p = true → m.dropWhile p = []
  | [], _ => rfl
  | a :: m, h => by
    rw [List.all_cons, Bool.and_eq_true] at h
    rw [List.dropWhile_cons, if_pos h.1, drop_all p m h.2]
theorem trim_nil (l cs : List UInt8) : (Lib.trimS l cs == []) = l.all (cs.contains ·) := by
  unfold Lib.trimS Lib.trimLeftS Lib.trimRightS
  cases h : l.all (cs.contains ·) with
  | true =>
    rw [drop_all (cs.contains ·) l.reverse (by rw [List.all_reverse]; exact h)]
    rfl
  | false =>
    rw [beq_eq_false_iff_ne]
    intro e
    have h1 : ((l.reverse.dropWhile (cs.contains ·)).reverse).all (cs.contains ·) = true := all_of_drop _ _ (by rw [e]; rfl)
    rw [List.all_reverse] at h1
    have h2 := all_of_drop _ _ h1
    rw [List.all_reverse, h] at h2
    exact absurd h2 (by decide)

def oth (c : UInt8) : UInt8 := c ^^^ 32
def smallC (c : UInt8) : Bool := decide (97 ≤ c.toNat)
def letterC (c : UInt8) : Bool := (decide (97 ≤ c.toNat) && decide (c.toNat ≤ 104)) || (decide (65 ≤ c.toNat) && decide (c.toNat ≤ 72))
def goodI : List UInt8 → List UInt8 → Bool
  | _, [] => true
  | pre, c :: r => !(pre.contains c) && (smallC c || pre.contains (oth c)) && goodI (pre ++ [c]) r
def stepO (v : List UInt8 × Bool) (c : UInt8) : List UInt8 × Bool := if smallC c = true then (v.1 ++ [c], v.2) else (v.1.erase (oth c), v.2 && decide (v.1.getLast? = some (oth c)))
def tourB (s : ByteArray) : Bool := decide (s.size ≤ 16) && s.data.toList.all letterC && goodI [] s.data.toList
theorem u8_all (p : UInt8 → Prop) [DecidablePred p] (h : ∀ n : Fin 256, p (UInt8.ofNat n.val)) (c : UInt8) : p c := by
  have := h ⟨c.toNat, c.toNat_lt⟩
  simpa using this
theorem bits_oth (c : UInt8) : Go.bits .xor .u8 (c.toNat : Int) 32 = ((oth c).toNat : Int) :=
  u8_all (fun c => Go.bits .xor .u8 (c.toNat : Int) 32 = ((oth c).toNat : Int)) (by decide +kernel) c
theorem oth_oth (c : UInt8) : oth (oth c) = c := u8_all (fun c => oth (oth c) = c) (by decide +kernel) c
theorem oth_cap (c : UInt8) (h : letterC c = true) (hs : smallC c = true) : smallC (oth c) = false ∧ letterC (oth c) = true :=
  u8_all (fun c => letterC c = true → smallC c = true → smallC (oth c) = false ∧ letterC (oth c) = true) (by decide +kernel) c h hs
theorem oth_small (c : UInt8) (h : letterC c = true) (hs : smallC c = false) : smallC (oth c) = true ∧ letterC (oth c) = true :=
  u8_all (fun c => letterC c = true → smallC c = false → smallC (oth c) = true ∧ letterC (oth c) = true) (by decide +kernel) c h hs
theorem oth_plus (c : UInt8) (h : letterC c = true) (hs : smallC c = false) : ((oth c).toNat : Int) = (c.toNat : Int) + 32 :=
  u8_all (fun c => letterC c = true → smallC c = false → ((oth c).toNat : Int) = (c.toNat : Int) + 32) (by decide +kernel) c h hs
theorem nat_u8 (c : UInt8) : ((c.toNat : Int)).toNat.toUInt8 = c := by simp
theorem letter_contains (c : UInt8) : [97, 98, 99, 100, 101, 102, 103, 104, 65, 66, 67, 68, 69, 70, 71, 72].contains c = letterC c :=
  u8_all (fun c => [97, 98, 99, 100, 101, 102, 103, 104, 65, 66, 67, 68, 69, 70, 71, 72].contains c = letterC c) (by decide +kernel) c
/-- the byte string of a list -/
def bs (l : List UInt8) : ByteArray := ⟨l.toArray⟩
theorem bs_list (l : List UInt8) : (bs l).data.toList = l := by simp [bs]
theorem bs_size (l : List UInt8) : (bs l).size = l.length := by simp [bs, ByteArray.size]
theorem bs_eta (s : ByteArray) : bs s.data.toList = s := by cases s; simp [bs]
theorem bs_inj {s t : ByteArray} (h : s.data.toList = t.data.toList) : s = t := by rw [← bs_eta s, ← bs_eta t, h]
theorem bs_append (l m : List UInt8) : bs l ++ bs m = bs (l ++ m) := bs_inj (by simp [bs])
theorem bs_extract (l : List UInt8) (i j : Nat) : (bs l).extract i j = bs ((l.drop i).take (j - i)) := bs_inj (by rw [Lib.extract_data, bs_list, bs_list])
theorem at_first (c : UInt8) : ∀ l : List UInt8, c ∈ l → l.idxOf c < l.length ∧ l.erase c = l.take (l.idxOf c) ++ l.drop (l.idxOf c + 1)
  | [], h => by simp at h
  | x :: l, h => by
    by_cases hx : x = c
    · subst hx
      simp
    · have h2 : c ∈ l := by
        rcases List.mem_cons.1 h with h | h
        · exact absurd h.symm hx
        · exact h
      obtain ⟨h3, h4⟩ := at_first c l h2
      have hb : (x == c) = false := by simpa using hx
      rw [List.idxOf_cons, hb]
      simp only [cond_false, List.length_cons]
      refine ⟨by omega, ?_⟩
      rw [List.erase_cons, hb]
      simp [h4]
theorem last_iff (c : UInt8) (l : List UInt8) (hn : l.Nodup) (h : c ∈ l) : l.idxOf c = l.length - 1 ↔ l.getLast? = some c := by
  obtain ⟨h1, _⟩ := at_first c l h
  have hg : l[l.idxOf c]'h1 = c := by
    exact List.getElem_idxOf h1
  rw [List.getLast?_eq_getElem?]
  constructor
  · intro e
    rw [← e, List.getElem?_eq_getElem h1, hg]
  · intro e
    obtain ⟨h2, h3⟩ := List.getElem?_eq_some_iff.1 e
    have h4 := List.Nodup.idxOf_getElem hn (l.length - 1) h2
    rw [h3] at h4
    exact h4
/-- the state behind a part of a good tour -/
structure TourJ (pre open_ seen : List UInt8) : Prop where
  lets : ∀ x ∈ pre, letterC x = true
  inSeen : ∀ x, x ∈ seen ↔ x ∈ pre ∧ smallC x = true
  inOpen : ∀ x, x ∈ open_ ↔ x ∈ pre ∧ smallC x = true ∧ oth x ∉ pre
  nodup : open_.Nodup
  caps : ∀ x ∈ pre, smallC x = false → oth x ∈ pre
theorem TourJ.nil : TourJ [] [] [] := ⟨by simp, by simp, by simp, by simp, by simp⟩
theorem TourJ.small {pre open_ seen : List UInt8} (J : TourJ pre open_ seen) {c : UInt8} (hl : letterC c = true) (hs : smallC c = true) (hc : c ∉ pre) : TourJ (pre ++ [c]) (open_ ++ [c]) (seen ++ [c]) := by
  have hoc : oth c ∉ pre := fun h => hc (by have := J.caps _ h (oth_cap c hl hs).1; rwa [oth_oth] at this)
  have hne : ∀ x, x ∈ pre → smallC x = true → oth x ≠ c := fun x hx h1 e => by
    have := (oth_cap x (J.lets x hx) h1).1
    rw [e, hs] at this
    exact absurd this (by decide)
  have hcc : oth c ≠ c := fun e => by
    have := (oth_cap c hl hs).1
    rw [e, hs] at this
    exact absurd this (by decide)
  refine ⟨fun x hx => ?_, fun x => ?_, fun x => ?_, ?_, fun x hx h => ?_⟩
  · rcases List.mem_append.1 hx with h | h
    · exact J.lets x h
    · obtain rfl : x = c := by simpa using h
      exact hl
  · simp only [List.mem_append, List.mem_singleton, J.inSeen]
    constructor
    · rintro (⟨h1, h2⟩ | rfl)
      · exact ⟨.inl h1, h2⟩
      · exact ⟨.inr rfl, hs⟩
    · rintro ⟨h1 | rfl, h2⟩
      · exact .inl ⟨h1, h2⟩
      · exact .inr rfl
  · simp only [List.mem_append, List.mem_singleton, J.inOpen, not_or]
    constructor
    · rintro (⟨h1, h2, h3⟩ | rfl)
      · exact ⟨.inl h1, h2, h3, hne x h1 h2⟩
      · exact ⟨.inr rfl, hs, hoc, hcc⟩
    · rintro ⟨h1 | rfl, h2, h3, h4⟩
      · exact .inl ⟨h1, h2, h3⟩
      · exact .inr rfl
  · rw [List.nodup_append]
    refine ⟨J.nodup, by simp, fun x hx y hy e => ?_⟩
    obtain rfl : y = c := by simpa using hy
    subst e
    exact hc ((J.inOpen x).1 hx).1
  · rcases List.mem_append.1 hx with h2 | h2
    · exact List.mem_append.2 (.inl (J.caps x h2 h))
    · obtain rfl : x = c := by simpa using h2
      rw [hs] at h
      exact absurd h (by decide)
theorem TourJ.cap {pre open_ seen : List UInt8} (J : TourJ pre open_ seen) {c : UInt8} (hl : letterC c = true) (hs : smallC c = false) (hc : c ∉ pre) (ho : oth c ∈ pre) : TourJ (pre ++ [c]) (open_.erase (oth c)) seen := by
  have hns : ∀ x, smallC x = true → x ≠ c := fun x h e => by rw [e, hs] at h; exact absurd h (by decide)
  refine ⟨fun x hx => ?_, fun x => ?_, fun x => ?_, J.nodup.erase _, fun x hx h => ?_⟩
  · rcases List.mem_append.1 hx with h | h
    · exact J.lets x h
    · obtain rfl : x = c := by simpa using h
      exact hl
  · simp only [List.mem_append, List.mem_singleton, J.inSeen]
    constructor
    · rintro ⟨h1, h2⟩
      exact ⟨.inl h1, h2⟩
    · rintro ⟨h1 | rfl, h2⟩
      · exact ⟨h1, h2⟩
      · exact absurd rfl (hns _ h2)
  · rw [J.nodup.mem_erase_iff]
    simp only [List.mem_append, List.mem_singleton, J.inOpen, not_or]
    constructor
    · rintro ⟨h0, h1, h2, h3⟩
      exact ⟨.inl h1, h2, h3, fun e => h0 (by rw [← e, oth_oth])⟩
    · rintro ⟨h1 | rfl, h2, h3, h4⟩
      · exact ⟨fun e => h4 (by rw [e, oth_oth]), h1, h2, h3⟩
      · exact absurd rfl (hns _ h2)
  · rcases List.mem_append.1 hx with h2 | h2
    · exact List.mem_append.2 (.inl (J.caps x h2 h))
    · obtain rfl : x = c := by simpa using h2
      exact List.mem_append.2 (.inl ho)
theorem TourJ.in_open {pre open_ seen : List UInt8} (J : TourJ pre open_ seen) {c : UInt8} (hl : letterC c = true) (hs : smallC c = false) : oth c ∈ open_ ↔ c ∉ pre ∧ oth c ∈ pre := by
  rw [J.inOpen, oth_oth]
  have := (oth_small c hl hs).1
  constructor
  · rintro ⟨h1, _, h3⟩
    exact ⟨h3, h1⟩
  · rintro ⟨h1, h2⟩
    exact ⟨h2, this, h1⟩
theorem goodI_tail {pre : List UInt8} {c : UInt8} {r : List UInt8} (h : goodI pre (c :: r) = true) : c ∉ pre ∧ (smallC c = false → oth c ∈ pre) ∧ goodI (pre ++ [c]) r = true := by
  rw [goodI] at h
  simp only [Bool.and_eq_true, Bool.not_eq_true', Bool.or_eq_true] at h
  refine ⟨fun h2 => ?_, fun h2 => ?_, h.2⟩
  · have := List.contains_iff_mem.2 h2
    rw [h.1.1] at this
    exact absurd this (by decide)
  · rcases h.1.2 with h3 | h3
    · rw [h2] at h3; exact absurd h3 (by decide)
    · exact List.contains_iff_mem.1 h3
/-- behind a part of a tour the state stands -/
theorem J_fold : ∀ (r pre open_ seen : List UInt8) (free : Bool), TourJ pre open_ seen → (∀ x ∈ r, letterC x = true) → goodI pre r = true → ∃ seen', TourJ (pre ++ r) (r.foldl stepO (open_, free)).1 seen'
  | [], pre, open_, seen, free, J, _, _ => ⟨seen, by simpa using J⟩
  | c :: r, pre, open_, seen, free, J, hl, hg => by
    obtain ⟨h1, h2, h3⟩ := goodI_tail hg
    have hc := hl c (by simp)
    rw [List.foldl_cons, show pre ++ c :: r = (pre ++ [c]) ++ r by simp]
    cases hs : smallC c with
    | true =>
      have e : stepO (open_, free) c = (open_ ++ [c], free) := by simp [stepO, hs]
      rw [e]
      exact J_fold r _ _ _ _ (J.small hc hs h1) (fun x hx => hl x (by simp [hx])) h3
    | false =>
      have e : stepO (open_, free) c = (open_.erase (oth c), free && decide (open_.getLast? = some (oth c))) := by simp [stepO, hs]
      rw [e]
      exact J_fold r _ _ _ _ (J.cap hc hs h1 (h2 hs)) (fun x hx => hl x (by simp [hx])) h3
theorem goodI_take : ∀ (r pre : List UInt8) (n : Nat), goodI pre r = true → goodI pre (r.take n) = true
  | [], pre, n, _ => by simp [goodI]
  | c :: r, pre, 0, _ => by simp [goodI]
  | c :: r, pre, n + 1, h => by
    rw [List.take_succ_cons]
    rw [goodI] at h ⊢
    simp only [Bool.and_eq_true] at h ⊢
    exact ⟨h.1, goodI_take r _ n h.2⟩

theorem index_in (l : List UInt8) (c : UInt8) : (0 ≤ Lib.indexByte l c) ↔ c ∈ l := by
  have h := Lib.contains_iff_indexByte l c
  constructor
  · intro h2
    rw [decide_eq_true h2] at h
    exact List.contains_iff_mem.1 h
  · intro h2
    rw [List.contains_iff_mem.2 h2] at h
    simpa using h.symm
theorem isTour_l0 (s : ByteArray) (hn : s.size ≤ 1048576) (d : Nat) : ∀ i : Nat, s.size - i = d → i ≤ s.size →
    Ev (fun k => impl_IsTour.l0 k s (s.size : Int) (i : Int)) (goodI (s.data.toList.take i) (s.data.toList.drop i) && (decide (s.size ≤ 16) && s.data.toList.all letterC)) := by
  induction d with
  | zero =>
    intro i hd hi
    obtain rfl : i = s.size := by omega
    have hdrop : s.data.toList.drop s.size = [] := List.drop_of_length_le (by rw [len_list]; exact Nat.le_refl _)
    rw [hdrop, goodI, Bool.true_and]
    refine Ev.step (fun k => by simp only [impl_IsTour.l0]; rfl) (ev_neg (by omega) ?_)
    by_cases h : s.size ≤ 16
    · rw [decide_eq_true h, Bool.true_and]
      refine ev_pos (by omega) ?_
      unfold strings_Trim.f
      rw [if_pos ⟨by omega, by decide, by decide⟩, Option.bind_some, Lib.toList_data]
      have e : (Lib.trimS s.data.toList [97, 98, 99, 100, 101, 102, 103, 104, 65, 66, 67, 68, 69, 70, 71, 72] == []) = s.data.toList.all letterC := by
        rw [trim_nil]
        congr 1
        funext c
        exact letter_contains c
      exact ev_at 0 (fun k => congrArg some e)
    · rw [decide_eq_false h, Bool.false_and]
      exact ev_neg (by omega) (Ev.now _)
  | succ d ih =>
    intro i hd hi
    have hlt : i < s.data.toList.length := by rw [len_list]; omega
    have hlt2 : i < s.size := by omega
    have hih := ih (i + 1) (by omega) (by omega)
    rw [List.take_succ_eq_append_getElem hlt] at hih
    have hbt := bt_list s i hlt
    have hpre : (s.extract 0 (i : Int).toNat).data.toList = s.data.toList.take i := by rw [Lib.extract_data, List.drop_zero, Int.toNat_natCast, Nat.sub_zero]
    rw [cons_drop _ i hlt, goodI]
    refine Ev.step (fun k => by simp only [impl_IsTour.l0]; rfl) (ev_pos (by omega) (ev_pos (by omega) (ev_pos (by omega) (ev_pos (by omega) ?_))))
    simp only [strings_IndexByte.f, hpre, hbt, nat_u8]
    generalize s.data.toList[i] = c at hih ⊢
    generalize s.data.toList.take i = pre at hih ⊢
    refine ev_some ?_
    by_cases hin : c ∈ pre
    · rw [List.contains_iff_mem.2 hin, Bool.not_true, Bool.false_and, Bool.false_and, Bool.false_and]
      exact ev_pos ((index_in pre c).2 hin) (Ev.now _)
    · have hct : pre.contains c = false := by
        rw [← Bool.not_eq_true]
        exact fun h => hin (List.contains_iff_mem.1 h)
      rw [hct, Bool.not_false, Bool.true_and]
      refine ev_neg (fun h => hin ((index_in pre c).1 h)) ?_
      simp only [impl_isSmall.f]
      refine ev_some ?_
      rw [w64 (i := (i : Int) + 1) (by omega) (by omega), show (i : Int) + 1 = ((i + 1 : Nat) : Int) from by omega]
      have hsm : decide ((c.toNat : Int) ≥ 97) = smallC c := by
        unfold smallC
        rw [Bool.eq_iff_iff, decide_eq_true_eq, decide_eq_true_eq]
        omega
      rw [hsm]
      cases hs : smallC c with
      | true =>
        rw [Bool.true_or, Bool.true_and]
        exact ev_pos rfl hih
      | false =>
        rw [Bool.false_or]
        refine ev_neg (by decide) ?_
        simp only [impl_other.f, bits_oth]
        refine ev_some ?_
        simp only [nat_u8]
        refine ev_some ?_
        by_cases ho : oth c ∈ pre
        · rw [List.contains_iff_mem.2 ho, Bool.true_and]
          exact ev_neg (by have := (index_in pre (oth c)).2 ho; omega) hih
        · have hco : pre.contains (oth c) = false := by
            rw [← Bool.not_eq_true]
            exact fun h => ho (List.contains_iff_mem.1 h)
          rw [hco, Bool.false_and, Bool.false_and]
          exact ev_pos (Int.not_le.1 (fun h => ho ((index_in pre (oth c)).1 h))) (Ev.now _)
theorem isTour_is (s : ByteArray) (hn : s.size ≤ 1048576) : Ev (fun k => impl_IsTour.f k s) (tourB s) := by
  have h := isTour_l0 s hn _ 0 rfl (Nat.zero_le _)
  rw [List.take_zero, List.drop_zero] at h
  unfold impl_IsTour.f
  have e : tourB s = (goodI [] s.data.toList && (decide (s.size ≤ 16) && s.data.toList.all letterC)) := by
    unfold tourB
    cases goodI [] s.data.toList <;> simp
  rw [e]
  simpa using h

def fixU (l : List UInt8) : List UInt8 := l.flatMap fun c => if smallC c = true then [c, oth c] else []
theorem fixU_len (l : List UInt8) : (fixU l).length ≤ 2 * l.length := by
  induction l with
  | nil => simp [fixU]
  | cons c l ih =>
    have : fixU (c :: l) = (if smallC c = true then [c, oth c] else []) ++ fixU l := by simp [fixU, List.flatMap_cons]
    rw [this, List.length_append]
    split <;> simp <;> omega
theorem fix_nums (l : List UInt8) : strOfNums (fixL l) = bs (fixU l) := by
  have h : (fixL l).map (fun n => UInt8.ofNat n.toNat) = fixU l := by
    induction l with
    | nil => rfl
    | cons c l ih =>
      have e : fixU (c :: l) = (if smallC c = true then [c, oth c] else []) ++ fixU l := by simp [fixU, List.flatMap_cons]
      rw [e, fixL]
      by_cases hs : smallC c = true
      · have h2 : decide ((c.toNat : Int) ≥ 97) = true := by simp [smallC] at hs; simp; omega
        have ho : UInt8.ofNat (otherI c).toNat = oth c := by rw [otherI, bits_oth]; exact nat_u8 _
        rw [if_pos h2, if_pos hs, List.map_cons, List.map_cons, ih, ho, show UInt8.ofNat ((c.toNat : Int)).toNat = c from nat_u8 c]
        rfl
      · have h2 : ¬ decide ((c.toNat : Int) ≥ 97) = true := by simp [smallC] at hs; simp; omega
        rw [if_neg h2, if_neg hs, ih]
        rfl
  unfold strOfNums bs
  rw [← h]
theorem fixTour_is (s : ByteArray) (h : s.size ≤ 1048576) : Ev (fun k => impl_FixTour.f k s) (if tourB s = true then (bs (fixU s.data.toList), true) else ((⟨#[]⟩ : ByteArray), false)) := by
  unfold impl_FixTour.f
  refine Ev.bind (isTour_is s h) ?_
  by_cases ht : tourB s = true
  · rw [if_pos ht, if_pos ht]
    refine ev_pos h ?_
    rw [fix_nums]
    exact Ev.now _
  · rw [if_neg ht, if_neg ht]
    exact Ev.now _

def inB (lo hi a : Int) : Bool := decide (lo ≤ a) && decide (a ≤ hi)
theorem inB_iff (lo hi a : Int) : inB lo hi a = true ↔ lo ≤ a ∧ a ≤ hi := by simp [inB]
theorem in_is (a lo hi : Int) : spec_l1In.f a lo hi = some (inB lo hi a) := by
  unfold spec_l1In.f inB
  by_cases h : lo ≤ a
  · rw [if_pos h, decide_eq_true h, Bool.true_and]
  · rw [if_neg h, decide_eq_false h, Bool.false_and]

theorem within_is (a lo hi : Int) : impl_within.f a lo hi = some (inB lo hi a) := by
  unfold impl_within.f inB
  by_cases h : lo ≤ a
  · rw [if_pos h, decide_eq_true h, Bool.true_and]
  · rw [if_neg h, decide_eq_false h, Bool.false_and]

def abcL : List UInt8 := [97, 98, 99, 100, 101, 102, 103, 104]
theorem abc_take : ∀ n : Fin 9, ((⟨#[97, 98, 99, 100, 101, 102, 103, 104]⟩ : ByteArray).extract 0 n.val) = bs (abcL.take n.val) := by decide +kernel
theorem abc_tour : ∀ n : Fin 9, tourB (bs (abcL.take n.val)) = true := by decide +kernel
theorem first_spec : ∀ n : Fin 9, spec_FirstServed.l0 12 (n.val : Int) (⟨#[]⟩ : ByteArray) 0 = some (bs (fixU (abcL.take n.val)), true) := by decide +kernel
theorem FnExactFirstServed : laws_FnExactFirstServed.Pure := by
  intro a hw
  refine Ev.rounds ?_
  by_cases hin : inB 0 8 a = true
  · have h2 : 0 ≤ a ∧ a ≤ 8 := by simpa [inB] using hin
    obtain ⟨n, rfl⟩ : ∃ n : Fin 9, a = (n.val : Int) := ⟨⟨a.toNat, by omega⟩, by simp; omega⟩
    have hspec : Ev (fun k => spec_FirstServed.f k (n.val : Int)) (bs (fixU (abcL.take n.val)), true) := by
      unfold spec_FirstServed.f
      rw [in_is, hin]
      exact ev_some (ev_pos rfl (Ev.of (fun j => spec_FirstServed.mono_l j _ _ _) (first_spec n)))
    have himpl : Ev (fun k => impl_FirstServed.f k (n.val : Int)) (bs (fixU (abcL.take n.val)), true) := by
      unfold impl_FirstServed.f
      rw [within_is, hin]
      refine ev_some (ev_pos rfl (ev_pos (by omega) (ev_pos (by omega) ?_)))
      have h := fixTour_is (bs (abcL.take n.val)) (by rw [bs_size, List.length_take]; omega)
      rw [if_pos (abc_tour n), bs_list] at h
      rw [show ((n.val : Int)).toNat = n.val from Int.toNat_natCast _, abc_take n]
      exact Ev.bind h (Ev.now _)
    unfold laws_FnExactFirstServed.f
    exact Ev.bind hspec (Ev.bind himpl (ev_pos rfl (ev_neg (by simp) (Ev.now _))))
  · have hspec : Ev (fun k => spec_FirstServed.f k a) ((⟨#[]⟩ : ByteArray), false) := by
      unfold spec_FirstServed.f
      rw [in_is]
      exact ev_some (ev_neg hin (Ev.now _))
    have himpl : Ev (fun k => impl_FirstServed.f k a) ((⟨#[]⟩ : ByteArray), false) := by
      unfold impl_FirstServed.f
      rw [within_is]
      exact ev_some (ev_neg hin (Ev.now _))
    unfold laws_FnExactFirstServed.f
    exact Ev.bind hspec (Ev.bind himpl (ev_pos rfl (ev_neg (by decide) (Ev.now _))))

end Go.Proofs.YtoimgbcbmbpfaaaDoor.Pure

/- For every text: the program's BackTour and the reference's return the same. Condition: what the law itself lets in (at most 1048576 bytes). -/
import Derived.Test.YtoimgbcbmbpfaaaDoorZ0
import Derived.Test.YtoimgbcbmbpfaaaDoorZ1
import Derived.Test.YtoimgbcbmbpfaaaDoorZ2
import Derived.Test.YtoimgbcbmbpfaaaDoorZ3
import Derived.Lib.ConvBytes
import Derived.Lib.IndexAny
import Derived.Shelf.Strings.Prefix
import Derived.Shelf.Strings.SlTrimAscii
namespace Go.Proofs.YtoimgbcbmbpfaaaDoor.Pure
open Go.RowKit Go.Proofs.YtoimgbcbmbpfaaaDoor.Z Go.Proofs.YtoimgbcbmbpfaaaDoorW.PrintWords Go.Proofs.YtoimgbcbmbpfaaaDoorW.PrintLast Go.Proofs.YtoimgbcbmbpfaaaDoorW.PrintMore
set_option linter.unusedVariables false
set_option linter.unusedSimpArgs false
theorem ev_pos {α : Type} {c : Prop} [Decidable c] {g f : Nat → Option α} {r : α} (hc : c) (h : Ev g r) : Ev (fun k => if c then g k else f k) r := Ev.congr (fun _ => if_pos hc) h
theorem ev_neg {α : Type} {c : Prop} [Decidable c] {g f : Nat → Option α} {r : α} (hc : ¬ c) (h : Ev f r) : Ev (fun k => if c then g k else f k) r := Ev.congr (fun _ => if_neg hc) h
theorem ev_some {α β : Type} {a : α} {f : Nat → α → Option β} {r : β} (h : Ev (fun n => f n a) r) : Ev (fun n => (some a).bind (f n)) r := Ev.bind (Ev.now a) h
theorem ev_ret {α : Type} {g : Nat → Option α} {r : α} (h : Ev g r) : Ev (fun n => (g n).bind fun t => some t) r := Ev.bind h (Ev.now r)
theorem ev_at {α : Type} {g : Nat → Option α} {r : α} (K : Nat) (h : ∀ k, g (k + K) = some r) : Ev g r := ⟨K, fun n hn => by obtain ⟨m, rfl⟩ : ∃ m, n = m + K := ⟨n - K, by omega⟩; exact h m⟩
theorem w64 {i : Int} (h0 : -9223372036854775808 ≤ i) (h1 : i ≤ 9223372036854775807) : wrap64 i = i := by
  unfold wrap64
  omega
theorem bne_self (b : Bool) : (b != b) = false := by cases b <;> rfl
theorem cons_drop {α : Type} (xs : List α) (i : Nat) (h : i < xs.length) : xs.drop i = xs[i] :: xs.drop (i + 1) := List.drop_eq_getElem_cons h
/-- a loop over the indexes of a list: what holds of one round holds of all -/
theorem ev_for {β ρ : Type} (n : Nat) (l : Nat → β → Int → Option ρ) (st : Nat → β) (r : ρ) (hstep : ∀ i, i < n → ∀ k, l (k + 1) (st i) (i : Int) = l k (st (i + 1)) ((i : Int) + 1)) (hend : ∀ k, l (k + 1) (st n) (n : Int) = some r) : ∀ i, i ≤ n → Ev (fun k => l k (st i) (i : Int)) r := by
  intro i hi
  obtain ⟨d, hd⟩ : ∃ d, n - i = d := ⟨_, rfl⟩
  induction d generalizing i with
  | zero =>
    obtain rfl : i = n := by omega
    exact ev_at 1 hend
  | succ d ih =>
    refine Ev.step (f := fun k => l k (st (i + 1)) ((i : Int) + 1)) (fun k => hstep i (by omega) k) ?_
    have := ih (i + 1) (by omega) (by omega)
    rwa [show ((i + 1 : Nat) : Int) = (i : Int) + 1 from by omega] at this

theorem len_list (s : ByteArray) : s.data.toList.length = s.size := rfl
theorem bt_list (s : ByteArray) (i : Nat) (h : i < s.data.toList.length) : bt s (i : Int) = ((s.data.toList[i]'h).toNat : Int) := by
  have h2 : i < s.size := h
  have e : (i : Int).toNat = i := Int.toNat_natCast i
  unfold bt
  rw [dif_pos (by rw [e]; exact h2)]
  simp only [e]
  rfl
theorem u8_lt (c : UInt8) : c.toNat < 256 := c.toNat_lt
theorem str_eq (a b : ByteArray) : (a.toList == b.toList) = decide (a = b) := by
  rw [Lib.toList_data, Lib.toList_data]
  by_cases h : a = b
  · subst h; simp
  · rw [decide_eq_false h]
    rw [beq_eq_false_iff_ne]
    intro e
    apply h
    cases a; cases b
    simp at e
    simp [e]

theorem all_of_drop {α : Type} (p : α → Bool) : ∀ m : List α, (m.dropWhile p).all p = true → m.all p = true
  | [], _ => rfl
  | a :: m, h => by
    cases hp : p a with
    | true =>
      rw [List.dropWhile_cons, if_pos hp] at h
      rw [List.all_cons, hp, all_of_drop p m h]
      rfl
    | false =>
      simp [List.dropWhile_cons, hp] at h
theorem drop_all {α : Type} (p : α → Bool) : ∀ m : List α, m.all p = true → m.dropWhile p = []
  | [], _ => rfl
  | a :: m, h => by
    rw [List.all_cons, Bool.and_eq_true] at h
    rw [List.dropWhile_cons, if_pos h.1, drop_all p m h.2]
theorem trim_nil (l cs : List UInt8) : (Lib.trimS l cs == []) = l.all (cs.contains ·) := by
  unfold Lib.trimS Lib.trimLeftS Lib.trimRightS
  cases h : l.all (cs.contains ·) with
  | true =>
    rw [drop_all (cs.contains ·) l.reverse (by rw [List.all_reverse]; exact h)]
    rfl
  | false =>
    rw [beq_eq_false_iff_ne]
    intro e
    have h1 : ((l.reverse.dropWhile (cs.contains ·)).reverse).all (cs.contains ·) = true := all_of_drop _ _ (by rw [e]; rfl)
    rw [List.all_reverse] at h1
    have h2 := all_of_drop _ _ h1
    rw [List.all_reverse, h] at h2
    exact absurd h2 (by decide)

def oth (c : UInt8) : UInt8 := c ^^^ 32
def smallC (c : UInt8) : Bool := decide (97 ≤ c.toNat)
def letterC (c : UInt8) : Bool := (decide (97 ≤ c.toNat) && decide (c.toNat ≤ 104)) || (decide (65 ≤ c.toNat) && decide (c.toNat ≤ 72))
def goodI : List UInt8 → List UInt8 → Bool
  | _, [] => true
  | pre, c :: r => !(pre.contains c) && (smallC c || pre.contains (oth c)) && goodI (pre ++ [c]) r
def stepO (v : List UInt8 × Bool) (c : UInt8) : List UInt8 × Bool := if smallC c = true then (v.1 ++ [c], v.2) else (v.1.erase (oth c), v.2 && decide (v.1.getLast? = some (oth c)))
def tourB (s : ByteArray) : Bool := decide (s.size ≤ 16) && s.data.toList.all letterC && goodI [] s.data.toList
theorem u8_all (p : UInt8 → Prop) [DecidablePred p] (h : ∀ n : Fin 256, p (UInt8.ofNat n.val)) (c : UInt8) : p c := by
  have := h ⟨c.toNat, c.toNat_lt⟩
  simpa using this
theorem bits_oth (c : UInt8) : Go.bits .xor .u8 (c.toNat : Int) 32 = ((oth c).toNat : Int) :=
  u8_all (fun c => Go.bits .xor .u8 (c.toNat : Int) 32 = ((oth c).toNat : Int)) (by decide +kernel) c
theorem oth_oth (c : UInt8) : oth (oth c) = c := u8_all (fun c => oth (oth c) = c) (by decide +kernel) c
theorem oth_cap (c : UInt8) (h : letterC c = true) (hs : smallC c = true) : smallC (oth c) = false ∧ letterC (oth c) = true :=
  u8_all (fun c => letterC c = true → smallC c = true → smallC (oth c) = false ∧ letterC (oth c) = true) (by decide +kernel) c h hs
theorem oth_small (c : UInt8) (h : letterC c = true) (hs : smallC c = false) : smallC (oth c) = true ∧ letterC (oth c) = true :=
  u8_all (fun c => letterC c = true → smallC c = false → smallC (oth c) = true ∧ letterC (oth c) = true) (by decide +kernel) c h hs
theorem oth_plus (c : UInt8) (h : letterC c = true) (hs : smallC c = false) : ((oth c).toNat : Int) = (c.toNat : Int) + 32 :=
  u8_all (fun c => letterC c = true → smallC c = false → ((oth c).toNat : Int) = (c.toNat : Int) + 32) (by decide +kernel) c h hs
theorem nat_u8 (c : UInt8) : ((c.toNat : Int)).toNat.toUInt8 = c := by simp
theorem letter_contains (c : UInt8) : [97, 98, 99, 100, 101, 102, 103, 104, 65, 66, 67, 68, 69, 70, 71, 72].contains c = letterC c :=
  u8_all (fun c => [97, 98, 99, 100, 101, 102, 103, 104, 65, 66, 67, 68, 69, 70, 71, 72].contains c = letterC c) (by decide +kernel) c
/-- the byte string of a list -/
def bs (l : List UInt8) : ByteArray := ⟨l.toArray⟩
theorem bs_list (l : List UInt8) : (bs l).data.toList = l := by simp [bs]
theorem bs_size (l : List UInt8) : (bs l).size = l.length := by simp [bs, ByteArray.size]
theorem bs_eta (s : ByteArray) : bs s.data.toList = s := by cases s; simp [bs]
theorem bs_inj {s t : ByteArray} (h : s.data.toList = t.data.toList) : s = t := by rw [← bs_eta s, ← bs_eta t, h]
theorem bs_append (l m : List UInt8) : bs l ++ bs m = bs (l ++ m) := bs_inj (by simp [bs])
theorem bs_extract (l : List UInt8) (i j : Nat) : (bs l).extract i j = bs ((l.drop i).take (j - i)) := bs_inj (by rw [Lib.extract_data, bs_list, bs_list])
theorem at_first (c : UInt8) : ∀ l : List UInt8, c ∈ l → l.idxOf c < l.length ∧ l.erase c = l.take (l.idxOf c) ++ l.drop (l.idxOf c + 1)
  | [], h => by simp at h
  | x :: l, h => by
    by_cases hx : x = c
    · subst hx
      simp
    · have h2 : c ∈ l := by
        rcases List.mem_cons.1 h with h | h
        · exact absurd h.symm hx
        · exact h
      obtain ⟨h3, h4⟩ := at_first c l h2
      have hb : (x == c) = false := by simpa using hx
      rw [List.idxOf_cons, hb]
      simp only [cond_false, List.length_cons]
      refine ⟨by omega, ?_⟩
      rw [List.erase_cons, hb]
      simp [h4]
theorem last_iff (c : UInt8) (l : List UInt8) (hn : l.Nodup) (h : c ∈ l) : l.idxOf c = l.length - 1 ↔ l.getLast? = some c := by
  obtain ⟨h1, _⟩ := at_first c l h
  have hg : l[l.idxOf c]'h1 = c := by
    exact List.getElem_idxOf h1
  rw [List.getLast?_eq_getElem?]
  constructor
  · intro e
    rw [← e, List.getElem?_eq_getElem h1, hg]
  · intro e
    obtain ⟨h2, h3⟩ := List.getElem?_eq_some_iff.1 e
    have h4 := List.Nodup.idxOf_getElem hn (l.length - 1) h2
    rw [h3] at h4
    exact h4
/-- the state behind a part of a good tour -/
structure TourJ (pre open_ seen : List UInt8) : Prop where
  lets : ∀ x ∈ pre, letterC x = true
  inSeen : ∀ x, x ∈ seen ↔ x ∈ pre ∧ smallC x = true
  inOpen : ∀ x, x ∈ open_ ↔ x ∈ pre ∧ smallC x = true ∧ oth x ∉ pre
  nodup : open_.Nodup
  caps : ∀ x ∈ pre, smallC x = false → oth x ∈ pre
theorem TourJ.nil : TourJ [] [] [] := ⟨by simp, by simp, by simp, by simp, by simp⟩
theorem TourJ.small {pre open_ seen : List UInt8} (J : TourJ pre open_ seen) {c : UInt8} (hl : letterC c = true) (hs : smallC c = true) (hc : c ∉ pre) : TourJ (pre ++ [c]) (open_ ++ [c]) (seen ++ [c]) := by
  have hoc : oth c ∉ pre := fun h => hc (by have := J.caps _ h (oth_cap c hl hs).1; rwa [oth_oth] at this)
  have hne : ∀ x, x ∈ pre → smallC x = true → oth x ≠ c := fun x hx h1 e => by
    have := (oth_cap x (J.lets x hx) h1).1
    rw [e, hs] at this
    exact absurd this (by decide)
  have hcc : oth c ≠ c := fun e => by
    have := (oth_cap c hl hs).1
    rw [e, hs] at this
    exact absurd this (by decide)
  refine ⟨fun x hx => ?_, fun x => ?_, fun x => ?_, ?_, fun x hx h => ?_⟩
  · rcases List.mem_append.1 hx with h | h
    · exact J.lets x h
    · obtain rfl : x = c := by simpa using h
      exact hl
  · simp only [List.mem_append, List.mem_singleton, J.inSeen]
    constructor
    · rintro (⟨h1, h2⟩ | rfl)
      · exact ⟨.inl h1, h2⟩
      · exact ⟨.inr rfl, hs⟩
    · rintro ⟨h1 | rfl, h2⟩
      · exact .inl ⟨h1, h2⟩
      · exact .inr rfl
  · simp only [List.mem_append, List.mem_singleton, J.inOpen, not_or]
    constructor
    · rintro (⟨h1, h2, h3⟩ | rfl)
      · exact ⟨.inl h1, h2, h3, hne x h1 h2⟩
      · exact ⟨.inr rfl, hs, hoc, hcc⟩
    · rintro ⟨h1 | rfl, h2, h3, h4⟩
      · exact .inl ⟨h1, h2, h3⟩
      · exact .inr rfl
  · rw [List.nodup_append]
    refine ⟨J.nodup, by simp, fun x hx y hy e => ?_⟩
    obtain rfl : y = c := by simpa using hy
    subst e
    exact hc ((J.inOpen x).1 hx).1
  · rcases List.mem_append.1 hx with h2 | h2
    · exact List.mem_append.2 (.inl (J.caps x h2 h))
    · obtain rfl : x = c := by simpa using h2
      rw [hs] at h
      exact absurd h (by decide)
theorem TourJ.cap {pre open_ seen : List UInt8} (J : TourJ pre open_ seen) {c : UInt8} (hl : letterC c = true) (hs : smallC c = false) (hc : c ∉ pre) (ho : oth c ∈ pre) : TourJ (pre ++ [c]) (open_.erase (oth c)) seen := by
  have hns : ∀ x, smallC x = true → x ≠ c := fun x h e => by rw [e, hs] at h; exact absurd h (by decide)
  refine ⟨fun x hx => ?_, fun x => ?_, fun x => ?_, J.nodup.erase _, fun x hx h => ?_⟩
  · rcases List.mem_append.1 hx with h | h
    · exact J.lets x h
    · obtain rfl : x = c := by simpa using h
      exact hl
  · simp only [List.mem_append, List.mem_singleton, J.inSeen]
    constructor
    · rintro ⟨h1, h2⟩
      exact ⟨.inl h1, h2⟩
    · rintro ⟨h1 | rfl, h2⟩
      · exact ⟨h1, h2⟩
      · exact absurd rfl (hns _ h2)
  · rw [J.nodup.mem_erase_iff]
    simp only [List.mem_append, List.mem_singleton, J.inOpen, not_or]
    constructor
    · rintro ⟨h0, h1, h2, h3⟩
      exact ⟨.inl h1, h2, h3, fun e => h0 (by rw [← e, oth_oth])⟩
    · rintro ⟨h1 | rfl, h2, h3, h4⟩
      · exact ⟨fun e => h4 (by rw [e, oth_oth]), h1, h2, h3⟩
      · exact absurd rfl (hns _ h2)
  · rcases List.mem_append.1 hx with h2 | h2
    · exact List.mem_append.2 (.inl (J.caps x h2 h))
    · obtain rfl : x = c := by simpa using h2
      exact List.mem_append.2 (.inl ho)
theorem TourJ.in_open {pre open_ seen : List UInt8} (J : TourJ pre open_ seen) {c : UInt8} (hl : letterC c = true) (hs : smallC c = false) : oth c ∈ open_ ↔ c ∉ pre ∧ oth c ∈ pre := by
  rw [J.inOpen, oth_oth]
  have := (oth_small c hl hs).1
  constructor
  · rintro ⟨h1, _, h3⟩
    exact ⟨h3, h1⟩
  · rintro ⟨h1, h2⟩
    exact ⟨h2, this, h1⟩
theorem goodI_tail {pre : List UInt8} {c : UInt8} {r : List UInt8} (h : goodI pre (c :: r) = true) : c ∉ pre ∧ (smallC c = false → oth c ∈ pre) ∧ goodI (pre ++ [c]) r = true := by
  rw [goodI] at h
  simp only [Bool.and_eq_true, Bool.not_eq_true', Bool.or_eq_true] at h
  refine ⟨fun h2 => ?_, fun h2 => ?_, h.2⟩
  · have := List.contains_iff_mem.2 h2
    rw [h.1.1] at this
    exact absurd this (by decide)
  · rcases h.1.2 with h3 | h3
    · rw [h2] at h3; exact absurd h3 (by decide)
    · exact List.contains_iff_mem.1 h3
/-- behind a part of a tour the state stands -/
theorem J_fold : ∀ (r pre open_ seen : List UInt8) (free : Bool), TourJ pre open_ seen → (∀ x ∈ r, letterC x = true) → goodI pre r = true → ∃ seen', TourJ (pre ++ r) (r.foldl stepO (open_, free)).1 seen'
  | [], pre, open_, seen, free, J, _, _ => ⟨seen, by simpa using J⟩
  | c :: r, pre, open_, seen, free, J, hl, hg => by
    obtain ⟨h1, h2, h3⟩ := goodI_tail hg
    have hc := hl c (by simp)
    rw [List.foldl_cons, show pre ++ c :: r = (pre ++ [c]) ++ r by simp]
    cases hs : smallC c with
    | true =>
      have e : stepO (open_, free) c = (open_ ++ [c], free) := by simp [stepO, hs]
      rw [e]
      exact J_fold r _ _ _ _ (J.small hc hs h1) (fun x hx => hl x (by simp [hx])) h3
    | false =>
      have e : stepO (open_, free) c = (open_.erase (oth c), free && decide (open_.getLast? = some (oth c))) := by simp [stepO, hs]
      rw [e]
      exact J_fold r _ _ _ _ (J.cap hc hs h1 (h2 hs)) (fun x hx => hl x (by simp [hx])) h3
theorem goodI_take : ∀ (r pre : List UInt8) (n : Nat), goodI pre r = true → goodI pre (r.take n) = true
  | [], pre, n, _ => by simp [goodI]
  | c :: r, pre, 0, _ => by simp [goodI]
  | c :: r, pre, n + 1, h => by
    rw [List.take_succ_cons]
    rw [goodI] at h ⊢
    simp only [Bool.and_eq_true] at h ⊢
    exact ⟨h.1, goodI_take r _ n h.2⟩

def smI (c : UInt8) : Int := if smallC c = true then (c.toNat : Int) else ((oth c).toNat : Int)
theorem small_is (c : UInt8) (h : letterC c = true) : Ev (fun k => spec_ldSmall.f k (c.toNat : Int)) (smI c) := by
  have hlt := u8_lt c
  unfold spec_ldSmall.f smI
  have hl : (97 ≤ c.toNat ∧ c.toNat ≤ 104) ∨ (65 ≤ c.toNat ∧ c.toNat ≤ 72) := by simpa [letterC] using h
  cases hs : smallC c with
  | true =>
    have h97 : 97 ≤ c.toNat := by simpa [smallC] using hs
    refine ev_pos (by omega) (ev_at 1 (fun k => ?_))
    simp only [spec_ldSmall.j0, Bool.false_eq_true, if_false, if_true]
    rw [decide_eq_true (by omega), if_pos rfl]
  | false =>
    have h97 : ¬ 97 ≤ c.toNat := by simpa [smallC] using hs
    have hp := oth_plus c h hs
    refine ev_neg (by omega) (ev_at 1 (fun k => ?_))
    simp only [spec_ldSmall.j0, Bool.false_eq_true, if_false, if_true]
    rw [if_pos (by omega), if_pos (by omega), hp]
    congr 1
    omega
theorem small_no (c : UInt8) (h : letterC c = false) : Ev (fun k => spec_ldSmall.f k (c.toNat : Int)) 32 := by
  have hlt := u8_lt c
  unfold spec_ldSmall.f
  have hl : ¬ ((97 ≤ c.toNat ∧ c.toNat ≤ 104) ∨ (65 ≤ c.toNat ∧ c.toNat ≤ 72)) := by
    intro h2
    have : letterC c = true := by simpa [letterC] using h2
    rw [h] at this
    exact absurd this (by decide)
  by_cases h97 : 97 ≤ c.toNat
  · refine ev_pos (by omega) (ev_at 1 (fun k => ?_))
    simp only [spec_ldSmall.j0]
    rw [decide_eq_false (by omega)]
    simp only [Bool.false_eq_true, if_false]
    rw [if_pos (by omega), if_neg (by omega)]
  · refine ev_neg (by omega) (ev_at 1 (fun k => ?_))
    simp only [spec_ldSmall.j0, Bool.false_eq_true, if_false]
    by_cases h65 : 65 ≤ c.toNat
    · rw [if_pos (by omega), if_neg (by omega)]
    · rw [if_neg (by omega)]
theorem at_l0 (l : List UInt8) (c : UInt8) (hn : l.length ≤ 1048576) (d : Nat) : ∀ i : Nat, l.length - i = d → i ≤ l.length → (∀ j, j < i → l[j]? ≠ some c) →
    Ev (fun k => spec_ldAt.l0 k (bs l) (c.toNat : Int) (i : Int)) (if c ∈ l then (l.idxOf c : Int) else -1) := by
  induction d with
  | zero =>
    intro i hd hi hb
    obtain rfl : i = l.length := by omega
    have hno : c ∉ l := fun h => by
      obtain ⟨j, hj, e⟩ := List.getElem_of_mem h
      exact hb j hj (by rw [List.getElem?_eq_getElem hj, e])
    rw [if_neg hno]
    refine ev_at 1 (fun k => ?_)
    simp only [spec_ldAt.l0]
    rw [bs_size, if_neg (by omega)]
  | succ d ih =>
    intro i hd hi hb
    have hl : i < l.length := by omega
    have hbt : bt (bs l) (i : Int) = (l[i].toNat : Int) := by
      rw [bt_list (bs l) i (by rw [bs_list]; exact hl)]
      simp only [bs_list]
    by_cases h : l[i] = c
    · have hmem : c ∈ l := h ▸ List.getElem_mem hl
      have hidx : l.idxOf c = i := by
        obtain ⟨h1, _⟩ := at_first c l hmem
        rcases Nat.lt_trichotomy (l.idxOf c) i with h2 | h2 | h2
        · exact absurd (by rw [List.getElem?_eq_getElem h1]; congr 1; exact List.getElem_idxOf h1) (hb _ h2)
        · exact h2
        · have h5 := List.not_of_lt_findIdx (p := fun x => x == c) (xs := l) (i := i) h2
          exact absurd (by simpa using h) (by simpa using h5)
      rw [if_pos hmem, hidx]
      refine ev_at 1 (fun k => ?_)
      simp only [spec_ldAt.l0]
      rw [bs_size, if_pos (by omega), if_pos (by omega), hbt, if_pos (by rw [h])]
    · refine Ev.step (fun k => ?_) (ih (i + 1) (by omega) (by omega) (fun j hj => ?_))
      · simp only [spec_ldAt.l0]
        rw [bs_size, if_pos (by omega), if_pos (by omega), hbt, if_neg (fun e => h (UInt8.toNat_inj.1 (by omega))), w64 (by omega) (by omega)]
        rfl
      · by_cases e : j = i
        · subst e
          rw [List.getElem?_eq_getElem hl]
          intro e2
          exact h (Option.some.inj e2)
        · exact hb j (by omega)
theorem at_is (l : List UInt8) (c : UInt8) (hn : l.length ≤ 1048576) : Ev (fun k => spec_ldAt.f k (bs l) (c.toNat : Int)) (if c ∈ l then (l.idxOf c : Int) else -1) := by
  unfold spec_ldAt.f
  exact at_l0 l c hn _ 0 rfl (Nat.zero_le _) (fun j hj => absurd hj (Nat.not_lt_zero _))
theorem enc_small (c : UInt8) (h : letterC c = true) (hs : smallC c = true) : Utf8.encode (wrap32 (c.toNat : Int)) = bs [c] :=
  u8_all (fun c => letterC c = true → smallC c = true → (Utf8.encode (wrap32 (c.toNat : Int))).data.toList = [c]) (by decide +kernel) c h hs |> fun e => bs_inj (by rw [e, bs_list])
section
variable (s : ByteArray) (hn : s.size ≤ 1048576)
set_option linter.unusedSectionVars false
include hn
theorem open_l0 (d : Nat) : ∀ (i : Nat) (open_ seen : List UInt8) (free : Bool), s.size - i = d → i ≤ s.size → TourJ (s.data.toList.take i) open_ seen → (∀ x ∈ s.data.toList.drop i, letterC x = true) → open_.length ≤ i → seen.length ≤ i →
    Ev (fun k => spec_ldOpen.l0 k s (bs open_) (bs seen) free (i : Int)) (if goodI (s.data.toList.take i) (s.data.toList.drop i) = true then (bs ((s.data.toList.drop i).foldl stepO (open_, free)).1, true, ((s.data.toList.drop i).foldl stepO (open_, free)).2) else (bs [], false, false)) := by
  induction d with
  | zero =>
    intro i open_ seen free hd hi J hl ho hse
    obtain rfl : i = s.size := by omega
    have hdrop : s.data.toList.drop s.size = [] := List.drop_of_length_le (by rw [len_list]; exact Nat.le_refl _)
    rw [hdrop, goodI, if_pos rfl]
    refine ev_at 1 (fun k => ?_)
    simp only [spec_ldOpen.l0]
    rw [if_neg (by omega)]
    rfl
  | succ d ih =>
    intro i open_ seen free hd hi J hl ho hse
    have hlt : i < s.data.toList.length := by rw [len_list]; omega
    have hlt2 : i < s.size := by omega
    rw [cons_drop _ i hlt] at hl ⊢
    have htake : s.data.toList.take (i + 1) = s.data.toList.take i ++ [s.data.toList[i]] := List.take_succ_eq_append_getElem hlt
    have hbt := bt_list s i hlt
    generalize hcc : s.data.toList[i] = c at hl htake hbt
    have hc := hl c (by simp)
    have hsm := small_is c hc
    rw [List.foldl_cons, goodI]
    cases hs : smallC c with
    | true =>
      rw [show smI c = (c.toNat : Int) by simp [smI, hs]] at hsm
      rw [Bool.true_or, Bool.and_true]
      have hst : stepO (open_, free) c = (open_ ++ [c], free) := by simp [stepO, hs]
      rw [hst]
      have hat := at_is seen c (by omega)
      refine Ev.step (fun k => by simp only [spec_ldOpen.l0]; rfl) ?_
      refine ev_pos (by omega) (ev_pos (by omega) ?_)
      rw [hbt]
      refine Ev.bind hsm (ev_pos rfl ?_)
      by_cases hin : c ∈ s.data.toList.take i
      · rw [if_neg (by rw [List.contains_iff_mem.2 hin, Bool.not_true, Bool.false_and]; decide)]
        rw [if_pos ((J.inSeen c).2 ⟨hin, hs⟩)] at hat
        exact Ev.bind hat (ev_pos (by omega) (Ev.now _))
      · rw [if_neg (fun h => hin ((J.inSeen c).1 h).1)] at hat
        have hct : (s.data.toList.take i).contains c = false := by
          rw [← Bool.not_eq_true]
          exact fun h => hin (List.contains_iff_mem.1 h)
        have hi := ih (i + 1) (open_ ++ [c]) (seen ++ [c]) free (by omega) (by omega) (by rw [htake]; exact J.small hc hs hin) (fun x hx => hl x (by simp [hx])) (by simp; omega) (by simp; omega)
        rw [htake] at hi
        rw [hct, Bool.not_false, Bool.true_and]
        refine Ev.bind hat (ev_neg (by omega) ?_)
        rw [enc_small c hc hs, bs_append, bs_append, w64 (i := (i : Int) + 1) (by omega) (by omega), show (i : Int) + 1 = ((i + 1 : Nat) : Int) from by omega]
        exact ev_pos (by rw [bs_size, bs_size]; simp; omega) (ev_pos (by rw [bs_size, bs_size]; simp; omega) hi)
    | false =>
      rw [show smI c = ((oth c).toNat : Int) by simp [smI, hs]] at hsm
      have hp := oth_plus c hc hs
      have hst : stepO (open_, free) c = (open_.erase (oth c), free && decide (open_.getLast? = some (oth c))) := by simp [stepO, hs]
      rw [hst, Bool.false_or]
      have hat := at_is open_ (oth c) (by omega)
      refine Ev.step (fun k => by simp only [spec_ldOpen.l0]; rfl) ?_
      refine ev_pos (by omega) (ev_pos (by omega) ?_)
      rw [hbt]
      refine Ev.bind hsm (ev_neg (by omega) ?_)
      by_cases hin : oth c ∈ open_
      · obtain ⟨h1, h2⟩ := (J.in_open hc hs).1 hin
        have hct : (s.data.toList.take i).contains c = false := by
          rw [← Bool.not_eq_true]
          exact fun h => h1 (List.contains_iff_mem.1 h)
        rw [hct, List.contains_iff_mem.2 h2, Bool.not_false, Bool.true_and, Bool.true_and]
        rw [if_pos hin] at hat
        obtain ⟨h3, h4⟩ := at_first (oth c) open_ hin
        have hlast := last_iff (oth c) open_ J.nodup hin
        have hel := List.length_erase_of_mem hin
        have hi := fun free' => ih (i + 1) (open_.erase (oth c)) seen free' (by omega) (by omega) (by rw [htake]; exact J.cap hc hs h1 h2) (fun x hx => hl x (by simp [hx])) (by omega) (by omega)
        rw [htake] at hi
        generalize hg : open_.idxOf (oth c) = n at hat h3 h4 hlast
        have hex : (bs open_).extract 0 (n : Int).toNat ++ (bs open_).extract ((n : Int) + 1).toNat (bs open_).size = bs (open_.erase (oth c)) := by
          rw [bs_extract, bs_extract, bs_append, h4, bs_size, List.drop_zero, Int.toNat_natCast, show ((n : Int) + 1).toNat = n + 1 from by omega, Nat.sub_zero, List.take_of_length_le (l := open_.drop (n + 1)) (by rw [List.length_drop]; exact Nat.le_refl _)]
        have hsz : ((bs open_).extract 0 (n : Int).toNat).size + ((bs open_).extract ((n : Int) + 1).toNat (bs open_).size).size ≤ 9223372036854775807 := by
          rw [bs_extract, bs_extract, bs_size, bs_size, bs_size]
          simp
          omega
        refine Ev.bind hat (ev_neg (by omega) ?_)
        rw [w64 (i := (n : Int) + 1) (by omega) (by omega), hex, w64 (i := (i : Int) + 1) (by omega) (by omega), show (i : Int) + 1 = ((i + 1 : Nat) : Int) from by omega]
        have hz1 : (n : Int) ≤ ((bs open_).size : Int) := by rw [bs_size]; omega
        have hz2 : (n : Int) + 1 ≤ ((bs open_).size : Int) := by rw [bs_size]; omega
        cases free with
        | true =>
          have e : ((n : Int) == wrap64 (((bs open_).size : Int) - 1)) = decide (open_.getLast? = some (oth c)) := by
            rw [bs_size, w64 (by omega) (by omega), Bool.eq_iff_iff, beq_iff_eq, decide_eq_true_eq, ← hlast]
            omega
          rw [e, Bool.true_and]
          exact ev_pos rfl (ev_pos (by omega) (ev_pos hz1 (ev_pos (by omega) (ev_pos hz2 (ev_pos hsz (hi _))))))
        | false =>
          rw [Bool.false_and]
          exact ev_neg (by decide) (ev_pos (by omega) (ev_pos hz1 (ev_pos (by omega) (ev_pos hz2 (ev_pos hsz (hi _))))))
      · rw [if_neg hin] at hat
        have hno : (!(s.data.toList.take i).contains c && (s.data.toList.take i).contains (oth c)) = false := by
          rw [← Bool.not_eq_true]
          intro h
          simp only [Bool.and_eq_true, Bool.not_eq_true'] at h
          exact hin ((J.in_open hc hs).2 ⟨fun h2 => by rw [List.contains_iff_mem.2 h2] at h; exact absurd h.1 (by decide), List.contains_iff_mem.1 h.2⟩)
        rw [hno, Bool.false_and, if_neg (by decide)]
        exact Ev.bind hat (ev_pos (by omega) (Ev.now _))
end
theorem ldOpen_is (s : ByteArray) (hn : s.size ≤ 1048576) (hl : ∀ x ∈ s.data.toList, letterC x = true) : Ev (fun k => spec_ldOpen.f k s) (if goodI [] s.data.toList = true then (bs (s.data.toList.foldl stepO ([], true)).1, true, (s.data.toList.foldl stepO ([], true)).2) else (bs [], false, false)) := by
  have := open_l0 s hn _ 0 [] [] true rfl (Nat.zero_le _) (by simpa using TourJ.nil) (by simpa using hl) (by simp) (by simp)
  simpa [spec_ldOpen.f, bs] using this
theorem tour_l0 (s : ByteArray) (hn : s.size ≤ 1048576) (d : Nat) : ∀ i : Nat, s.size - i = d → i ≤ s.size → (∀ x ∈ s.data.toList.take i, letterC x = true) →
    Ev (fun k => spec_ldTour.l0 k s (i : Int)) (s.data.toList.all letterC && goodI [] s.data.toList) := by
  induction d with
  | zero =>
    intro i hd hi hl
    obtain rfl : i = s.size := by omega
    have hl2 : ∀ x ∈ s.data.toList, letterC x = true := by
      intro x hx
      refine hl x ?_
      rw [List.take_of_length_le (by rw [len_list]; exact Nat.le_refl _)]
      exact hx
    have h := ldOpen_is s hn hl2
    rw [List.all_eq_true.2 hl2, Bool.true_and]
    refine Ev.step (fun k => by simp only [spec_ldTour.l0]; rfl) (ev_neg (by omega) (Ev.bind h ?_))
    cases goodI [] s.data.toList <;> exact Ev.now _
  | succ d ih =>
    intro i hd hi hl
    have hlt : i < s.data.toList.length := by rw [len_list]; omega
    have hlt2 : i < s.size := by omega
    refine Ev.step (fun k => by simp only [spec_ldTour.l0]; rfl) (ev_pos (by omega) (ev_pos (by omega) ?_))
    rw [bt_list s i hlt]
    cases hc : letterC s.data.toList[i] with
    | true =>
      have hne : ¬ smI s.data.toList[i] = 32 := by
        have h1 : (97 ≤ s.data.toList[i].toNat ∧ s.data.toList[i].toNat ≤ 104) ∨ (65 ≤ s.data.toList[i].toNat ∧ s.data.toList[i].toNat ≤ 72) := by simpa [letterC] using hc
        unfold smI
        cases hs : smallC s.data.toList[i] with
        | true => rw [if_pos rfl]; omega
        | false => rw [if_neg (by decide), oth_plus _ hc hs]; omega
      refine Ev.bind (small_is _ hc) (ev_neg hne ?_)
      rw [w64 (i := (i : Int) + 1) (by omega) (by omega), show (i : Int) + 1 = ((i + 1 : Nat) : Int) from by omega]
      refine ih (i + 1) (by omega) (by omega) (fun x hx => ?_)
      rw [List.take_succ_eq_append_getElem hlt] at hx
      rcases List.mem_append.1 hx with h | h
      · exact hl x h
      · obtain rfl : x = s.data.toList[i] := by simpa using h
        exact hc
    | false =>
      have hall : s.data.toList.all letterC = false := List.all_eq_false.2 ⟨_, List.getElem_mem hlt, by rw [hc]; decide⟩
      rw [hall, Bool.false_and]
      exact Ev.bind (small_no _ hc) (ev_pos rfl (Ev.now _))
theorem ldTour_is (s : ByteArray) (hn : s.size ≤ 1048576) : Ev (fun k => spec_ldTour.f k s) (tourB s) := by
  unfold spec_ldTour.f tourB
  by_cases h : s.size ≤ 16
  · rw [decide_eq_true h, Bool.true_and]
    exact ev_neg (by omega) (by simpa using tour_l0 s hn _ 0 rfl (Nat.zero_le _) (by simp))
  · rw [decide_eq_false h, Bool.false_and, Bool.false_and]
    exact ev_pos (by omega) (Ev.now _)

theorem index_in (l : List UInt8) (c : UInt8) : (0 ≤ Lib.indexByte l c) ↔ c ∈ l := by
  have h := Lib.contains_iff_indexByte l c
  constructor
  · intro h2
    rw [decide_eq_true h2] at h
    exact List.contains_iff_mem.1 h
  · intro h2
    rw [List.contains_iff_mem.2 h2] at h
    simpa using h.symm
theorem isTour_l0 (s : ByteArray) (hn : s.size ≤ 1048576) (d : Nat) : ∀ i : Nat, s.size - i = d → i ≤ s.size →
    Ev (fun k => impl_IsTour.l0 k s (s.size : Int) (i : Int)) (goodI (s.data.toList.take i) (s.data.toList.drop i) && (decide (s.size ≤ 16) && s.data.toList.all letterC)) := by
  induction d with
  | zero =>
    intro i hd hi
    obtain rfl : i = s.size := by omega
    have hdrop : s.data.toList.drop s.size = [] := List.drop_of_length_le (by rw [len_list]; exact Nat.le_refl _)
    rw [hdrop, goodI, Bool.true_and]
    refine Ev.step (fun k => by simp only [impl_IsTour.l0]; rfl) (ev_neg (by omega) ?_)
    by_cases h : s.size ≤ 16
    · rw [decide_eq_true h, Bool.true_and]
      refine ev_pos (by omega) ?_
      unfold strings_Trim.f
      rw [if_pos ⟨by omega, by decide, by decide⟩, Option.bind_some, Lib.toList_data]
      have e : (Lib.trimS s.data.toList [97, 98, 99, 100, 101, 102, 103, 104, 65, 66, 67, 68, 69, 70, 71, 72] == []) = s.data.toList.all letterC := by
        rw [trim_nil]
        congr 1
        funext c
        exact letter_contains c
      exact ev_at 0 (fun k => congrArg some e)
    · rw [decide_eq_false h, Bool.false_and]
      exact ev_neg (by omega) (Ev.now _)
  | succ d ih =>
    intro i hd hi
    have hlt : i < s.data.toList.length := by rw [len_list]; omega
    have hlt2 : i < s.size := by omega
    have hih := ih (i + 1) (by omega) (by omega)
    rw [List.take_succ_eq_append_getElem hlt] at hih
    have hbt := bt_list s i hlt
    have hpre : (s.extract 0 (i : Int).toNat).data.toList = s.data.toList.take i := by rw [Lib.extract_data, List.drop_zero, Int.toNat_natCast, Nat.sub_zero]
    rw [cons_drop _ i hlt, goodI]
    refine Ev.step (fun k => by simp only [impl_IsTour.l0]; rfl) (ev_pos (by omega) (ev_pos (by omega) (ev_pos (by omega) (ev_pos (by omega) ?_))))
    simp only [strings_IndexByte.f, hpre, hbt, nat_u8]
    generalize s.data.toList[i] = c at hih ⊢
    generalize s.data.toList.take i = pre at hih ⊢
    refine ev_some ?_
    by_cases hin : c ∈ pre
    · rw [List.contains_iff_mem.2 hin, Bool.not_true, Bool.false_and, Bool.false_and, Bool.false_and]
      exact ev_pos ((index_in pre c).2 hin) (Ev.now _)
    · have hct : pre.contains c = false := by
        rw [← Bool.not_eq_true]
        exact fun h => hin (List.contains_iff_mem.1 h)
      rw [hct, Bool.not_false, Bool.true_and]
      refine ev_neg (fun h => hin ((index_in pre c).1 h)) ?_
      simp only [impl_isSmall.f]
      refine ev_some ?_
      rw [w64 (i := (i : Int) + 1) (by omega) (by omega), show (i : Int) + 1 = ((i + 1 : Nat) : Int) from by omega]
      have hsm : decide ((c.toNat : Int) ≥ 97) = smallC c := by
        unfold smallC
        rw [Bool.eq_iff_iff, decide_eq_true_eq, decide_eq_true_eq]
        omega
      rw [hsm]
      cases hs : smallC c with
      | true =>
        rw [Bool.true_or, Bool.true_and]
        exact ev_pos rfl hih
      | false =>
        rw [Bool.false_or]
        refine ev_neg (by decide) ?_
        simp only [impl_other.f, bits_oth]
        refine ev_some ?_
        simp only [nat_u8]
        refine ev_some ?_
        by_cases ho : oth c ∈ pre
        · rw [List.contains_iff_mem.2 ho, Bool.true_and]
          exact ev_neg (by have := (index_in pre (oth c)).2 ho; omega) hih
        · have hco : pre.contains (oth c) = false := by
            rw [← Bool.not_eq_true]
            exact fun h => ho (List.contains_iff_mem.1 h)
          rw [hco, Bool.false_and, Bool.false_and]
          exact ev_pos (Int.not_le.1 (fun h => ho ((index_in pre (oth c)).1 h))) (Ev.now _)
theorem isTour_is (s : ByteArray) (hn : s.size ≤ 1048576) : Ev (fun k => impl_IsTour.f k s) (tourB s) := by
  have h := isTour_l0 s hn _ 0 rfl (Nat.zero_le _)
  rw [List.take_zero, List.drop_zero] at h
  unfold impl_IsTour.f
  have e : tourB s = (goodI [] s.data.toList && (decide (s.size ≤ 16) && s.data.toList.all letterC)) := by
    unfold tourB
    cases goodI [] s.data.toList <;> simp
  rw [e]
  simpa using h

theorem suffix_one (l : List UInt8) (c : UInt8) : Lib.hasSuffix l [c] = decide (l.getLast? = some c) := by
  unfold Lib.hasSuffix
  rw [Bool.eq_iff_iff]
  simp only [List.isSuffixOf_iff_suffix, decide_eq_true_eq]
  constructor
  · rintro ⟨t, rfl⟩
    simp
  · intro h
    obtain ⟨ys, rfl⟩ := List.getLast?_eq_some_iff.1 h
    exact ⟨ys, rfl⟩
theorem opL_is : opL = stepO := by
  funext p c
  unfold opL stepO
  have h1 : decide ((c.toNat : Int) ≥ 97) = smallC c := by
    unfold smallC
    rw [Bool.eq_iff_iff]
    simp only [decide_eq_true_eq]
    omega
  rw [h1, suffix_one, cut_one]
  rfl
def vanL (l : List UInt8) : List UInt8 × Bool := l.foldl stepO ([], true)
theorem open_is (s : ByteArray) (h : s.size ≤ 1048576) : impl_open.f s = some (bs (vanL s.data.toList).1, (vanL s.data.toList).2) := by
  unfold impl_open.f vanL
  rw [if_pos h, opL_is]
  rfl
theorem tour_parts {s : ByteArray} (h : tourB s = true) : s.size ≤ 16 ∧ (∀ x ∈ s.data.toList, letterC x = true) ∧ goodI [] s.data.toList = true := by
  simp only [tourB, Bool.and_eq_true, decide_eq_true_eq] at h
  exact ⟨h.1.1, List.all_eq_true.1 h.1.2, h.2⟩
theorem ext_list (s : ByteArray) (n : Nat) : (s.extract 0 n).data.toList = s.data.toList.take n := by
  rw [Lib.extract_data, List.drop_zero, Nat.sub_zero]
theorem ext_size (s : ByteArray) (n : Nat) (h : s.size ≤ 1048576) : (s.extract 0 n).size ≤ 1048576 := by
  rw [ByteArray.size_extract]
  omega
theorem ldOpen_part (s : ByteArray) (h : tourB s = true) (n : Nat) : Ev (fun k => spec_ldOpen.f k (s.extract 0 n)) (bs (vanL (s.data.toList.take n)).1, true, (vanL (s.data.toList.take n)).2) := by
  obtain ⟨h1, h2, h3⟩ := tour_parts h
  have := ldOpen_is (s.extract 0 n) (ext_size s n (by omega)) (fun x hx => by rw [ext_list] at hx; exact h2 x (List.mem_of_mem_take hx))
  rw [ext_list, if_pos (goodI_take _ _ _ h3)] at this
  exact this
theorem ldOpen_tour (s : ByteArray) (h : tourB s = true) : Ev (fun k => spec_ldOpen.f k s) (bs (vanL s.data.toList).1, true, (vanL s.data.toList).2) := by
  obtain ⟨h1, h2, h3⟩ := tour_parts h
  have := ldOpen_is s (by omega) h2
  rw [if_pos h3] at this
  exact this

theorem enc_back (c : UInt8) (h : letterC c = true) (hs : smallC c = true) : Utf8.encode (((c.toNat : Int) - 97 + 65) % 256) = bs [oth c] ∧ ¬ ((c.toNat : Int) < 97) :=
  u8_all (fun c => letterC c = true → smallC c = true → Utf8.encode (((c.toNat : Int) - 97 + 65) % 256) = bs [oth c] ∧ ¬ ((c.toNat : Int) < 97)) (by decide +kernel) c h hs
theorem enc_cap (c : UInt8) (h : letterC c = true) (hs : smallC c = false) : Utf8.encode (wrap32 ((oth c).toNat : Int)) = bs [oth c] ∧ (c.toNat : Int) < 97 ∧ ((oth c).toNat : Int) ≠ (c.toNat : Int) :=
  u8_all (fun c => letterC c = true → smallC c = false → Utf8.encode (wrap32 ((oth c).toNat : Int)) = bs [oth c] ∧ (c.toNat : Int) < 97 ∧ ((oth c).toNat : Int) ≠ (c.toNat : Int)) (by decide +kernel) c h hs
def backU (l : List UInt8) : List UInt8 := l.reverse.map oth
theorem back_nums (l : List UInt8) : strOfNums (backN l) = bs (backU l) := by
  unfold strOfNums backN backU bs
  rw [List.map_map]
  congr 2
  apply List.map_congr_left
  intro c _
  exact nat_u8 (oth c)
theorem back_spec (s : ByteArray) (hn : s.size ≤ 16) (hl : ∀ x ∈ s.data.toList, letterC x = true) : ∀ i : Nat, i ≤ s.size →
    Ev (fun k => spec_BackTour.l0 k s (bs (backU (s.data.toList.drop i))) ((i : Int) - 1)) (bs (backU s.data.toList), true) := by
  intro i
  induction i with
  | zero =>
    intro _
    refine ev_at 1 (fun k => ?_)
    simp only [spec_BackTour.l0]
    rw [if_neg (by omega), List.drop_zero]
  | succ i ih =>
    intro hi
    have hlt : i < s.data.toList.length := by rw [len_list]; omega
    have hb := bt_list s i hlt
    have hc : letterC s.data.toList[i] = true := hl _ (List.getElem_mem hlt)
    have hsm := small_is _ hc
    have hnext := ih (by omega)
    rw [cons_drop s.data.toList i hlt] at hnext
    have hlen : (backU (s.data.toList.drop (i + 1))).length ≤ 16 := by unfold backU; rw [List.length_map, List.length_reverse, List.length_drop, len_list]; omega
    generalize s.data.toList[i] = c at hb hc hsm hnext
    have ef : backU (c :: s.data.toList.drop (i + 1)) = backU (s.data.toList.drop (i + 1)) ++ [oth c] := by simp [backU]
    rw [ef] at hnext
    refine Ev.step (fun k => by simp only [spec_BackTour.l0]; rfl) ?_
    rw [show ((i + 1 : Nat) : Int) - 1 = (i : Int) from by omega]
    refine ev_pos (by omega) (ev_pos (by omega) (ev_pos (by omega) ?_))
    rw [hb, w64 (i := (i : Int) - 1) (by omega) (by omega)]
    refine Ev.bind hsm ?_
    cases hs : smallC c with
    | true =>
      obtain ⟨e1, e2⟩ := enc_back c hc hs
      rw [smI, if_pos hs]
      refine ev_pos rfl (ev_neg e2 ?_)
      rw [e1, bs_append, bs_size, bs_size]
      exact ev_pos (by simp; omega) hnext
    | false =>
      obtain ⟨e1, e2, e3⟩ := enc_cap c hc hs
      have hsm2 := hsm
      rw [smI, if_neg (by rw [hs]; decide)] at hsm2
      rw [smI, if_neg (by rw [hs]; decide)]
      refine ev_neg e3 (ev_pos e2 (Ev.bind hsm2 ?_))
      rw [e1, bs_append, bs_size, bs_size]
      exact ev_pos (by simp; omega) hnext
theorem FnExactBackTour : laws_FnExactBackTour.Pure := by
  intro s hs
  refine Ev.rounds ?_
  unfold laws_FnExactBackTour.f
  by_cases h : s.size ≤ 1048576
  · refine ev_neg (by omega) ?_
    have key : ∃ r : ByteArray × Bool, Ev (fun k => spec_BackTour.f k s) r ∧ Ev (fun k => impl_BackTour.f k s) r := by
      have ho := open_is s h
      by_cases ht : tourB s = true
      · have h1 := ldTour_is s h
        have h2 := isTour_is s h
        rw [ht] at h1 h2
        obtain ⟨p1, p2, _⟩ := tour_parts ht
        by_cases he : (bs (vanL s.data.toList).1).toList = ([] : List UInt8)
        · refine ⟨(bs (backU s.data.toList), true), ?_, ?_⟩
          · unfold spec_BackTour.f
            refine Ev.bind h1 (ev_pos rfl (Ev.bind (ldOpen_tour s ht) (ev_pos he ?_)))
            rw [w64 (i := (s.size : Int) - 1) (by omega) (by omega)]
            have h3 := back_spec s p1 p2 s.size (Nat.le_refl _)
            rw [← len_list, List.drop_length] at h3
            exact h3
          · unfold impl_BackTour.f
            rw [ho]
            refine ev_some (Ev.bind h2 (ev_pos rfl (ev_pos he (ev_pos h ?_))))
            rw [back_nums]
            exact Ev.now _
        · refine ⟨((⟨#[]⟩ : ByteArray), false), ?_, ?_⟩
          · unfold spec_BackTour.f
            exact Ev.bind h1 (ev_pos rfl (Ev.bind (ldOpen_tour s ht) (ev_neg he (Ev.now _))))
          · unfold impl_BackTour.f
            rw [ho]
            exact ev_some (Ev.bind h2 (ev_pos rfl (ev_neg he (Ev.now _))))
      · refine ⟨((⟨#[]⟩ : ByteArray), false), ?_, ?_⟩
        · unfold spec_BackTour.f
          exact Ev.bind (ldTour_is s h) (ev_neg ht (Ev.now _))
        · unfold impl_BackTour.f
          rw [ho]
          exact ev_some (Ev.bind (isTour_is s h) (ev_neg ht (Ev.now _)))
    obtain ⟨r, h1, h2⟩ := key
    exact Ev.bind h1 (Ev.bind h2 (ev_pos rfl (ev_neg (by simp) (Ev.now _))))
  · exact ev_pos (by omega) (Ev.now _)

end Go.Proofs.YtoimgbcbmbpfaaaDoor.Pure

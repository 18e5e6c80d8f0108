/- For every text: the program's ExtraBySorting and the reference's return the same. Condition: what the law itself lets in (at most 1048576 bytes). -/
import Derived.Test.YtbjjmnnbkaoajaaDoorM0
import Derived.Test.YtbjjmnnbkaoajaaDoorM1
import Derived.Test.YtbjjmnnbkaoajaaDoorM2
import Derived.Test.YtbjjmnnbkaoajaaDoorM3
import Derived.Lib.ConvBytes
import Derived.Lib.IndexAny
import Derived.Shelf.Strings.SlTrimAscii
namespace Go.Proofs.YtbjjmnnbkaoajaaDoor.Pure
open Go.RowKit Go.Proofs.YtbjjmnnbkaoajaaDoor.M Go.Proofs.YtbjjmnnbkaoajaaDoorW.PrintWords Go.Proofs.YtbjjmnnbkaoajaaDoorW.PrintLast Go.Proofs.YtbjjmnnbkaoajaaDoorW.PrintMore
set_option linter.unusedVariables false
set_option linter.unusedSimpArgs false
theorem ev_pos {α : Type} {c : Prop} [Decidable c] {g f : Nat → Option α} {r : α} (hc : c) (h : Ev g r) : Ev (fun k => if c then g k else f k) r := Ev.congr (fun _ => if_pos hc) h
theorem ev_neg {α : Type} {c : Prop} [Decidable c] {g f : Nat → Option α} {r : α} (hc : ¬ c) (h : Ev f r) : Ev (fun k => if c then g k else f k) r := Ev.congr (fun _ => if_neg hc) h
theorem ev_some {α β : Type} {a : α} {f : Nat → α → Option β} {r : β} (h : Ev (fun n => f n a) r) : Ev (fun n => (some a).bind (f n)) r := Ev.bind (Ev.now a) h
theorem ev_ret {α : Type} {g : Nat → Option α} {r : α} (h : Ev g r) : Ev (fun n => (g n).bind fun t => some t) r := Ev.bind h (Ev.now r)
theorem ev_at {α : Type} {g : Nat → Option α} {r : α} (K : Nat) (h : ∀ k, g (k + K) = some r) : Ev g r := ⟨K, fun n hn => by obtain ⟨m, rfl⟩ : ∃ m, n = m + K := ⟨n - K, by omega⟩; exact h m⟩
theorem w64 {i : Int} (h0 : -9223372036854775808 ≤ i) (h1 : i ≤ 9223372036854775807) : wrap64 i = i := by
  unfold wrap64
  omega
theorem bne_self (b : Bool) : (b != b) = false := by cases b <;> rfl
theorem cons_drop {α : Type} (xs : List α) (i : Nat) (h : i < xs.length) : xs.drop i = xs[i] :: xs.drop (i + 1) := List.drop_eq_getElem_cons h
/-- a loop over the indexes of a list: what holds of one round holds of all -/
theorem ev_for {β ρ : Type} (n : Nat) (l : Nat → β → Int → Option ρ) (st : Nat → β) (r : ρ) (hstep : ∀ i, i < n → ∀ k, l (k + 1) (st i) (i : Int) = l k (st (i + 1)) ((i : Int) + 1)) (hend : ∀ k, l (k + 1) (st n) (n : Int) = some r) : ∀ i, i ≤ n → Ev (fun k => l k (st i) (i : Int)) r := by
  intro i hi
  obtain ⟨d, hd⟩ : ∃ d, n - i = d := ⟨_, rfl⟩
  induction d generalizing i with
  | zero =>
    obtain rfl : i = n := by omega
    exact ev_at 1 hend
  | succ d ih =>
    refine Ev.step (f := fun k => l k (st (i + 1)) ((i : Int) + 1)) (fun k => hstep i (by omega) k) ?_
    have := ih (i + 1) (by omega) (by omega)
    rwa [show ((i + 1 : Nat) : Int) = (i : Int) + 1 from by omega] at this

theorem len_list (s : ByteArray) : s.data.toList.length = s.size := rfl
theorem bt_list (s : ByteArray) (i : Nat) (h : i < s.data.toList.length) : bt s (i : Int) = ((s.data.toList[i]'h).toNat : Int) := by
  have h2 : i < s.size := h
  have e : (i : Int).toNat = i := Int.toNat_natCast i
  unfold bt
  rw [dif_pos (by rw [e]; exact h2)]
  simp only [e]
  rfl
theorem u8_lt (c : UInt8) : c.toNat < 256 := c.toNat_lt
theorem str_eq (a b : ByteArray) : (a.toList == b.toList) = decide (a = b) := by
  rw [Lib.toList_data, Lib.toList_data]
  by_cases h : a = b
  · subst h; simp
  · rw [decide_eq_false h]
    rw [beq_eq_false_iff_ne]
    intro e
    apply h
    cases a; cases b
    simp at e
    simp [e]

theorem all_of_drop {α : Type} (p : α → Bool) : ∀ m : List α, (m.dropWhile p).all p = true → m.all p = true
  | [], _ => rfl
  | a :: m, h => by
    cases hp : p a with
    | true =>
      rw [List.dropWhile_cons, if_pos hp] at h
      rw [List.all_cons, hp, all_of_drop p m h]
      rfl
    | false =>
      simp [List.dropWhile_cons, hp] at h
theorem drop_all {α : Type} (p : α → Bool) : ∀ m : List α, m.all p = true → m.dropWhile p = []
  | [], _ => rfl
  | a :: m, h => by
    rw [List.all_cons, Bool.and_eq_true] at h
    rw [List.dropWhile_cons, if_pos h.1, drop_all p m h.2]
theorem trim_nil (l cs : List UInt8) : (Lib.trimS l cs == []) = l.all (cs.contains ·) := by
  unfold Lib.trimS Lib.trimLeftS Lib.trimRightS
  cases h : l.all (cs.contains ·) with
  | true =>
    rw [drop_all (cs.contains ·) l.reverse (by rw [List.all_reverse]; exact h)]
    rfl
  | false =>
    rw [beq_eq_false_iff_ne]
    intro e
    have h1 : ((l.reverse.dropWhile (cs.contains ·)).reverse).all (cs.contains ·) = true := all_of_drop _ _ (by rw [e]; rfl)
    rw [List.all_reverse] at h1
    have h2 := all_of_drop _ _ h1
    rw [List.all_reverse, h] at h2
    exact absurd h2 (by decide)

def inB (lo hi a : Int) : Bool := decide (lo ≤ a) && decide (a ≤ hi)
theorem inB_iff (lo hi a : Int) : inB lo hi a = true ↔ lo ≤ a ∧ a ≤ hi := by simp [inB]
theorem in_is (a lo hi : Int) : spec_l1In.f a lo hi = some (inB lo hi a) := by
  unfold spec_l1In.f inB
  by_cases h : lo ≤ a
  · rw [if_pos h, decide_eq_true h, Bool.true_and]
  · rw [if_neg h, decide_eq_false h, Bool.false_and]

def isDig (c : UInt8) : Bool := decide (49 ≤ c.toNat) && decide (c.toNat ≤ 57)
def loadB (s : ByteArray) : Bool := decide (s.size ≤ 12) && s.data.toList.all isDig
theorem dig_in (c : UInt8) : inB 1 9 (wrap64 (wrap64 (c.toNat : Int) - 48)) = isDig c := by
  have := u8_lt c
  rw [w64 (i := (c.toNat : Int)) (by omega) (by omega), w64 (by omega) (by omega)]
  unfold inB isDig
  rw [Bool.eq_iff_iff]
  simp only [Bool.and_eq_true, decide_eq_true_eq]
  omega
theorem dig_contains (c : UInt8) : [49, 50, 51, 52, 53, 54, 55, 56, 57].contains c = isDig c := by
  unfold isDig
  rw [Bool.eq_iff_iff]
  simp only [List.contains_cons, List.contains_nil, Bool.or_false, Bool.or_eq_true, beq_iff_eq, Bool.and_eq_true, decide_eq_true_eq, ← UInt8.toNat_inj]
  simp
  omega
theorem good_l0 (s : ByteArray) (hn : s.size ≤ 1048576) (d : Nat) : ∀ i : Nat, s.size - i = d → i ≤ s.size →
    Ev (fun k => spec_ldGood.l0 k s (i : Int)) ((s.data.toList.drop i).all isDig) := by
  induction d with
  | zero =>
    intro i hd hle
    obtain rfl : i = s.size := by omega
    rw [← len_list, List.drop_length]
    exact ev_at 1 (fun k => by simp only [spec_ldGood.l0]; rw [len_list, if_neg (by omega)]; rfl)
  | succ d ih =>
    intro i hd hle
    have hlt : i < s.size := by omega
    have hl : i < s.data.toList.length := hlt
    rw [cons_drop s.data.toList i hl, List.all_cons]
    cases hb : isDig s.data.toList[i] with
    | true =>
      refine Ev.step (f := fun k => spec_ldGood.l0 k s ((i + 1 : Nat) : Int)) (fun k => ?_) (ih (i + 1) (by omega) (by omega))
      simp only [spec_ldGood.l0]
      rw [if_pos (by omega), if_pos (by omega), bt_list s i hl, in_is, dig_in, hb, w64 (by omega) (by omega)]
      rfl
    | false =>
      refine ev_at 1 (fun k => ?_)
      simp only [spec_ldGood.l0]
      rw [if_pos (by omega), if_pos (by omega), bt_list s i hl, in_is, dig_in, hb]
      rfl
theorem ldGood_is (s : ByteArray) (hn : s.size ≤ 1048576) : Ev (fun k => spec_ldGood.f k s) (loadB s) := by
  unfold spec_ldGood.f loadB
  by_cases h : s.size ≤ 12
  · rw [decide_eq_true h, Bool.true_and]
    exact ev_neg (by omega) (by simpa using good_l0 s hn _ 0 rfl (Nat.zero_le _))
  · rw [decide_eq_false h, Bool.false_and]
    exact ev_pos (by omega) (Ev.now _)
theorem isLoading_is (s : ByteArray) (hn : s.size ≤ 1048576) : impl_IsLoading.f s = some (loadB s) := by
  unfold impl_IsLoading.f loadB strings_Trim.f
  by_cases h : s.size ≤ 12
  · rw [if_pos (by omega), if_pos ⟨by omega, by decide, by decide⟩, Option.bind_some, decide_eq_true h, Bool.true_and, Lib.toList_data]
    show some (Lib.trimS s.data.toList [49, 50, 51, 52, 53, 54, 55, 56, 57] == []) = _
    rw [trim_nil]
    congr 2
    funext c
    exact dig_contains c
  · rw [if_neg (by omega), decide_eq_false h, Bool.false_and]

def oth (c : UInt8) : UInt8 := c ^^^ 32
def smallC (c : UInt8) : Bool := decide (97 ≤ c.toNat)
def letterC (c : UInt8) : Bool := (decide (97 ≤ c.toNat) && decide (c.toNat ≤ 104)) || (decide (65 ≤ c.toNat) && decide (c.toNat ≤ 72))
def goodI : List UInt8 → List UInt8 → Bool
  | _, [] => true
  | pre, c :: r => !(pre.contains c) && (smallC c || pre.contains (oth c)) && goodI (pre ++ [c]) r
def stepO (v : List UInt8 × Bool) (c : UInt8) : List UInt8 × Bool := if smallC c = true then (v.1 ++ [c], v.2) else (v.1.erase (oth c), v.2 && decide (v.1.getLast? = some (oth c)))
def tourB (s : ByteArray) : Bool := decide (s.size ≤ 16) && s.data.toList.all letterC && goodI [] s.data.toList
theorem u8_all (p : UInt8 → Prop) [DecidablePred p] (h : ∀ n : Fin 256, p (UInt8.ofNat n.val)) (c : UInt8) : p c := by
  have := h ⟨c.toNat, c.toNat_lt⟩
  simpa using this
theorem bits_oth (c : UInt8) : Go.bits .xor .u8 (c.toNat : Int) 32 = ((oth c).toNat : Int) :=
  u8_all (fun c => Go.bits .xor .u8 (c.toNat : Int) 32 = ((oth c).toNat : Int)) (by decide +kernel) c
theorem oth_oth (c : UInt8) : oth (oth c) = c := u8_all (fun c => oth (oth c) = c) (by decide +kernel) c
theorem oth_cap (c : UInt8) (h : letterC c = true) (hs : smallC c = true) : smallC (oth c) = false ∧ letterC (oth c) = true :=
  u8_all (fun c => letterC c = true → smallC c = true → smallC (oth c) = false ∧ letterC (oth c) = true) (by decide +kernel) c h hs
theorem oth_small (c : UInt8) (h : letterC c = true) (hs : smallC c = false) : smallC (oth c) = true ∧ letterC (oth c) = true :=
  u8_all (fun c => letterC c = true → smallC c = false → smallC (oth c) = true ∧ letterC (oth c) = true) (by decide +kernel) c h hs
theorem oth_plus (c : UInt8) (h : letterC c = true) (hs : smallC c = false) : ((oth c).toNat : Int) = (c.toNat : Int) + 32 :=
  u8_all (fun c => letterC c = true → smallC c = false → ((oth c).toNat : Int) = (c.toNat : Int) + 32) (by decide +kernel) c h hs
theorem nat_u8 (c : UInt8) : ((c.toNat : Int)).toNat.toUInt8 = c := by simp
theorem letter_contains (c : UInt8) : [97, 98, 99, 100, 101, 102, 103, 104, 65, 66, 67, 68, 69, 70, 71, 72].contains c = letterC c :=
  u8_all (fun c => [97, 98, 99, 100, 101, 102, 103, 104, 65, 66, 67, 68, 69, 70, 71, 72].contains c = letterC c) (by decide +kernel) c
/-- the byte string of a list -/
def bs (l : List UInt8) : ByteArray := ⟨l.toArray⟩
theorem bs_list (l : List UInt8) : (bs l).data.toList = l := by simp [bs]
theorem bs_size (l : List UInt8) : (bs l).size = l.length := by simp [bs, ByteArray.size]
theorem bs_eta (s : ByteArray) : bs s.data.toList = s := by cases s; simp [bs]
theorem bs_inj {s t : ByteArray} (h : s.data.toList = t.data.toList) : s = t := by rw [← bs_eta s, ← bs_eta t, h]
theorem bs_append (l m : List UInt8) : bs l ++ bs m = bs (l ++ m) := bs_inj (by simp [bs])
theorem bs_extract (l : List UInt8) (i j : Nat) : (bs l).extract i j = bs ((l.drop i).take (j - i)) := bs_inj (by rw [Lib.extract_data, bs_list, bs_list])
theorem at_first (c : UInt8) : ∀ l : List UInt8, c ∈ l → l.idxOf c < l.length ∧ l.erase c = l.take (l.idxOf c) ++ l.drop (l.idxOf c + 1)
  | [], h => by simp at h
  | x :: l, h => by
    by_cases hx : x = c
    · subst hx
      simp
    · have h2 : c ∈ l := by
        rcases List.mem_cons.1 h with h | h
        · exact absurd h.symm hx
        · exact h
      obtain ⟨h3, h4⟩ := at_first c l h2
      have hb : (x == c) = false := by simpa using hx
      rw [List.idxOf_cons, hb]
      simp only [cond_false, List.length_cons]
      refine ⟨by omega, ?_⟩
      rw [List.erase_cons, hb]
      simp [h4]
theorem last_iff (c : UInt8) (l : List UInt8) (hn : l.Nodup) (h : c ∈ l) : l.idxOf c = l.length - 1 ↔ l.getLast? = some c := by
  obtain ⟨h1, _⟩ := at_first c l h
  have hg : l[l.idxOf c]'h1 = c := by
    exact List.getElem_idxOf h1
  rw [List.getLast?_eq_getElem?]
  constructor
  · intro e
    rw [← e, List.getElem?_eq_getElem h1, hg]
  · intro e
    obtain ⟨h2, h3⟩ := List.getElem?_eq_some_iff.1 e
    have h4 := List.Nodup.idxOf_getElem hn (l.length - 1) h2
    rw [h3] at h4
    exact h4
/-- the state behind a part of a good tour -/
structure TourJ (pre open_ seen : List UInt8) : Prop where
  lets : ∀ x ∈ pre, letterC x = true
  inSeen : ∀ x, x ∈ seen ↔ x ∈ pre ∧ smallC x = true
  inOpen : ∀ x, x ∈ open_ ↔ x ∈ pre ∧ smallC x = true ∧ oth x ∉ pre
  nodup : open_.Nodup
  caps : ∀ x ∈ pre, smallC x = false → oth x ∈ pre
theorem TourJ.nil : TourJ [] [] [] := ⟨by simp, by simp, by simp, by simp, by simp⟩
theorem TourJ.small {pre open_ seen : List UInt8} (J : TourJ pre open_ seen) {c : UInt8} (hl : letterC c = true) (hs : smallC c = true) (hc : c ∉ pre) : TourJ (pre ++ [c]) (open_ ++ [c]) (seen ++ [c]) := by
  have hoc : oth c ∉ pre := fun h => hc (by have := J.caps _ h (oth_cap c hl hs).1; rwa [oth_oth] at this)
  have hne : ∀ x, x ∈ pre → smallC x = true → oth x ≠ c := fun x hx h1 e => by
    have := (oth_cap x (J.lets x hx) h1).1
    rw [e, hs] at this
    exact absurd this (by decide)
  have hcc : oth c ≠ c := fun e => by
    have := (oth_cap c hl hs).1
    rw [e, hs] at this
    exact absurd this (by decide)
  refine ⟨fun x hx => ?_, fun x => ?_, fun x => ?_, ?_, fun x hx h => ?_⟩
  · rcases List.mem_append.1 hx with h | h
    · exact J.lets x h
    · obtain rfl : x = c := by simpa using h
      exact hl
  · simp only [List.mem_append, List.mem_singleton, J.inSeen]
    constructor
    · rintro (⟨h1, h2⟩ | rfl)
      · exact ⟨.inl h1, h2⟩
      · exact ⟨.inr rfl, hs⟩
    · rintro ⟨h1 | rfl, h2⟩
      · exact .inl ⟨h1, h2⟩
      · exact .inr rfl
  · simp only [List.mem_append, List.mem_singleton, J.inOpen, not_or]
    constructor
    · rintro (⟨h1, h2, h3⟩ | rfl)
      · exact ⟨.inl h1, h2, h3, hne x h1 h2⟩
      · exact ⟨.inr rfl, hs, hoc, hcc⟩
    · rintro ⟨h1 | rfl, h2, h3, h4⟩
      · exact .inl ⟨h1, h2, h3⟩
      · exact .inr rfl
  · rw [List.nodup_append]
    refine ⟨J.nodup, by simp, fun x hx y hy e => ?_⟩
    obtain rfl : y = c := by simpa using hy
    subst e
    exact hc ((J.inOpen x).1 hx).1
  · rcases List.mem_append.1 hx with h2 | h2
    · exact List.mem_append.2 (.inl (J.caps x h2 h))
    · obtain rfl : x = c := by simpa using h2
      rw [hs] at h
      exact absurd h (by decide)
theorem TourJ.cap {pre open_ seen : List UInt8} (J : TourJ pre open_ seen) {c : UInt8} (hl : letterC c = true) (hs : smallC c = false) (hc : c ∉ pre) (ho : oth c ∈ pre) : TourJ (pre ++ [c]) (open_.erase (oth c)) seen := by
  have hns : ∀ x, smallC x = true → x ≠ c := fun x h e => by rw [e, hs] at h; exact absurd h (by decide)
  refine ⟨fun x hx => ?_, fun x => ?_, fun x => ?_, J.nodup.erase _, fun x hx h => ?_⟩
  · rcases List.mem_append.1 hx with h | h
    · exact J.lets x h
    · obtain rfl : x = c := by simpa using h
      exact hl
  · simp only [List.mem_append, List.mem_singleton, J.inSeen]
    constructor
    · rintro ⟨h1, h2⟩
      exact ⟨.inl h1, h2⟩
    · rintro ⟨h1 | rfl, h2⟩
      · exact ⟨h1, h2⟩
      · exact absurd rfl (hns _ h2)
  · rw [J.nodup.mem_erase_iff]
    simp only [List.mem_append, List.mem_singleton, J.inOpen, not_or]
    constructor
    · rintro ⟨h0, h1, h2, h3⟩
      exact ⟨.inl h1, h2, h3, fun e => h0 (by rw [← e, oth_oth])⟩
    · rintro ⟨h1 | rfl, h2, h3, h4⟩
      · exact ⟨fun e => h4 (by rw [e, oth_oth]), h1, h2, h3⟩
      · exact absurd rfl (hns _ h2)
  · rcases List.mem_append.1 hx with h2 | h2
    · exact List.mem_append.2 (.inl (J.caps x h2 h))
    · obtain rfl : x = c := by simpa using h2
      exact List.mem_append.2 (.inl ho)
theorem TourJ.in_open {pre open_ seen : List UInt8} (J : TourJ pre open_ seen) {c : UInt8} (hl : letterC c = true) (hs : smallC c = false) : oth c ∈ open_ ↔ c ∉ pre ∧ oth c ∈ pre := by
  rw [J.inOpen, oth_oth]
  have := (oth_small c hl hs).1
  constructor
  · rintro ⟨h1, _, h3⟩
    exact ⟨h3, h1⟩
  · rintro ⟨h1, h2⟩
    exact ⟨h2, this, h1⟩
theorem goodI_tail {pre : List UInt8} {c : UInt8} {r : List UInt8} (h : goodI pre (c :: r) = true) : c ∉ pre ∧ (smallC c = false → oth c ∈ pre) ∧ goodI (pre ++ [c]) r = true := by
  rw [goodI] at h
  simp only [Bool.and_eq_true, Bool.not_eq_true', Bool.or_eq_true] at h
  refine ⟨fun h2 => ?_, fun h2 => ?_, h.2⟩
  · have := List.contains_iff_mem.2 h2
    rw [h.1.1] at this
    exact absurd this (by decide)
  · rcases h.1.2 with h3 | h3
    · rw [h2] at h3; exact absurd h3 (by decide)
    · exact List.contains_iff_mem.1 h3
/-- behind a part of a tour the state stands -/
theorem J_fold : ∀ (r pre open_ seen : List UInt8) (free : Bool), TourJ pre open_ seen → (∀ x ∈ r, letterC x = true) → goodI pre r = true → ∃ seen', TourJ (pre ++ r) (r.foldl stepO (open_, free)).1 seen'
  | [], pre, open_, seen, free, J, _, _ => ⟨seen, by simpa using J⟩
  | c :: r, pre, open_, seen, free, J, hl, hg => by
    obtain ⟨h1, h2, h3⟩ := goodI_tail hg
    have hc := hl c (by simp)
    rw [List.foldl_cons, show pre ++ c :: r = (pre ++ [c]) ++ r by simp]
    cases hs : smallC c with
    | true =>
      have e : stepO (open_, free) c = (open_ ++ [c], free) := by simp [stepO, hs]
      rw [e]
      exact J_fold r _ _ _ _ (J.small hc hs h1) (fun x hx => hl x (by simp [hx])) h3
    | false =>
      have e : stepO (open_, free) c = (open_.erase (oth c), free && decide (open_.getLast? = some (oth c))) := by simp [stepO, hs]
      rw [e]
      exact J_fold r _ _ _ _ (J.cap hc hs h1 (h2 hs)) (fun x hx => hl x (by simp [hx])) h3
theorem goodI_take : ∀ (r pre : List UInt8) (n : Nat), goodI pre r = true → goodI pre (r.take n) = true
  | [], pre, n, _ => by simp [goodI]
  | c :: r, pre, 0, _ => by simp [goodI]
  | c :: r, pre, n + 1, h => by
    rw [List.take_succ_cons]
    rw [goodI] at h ⊢
    simp only [Bool.and_eq_true] at h ⊢
    exact ⟨h.1, goodI_take r _ n h.2⟩

def sortedFrom : List UInt8 → List UInt8 → List UInt8
  | [], _ => []
  | c :: cs, l => sortedFrom cs l ++ l.filter (fun x => x == c)
def stopR (c : UInt8) (l : List UInt8) : List UInt8 := l.filter (fun x => x != c)
def stopN (c : UInt8) (l : List UInt8) : Nat := ((l.dropWhile (fun x => x != c)).filter (fun x => x != c)).length
def movesN : List UInt8 → List UInt8 → Nat
  | [], _ => 0
  | c :: cs, l => stopN c l + movesN cs (stopR c l)
theorem sorted_mem : ∀ (cs l : List UInt8) (x : UInt8), x ∈ sortedFrom cs l → x ∈ cs ∧ x ∈ l
  | [], _, _, h => by simp [sortedFrom] at h
  | c :: cs, l, x, h => by
    rw [sortedFrom, List.mem_append] at h
    rcases h with h | h
    · have := sorted_mem cs l x h
      exact ⟨List.mem_cons_of_mem _ this.1, this.2⟩
    · rw [List.mem_filter] at h
      have : x = c := by simpa using h.2
      exact ⟨by rw [this]; exact List.mem_cons_self, h.1⟩
theorem sorted_skip : ∀ (cs l : List UInt8) (c : UInt8), c ∉ cs → sortedFrom cs (stopR c l) = sortedFrom cs l
  | [], _, _, _ => rfl
  | d :: cs, l, c, h => by
    rw [List.mem_cons, not_or] at h
    rw [sortedFrom, sortedFrom, sorted_skip cs l c h.2, stopR, List.filter_filter]
    congr 1
    refine List.filter_congr fun x _ => ?_
    by_cases e : x = d
    · subst e
      have : x ≠ c := fun e => h.1 e.symm
      simp [this]
    · simp [e]
theorem drop_zero (c : UInt8) : ∀ l : List UInt8, stopN c l = 0 ↔ l = stopR c l ++ l.filter (fun x => x == c)
  | [] => by simp [stopN, stopR]
  | x :: l => by
    by_cases e : x = c
    · subst e
      have h1 : stopN x (x :: l) = (l.filter (fun y => y != x)).length := by simp [stopN]
      have h2 : stopR x (x :: l) = l.filter (fun y => y != x) := by simp [stopR]
      have h3 : (x :: l).filter (fun y => y == x) = x :: l.filter (fun y => y == x) := by simp
      rw [h1, h2, h3]
      constructor
      · intro h
        rw [List.length_eq_zero_iff] at h
        rw [h, List.nil_append]
        congr 1
        rw [List.filter_eq_nil_iff] at h
        symm
        rw [List.filter_eq_self]
        intro a ha
        simpa using h a ha
      · intro h
        cases hf : l.filter (fun y => y != x) with
        | nil => rfl
        | cons a t =>
          rw [hf, List.cons_append, List.cons.injEq] at h
          have ha : a ∈ l.filter (fun y => y != x) := by rw [hf]; exact List.mem_cons_self
          rw [List.mem_filter] at ha
          have := ha.2
          rw [← h.1] at this
          simp at this
    · have h1 : stopN c (x :: l) = stopN c l := by simp [stopN, e]
      have h2 : stopR c (x :: l) = x :: stopR c l := by simp [stopR, e]
      have h3 : (x :: l).filter (fun y => y == c) = l.filter (fun y => y == c) := by simp [e]
      rw [h1, h2, h3, drop_zero c l, List.cons_append, List.cons.injEq]
      simp
theorem free_is : ∀ (cs : List UInt8), cs.Nodup → ∀ l : List UInt8, (∀ x ∈ l, x ∈ cs) → (movesN cs l = 0 ↔ sortedFrom cs l = l)
  | [], _, l, h => by
    have : l = [] := List.eq_nil_iff_forall_not_mem.2 fun x hx => by simpa using h x hx
    subst this
    simp [movesN, sortedFrom]
  | c :: cs, hd, l, h => by
    rw [List.nodup_cons] at hd
    have hr : ∀ x ∈ stopR c l, x ∈ cs := by
      intro x hx
      rw [stopR, List.mem_filter] at hx
      have := h x hx.1
      rw [List.mem_cons] at this
      rcases this with rfl | this
      · simp at hx
      · exact this
    have ih := free_is cs hd.2 (stopR c l) hr
    rw [sorted_skip cs l c hd.1] at ih
    rw [movesN, sortedFrom, Nat.add_eq_zero_iff, drop_zero, ih]
    constructor
    · rintro ⟨h1, h2⟩
      rw [h2]
      exact h1.symm
    · intro h1
      have h2 : sortedFrom cs l = stopR c l := by
        have h3 := congrArg (List.filter (fun x => x != c)) h1
        rw [List.filter_append] at h3
        have h4 : (sortedFrom cs l).filter (fun x => x != c) = sortedFrom cs l := by
          rw [List.filter_eq_self]
          intro a ha
          have := (sorted_mem cs l a ha).1
          simp only [bne_iff_ne]
          intro e
          exact hd.1 (e ▸ this)
        have h5 : (l.filter (fun x => x == c)).filter (fun x => x != c) = [] := by
          rw [List.filter_eq_nil_iff]
          intro a ha
          rw [List.mem_filter] at ha
          simpa using ha.2
        rw [h4, h5, List.append_nil] at h3
        exact h3
      rw [h2] at h1 ⊢
      exact ⟨h1.symm, rfl⟩
theorem stop_idx (c : UInt8) : ∀ l : List UInt8, c ∈ l → l.take (l.idxOf c) ++ (l.drop (l.idxOf c)).filter (fun x => x != c) = stopR c l ∧ l.drop (l.idxOf c) = l.dropWhile (fun x => x != c)
  | [], h => by simp at h
  | x :: l, h => by
    by_cases e : x = c
    · subst e
      simp [stopR]
    · have hm : c ∈ l := by
        rw [List.mem_cons] at h
        rcases h with h | h
        · exact absurd h.symm e
        · exact h
      have ih := stop_idx c l hm
      have e2 : (x == c) = false := by simpa using e
      simp only [List.idxOf_cons, e2, cond_false, List.take_succ_cons, List.drop_succ_cons, List.cons_append, ih.1, List.dropWhile_cons]
      constructor
      · simp [stopR, e]
      · rw [ih.2]; simp [e]
theorem stop_none (c : UInt8) : ∀ l : List UInt8, c ∉ l → stopR c l = l ∧ stopN c l = 0 := by
  intro l h
  have h1 : stopR c l = l := by
    rw [stopR, List.filter_eq_self]
    intro a ha
    simp only [bne_iff_ne]
    exact fun e => h (e ▸ ha)
  refine ⟨h1, ?_⟩
  rw [drop_zero, h1]
  rw [show l.filter (fun x => x == c) = [] from by
    rw [List.filter_eq_nil_iff]
    intro a ha
    simp only [beq_iff_eq]
    exact fun e => h (e ▸ ha)]
  simp

def digsF (c d : Nat) : List UInt8 := (List.range' c d).map Nat.toUInt8
theorem digsF_succ (c d : Nat) : digsF c (d + 1) = Nat.toUInt8 c :: digsF (c + 1) d := by unfold digsF; rw [List.range'_succ, List.map_cons]
theorem toU8 (c : Nat) (h : c < 256) : (Nat.toUInt8 c).toNat = c := by
  show (UInt8.ofNat c).toNat = c
  rw [UInt8.toNat_ofNat']
  exact Nat.mod_eq_of_lt (by omega)
theorem bt_bs (l : List UInt8) (i : Nat) (h : i < l.length) : bt (bs l) (i : Int) = ((l[i]'h).toNat : Int) := by
  rw [bt_list (bs l) i (by rw [bs_list]; exact h)]
  congr 2
theorem bs_one (l : List UInt8) (i : Nat) (h : i < l.length) : (bs l).extract i (i + 1) = bs [l[i]'h] := by
  rw [bs_extract, List.drop_eq_getElem_cons h, Nat.add_sub_cancel_left]
  rfl
theorem sorted_len (l : List UInt8) : ∀ cs, (sortedFrom cs l).length ≤ cs.length * l.length
  | [] => by simp [sortedFrom]
  | c :: cs => by
    have h1 := sorted_len l cs
    have h2 := List.length_filter_le (fun x => x == c) l
    rw [sortedFrom, List.length_append, List.length_cons, Nat.succ_mul]
    omega
theorem sorted_l1 (l : List UInt8) (c : UInt8) (R : ByteArray) (hn : l.length ≤ 1048576) (d : Nat) : ∀ (i : Nat) (acc : List UInt8), l.length - i = d → i ≤ l.length → acc.length + d ≤ 100000000 →
    Ev (fun k => spec_ldSorted.l0 k (bs l) (bs (acc ++ (l.drop i).filter (fun x => x == c))) (((c.toNat : Int) - 1) % 256)) R → Ev (fun k => spec_ldSorted.l1 k (bs l) (bs acc) (c.toNat : Int) (i : Int)) R := by
  induction d with
  | zero =>
    intro i acc hd hi ha hK
    obtain rfl : i = l.length := by omega
    rw [List.drop_length, List.filter_nil, List.append_nil] at hK
    refine Ev.step (fun k => ?_) hK
    simp only [spec_ldSorted.l1]
    rw [bs_size, if_neg (by omega)]
  | succ d ih =>
    intro i acc hd hi ha hK
    have hl : i < l.length := by omega
    rw [cons_drop l i hl] at hK
    by_cases e : l[i] = c
    · rw [List.filter_cons, if_pos (by simpa using e), e, show acc ++ c :: (l.drop (i + 1)).filter (fun x => x == c) = (acc ++ [c]) ++ (l.drop (i + 1)).filter (fun x => x == c) by simp] at hK
      refine Ev.step (fun k => ?_) (ih (i + 1) (acc ++ [c]) (by omega) (by omega) (by simp; omega) hK)
      simp only [spec_ldSorted.l1]
      rw [bs_size, bt_bs l i hl, e, if_pos (by omega), if_pos (by omega), if_pos rfl, w64 (i := (i : Int) + 1) (by omega) (by omega), show ((i : Int) + 1).toNat = i + 1 by omega, Int.toNat_natCast, bs_one l i hl, e, if_pos (by omega), if_pos (by omega), if_pos (by rw [bs_size, bs_size]; simp; omega), bs_append]
      rfl
    · rw [List.filter_cons, if_neg (by simpa using e)] at hK
      refine Ev.step (fun k => ?_) (ih (i + 1) acc (by omega) (by omega) (by omega) hK)
      simp only [spec_ldSorted.l1]
      rw [bs_size, bt_bs l i hl, if_pos (by omega), if_pos (by omega), if_neg (fun h2 => e (UInt8.toNat_inj.1 (by omega))), w64 (i := (i : Int) + 1) (by omega) (by omega)]
      rfl
theorem sorted_l0 (l : List UInt8) (hn : l.length ≤ 1048576) (d : Nat) : d ≤ 9 → Ev (fun k => spec_ldSorted.l0 k (bs l) (bs (sortedFrom (digsF (49 + d) (9 - d)) l)) ((48 + d : Nat) : Int)) (bs (sortedFrom (digsF 49 9) l)) := by
  induction d with
  | zero =>
    intro _
    refine ev_at 1 (fun k => ?_)
    simp only [spec_ldSorted.l0]
    rw [if_neg (by omega)]
  | succ d ih =>
    intro hd
    have hi := ih (by omega)
    rw [show 9 - d = 9 - (d + 1) + 1 by omega, digsF_succ, sortedFrom] at hi
    have hlen := sorted_len l (digsF (49 + (d + 1)) (9 - (d + 1)))
    have hc : (digsF (49 + (d + 1)) (9 - (d + 1))).length ≤ 9 := by unfold digsF; rw [List.length_map, List.length_range']; omega
    have hm := Nat.mul_le_mul hc hn
    have h1 := sorted_l1 l (Nat.toUInt8 (49 + d)) _ hn _ 0 (sortedFrom (digsF (49 + (d + 1)) (9 - (d + 1))) l) rfl (Nat.zero_le _) (by omega) (by
      rw [List.drop_zero, toU8 _ (by omega), show (((49 + d : Nat) : Int) - 1) % 256 = ((48 + d : Nat) : Int) by omega]
      exact hi)
    rw [toU8 _ (by omega)] at h1
    refine Ev.step (fun k => ?_) h1
    simp only [spec_ldSorted.l0]
    rw [if_pos (by omega), show ((48 + (d + 1) : Nat) : Int) = ((49 + d : Nat) : Int) by omega]
    rfl
theorem ldSorted_is (l : List UInt8) (hn : l.length ≤ 1048576) : Ev (fun k => spec_ldSorted.f k (bs l)) (bs (sortedFrom (digsF 49 9) l)) := by
  unfold spec_ldSorted.f
  exact sorted_l0 l hn 9 (Nat.le_refl _)

theorem digsF_nodup : (digsF 49 9).Nodup := by decide
theorem digF_mem (c : UInt8) (h : isDig c = true) : c ∈ digsF 49 9 := by
  have : ∀ n : Fin 256, isDig (UInt8.ofNat n.val) = true → UInt8.ofNat n.val ∈ digsF 49 9 := by decide +kernel
  have h2 := this ⟨c.toNat, c.toNat_lt⟩
  simp only [UInt8.ofNat_toNat] at h2
  exact h2 h
theorem load_mem (s : ByteArray) (h : loadB s = true) : ∀ x ∈ s.data.toList, x ∈ digsF 49 9 := by
  unfold loadB at h
  rw [Bool.and_eq_true, List.all_eq_true] at h
  exact fun x hx => digF_mem x (h.2 x hx)
theorem free_beq (l : List UInt8) (h : ∀ x ∈ l, x ∈ digsF 49 9) : ((bs (sortedFrom (digsF 49 9) l)).toList == (bs l).toList) = (((movesN (digsF 49 9) l : Nat) : Int) == 0) := by
  rw [Lib.toList_data, Lib.toList_data, bs_list, bs_list]
  have := free_is (digsF 49 9) digsF_nodup l h
  rw [Bool.eq_iff_iff, beq_iff_eq, beq_iff_eq, ← this]
  omega

def outM (c : UInt8) (l : List UInt8) : List UInt8 := (l.drop (l.idxOf c)).filter (fun x => x != c)
def stopS (srt : Bool) (c : UInt8) (l : List UInt8) : List UInt8 × Nat := (l.take (l.idxOf c) ++ (if srt = true then sortedFrom (digsF 49 9) (outM c l) else outM c l), (outM c l).length)
theorem outM_len (c : UInt8) (l : List UInt8) : (outM c l).length ≤ l.length - l.idxOf c := Nat.le_trans (List.length_filter_le _ _) (by rw [List.length_drop]; exact Nat.le_refl _)
theorem idx_absent (c : UInt8) : ∀ l : List UInt8, c ∉ l → l.idxOf c = l.length
  | [], _ => rfl
  | x :: l, h => by
    rw [List.mem_cons, not_or] at h
    have e : (x == c) = false := by simpa using fun e => h.1 e.symm
    rw [List.idxOf_cons, e, cond_false, idx_absent c l h.2, List.length_cons]
theorem idx_le (c : UInt8) : ∀ l : List UInt8, l.idxOf c ≤ l.length
  | [] => Nat.le_refl _
  | x :: l => by
    have := idx_le c l
    rw [List.idxOf_cons, List.length_cons]
    cases x == c
    · rw [cond_false]; omega
    · rw [cond_true]; omega
theorem stopS_false (c : UInt8) (l : List UInt8) : stopS false c l = (stopR c l, stopN c l) := by
  unfold stopS outM
  rw [if_neg (by decide)]
  by_cases h : c ∈ l
  · have := stop_idx c l h
    rw [this.1, this.2]
    rfl
  · have := stop_none c l h
    rw [idx_absent c l h, List.drop_length, List.take_length, this.1, this.2]
    simp
theorem stopR_len (c : UInt8) (l : List UInt8) : (stopR c l).length ≤ l.length := List.length_filter_le _ _
theorem stopN_len (c : UInt8) (l : List UInt8) : stopN c l ≤ l.length := by
  have := stopS_false c l
  unfold stopS at this
  have h2 := outM_len c l
  have h3 := congrArg Prod.snd this
  simp only at h3
  omega

theorem stop_l1 (l : List UInt8) (c : UInt8) (srt : Bool) (hn : l.length ≤ 1048576) (d : Nat) : ∀ (i : Nat) (acc : List UInt8), l.length - i = d → i ≤ l.length → acc.length + d ≤ 1048576 → acc ++ (l.drop i).filter (fun x => x != c) = outM c l →
    Ev (fun k => spec_ldStop.l1 k (bs l) (c.toNat : Int) srt ((l.idxOf c : Nat) : Int) (bs acc) (i : Int)) (bs (stopS srt c l).1, ((stopS srt c l).2 : Nat)) := by
  have hix := idx_le c l
  induction d with
  | zero =>
    intro i acc hd hi ha he
    obtain rfl : i = l.length := by omega
    rw [List.drop_length, List.filter_nil, List.append_nil] at he
    subst he
    have hpre : (bs l).extract 0 (l.idxOf c) = bs (l.take (l.idxOf c)) := by rw [bs_extract, List.drop_zero, Nat.sub_zero]
    have hpl : (l.take (l.idxOf c)).length ≤ 1048576 := by rw [List.length_take]; omega
    cases srt with
    | true =>
      have hsl := sorted_len (outM c l) (digsF 49 9)
      have h9 : (digsF 49 9).length = 9 := rfl
      rw [h9] at hsl
      refine Ev.step (f := fun k => (spec_ldSorted.f k (bs (outM c l))).bind fun t102 => (if ((bs l).extract 0 (l.idxOf c)).size + t102.size ≤ 9223372036854775807 then (some (((bs l).extract 0 (l.idxOf c)) ++ t102, ((bs (outM c l)).size : Int))) else (none))) (fun k => ?_) (Ev.bind (ldSorted_is (outM c l) (by omega)) (ev_pos (by rw [hpre, bs_size, bs_size]; omega) ?_))
      · simp only [spec_ldStop.l1]
        rw [bs_size, if_neg (by omega), if_pos True.intro, if_pos (by omega), if_pos (by omega), Int.toNat_natCast]
      · rw [hpre, bs_append, bs_size]
        exact Ev.now _
    | false =>
      refine ev_at 1 (fun k => ?_)
      simp only [spec_ldStop.l1]
      rw [bs_size, if_neg (by omega), if_neg (by decide), if_pos (by omega), if_pos (by omega), Int.toNat_natCast, hpre, if_pos (by rw [bs_size, bs_size]; omega), bs_append, bs_size]
      rfl
  | succ d ih =>
    intro i acc hd hi ha he
    have hl : i < l.length := by omega
    rw [cons_drop l i hl] at he
    by_cases e : l[i] = c
    · rw [List.filter_cons, if_neg (by simpa using e)] at he
      refine Ev.step (fun k => ?_) (ih (i + 1) acc (by omega) (by omega) (by omega) he)
      simp only [spec_ldStop.l1]
      rw [bs_size, bt_bs l i hl, e, if_pos (by omega), if_pos (by omega), if_pos rfl, w64 (i := (i : Int) + 1) (by omega) (by omega)]
      rfl
    · rw [List.filter_cons, if_pos (by simpa using e), show acc ++ l[i] :: (l.drop (i + 1)).filter (fun x => x != c) = (acc ++ [l[i]]) ++ (l.drop (i + 1)).filter (fun x => x != c) by simp] at he
      refine Ev.step (fun k => ?_) (ih (i + 1) (acc ++ [l[i]]) (by omega) (by omega) (by simp; omega) he)
      simp only [spec_ldStop.l1]
      rw [bs_size, bt_bs l i hl, if_pos (by omega), if_pos (by omega), if_neg (fun h2 => e (UInt8.toNat_inj.1 (by omega))), w64 (i := (i : Int) + 1) (by omega) (by omega), show ((i : Int) + 1).toNat = i + 1 by omega, Int.toNat_natCast, bs_one l i hl, if_pos (by omega), if_pos (by omega), if_pos (by rw [bs_size, bs_size]; simp; omega), bs_append]
      rfl
theorem stop_l0 (l : List UInt8) (c : UInt8) (srt : Bool) (hn : l.length ≤ 1048576) (R : ByteArray × Int) (hK : Ev (fun k => spec_ldStop.l1 k (bs l) (c.toNat : Int) srt ((l.idxOf c : Nat) : Int) (⟨#[]⟩ : ByteArray) ((l.idxOf c : Nat) : Int)) R) : ∀ i : Nat, i ≤ l.length →
    Ev (fun k => spec_ldStop.l0 k (bs l) (c.toNat : Int) srt ((i + (l.drop i).idxOf c : Nat) : Int) ((i : Int) - 1)) R := by
  intro i
  induction i with
  | zero =>
    intro _
    rw [List.drop_zero, Nat.zero_add]
    refine Ev.step (fun k => ?_) hK
    simp only [spec_ldStop.l0]
    rw [if_neg (by omega)]
  | succ i ih =>
    intro hi
    have hl : i < l.length := by omega
    have h := ih (by omega)
    rw [cons_drop l i hl] at h
    by_cases e : l[i] = c
    · rw [e, List.idxOf_cons_self, Nat.add_zero] at h
      refine Ev.step (fun k => ?_) h
      simp only [spec_ldStop.l0]
      rw [show ((i + 1 : Nat) : Int) - 1 = (i : Int) by omega, if_pos (by omega), if_pos (by omega), bs_size, if_pos (by omega), bt_bs l i hl, e, if_pos rfl, w64 (by omega) (by omega)]
    · have e2 : (l[i] == c) = false := by simpa using e
      rw [List.idxOf_cons, e2, cond_false, show i + ((l.drop (i + 1)).idxOf c + 1) = i + 1 + (l.drop (i + 1)).idxOf c by omega] at h
      refine Ev.step (fun k => ?_) h
      simp only [spec_ldStop.l0]
      rw [show ((i + 1 : Nat) : Int) - 1 = (i : Int) by omega, if_pos (by omega), if_pos (by omega), bs_size, if_pos (by omega), bt_bs l i hl, if_neg (fun h2 => e (UInt8.toNat_inj.1 (by omega))), w64 (i := (i : Int) - 1) (by omega) (by omega)]
theorem ldStop_is (l : List UInt8) (c : UInt8) (srt : Bool) (hn : l.length ≤ 1048576) : Ev (fun k => spec_ldStop.f k (bs l) (c.toNat : Int) srt) (bs (stopS srt c l).1, ((stopS srt c l).2 : Nat)) := by
  unfold spec_ldStop.f
  have hix := idx_le c l
  have h := stop_l0 l c srt hn _ (stop_l1 l c srt hn _ (l.idxOf c) [] rfl hix (by simp; omega) (by rw [List.nil_append]; rfl)) l.length (Nat.le_refl _)
  rw [List.drop_length, show List.idxOf c ([] : List UInt8) = 0 from rfl, Nat.add_zero] at h
  rw [bs_size, w64 (by omega) (by omega)]
  exact h

theorem dsc_is (l : List UInt8) : ∀ cs : List UInt8, dscF cs l = sortedFrom cs l
  | [] => rfl
  | c :: cs => by rw [dscF, sortedFrom, dsc_is l cs]

theorem index_idx (c : UInt8) : ∀ l : List UInt8, Lib.indexByte l c = if c ∈ l then ((l.idxOf c : Nat) : Int) else -1
  | [] => by simp [Lib.indexByte]
  | x :: l => by
    by_cases hx : x = c
    · subst hx
      rw [if_pos List.mem_cons_self]
      simp [Lib.indexByte]
    · have ih := index_idx c l
      have e : (x == c) = false := by simpa using hx
      by_cases hm : c ∈ l
      · rw [if_pos hm] at ih
        rw [if_pos (List.mem_cons_of_mem _ hm), Lib.indexByte, if_neg (by simpa using hx), ih, if_neg (by first | (simp; done) | (simp; omega)), List.idxOf_cons, e, cond_false]
        omega
      · rw [if_neg hm] at ih
        rw [if_neg (by rw [List.mem_cons, not_or]; exact ⟨fun e => hx e.symm, hm⟩), Lib.indexByte, if_neg (by simpa using hx), ih]
        rfl
theorem sorted_nil : ∀ cs : List UInt8, sortedFrom cs [] = []
  | [] => rfl
  | c :: cs => by rw [sortedFrom, sorted_nil cs]; rfl
theorem stL_is (srt : Bool) (c : UInt8) (l : List UInt8) : stL srt c l = stopS srt c l := by
  unfold stL stopM stopS outM
  rw [index_idx]
  by_cases h : c ∈ l
  · rw [if_pos h, if_neg (by omega), Int.toNat_natCast, dsc_is]
    rfl
  · rw [if_neg h, if_pos (by decide), idx_absent c l h, List.drop_length, List.take_length, List.filter_nil, sorted_nil]
    simp
theorem stC_nat (j : Nat) (h : j ≤ 9) : stC (j : Int) = Nat.toUInt8 (48 + j) := by
  unfold stC
  rw [w64 (by omega) (by omega), show ((48 + (j : Int)) % 256).toNat = 48 + j by omega]
theorem stopped_gen (l : List UInt8) (j : Nat) (srt : Bool) (hj : j ≤ 9) (hn : l.length ≤ 1048576) (hd : srt = true → l.length ≤ 12 ∧ ∀ x ∈ l, x ∈ digsF 49 9) : impl_stopped.f (bs l) (j : Int) srt = some (bs (stopS srt (Nat.toUInt8 (48 + j)) l).1, (((stopS srt (Nat.toUInt8 (48 + j)) l).2 : Nat) : Int)) := by
  unfold impl_stopped.f
  rw [if_pos ⟨by rw [bs_size]; exact hn, fun h => ⟨by rw [bs_size]; exact (hd h).1, by rw [bs_list, List.all_eq_true]; exact fun x hx => by simpa using (show x ∈ dig9 from (hd h).2 x hx)⟩⟩, stC_nat j hj, bs_list, stL_is]
  rfl
theorem stopped_is (l : List UInt8) (j : Nat) (hj : j ≤ 9) (hn : l.length ≤ 1048576) : impl_stopped.f (bs l) (j : Int) false = some (bs (stopR (Nat.toUInt8 (48 + j)) l), ((stopN (Nat.toUInt8 (48 + j)) l : Nat) : Int)) := by
  rw [stopped_gen l j false hj hn (fun h => by cases h), stopS_false]

def movesS : List UInt8 → List UInt8 → Nat
  | [], _ => 0
  | c :: cs, l => (stopS true c l).2 + movesS cs (stopS true c l).1
theorem part_len (c : UInt8) : ∀ l : List UInt8, (stopR c l).length + (l.filter (fun x => x == c)).length = l.length
  | [] => rfl
  | x :: l => by
    have := part_len c l
    unfold stopR at this ⊢
    by_cases e : x = c
    · rw [List.filter_cons, if_neg (by simpa using e), List.filter_cons, if_pos (by simpa using e), List.length_cons, List.length_cons]
      omega
    · rw [List.filter_cons, if_pos (by simpa using e), List.filter_cons, if_neg (by simpa using e), List.length_cons, List.length_cons]
      omega
theorem sorted_le : ∀ cs : List UInt8, cs.Nodup → ∀ l : List UInt8, (sortedFrom cs l).length ≤ l.length
  | [], _, l => by simp [sortedFrom]
  | c :: cs, hn, l => by
    rw [List.nodup_cons] at hn
    have h1 := sorted_le cs hn.2 (stopR c l)
    rw [sorted_skip cs l c hn.1] at h1
    have h2 := part_len c l
    rw [sortedFrom, List.length_append]
    omega
theorem stopT_good (c : UInt8) (l : List UInt8) (hl : l.length ≤ 12) (hd : ∀ x ∈ l, x ∈ digsF 49 9) : (stopS true c l).1.length ≤ 12 ∧ (∀ x ∈ (stopS true c l).1, x ∈ digsF 49 9) ∧ (stopS true c l).2 ≤ 12 := by
  have h1 := outM_len c l
  have h2 := sorted_le (digsF 49 9) digsF_nodup (outM c l)
  have h3 := idx_le c l
  unfold stopS
  rw [if_pos rfl]
  refine ⟨?_, ?_, by simp only; omega⟩
  · simp only
    rw [List.length_append, List.length_take]
    omega
  · intro x hx
    simp only [List.mem_append] at hx
    rcases hx with hx | hx
    · exact hd x (List.mem_of_mem_take hx)
    · exact (sorted_mem _ _ x hx).1
theorem sortM_spec (d : Nat) : ∀ (c : Nat) (l : List UInt8) (acc : Nat), c + d = 58 → l.length ≤ 12 → (∀ x ∈ l, x ∈ digsF 49 9) → acc + d * 12 ≤ 100000000 →
    Ev (fun k => spec_ldMoves.l0 k (bs l) true (acc : Int) (c : Int)) ((acc + movesS (digsF c d) l : Nat) : Int) := by
  induction d with
  | zero =>
    intro c l acc hc hl hd ha
    refine ev_at 1 (fun k => ?_)
    simp only [spec_ldMoves.l0]
    rw [if_neg (by omega)]
    rfl
  | succ d ih =>
    intro c l acc hc hl hd ha
    obtain ⟨g1, g2, g3⟩ := stopT_good (Nat.toUInt8 c) l hl hd
    have hi := ih (c + 1) _ (acc + (stopS true (Nat.toUInt8 c) l).2) (by omega) g1 g2 (by omega)
    have hs := ldStop_is l (Nat.toUInt8 c) true (by omega)
    rw [toU8 c (by omega)] at hs
    rw [digsF_succ, movesS, ← Nat.add_assoc]
    refine Ev.step (f := fun k => (spec_ldStop.f k (bs l) (c : Int) true).bind fun bt103 => (spec_ldMoves.l0 k bt103.1 true (wrap64 ((acc : Int) + bt103.2)) (((c : Int) + 1) % 256))) (fun k => ?_) (Ev.bind hs ?_)
    · simp only [spec_ldMoves.l0]
      rw [if_pos (by omega)]
    · simp only
      rw [w64 (i := (acc : Int) + (((stopS true (Nat.toUInt8 c) l).2 : Nat) : Int)) (by omega) (by omega), show ((c : Int) + 1) % 256 = ((c + 1 : Nat) : Int) by omega, show (acc : Int) + (((stopS true (Nat.toUInt8 c) l).2 : Nat) : Int) = ((acc + (stopS true (Nat.toUInt8 c) l).2 : Nat) : Int) by omega]
      exact hi
theorem sortM_impl (d : Nat) : ∀ (j : Nat) (l : List UInt8) (acc : Nat), j + d = 10 → l.length ≤ 12 → (∀ x ∈ l, x ∈ digsF 49 9) → acc + d * 12 ≤ 100000000 →
    Ev (fun k => impl_moves.l0 k (bs l) true (acc : Int) (j : Int)) ((acc + movesS (digsF (48 + j) d) l : Nat) : Int) := by
  induction d with
  | zero =>
    intro j l acc hc hl hd ha
    refine ev_at 1 (fun k => ?_)
    simp only [impl_moves.l0]
    rw [if_neg (by omega)]
    rfl
  | succ d ih =>
    intro j l acc hc hl hd ha
    obtain ⟨g1, g2, g3⟩ := stopT_good (Nat.toUInt8 (48 + j)) l hl hd
    have hi := ih (j + 1) _ (acc + (stopS true (Nat.toUInt8 (48 + j)) l).2) (by omega) g1 g2 (by omega)
    rw [digsF_succ, movesS, ← Nat.add_assoc]
    refine Ev.step (fun k => ?_) hi
    simp only [impl_moves.l0]
    rw [if_pos (by omega), stopped_gen l j true (by omega) (by omega) (fun _ => ⟨hl, hd⟩), Option.bind_some]
    simp only
    rw [w64 (i := (acc : Int) + (((stopS true (Nat.toUInt8 (48 + j)) l).2 : Nat) : Int)) (by omega) (by omega), w64 (i := (j : Int) + 1) (by omega) (by omega), show (acc : Int) + (((stopS true (Nat.toUInt8 (48 + j)) l).2 : Nat) : Int) = ((acc + (stopS true (Nat.toUInt8 (48 + j)) l).2 : Nat) : Int) by omega]
    rfl
theorem FnExactExtraBySorting : laws_FnExactExtraBySorting.Pure := by
  intro s hs
  refine Ev.rounds ?_
  unfold laws_FnExactExtraBySorting.f
  by_cases h : s.size ≤ 1048576
  · refine ev_neg (by omega) ?_
    have key : ∃ r : Int × Bool, Ev (fun k => spec_ExtraBySorting.f k s) r ∧ Ev (fun k => impl_ExtraBySorting.f k s) r := by
      cases hq : loadB s with
      | false =>
        refine ⟨(0, false), ?_, ?_⟩
        · unfold spec_ExtraBySorting.f
          exact Ev.bind (hq ▸ ldGood_is s h) (ev_neg (by decide) (Ev.now _))
        · unfold impl_ExtraBySorting.f
          rw [isLoading_is s h, hq]
          exact ev_some (ev_neg (by decide) (Ev.now _))
      | true =>
        have hm := load_mem s hq
        have hq2 := hq
        unfold loadB at hq2
        rw [Bool.and_eq_true, decide_eq_true_eq] at hq2
        have h1 := sortM_spec 9 49 s.data.toList 0 rfl hq2.1 hm (by omega)
        have h2 := sortM_impl 9 1 s.data.toList 0 rfl hq2.1 hm (by omega)
        rw [bs_eta] at h1 h2
        refine ⟨((0 + movesS (digsF 49 9) s.data.toList : Nat), true), ?_, ?_⟩
        · unfold spec_ExtraBySorting.f spec_ldMoves.f
          exact Ev.bind (hq ▸ ldGood_is s h) (ev_pos rfl (Ev.bind h1 (Ev.now _)))
        · unfold impl_ExtraBySorting.f impl_moves.f
          rw [isLoading_is s h, hq]
          exact ev_some (ev_pos rfl (Ev.bind h2 (Ev.now _)))
    obtain ⟨r, h1, h2⟩ := key
    exact Ev.bind h1 (Ev.bind h2 (ev_pos rfl (ev_neg (by simp) (Ev.now _))))
  · exact ev_pos (by omega) (Ev.now _)

end Go.Proofs.YtbjjmnnbkaoajaaDoor.Pure

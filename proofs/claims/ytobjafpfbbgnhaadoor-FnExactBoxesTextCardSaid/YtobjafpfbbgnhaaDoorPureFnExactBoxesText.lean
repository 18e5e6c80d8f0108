/- For every list of boxes (whose numbers may be any): the program's BoxesText and the reference's return the same, and the list is not changed. Condition: what the law itself lets in. -/
import Derived.Test.YtobjafpfbbgnhaaDoorL0
import Derived.Test.YtobjafpfbbgnhaaDoorL1
import Derived.Test.YtobjafpfbbgnhaaDoorL2
import Derived.Test.YtobjafpfbbgnhaaDoorL3
import Derived.Test.YtobjafpfbbgnhaaDoorL4
import Derived.Lib.ConvBytes
import Derived.Lib.IndexAny
import Derived.Lib.ItoaNum
import Derived.Lib.Join
import Derived.Shelf.Strings.SlTrimAscii
import Derived.Test.YtobjafpfbbgnhaaDoorSFnExactBoxesText
namespace Go.Proofs.YtobjafpfbbgnhaaDoor.Pure
open Go.RowKit Go.Proofs.YtobjafpfbbgnhaaDoor.L Go.Proofs.YtobjafpfbbgnhaaDoorW.PrintWords Go.Proofs.YtobjafpfbbgnhaaDoorW.PrintLast Go.Proofs.YtobjafpfbbgnhaaDoorW.PrintMore
set_option linter.unusedVariables false
set_option linter.unusedSimpArgs false
theorem ev_pos {α : Type} {c : Prop} [Decidable c] {g f : Nat → Option α} {r : α} (hc : c) (h : Ev g r) : Ev (fun k => if c then g k else f k) r := Ev.congr (fun _ => if_pos hc) h
theorem ev_neg {α : Type} {c : Prop} [Decidable c] {g f : Nat → Option α} {r : α} (hc : ¬ c) (h : Ev f r) : Ev (fun k => if c then g k else f k) r := Ev.congr (fun _ => if_neg hc) h
theorem ev_some {α β : Type} {a : α} {f : Nat → α → Option β} {r : β} (h : Ev (fun n => f n a) r) : Ev (fun n => (some a).bind (f n)) r := Ev.bind (Ev.now a) h
theorem ev_ret {α : Type} {g : Nat → Option α} {r : α} (h : Ev g r) : Ev (fun n => (g n).bind fun t => some t) r := Ev.bind h (Ev.now r)
theorem ev_at {α : Type} {g : Nat → Option α} {r : α} (K : Nat) (h : ∀ k, g (k + K) = some r) : Ev g r := ⟨K, fun n hn => by obtain ⟨m, rfl⟩ : ∃ m, n = m + K := ⟨n - K, by omega⟩; exact h m⟩
theorem w64 {i : Int} (h0 : -9223372036854775808 ≤ i) (h1 : i ≤ 9223372036854775807) : wrap64 i = i := by
  unfold wrap64
  omega
theorem bne_self (b : Bool) : (b != b) = false := by cases b <;> rfl
theorem cons_drop {α : Type} (xs : List α) (i : Nat) (h : i < xs.length) : xs.drop i = xs[i] :: xs.drop (i + 1) := List.drop_eq_getElem_cons h
/-- a loop over the indexes of a list: what holds of one round holds of all -/
theorem ev_for {β ρ : Type} (n : Nat) (l : Nat → β → Int → Option ρ) (st : Nat → β) (r : ρ) (hstep : ∀ i, i < n → ∀ k, l (k + 1) (st i) (i : Int) = l k (st (i + 1)) ((i : Int) + 1)) (hend : ∀ k, l (k + 1) (st n) (n : Int) = some r) : ∀ i, i ≤ n → Ev (fun k => l k (st i) (i : Int)) r := by
  intro i hi
  obtain ⟨d, hd⟩ : ∃ d, n - i = d := ⟨_, rfl⟩
  induction d generalizing i with
  | zero =>
    obtain rfl : i = n := by omega
    exact ev_at 1 hend
  | succ d ih =>
    refine Ev.step (f := fun k => l k (st (i + 1)) ((i : Int) + 1)) (fun k => hstep i (by omega) k) ?_
    have := ih (i + 1) (by omega) (by omega)
    rwa [show ((i + 1 : Nat) : Int) = (i : Int) + 1 from by omega] at this

def inB (lo hi a : Int) : Bool := decide (lo ≤ a) && decide (a ≤ hi)
theorem inB_iff (lo hi a : Int) : inB lo hi a = true ↔ lo ≤ a ∧ a ≤ hi := by simp [inB]
theorem in_is (a lo hi : Int) : spec_l1In.f a lo hi = some (inB lo hi a) := by
  unfold spec_l1In.f inB
  by_cases h : lo ≤ a
  · rw [if_pos h, decide_eq_true h, Bool.true_and]
  · rw [if_neg h, decide_eq_false h, Bool.false_and]

theorem all_l0 (lo hi : Int) (xs : List Int) (hn : xs.length ≤ 9223372036854775807) (d : Nat) : ∀ i : Nat, xs.length - i = d → i ≤ xs.length →
    Ev (fun k => spec_l1All.l0 k lo hi xs (xs.length : Int) (i : Int)) ((xs.drop i).all (inB lo hi)) := by
  induction d with
  | zero =>
    intro i hd hle
    obtain rfl : i = xs.length := by omega
    rw [List.drop_length]
    exact ev_at 1 (fun k => by simp only [spec_l1All.l0]; rw [if_neg (by omega)]; rfl)
  | succ d ih =>
    intro i hd hle
    have hlt : i < xs.length := by omega
    have hr : rd xs (i : Int) = xs[i] := by simp [rd, hlt]
    rw [cons_drop xs i hlt, List.all_cons]
    cases hb : inB lo hi xs[i] with
    | true =>
      refine Ev.step (f := fun k => spec_l1All.l0 k lo hi xs (xs.length : Int) ((i + 1 : Nat) : Int)) (fun k => ?_) (ih (i + 1) (by omega) (by omega))
      simp only [spec_l1All.l0]
      rw [if_pos (by omega), if_pos (by omega), if_pos (by omega), hr, in_is, hb, w64 (by omega) (by omega)]
      rfl
    | false =>
      refine ev_at 1 (fun k => ?_)
      simp only [spec_l1All.l0]
      rw [if_pos (by omega), if_pos (by omega), if_pos (by omega), hr, in_is, hb]
      rfl
theorem all_is (lo hi : Int) (xs : List Int) (hn : xs.length ≤ 9223372036854775807) : Ev (fun k => spec_l1All.f k xs lo hi) (xs.all (inB lo hi)) := by
  have := all_l0 lo hi xs hn _ 0 rfl (Nat.zero_le _)
  simpa [spec_l1All.f] using this

theorem okW_in (a b x : Int) : okW a b x = inB a b x := rfl
def boxB (a b c : Int) : Bool := inB 1 50 a && (inB 1 50 b && inB 1 50 c)
theorem ne_good (a b c : Int) : Ev (fun k => spec_neGood.f k a b c) (boxB a b c) := by
  unfold spec_neGood.f
  refine ev_ret ?_
  have := all_is 1 50 [a, b, c] (by simp)
  simpa [boxB] using this
theorem im_box (a b c : Int) : impl_isBox.f a b c = some (boxB a b c) := by
  simp [impl_isBox.f, impl_Box_sides.f, impl_areWithin.f, boxB, okW_in]

def convBox (s : S56) : S54 := ⟨s.f0, s.f1, s.f2⟩
theorem convBox_step (xs : List S56) (i : Nat) (h : i < xs.length) : ((xs.take i).map convBox ++ List.replicate (xs.length - i) z54).set i (convBox xs[i]) = (xs.take (i + 1)).map convBox ++ List.replicate (xs.length - (i + 1)) z54 := by
  have e : xs.length - i = (xs.length - (i + 1)) + 1 := by omega
  rw [List.set_append_right _ _ (by simp; omega), e, List.replicate_succ]
  have e2 : i - (List.map convBox (List.take i xs)).length = 0 := by simp; omega
  rw [e2, List.set_cons_zero, List.take_succ_eq_append_getElem h, List.map_append]
  simp
theorem toBox_l0 (xs : List S56) (hn : xs.length ≤ 1048576) (d : Nat) : ∀ i : Nat, xs.length - i = d → i ≤ xs.length →
    Ev (fun k => laws_toBoxS.l0 k xs ((xs.take i).map convBox ++ List.replicate (xs.length - i) z54) (i : Int)) (xs.map convBox) := by
  induction d with
  | zero =>
    intro i hd hle
    obtain rfl : i = xs.length := by omega
    exact ev_at 1 (fun k => by simp only [laws_toBoxS.l0]; rw [if_neg (by omega)]; simp)
  | succ d ih =>
    intro i hd hle
    have hlt : i < xs.length := by omega
    have hr : rd_T56 xs (i : Int) = xs[i] := by simp [rd_T56, hlt]
    refine Ev.step (f := fun k => laws_toBoxS.l0 k xs ((xs.take (i + 1)).map convBox ++ List.replicate (xs.length - (i + 1)) z54) ((i + 1 : Nat) : Int)) (fun k => ?_) (ih (i + 1) (by omega) (by omega))
    simp only [laws_toBoxS.l0, laws_toBox.f, Option.bind_some]
    rw [if_pos (by omega), if_pos (by omega), if_pos (by simp; omega), hr, w64 (by omega) (by omega), Int.toNat_natCast, ← convBox_step xs i hlt]
    rfl
theorem toBox_is (xs : List S56) (hn : xs.length ≤ 1048576) : Ev (fun k => laws_toBoxS.f k xs) (xs.map convBox) := by
  unfold laws_toBoxS.f
  refine ev_pos (by omega) (ev_pos (by simp; omega) ?_)
  have := toBox_l0 xs hn _ 0 rfl (Nat.zero_le _)
  simpa using this
theorem eqBox_self (x : S54) : laws_eqBox.f x.f0 x.f1 x.f2 x.f0 x.f1 x.f2 = some true := by simp [laws_eqBox.f]
theorem eqBox_l0 (xs : List S54) (hn : xs.length ≤ 1048577) (d : Nat) : ∀ i : Nat, xs.length - i = d → i ≤ xs.length → Ev (fun k => laws_eqBoxS.l0 k xs xs (i : Int)) true := by
  induction d with
  | zero =>
    intro i hd hle
    exact ev_at 1 (fun k => by simp only [laws_eqBoxS.l0]; rw [if_neg (by omega)])
  | succ d ih =>
    intro i hd hle
    refine Ev.step (f := fun k => laws_eqBoxS.l0 k xs xs ((i + 1 : Nat) : Int)) (fun k => ?_) (ih (i + 1) (by omega) (by omega))
    simp only [laws_eqBoxS.l0]
    rw [if_pos (by omega), if_pos (by omega), if_pos (by omega), eqBox_self, w64 (by omega) (by omega)]
    rfl
theorem eqBox_is (xs : List S54) (hn : xs.length ≤ 1048577) : Ev (fun k => laws_eqBoxS.f k xs xs) true := by
  unfold laws_eqBoxS.f
  exact ev_pos rfl (eqBox_l0 xs hn _ 0 rfl (Nat.zero_le _))
theorem szBox_is (xs : List S56) (hn : xs.length ≤ maxLen) : laws_szBoxS.f xs 1048576 = some (if xs.length ≤ 1048576 then 1048576 - (xs.length : Int) else -1) := by
  unfold maxLen at hn
  unfold laws_szBoxS.f
  rw [w64 (by omega) (by omega)]
  by_cases h : xs.length ≤ 1048576
  · rw [if_neg (by omega), if_pos h]
  · rw [if_pos (by omega), if_neg h]

theorem okBox_is (b : S54) : okBox b = boxB b.f0 b.f1 b.f2 := rfl
theorem neAll_l0 (xs : List S54) (hn : xs.length ≤ 1048576) (d : Nat) : ∀ i : Nat, xs.length - i = d → i ≤ xs.length →
    Ev (fun k => spec_neAll.l0 k xs (xs.length : Int) (i : Int)) ((xs.drop i).all okBox) := by
  induction d with
  | zero =>
    intro i hd hle
    obtain rfl : i = xs.length := by omega
    rw [List.drop_length]
    exact ev_at 1 (fun k => by simp only [spec_neAll.l0]; rw [if_neg (by omega)]; rfl)
  | succ d ih =>
    intro i hd hle
    have hlt : i < xs.length := by omega
    have hr : rd_T54 xs (i : Int) = xs[i] := by simp [rd_T54, hlt]
    rw [cons_drop xs i hlt, List.all_cons]
    refine Ev.step (f := fun k => (spec_neGood.f k xs[i].f0 xs[i].f1 xs[i].f2).bind fun t => if t = true then spec_neAll.l0 k xs (xs.length : Int) ((i + 1 : Nat) : Int) else some false) (fun k => ?_) ?_
    · simp only [spec_neAll.l0]
      rw [if_pos (by omega), if_pos (by omega), if_pos (by omega), hr, w64 (by omega) (by omega)]
      rfl
    · have hg := ne_good xs[i].f0 xs[i].f1 xs[i].f2
      cases hb : okBox xs[i] with
      | true =>
        rw [okBox_is] at hb
        exact Ev.bind (hb ▸ hg) (ev_pos rfl (ih (i + 1) (by omega) (by omega)))
      | false =>
        rw [okBox_is] at hb
        exact Ev.bind (hb ▸ hg) (ev_neg (by decide) (Ev.now _))
theorem neAll_is (xs : List S54) (hn : xs.length ≤ 1048576) : Ev (fun k => spec_neAll.f k xs) (okW 1 7 (xs.length : Int) && xs.all okBox) := by
  unfold spec_neAll.f
  rw [in_is, okW_in]
  cases inB 1 7 (xs.length : Int) with
  | true => exact ev_some (ev_pos rfl (by simpa using neAll_l0 xs hn _ 0 rfl (Nat.zero_le _)))
  | false => exact ev_some (ev_neg (by decide) (Ev.now _))

theorem len_list (s : ByteArray) : s.data.toList.length = s.size := rfl
theorem bt_list (s : ByteArray) (i : Nat) (h : i < s.data.toList.length) : bt s (i : Int) = ((s.data.toList[i]'h).toNat : Int) := by
  have h2 : i < s.size := h
  have e : (i : Int).toNat = i := Int.toNat_natCast i
  unfold bt
  rw [dif_pos (by rw [e]; exact h2)]
  simp only [e]
  rfl
theorem u8_lt (c : UInt8) : c.toNat < 256 := c.toNat_lt
theorem str_eq (a b : ByteArray) : (a.toList == b.toList) = decide (a = b) := by
  rw [Lib.toList_data, Lib.toList_data]
  by_cases h : a = b
  · subst h; simp
  · rw [decide_eq_false h]
    rw [beq_eq_false_iff_ne]
    intro e
    apply h
    cases a; cases b
    simp at e
    simp [e]

theorem all_of_drop {α : Type} (p : α → Bool) : ∀ m : List α, (m.dropWhile p).all p = true → m.all p = true
  | [], _ => rfl
  | a :: m, h => by
    cases hp : p a with
    | true =>
      rw [List.dropWhile_cons, if_pos hp] at h
      rw [List.all_cons, hp, all_of_drop p m h]
      rfl
    | false =>
      simp [List.dropWhile_cons, hp] at h
theorem drop_all {α : Type} (p : α → Bool) : ∀ m : List α, m.all p = true → m.dropWhile p = []
  | [], _ => rfl
  | a :: m, h => by
    rw [List.all_cons, Bool.and_eq_true] at h
    rw [List.dropWhile_cons, if_pos h.1, drop_all p m h.2]
theorem trim_nil (l cs : List UInt8) : (Lib.trimS l cs == []) = l.all (cs.contains ·) := by
  unfold Lib.trimS Lib.trimLeftS Lib.trimRightS
  cases h : l.all (cs.contains ·) with
  | true =>
    rw [drop_all (cs.contains ·) l.reverse (by rw [List.all_reverse]; exact h)]
    rfl
  | false =>
    rw [beq_eq_false_iff_ne]
    intro e
    have h1 : ((l.reverse.dropWhile (cs.contains ·)).reverse).all (cs.contains ·) = true := all_of_drop _ _ (by rw [e]; rfl)
    rw [List.all_reverse] at h1
    have h2 := all_of_drop _ _ h1
    rw [List.all_reverse, h] at h2
    exact absurd h2 (by decide)

def oth (c : UInt8) : UInt8 := c ^^^ 32
def smallC (c : UInt8) : Bool := decide (97 ≤ c.toNat)
def letterC (c : UInt8) : Bool := (decide (97 ≤ c.toNat) && decide (c.toNat ≤ 104)) || (decide (65 ≤ c.toNat) && decide (c.toNat ≤ 72))
def goodI : List UInt8 → List UInt8 → Bool
  | _, [] => true
  | pre, c :: r => !(pre.contains c) && (smallC c || pre.contains (oth c)) && goodI (pre ++ [c]) r
def stepO (v : List UInt8 × Bool) (c : UInt8) : List UInt8 × Bool := if smallC c = true then (v.1 ++ [c], v.2) else (v.1.erase (oth c), v.2 && decide (v.1.getLast? = some (oth c)))
def tourB (s : ByteArray) : Bool := decide (s.size ≤ 16) && s.data.toList.all letterC && goodI [] s.data.toList
theorem u8_all (p : UInt8 → Prop) [DecidablePred p] (h : ∀ n : Fin 256, p (UInt8.ofNat n.val)) (c : UInt8) : p c := by
  have := h ⟨c.toNat, c.toNat_lt⟩
  simpa using this
theorem bits_oth (c : UInt8) : Go.bits .xor .u8 (c.toNat : Int) 32 = ((oth c).toNat : Int) :=
  u8_all (fun c => Go.bits .xor .u8 (c.toNat : Int) 32 = ((oth c).toNat : Int)) (by decide +kernel) c
theorem oth_oth (c : UInt8) : oth (oth c) = c := u8_all (fun c => oth (oth c) = c) (by decide +kernel) c
theorem oth_cap (c : UInt8) (h : letterC c = true) (hs : smallC c = true) : smallC (oth c) = false ∧ letterC (oth c) = true :=
  u8_all (fun c => letterC c = true → smallC c = true → smallC (oth c) = false ∧ letterC (oth c) = true) (by decide +kernel) c h hs
theorem oth_small (c : UInt8) (h : letterC c = true) (hs : smallC c = false) : smallC (oth c) = true ∧ letterC (oth c) = true :=
  u8_all (fun c => letterC c = true → smallC c = false → smallC (oth c) = true ∧ letterC (oth c) = true) (by decide +kernel) c h hs
theorem oth_plus (c : UInt8) (h : letterC c = true) (hs : smallC c = false) : ((oth c).toNat : Int) = (c.toNat : Int) + 32 :=
  u8_all (fun c => letterC c = true → smallC c = false → ((oth c).toNat : Int) = (c.toNat : Int) + 32) (by decide +kernel) c h hs
theorem nat_u8 (c : UInt8) : ((c.toNat : Int)).toNat.toUInt8 = c := by simp
theorem letter_contains (c : UInt8) : [97, 98, 99, 100, 101, 102, 103, 104, 65, 66, 67, 68, 69, 70, 71, 72].contains c = letterC c :=
  u8_all (fun c => [97, 98, 99, 100, 101, 102, 103, 104, 65, 66, 67, 68, 69, 70, 71, 72].contains c = letterC c) (by decide +kernel) c
/-- the byte string of a list -/
def bs (l : List UInt8) : ByteArray := ⟨l.toArray⟩
theorem bs_list (l : List UInt8) : (bs l).data.toList = l := by simp [bs]
theorem bs_size (l : List UInt8) : (bs l).size = l.length := by simp [bs, ByteArray.size]
theorem bs_eta (s : ByteArray) : bs s.data.toList = s := by cases s; simp [bs]
theorem bs_inj {s t : ByteArray} (h : s.data.toList = t.data.toList) : s = t := by rw [← bs_eta s, ← bs_eta t, h]
theorem bs_append (l m : List UInt8) : bs l ++ bs m = bs (l ++ m) := bs_inj (by simp [bs])
theorem bs_extract (l : List UInt8) (i j : Nat) : (bs l).extract i j = bs ((l.drop i).take (j - i)) := bs_inj (by rw [Lib.extract_data, bs_list, bs_list])
theorem at_first (c : UInt8) : ∀ l : List UInt8, c ∈ l → l.idxOf c < l.length ∧ l.erase c = l.take (l.idxOf c) ++ l.drop (l.idxOf c + 1)
  | [], h => by simp at h
  | x :: l, h => by
    by_cases hx : x = c
    · subst hx
      simp
    · have h2 : c ∈ l := by
        rcases List.mem_cons.1 h with h | h
        · exact absurd h.symm hx
        · exact h
      obtain ⟨h3, h4⟩ := at_first c l h2
      have hb : (x == c) = false := by simpa using hx
      rw [List.idxOf_cons, hb]
      simp only [cond_false, List.length_cons]
      refine ⟨by omega, ?_⟩
      rw [List.erase_cons, hb]
      simp [h4]
theorem last_iff (c : UInt8) (l : List UInt8) (hn : l.Nodup) (h : c ∈ l) : l.idxOf c = l.length - 1 ↔ l.getLast? = some c := by
  obtain ⟨h1, _⟩ := at_first c l h
  have hg : l[l.idxOf c]'h1 = c := by
    exact List.getElem_idxOf h1
  rw [List.getLast?_eq_getElem?]
  constructor
  · intro e
    rw [← e, List.getElem?_eq_getElem h1, hg]
  · intro e
    obtain ⟨h2, h3⟩ := List.getElem?_eq_some_iff.1 e
    have h4 := List.Nodup.idxOf_getElem hn (l.length - 1) h2
    rw [h3] at h4
    exact h4
/-- the state behind a part of a good tour -/
structure TourJ (pre open_ seen : List UInt8) : Prop where
  lets : ∀ x ∈ pre, letterC x = true
  inSeen : ∀ x, x ∈ seen ↔ x ∈ pre ∧ smallC x = true
  inOpen : ∀ x, x ∈ open_ ↔ x ∈ pre ∧ smallC x = true ∧ oth x ∉ pre
  nodup : open_.Nodup
  caps : ∀ x ∈ pre, smallC x = false → oth x ∈ pre
theorem TourJ.nil : TourJ [] [] [] := ⟨by simp, by simp, by simp, by simp, by simp⟩
theorem TourJ.small {pre open_ seen : List UInt8} (J : TourJ pre open_ seen) {c : UInt8} (hl : letterC c = true) (hs : smallC c = true) (hc : c ∉ pre) : TourJ (pre ++ [c]) (open_ ++ [c]) (seen ++ [c]) := by
  have hoc : oth c ∉ pre := fun h => hc (by have := J.caps _ h (oth_cap c hl hs).1; rwa [oth_oth] at this)
  have hne : ∀ x, x ∈ pre → smallC x = true → oth x ≠ c := fun x hx h1 e => by
    have := (oth_cap x (J.lets x hx) h1).1
    rw [e, hs] at this
    exact absurd this (by decide)
  have hcc : oth c ≠ c := fun e => by
    have := (oth_cap c hl hs).1
    rw [e, hs] at this
    exact absurd this (by decide)
  refine ⟨fun x hx => ?_, fun x => ?_, fun x => ?_, ?_, fun x hx h => ?_⟩
  · rcases List.mem_append.1 hx with h | h
    · exact J.lets x h
    · obtain rfl : x = c := by simpa using h
      exact hl
  · simp only [List.mem_append, List.mem_singleton, J.inSeen]
    constructor
    · rintro (⟨h1, h2⟩ | rfl)
      · exact ⟨.inl h1, h2⟩
      · exact ⟨.inr rfl, hs⟩
    · rintro ⟨h1 | rfl, h2⟩
      · exact .inl ⟨h1, h2⟩
      · exact .inr rfl
  · simp only [List.mem_append, List.mem_singleton, J.inOpen, not_or]
    constructor
    · rintro (⟨h1, h2, h3⟩ | rfl)
      · exact ⟨.inl h1, h2, h3, hne x h1 h2⟩
      · exact ⟨.inr rfl, hs, hoc, hcc⟩
    · rintro ⟨h1 | rfl, h2, h3, h4⟩
      · exact .inl ⟨h1, h2, h3⟩
      · exact .inr rfl
  · rw [List.nodup_append]
    refine ⟨J.nodup, by simp, fun x hx y hy e => ?_⟩
    obtain rfl : y = c := by simpa using hy
    subst e
    exact hc ((J.inOpen x).1 hx).1
  · rcases List.mem_append.1 hx with h2 | h2
    · exact List.mem_append.2 (.inl (J.caps x h2 h))
    · obtain rfl : x = c := by simpa using h2
      rw [hs] at h
      exact absurd h (by decide)
theorem TourJ.cap {pre open_ seen : List UInt8} (J : TourJ pre open_ seen) {c : UInt8} (hl : letterC c = true) (hs : smallC c = false) (hc : c ∉ pre) (ho : oth c ∈ pre) : TourJ (pre ++ [c]) (open_.erase (oth c)) seen := by
  have hns : ∀ x, smallC x = true → x ≠ c := fun x h e => by rw [e, hs] at h; exact absurd h (by decide)
  refine ⟨fun x hx => ?_, fun x => ?_, fun x => ?_, J.nodup.erase _, fun x hx h => ?_⟩
  · rcases List.mem_append.1 hx with h | h
    · exact J.lets x h
    · obtain rfl : x = c := by simpa using h
      exact hl
  · simp only [List.mem_append, List.mem_singleton, J.inSeen]
    constructor
    · rintro ⟨h1, h2⟩
      exact ⟨.inl h1, h2⟩
    · rintro ⟨h1 | rfl, h2⟩
      · exact ⟨h1, h2⟩
      · exact absurd rfl (hns _ h2)
  · rw [J.nodup.mem_erase_iff]
    simp only [List.mem_append, List.mem_singleton, J.inOpen, not_or]
    constructor
    · rintro ⟨h0, h1, h2, h3⟩
      exact ⟨.inl h1, h2, h3, fun e => h0 (by rw [← e, oth_oth])⟩
    · rintro ⟨h1 | rfl, h2, h3, h4⟩
      · exact ⟨fun e => h4 (by rw [e, oth_oth]), h1, h2, h3⟩
      · exact absurd rfl (hns _ h2)
  · rcases List.mem_append.1 hx with h2 | h2
    · exact List.mem_append.2 (.inl (J.caps x h2 h))
    · obtain rfl : x = c := by simpa using h2
      exact List.mem_append.2 (.inl ho)
theorem TourJ.in_open {pre open_ seen : List UInt8} (J : TourJ pre open_ seen) {c : UInt8} (hl : letterC c = true) (hs : smallC c = false) : oth c ∈ open_ ↔ c ∉ pre ∧ oth c ∈ pre := by
  rw [J.inOpen, oth_oth]
  have := (oth_small c hl hs).1
  constructor
  · rintro ⟨h1, _, h3⟩
    exact ⟨h3, h1⟩
  · rintro ⟨h1, h2⟩
    exact ⟨h2, this, h1⟩
theorem goodI_tail {pre : List UInt8} {c : UInt8} {r : List UInt8} (h : goodI pre (c :: r) = true) : c ∉ pre ∧ (smallC c = false → oth c ∈ pre) ∧ goodI (pre ++ [c]) r = true := by
  rw [goodI] at h
  simp only [Bool.and_eq_true, Bool.not_eq_true', Bool.or_eq_true] at h
  refine ⟨fun h2 => ?_, fun h2 => ?_, h.2⟩
  · have := List.contains_iff_mem.2 h2
    rw [h.1.1] at this
    exact absurd this (by decide)
  · rcases h.1.2 with h3 | h3
    · rw [h2] at h3; exact absurd h3 (by decide)
    · exact List.contains_iff_mem.1 h3
/-- behind a part of a tour the state stands -/
theorem J_fold : ∀ (r pre open_ seen : List UInt8) (free : Bool), TourJ pre open_ seen → (∀ x ∈ r, letterC x = true) → goodI pre r = true → ∃ seen', TourJ (pre ++ r) (r.foldl stepO (open_, free)).1 seen'
  | [], pre, open_, seen, free, J, _, _ => ⟨seen, by simpa using J⟩
  | c :: r, pre, open_, seen, free, J, hl, hg => by
    obtain ⟨h1, h2, h3⟩ := goodI_tail hg
    have hc := hl c (by simp)
    rw [List.foldl_cons, show pre ++ c :: r = (pre ++ [c]) ++ r by simp]
    cases hs : smallC c with
    | true =>
      have e : stepO (open_, free) c = (open_ ++ [c], free) := by simp [stepO, hs]
      rw [e]
      exact J_fold r _ _ _ _ (J.small hc hs h1) (fun x hx => hl x (by simp [hx])) h3
    | false =>
      have e : stepO (open_, free) c = (open_.erase (oth c), free && decide (open_.getLast? = some (oth c))) := by simp [stepO, hs]
      rw [e]
      exact J_fold r _ _ _ _ (J.cap hc hs h1 (h2 hs)) (fun x hx => hl x (by simp [hx])) h3
theorem goodI_take : ∀ (r pre : List UInt8) (n : Nat), goodI pre r = true → goodI pre (r.take n) = true
  | [], pre, n, _ => by simp [goodI]
  | c :: r, pre, 0, _ => by simp [goodI]
  | c :: r, pre, n + 1, h => by
    rw [List.take_succ_cons]
    rw [goodI] at h ⊢
    simp only [Bool.and_eq_true] at h ⊢
    exact ⟨h.1, goodI_take r _ n h.2⟩

theorem num_is (n : Nat) : n < 1000000 → Ev (fun k => spec_l1Num.f k (n : Int)) (bs (Lib.decDigits n)) := by
  induction n using Nat.strongRecOn with
  | ind n ih =>
    intro hn
    have hd : ∀ m : Nat, m < 10 → strOfNums (([((48 + (m : Int))) % 256] : List Int)) = bs [UInt8.ofNat (48 + m)] := fun m hm => by
      rw [show (48 + (m : Int)) % 256 = ((48 + m : Nat) : Int) by omega]
      unfold strOfNums bs
      rw [List.map_singleton, Int.toNat_natCast]
    rw [Lib.decDigits]
    by_cases h : n < 10
    · rw [dif_pos h]
      refine ev_at 1 (fun k => ?_)
      simp only [spec_l1Num.f]
      rw [if_pos (by omega), w64 (i := 48 + (n : Int)) (by omega) (by omega), hd n h]
    · rw [dif_neg h]
      have hi := ih (n / 10) (by omega) (by omega)
      have hl : (Lib.decDigits (n / 10)).length ≤ 1000000 := by
        have key : ∀ m : Nat, (Lib.decDigits m).length ≤ m + 1 := by
          intro m
          induction m using Nat.strongRecOn with
          | ind m ih2 =>
            rw [Lib.decDigits]
            by_cases h2 : m < 10
            · rw [dif_pos h2]; simp
            · rw [dif_neg h2, List.length_append]
              have := ih2 (m / 10) (by omega)
              simp
              omega
        have := key (n / 10)
        omega
      refine Ev.step (f := fun k => (spec_l1Num.f k ((n / 10 : Nat) : Int)).bind fun t115 => ((some (([(48 + ((n % 10 : Nat) : Int)) % 256] : List Int) : List Int)).bind fun y116 => (if t115.size + (strOfNums y116).size ≤ 9223372036854775807 then (some (t115 ++ (strOfNums y116))) else (none)))) (fun k => ?_) (Ev.bind hi (ev_some ?_))
      · simp only [spec_l1Num.f]
        rw [if_neg (by omega), show Int.tdiv (n : Int) 10 = ((n / 10 : Nat) : Int) by rw [show (10 : Int) = ((10 : Nat) : Int) from rfl, ← Int.ofNat_tdiv], show Int.tmod (n : Int) 10 = ((n % 10 : Nat) : Int) by rw [show (10 : Int) = ((10 : Nat) : Int) from rfl, ← Int.ofNat_tmod], w64 (i := ((n / 10 : Nat) : Int)) (by omega) (by omega), w64 (i := 48 + ((n % 10 : Nat) : Int)) (by omega) (by omega)]
      · rw [hd (n % 10) (by omega)]
        refine ev_pos (by rw [bs_size, bs_size]; simp; omega) ?_
        rw [bs_append]
        exact Ev.now _
theorem num_len (n : Nat) (h : n < 100) : (Lib.decDigits n).length ≤ 2 := by
  rw [Lib.decDigits]
  by_cases h1 : n < 10
  · rw [dif_pos h1]; simp
  · rw [dif_neg h1, List.length_append, Lib.decDigits, dif_pos (by omega)]
    simp

theorem join_snoc (xs : List (List UInt8)) (x sep : List UInt8) : Lib.join (xs ++ [x]) sep = if xs = [] then x else Lib.join xs sep ++ sep ++ x := by
  cases xs with
  | nil => simp [Lib.join_one]
  | cons y r =>
    rw [if_neg (by simp), List.cons_append, Lib.join_cons, Lib.join_cons]
    unfold Lib.joinTail
    simp [List.append_assoc]

def numU (i : Int) : List UInt8 := Lib.decDigits i.toNat
def boxU (b : S54) : List UInt8 := numU b.f0 ++ [120] ++ numU b.f1 ++ [120] ++ numU b.f2
def textU (xs : List S54) : List UInt8 := Lib.join (xs.map boxU) [44]
theorem ok_sides (b : S54) (h : okBox b = true) : (1 ≤ b.f0 ∧ b.f0 ≤ 50) ∧ (1 ≤ b.f1 ∧ b.f1 ≤ 50) ∧ (1 ≤ b.f2 ∧ b.f2 ≤ 50) := by
  rw [okBox_is] at h
  unfold boxB inB at h
  simp only [Bool.and_eq_true, decide_eq_true_eq] at h
  omega
theorem numU_is (i : Int) (h0 : 1 ≤ i) (h1 : i ≤ 50) : Ev (fun k => spec_l1Num.f k i) (bs (numU i)) ∧ strconv_Itoa.f i = some (bs (numU i)) ∧ (numU i).length ≤ 2 := by
  obtain ⟨n, rfl⟩ := Int.eq_ofNat_of_zero_le (show 0 ≤ i by omega)
  unfold numU
  rw [Int.toNat_natCast]
  refine ⟨num_is n (by omega), ?_, num_len n (by omega)⟩
  unfold strconv_Itoa.f
  rw [if_pos ⟨by omega, by omega⟩, Int.toNat_natCast]
  rfl
theorem boxU_len (b : S54) (h : okBox b = true) : (boxU b).length ≤ 8 := by
  obtain ⟨h0, h1, h2⟩ := ok_sides b h
  have l0 := (numU_is b.f0 h0.1 h0.2).2.2
  have l1 := (numU_is b.f1 h1.1 h1.2).2.2
  have l2 := (numU_is b.f2 h2.1 h2.2).2.2
  unfold boxU
  simp only [List.length_append, List.length_singleton]
  omega
theorem text_snoc (xs : List S54) (b : S54) : textU (xs ++ [b]) = if xs = [] then boxU b else textU xs ++ [44] ++ boxU b := by
  unfold textU
  rw [List.map_append, List.map_singleton, join_snoc]
  by_cases h : xs = []
  · rw [if_pos h, if_pos (by rw [h]; rfl)]
  · rw [if_neg h, if_neg (by simpa using h)]
theorem text_len (xs : List S54) (hx : ∀ b ∈ xs, okBox b = true) (i : Nat) : i ≤ xs.length → (textU (xs.take i)).length ≤ 9 * i := by
  induction i with
  | zero => intro _; simp [textU, Lib.join_nil]
  | succ i ih =>
    intro hi
    have hlt : i < xs.length := by omega
    have h1 := ih (by omega)
    have h2 := boxU_len xs[i] (hx _ (List.getElem_mem hlt))
    rw [List.take_add_one, List.getElem?_eq_getElem hlt, show (some xs[i]).toList = [xs[i]] from rfl, text_snoc]
    split
    · omega
    · simp only [List.length_append, List.length_singleton]; omega
theorem text_spec (xs : List S54) (hx : ∀ b ∈ xs, okBox b = true) (hn : xs.length ≤ 7) (d : Nat) : ∀ i : Nat, xs.length - i = d → i ≤ xs.length →
    Ev (fun k => spec_neText.l0 k (bs (textU (xs.take i))) xs (xs.length : Int) (i : Int)) (bs (textU xs)) := by
  induction d with
  | zero =>
    intro i hd hi
    obtain rfl : i = xs.length := by omega
    rw [List.take_length]
    exact ev_at 1 (fun k => by simp only [spec_neText.l0]; rw [if_neg (by omega)])
  | succ d ih =>
    intro i hd hi
    have hlt : i < xs.length := by omega
    have hr : rd_T54 xs (i : Int) = xs[i] := by simp [rd_T54, hlt]
    have hok := hx _ (List.getElem_mem hlt)
    obtain ⟨h0, h1, h2⟩ := ok_sides xs[i] hok
    obtain ⟨s0, _, l0⟩ := numU_is xs[i].f0 h0.1 h0.2
    obtain ⟨s1, _, l1⟩ := numU_is xs[i].f1 h1.1 h1.2
    obtain ⟨s2, _, l2⟩ := numU_is xs[i].f2 h2.1 h2.2
    have hlen := text_len xs hx i hi
    have hi2 := ih (i + 1) (by omega) (by omega)
    rw [List.take_add_one, List.getElem?_eq_getElem hlt, show (some xs[i]).toList = [xs[i]] from rfl, text_snoc] at hi2
    have e120 : (⟨#[120]⟩ : ByteArray) = bs [120] := rfl
    have e44 : (⟨#[44]⟩ : ByteArray) = bs [44] := rfl
    by_cases hz : 0 < i
    · rw [if_neg (by intro e; have := congrArg List.length e; rw [List.length_take, List.length_nil] at this; omega)] at hi2
      refine Ev.step (f := fun k => if (bs (textU (xs.take i))).size + 1 ≤ 9223372036854775807 then ((spec_l1Num.f k (xs[i].f0)).bind fun t121 => (if t121.size + 1 ≤ 9223372036854775807 then ((spec_l1Num.f k (xs[i].f1)).bind fun t122 => (if (t121 ++ (⟨#[120]⟩ : ByteArray)).size + t122.size ≤ 9223372036854775807 then (if ((t121 ++ (⟨#[120]⟩ : ByteArray)) ++ t122).size + 1 ≤ 9223372036854775807 then ((spec_l1Num.f k (xs[i].f2)).bind fun t123 => (if (((t121 ++ (⟨#[120]⟩ : ByteArray)) ++ t122) ++ (⟨#[120]⟩ : ByteArray)).size + t123.size ≤ 9223372036854775807 then (if ((bs (textU (xs.take i))) ++ (⟨#[44]⟩ : ByteArray)).size + ((((t121 ++ (⟨#[120]⟩ : ByteArray)) ++ t122) ++ (⟨#[120]⟩ : ByteArray)) ++ t123).size ≤ 9223372036854775807 then (spec_neText.l0 k (((bs (textU (xs.take i))) ++ (⟨#[44]⟩ : ByteArray)) ++ ((((t121 ++ (⟨#[120]⟩ : ByteArray)) ++ t122) ++ (⟨#[120]⟩ : ByteArray)) ++ t123)) xs (xs.length : Int) (wrap64 ((i : Int) + 1))) else (none)) else (none))) else (none)) else (none))) else (none))) else (none)) (fun k => ?_) ?_
      · simp only [spec_neText.l0]
        rw [if_pos (by omega), if_pos (by omega), if_pos (by omega), if_pos (by omega), hr]
      · rw [e120, e44]
        refine ev_pos (by rw [bs_size]; omega) (Ev.bind s0 (ev_pos (by rw [bs_size]; omega) (Ev.bind s1 ?_)))
        rw [bs_append]
        refine ev_pos (by rw [bs_size, bs_size, List.length_append, List.length_singleton]; omega) ?_
        rw [bs_append]
        refine ev_pos (by rw [bs_size]; simp only [List.length_append, List.length_singleton]; omega) (Ev.bind s2 ?_)
        rw [bs_append]
        refine ev_pos (by rw [bs_size, bs_size]; simp only [List.length_append, List.length_singleton]; omega) ?_
        rw [bs_append, bs_append]
        refine ev_pos (by rw [bs_size, bs_size]; simp only [List.length_append, List.length_singleton]; omega) ?_
        rw [bs_append, w64 (i := (i : Int) + 1) (by omega) (by omega)]
        exact hi2
    · obtain rfl : i = 0 := by omega
      rw [if_pos (by simp)] at hi2
      refine Ev.step (f := fun k => ((spec_l1Num.f k (xs[0].f0)).bind fun t124 => (if t124.size + 1 ≤ 9223372036854775807 then ((spec_l1Num.f k (xs[0].f1)).bind fun t125 => (if (t124 ++ (⟨#[120]⟩ : ByteArray)).size + t125.size ≤ 9223372036854775807 then (if ((t124 ++ (⟨#[120]⟩ : ByteArray)) ++ t125).size + 1 ≤ 9223372036854775807 then ((spec_l1Num.f k (xs[0].f2)).bind fun t126 => (if (((t124 ++ (⟨#[120]⟩ : ByteArray)) ++ t125) ++ (⟨#[120]⟩ : ByteArray)).size + t126.size ≤ 9223372036854775807 then (if (bs (textU (xs.take 0))).size + ((((t124 ++ (⟨#[120]⟩ : ByteArray)) ++ t125) ++ (⟨#[120]⟩ : ByteArray)) ++ t126).size ≤ 9223372036854775807 then (spec_neText.l0 k ((bs (textU (xs.take 0))) ++ ((((t124 ++ (⟨#[120]⟩ : ByteArray)) ++ t125) ++ (⟨#[120]⟩ : ByteArray)) ++ t126)) xs (xs.length : Int) (wrap64 (((0 : Nat) : Int) + 1))) else (none)) else (none))) else (none)) else (none))) else (none)))) (fun k => ?_) ?_
      · simp only [spec_neText.l0]
        rw [if_pos (by omega), if_pos (by omega), if_pos (by omega), if_neg (by omega), hr]
      · rw [e120]
        refine Ev.bind s0 (ev_pos (by rw [bs_size]; omega) (Ev.bind s1 ?_))
        rw [bs_append]
        refine ev_pos (by rw [bs_size, bs_size, List.length_append, List.length_singleton]; omega) ?_
        rw [bs_append]
        refine ev_pos (by rw [bs_size]; simp only [List.length_append, List.length_singleton]; omega) (Ev.bind s2 ?_)
        rw [bs_append]
        refine ev_pos (by rw [bs_size, bs_size]; simp only [List.length_append, List.length_singleton]; omega) ?_
        rw [bs_append]
        refine ev_pos (by rw [bs_size, bs_size]; simp only [List.length_append, List.length_singleton]; omega) ?_
        rw [bs_append, w64 (i := ((0 : Nat) : Int) + 1) (by omega) (by omega), List.take_zero, show textU [] = [] from rfl, List.nil_append]
        exact hi2
theorem text_impl (xs : List S54) (hx : ∀ b ∈ xs, okBox b = true) (hn : xs.length ≤ 7) (d : Nat) : ∀ i : Nat, xs.length - i = d → i ≤ xs.length →
    Ev (fun k => impl_boxesText.l0 k ((xs.take i).map (fun b => bs (boxU b))) xs (xs.length : Int) (i : Int)) (bs (textU xs)) := by
  induction d with
  | zero =>
    intro i hd hi
    obtain rfl : i = xs.length := by omega
    have hlen := text_len xs hx xs.length (Nat.le_refl _)
    rw [List.take_length] at hlen ⊢
    refine ev_at 1 (fun k => ?_)
    have hm : (xs.map (fun b => bs (boxU b))).map (·.data.toList) = xs.map boxU := by
      rw [List.map_map]
      exact List.map_congr_left fun b _ => bs_list _
    simp only [impl_boxesText.l0, strings_Join.f]
    rw [if_neg (by omega), hm]
    rw [if_pos ⟨by rw [List.length_map]; omega, by show (textU xs).length ≤ _; omega⟩]
    rfl
  | succ d ih =>
    intro i hd hi
    have hlt : i < xs.length := by omega
    have hr : rd_T54 xs (i : Int) = xs[i] := by simp [rd_T54, hlt]
    have hok := hx _ (List.getElem_mem hlt)
    obtain ⟨h0, h1, h2⟩ := ok_sides xs[i] hok
    obtain ⟨_, s0, l0⟩ := numU_is xs[i].f0 h0.1 h0.2
    obtain ⟨_, s1, l1⟩ := numU_is xs[i].f1 h1.1 h1.2
    obtain ⟨_, s2, l2⟩ := numU_is xs[i].f2 h2.1 h2.2
    have hi2 := ih (i + 1) (by omega) (by omega)
    rw [List.take_add_one, List.getElem?_eq_getElem hlt, show (some xs[i]).toList = [xs[i]] from rfl, List.map_append, List.map_singleton] at hi2
    have e120 : (⟨#[120]⟩ : ByteArray) = bs [120] := rfl
    refine Ev.step (fun k => ?_) hi2
    simp only [impl_boxesText.l0]
    rw [if_pos (by omega), if_pos (by omega), if_pos (by omega), hr, s0, Option.bind_some, if_pos (by rw [bs_size]; omega), s1, Option.bind_some, e120, bs_append, if_pos (by rw [bs_size, bs_size, List.length_append, List.length_singleton]; omega), bs_append, if_pos (by rw [bs_size]; simp only [List.length_append, List.length_singleton]; omega), s2, Option.bind_some, bs_append, if_pos (by rw [bs_size, bs_size]; simp only [List.length_append, List.length_singleton]; omega), bs_append, if_pos (by rw [List.length_map, List.length_take]; omega), w64 (i := (i : Int) + 1) (by omega) (by omega)]
    rfl
theorem text_key (xs : List S54) (hn : xs.length ≤ 1048576) : ∃ r : ByteArray × Bool, Ev (fun k => spec_BoxesText.f k xs) r ∧ Ev (fun k => impl_BoxesText.f k xs) r := by
  have ha := neAll_is xs hn
  cases hq : (okW 1 7 (xs.length : Int) && xs.all okBox) with
  | false =>
    refine ⟨((⟨#[]⟩ : ByteArray), false), ?_, ?_⟩
    · unfold spec_BoxesText.f
      exact Ev.bind (hq ▸ ha) (ev_neg (by decide) (Ev.now _))
    · unfold impl_BoxesText.f impl_AreBoxes.f
      rw [hq]
      exact ev_some (ev_neg (by decide) (Ev.now _))
  | true =>
    have hq2 := hq
    rw [Bool.and_eq_true, List.all_eq_true] at hq2
    unfold okW at hq2
    have hl : xs.length ≤ 7 := by
      have := hq2.1
      simp only [Bool.and_eq_true, decide_eq_true_eq] at this
      omega
    refine ⟨(bs (textU xs), true), ?_, ?_⟩
    · unfold spec_BoxesText.f spec_neText.f
      refine Ev.bind (hq ▸ ha) (ev_pos rfl (Ev.bind ?_ (Ev.now _)))
      exact text_spec xs hq2.2 hl _ 0 rfl (Nat.zero_le _)
    · unfold impl_BoxesText.f impl_AreBoxes.f impl_boxesText.f
      rw [hq]
      refine ev_some (ev_pos rfl (Ev.bind ?_ (Ev.now _)))
      exact text_impl xs hq2.2 hl _ 0 rfl (Nat.zero_le _)
theorem FnExactBoxesText : laws_FnExactBoxesText.Pure := by
  intro xs hl
  refine Ev.rounds ?_
  unfold laws_FnExactBoxesText.f
  rw [szBox_is xs hl]
  refine ev_some ?_
  by_cases h : xs.length ≤ 1048576
  · rw [if_pos h]
    refine ev_neg (by omega) ?_
    have hc := toBox_is xs h
    obtain ⟨r, h1, h2⟩ := text_key (xs.map convBox) (by simpa using h)
    refine Ev.bind hc (Ev.bind h1 (Ev.bind hc (Ev.bind h2 (ev_pos rfl (ev_neg (by simp) ?_)))))
    exact Ev.bind hc (Ev.bind (eqBox_is _ (by simp; omega)) (ev_pos rfl (Ev.now _)))
  · rw [if_neg h]
    exact ev_pos (by omega) (Ev.now _)

end Go.Proofs.YtobjafpfbbgnhaaDoor.Pure

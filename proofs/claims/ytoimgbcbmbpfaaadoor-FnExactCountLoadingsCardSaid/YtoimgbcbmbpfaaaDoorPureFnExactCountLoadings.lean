/- For every text: the program's CountLoadings and the reference's return the same. Condition: what the law itself lets in (at most 1048576 bytes). -/
import Derived.Test.YtoimgbcbmbpfaaaDoorX0
import Derived.Test.YtoimgbcbmbpfaaaDoorX1
import Derived.Shelf.Strings.SlTrimAscii
namespace Go.Proofs.YtoimgbcbmbpfaaaDoor.Pure
open Go.RowKit Go.Proofs.YtoimgbcbmbpfaaaDoor.X Go.Proofs.YtoimgbcbmbpfaaaDoorW.PrintWords Go.Proofs.YtoimgbcbmbpfaaaDoorW.PrintLast Go.Proofs.YtoimgbcbmbpfaaaDoorW.PrintMore
set_option linter.unusedVariables false
set_option linter.unusedSimpArgs false
theorem ev_pos {α : Type} {c : Prop} [Decidable c] {g f : Nat → Option α} {r : α} (hc : c) (h : Ev g r) : Ev (fun k => if c then g k else f k) r := Ev.congr (fun _ => if_pos hc) h
theorem ev_neg {α : Type} {c : Prop} [Decidable c] {g f : Nat → Option α} {r : α} (hc : ¬ c) (h : Ev f r) : Ev (fun k => if c then g k else f k) r := Ev.congr (fun _ => if_neg hc) h
theorem ev_some {α β : Type} {a : α} {f : Nat → α → Option β} {r : β} (h : Ev (fun n => f n a) r) : Ev (fun n => (some a).bind (f n)) r := Ev.bind (Ev.now a) h
theorem ev_ret {α : Type} {g : Nat → Option α} {r : α} (h : Ev g r) : Ev (fun n => (g n).bind fun t => some t) r := Ev.bind h (Ev.now r)
theorem ev_at {α : Type} {g : Nat → Option α} {r : α} (K : Nat) (h : ∀ k, g (k + K) = some r) : Ev g r := ⟨K, fun n hn => by obtain ⟨m, rfl⟩ : ∃ m, n = m + K := ⟨n - K, by omega⟩; exact h m⟩
theorem w64 {i : Int} (h0 : -9223372036854775808 ≤ i) (h1 : i ≤ 9223372036854775807) : wrap64 i = i := by
  unfold wrap64
  omega
theorem bne_self (b : Bool) : (b != b) = false := by cases b <;> rfl
theorem cons_drop {α : Type} (xs : List α) (i : Nat) (h : i < xs.length) : xs.drop i = xs[i] :: xs.drop (i + 1) := List.drop_eq_getElem_cons h
/-- a loop over the indexes of a list: what holds of one round holds of all -/
theorem ev_for {β ρ : Type} (n : Nat) (l : Nat → β → Int → Option ρ) (st : Nat → β) (r : ρ) (hstep : ∀ i, i < n → ∀ k, l (k + 1) (st i) (i : Int) = l k (st (i + 1)) ((i : Int) + 1)) (hend : ∀ k, l (k + 1) (st n) (n : Int) = some r) : ∀ i, i ≤ n → Ev (fun k => l k (st i) (i : Int)) r := by
  intro i hi
  obtain ⟨d, hd⟩ : ∃ d, n - i = d := ⟨_, rfl⟩
  induction d generalizing i with
  | zero =>
    obtain rfl : i = n := by omega
    exact ev_at 1 hend
  | succ d ih =>
    refine Ev.step (f := fun k => l k (st (i + 1)) ((i : Int) + 1)) (fun k => hstep i (by omega) k) ?_
    have := ih (i + 1) (by omega) (by omega)
    rwa [show ((i + 1 : Nat) : Int) = (i : Int) + 1 from by omega] at this

theorem len_list (s : ByteArray) : s.data.toList.length = s.size := rfl
theorem bt_list (s : ByteArray) (i : Nat) (h : i < s.data.toList.length) : bt s (i : Int) = ((s.data.toList[i]'h).toNat : Int) := by
  have h2 : i < s.size := h
  have e : (i : Int).toNat = i := Int.toNat_natCast i
  unfold bt
  rw [dif_pos (by rw [e]; exact h2)]
  simp only [e]
  rfl
theorem u8_lt (c : UInt8) : c.toNat < 256 := c.toNat_lt
theorem str_eq (a b : ByteArray) : (a.toList == b.toList) = decide (a = b) := by
  rw [Lib.toList_data, Lib.toList_data]
  by_cases h : a = b
  · subst h; simp
  · rw [decide_eq_false h]
    rw [beq_eq_false_iff_ne]
    intro e
    apply h
    cases a; cases b
    simp at e
    simp [e]

theorem all_of_drop {α : Type} (p : α → Bool) : ∀ m : List α, (m.dropWhile p).all p = true → m.all p = true
  | [], _ => rfl
  | a :: m, h => by
    cases hp : p a with
    | true =>
      rw [List.dropWhile_cons, if_pos hp] at h
      rw [List.all_cons, hp, all_of_drop p m h]
      rfl
    | false =>
      simp [List.dropWhile_cons, hp] at h
theorem drop_all {α : Type} (p : α → Bool) : ∀ m : List α, m.all p = true → m.dropWhile p = []
  | [], _ => rfl
  | a :: m, h => by
    rw [List.all_cons, Bool.and_eq_true] at h
    rw [List.dropWhile_cons, if_pos h.1, drop_all p m h.2]
theorem trim_nil (l cs : List UInt8) : (Lib.trimS l cs == []) = l.all (cs.contains ·) := by
  unfold Lib.trimS Lib.trimLeftS Lib.trimRightS
  cases h : l.all (cs.contains ·) with
  | true =>
    rw [drop_all (cs.contains ·) l.reverse (by rw [List.all_reverse]; exact h)]
    rfl
  | false =>
    rw [beq_eq_false_iff_ne]
    intro e
    have h1 : ((l.reverse.dropWhile (cs.contains ·)).reverse).all (cs.contains ·) = true := all_of_drop _ _ (by rw [e]; rfl)
    rw [List.all_reverse] at h1
    have h2 := all_of_drop _ _ h1
    rw [List.all_reverse, h] at h2
    exact absurd h2 (by decide)

def inB (lo hi a : Int) : Bool := decide (lo ≤ a) && decide (a ≤ hi)
theorem inB_iff (lo hi a : Int) : inB lo hi a = true ↔ lo ≤ a ∧ a ≤ hi := by simp [inB]
theorem in_is (a lo hi : Int) : spec_l1In.f a lo hi = some (inB lo hi a) := by
  unfold spec_l1In.f inB
  by_cases h : lo ≤ a
  · rw [if_pos h, decide_eq_true h, Bool.true_and]
  · rw [if_neg h, decide_eq_false h, Bool.false_and]

def isDig (c : UInt8) : Bool := decide (49 ≤ c.toNat) && decide (c.toNat ≤ 57)
def loadB (s : ByteArray) : Bool := decide (s.size ≤ 12) && s.data.toList.all isDig
theorem dig_in (c : UInt8) : inB 1 9 (wrap64 (wrap64 (c.toNat : Int) - 48)) = isDig c := by
  have := u8_lt c
  rw [w64 (i := (c.toNat : Int)) (by omega) (by omega), w64 (by omega) (by omega)]
  unfold inB isDig
  rw [Bool.eq_iff_iff]
  simp only [Bool.and_eq_true, decide_eq_true_eq]
  omega
theorem dig_contains (c : UInt8) : [49, 50, 51, 52, 53, 54, 55, 56, 57].contains c = isDig c := by
  unfold isDig
  rw [Bool.eq_iff_iff]
  simp only [List.contains_cons, List.contains_nil, Bool.or_false, Bool.or_eq_true, beq_iff_eq, Bool.and_eq_true, decide_eq_true_eq, ← UInt8.toNat_inj]
  simp
  omega
theorem good_l0 (s : ByteArray) (hn : s.size ≤ 1048576) (d : Nat) : ∀ i : Nat, s.size - i = d → i ≤ s.size →
    Ev (fun k => spec_ldGood.l0 k s (i : Int)) ((s.data.toList.drop i).all isDig) := by
  induction d with
  | zero =>
    intro i hd hle
    obtain rfl : i = s.size := by omega
    rw [← len_list, List.drop_length]
    exact ev_at 1 (fun k => by simp only [spec_ldGood.l0]; rw [len_list, if_neg (by omega)]; rfl)
  | succ d ih =>
    intro i hd hle
    have hlt : i < s.size := by omega
    have hl : i < s.data.toList.length := hlt
    rw [cons_drop s.data.toList i hl, List.all_cons]
    cases hb : isDig s.data.toList[i] with
    | true =>
      refine Ev.step (f := fun k => spec_ldGood.l0 k s ((i + 1 : Nat) : Int)) (fun k => ?_) (ih (i + 1) (by omega) (by omega))
      simp only [spec_ldGood.l0]
      rw [if_pos (by omega), if_pos (by omega), bt_list s i hl, in_is, dig_in, hb, w64 (by omega) (by omega)]
      rfl
    | false =>
      refine ev_at 1 (fun k => ?_)
      simp only [spec_ldGood.l0]
      rw [if_pos (by omega), if_pos (by omega), bt_list s i hl, in_is, dig_in, hb]
      rfl
theorem ldGood_is (s : ByteArray) (hn : s.size ≤ 1048576) : Ev (fun k => spec_ldGood.f k s) (loadB s) := by
  unfold spec_ldGood.f loadB
  by_cases h : s.size ≤ 12
  · rw [decide_eq_true h, Bool.true_and]
    exact ev_neg (by omega) (by simpa using good_l0 s hn _ 0 rfl (Nat.zero_le _))
  · rw [decide_eq_false h, Bool.false_and]
    exact ev_pos (by omega) (Ev.now _)
theorem isLoading_is (s : ByteArray) (hn : s.size ≤ 1048576) : impl_IsLoading.f s = some (loadB s) := by
  unfold impl_IsLoading.f loadB strings_Trim.f
  by_cases h : s.size ≤ 12
  · rw [if_pos (by omega), if_pos ⟨by omega, by decide, by decide⟩, Option.bind_some, decide_eq_true h, Bool.true_and, Lib.toList_data]
    show some (Lib.trimS s.data.toList [49, 50, 51, 52, 53, 54, 55, 56, 57] == []) = _
    rw [trim_nil]
    congr 2
    funext c
    exact dig_contains c
  · rw [if_neg (by omega), decide_eq_false h, Bool.false_and]

def fac : Nat → Nat
  | 0 => 1
  | n + 1 => (n + 1) * fac n
def cho : Nat → Nat → Nat
  | _, 0 => 1
  | 0, _ + 1 => 0
  | n + 1, k + 1 => cho n k + cho n (k + 1)
theorem fac_pos : ∀ n, 0 < fac n
  | 0 => by decide
  | n + 1 => Nat.mul_pos (Nat.succ_pos n) (fac_pos n)
theorem cho_zero (n : Nat) : cho n 0 = 1 := by cases n <;> rfl
theorem cho_lift : ∀ n k, cho (n + 1) (k + 1) * (k + 1) = cho n k * (n + 1)
  | 0, 0 => by decide
  | 0, k + 1 => by simp [cho]
  | n + 1, 0 => by
    have := cho_lift n 0
    have e1 : cho (n + 1 + 1) (0 + 1) = cho (n + 1) 0 + cho (n + 1) (0 + 1) := rfl
    rw [e1, cho_zero]
    rw [cho_zero] at this
    omega
  | n + 1, k + 1 => by
    have h1 := cho_lift n k
    have h2 := cho_lift n (k + 1)
    have e1 : cho (n + 2) (k + 2) = cho (n + 1) (k + 1) + cho (n + 1) (k + 2) := rfl
    have e2 : cho (n + 1) (k + 1) = cho n k + cho n (k + 1) := rfl
    rw [e1, Nat.add_mul, h2, Nat.mul_succ (cho (n + 1) (k + 1)) (k + 1), h1, Nat.mul_succ (cho (n + 1) (k + 1)) (n + 1)]
    have h3 : cho (n + 1) (k + 1) * (n + 1) = cho n k * (n + 1) + cho n (k + 1) * (n + 1) := by rw [e2, Nat.add_mul]
    omega
theorem cho_fac (t : Nat) : ∀ j, cho (t + j) j * (fac t * fac j) = fac (t + j)
  | 0 => by simp [cho_zero, fac]
  | j + 1 => by
    have h := cho_fac t j
    have hl := cho_lift (t + j) j
    show cho (t + j + 1) (j + 1) * (fac t * ((j + 1) * fac j)) = (t + j + 1) * fac (t + j)
    rw [← h, show cho (t + j + 1) (j + 1) * (fac t * ((j + 1) * fac j)) = cho (t + j + 1) (j + 1) * (j + 1) * (fac t * fac j) by simp only [Nat.mul_assoc, Nat.mul_left_comm, Nat.mul_comm], hl]
    simp only [Nat.mul_assoc, Nat.mul_left_comm, Nat.mul_comm]
def cntF (l : List UInt8) : List UInt8 → Nat
  | [] => 1
  | c :: cs => fac (l.count c) * cntF l cs
def cntS (l : List UInt8) : List UInt8 → Nat
  | [] => 0
  | c :: cs => l.count c + cntS l cs
def waysB (l : List UInt8) : List UInt8 → Nat → Nat → Nat
  | [], out, _ => out
  | c :: cs, out, t => waysB l cs (out * cho (t + l.count c) (l.count c)) (t + l.count c)
theorem cntF_pos (l : List UInt8) : ∀ cs, 0 < cntF l cs
  | [] => Nat.one_pos
  | c :: cs => Nat.mul_pos (fac_pos _) (cntF_pos l cs)
theorem ways_fac (l : List UInt8) : ∀ cs out t, waysB l cs out t * (cntF l cs * fac t) = out * fac (t + cntS l cs)
  | [], out, t => by simp [waysB, cntF, cntS]
  | c :: cs, out, t => by
    have h := ways_fac l cs (out * cho (t + l.count c) (l.count c)) (t + l.count c)
    have hc := cho_fac t (l.count c)
    simp only [waysB, cntF, cntS]
    rw [← Nat.add_assoc]
    have hp : 0 < fac (t + l.count c) := fac_pos _
    apply Nat.eq_of_mul_eq_mul_right hp
    generalize hW : waysB l cs (out * cho (t + l.count c) (l.count c)) (t + l.count c) = W at *
    generalize fac (t + l.count c) = F at *
    generalize cho (t + l.count c) (l.count c) = C at *
    generalize fac (t + l.count c + cntS l cs) = G at *
    calc W * (fac (l.count c) * cntF l cs * fac t) * F = (W * (cntF l cs * F)) * (fac t * fac (l.count c)) := by simp only [Nat.mul_assoc, Nat.mul_left_comm, Nat.mul_comm]
      _ = out * C * G * (fac t * fac (l.count c)) := by rw [h]
      _ = out * G * (C * (fac t * fac (l.count c))) := by simp only [Nat.mul_assoc, Nat.mul_left_comm, Nat.mul_comm]
      _ = out * G * F := by rw [hc]
theorem cntS_all : ∀ (cs : List UInt8), cs.Nodup → ∀ l : List UInt8, (∀ x ∈ l, x ∈ cs) → cntS l cs = l.length := by
  intro cs hd l
  induction l with
  | nil => intro _; clear hd; induction cs with
    | nil => rfl
    | cons _ cs ih => simp [cntS, ih]
  | cons x l ih =>
    intro h
    have h1 := ih (fun y hy => h y (List.mem_cons_of_mem _ hy))
    have key : ∀ cs : List UInt8, cs.Nodup → (x ∈ cs → cntS (x :: l) cs = cntS l cs + 1) ∧ (x ∉ cs → cntS (x :: l) cs = cntS l cs) := by
      intro cs
      induction cs with
      | nil => intro _; exact ⟨fun h => by simp at h, fun _ => rfl⟩
      | cons c cs ih2 =>
        intro hn
        rw [List.nodup_cons] at hn
        have := ih2 hn.2
        by_cases e : x = c
        · subst e
          have h3 := this.2 hn.1
          refine ⟨fun _ => ?_, fun h => absurd List.mem_cons_self h⟩
          rw [cntS, cntS, h3, List.count_cons_self]
          omega
        · refine ⟨fun hm => ?_, fun hm => ?_⟩
          · have h3 := this.1 (by rw [List.mem_cons] at hm; exact hm.resolve_left e)
            rw [cntS, cntS, h3, List.count_cons_of_ne e]
            omega
          · have h3 := this.2 (fun h => hm (List.mem_cons_of_mem _ h))
            rw [cntS, cntS, h3, List.count_cons_of_ne e]
    rw [(key cs hd).1 (h x List.mem_cons_self), h1]
    rfl
theorem cntF_snoc (l : List UInt8) (c : UInt8) : ∀ (cs : List UInt8), cs.Nodup → (c ∈ cs → cntF (l ++ [c]) cs = cntF l cs * (l.count c + 1)) ∧ (c ∉ cs → cntF (l ++ [c]) cs = cntF l cs)
  | [], _ => ⟨fun h => by simp at h, fun _ => rfl⟩
  | d :: cs, hn => by
    rw [List.nodup_cons] at hn
    have := cntF_snoc l c cs hn.2
    have hcount : (l ++ [c]).count d = if c = d then l.count d + 1 else l.count d := by
      rw [List.count_append, List.count_singleton]
      by_cases e : c = d <;> simp [e]
    by_cases e : c = d
    · subst e
      have h3 := this.2 hn.1
      refine ⟨fun _ => ?_, fun h => absurd List.mem_cons_self h⟩
      rw [cntF, cntF, h3, hcount, if_pos rfl]
      show (l.count c + 1) * fac (l.count c) * cntF l cs = _
      simp only [Nat.mul_assoc, Nat.mul_left_comm, Nat.mul_comm]
    · rw [cntF, cntF, hcount, if_neg e]
      refine ⟨fun hm => ?_, fun hm => ?_⟩
      · rw [this.1 (by rw [List.mem_cons] at hm; exact hm.resolve_left e), Nat.mul_assoc]
      · rw [this.2 (fun h => hm (List.mem_cons_of_mem _ h))]
/-- one box more: the ways, times how many like it there are, are the ways before times how many boxes there are -/
theorem ways_snoc (cs : List UInt8) (hn : cs.Nodup) (l : List UInt8) (c : UInt8) (h : ∀ x ∈ l ++ [c], x ∈ cs) : waysB (l ++ [c]) cs 1 0 * (l.count c + 1) = waysB l cs 1 0 * (l.length + 1) := by
  have h1 := ways_fac (l ++ [c]) cs 1 0
  have h2 := ways_fac l cs 1 0
  have hc : c ∈ cs := h c (by simp)
  rw [cntS_all cs hn (l ++ [c]) h, (cntF_snoc l c cs hn).1 hc] at h1
  rw [cntS_all cs hn l (fun x hx => h x (by simp [hx]))] at h2
  rw [List.length_append, List.length_singleton] at h1
  simp only [show fac 0 = 1 from rfl, Nat.mul_one, Nat.one_mul, Nat.zero_add] at h1 h2
  rw [show fac (l.length + 1) = (l.length + 1) * fac l.length from rfl] at h1
  have hp := cntF_pos l cs
  apply Nat.eq_of_mul_eq_mul_right hp
  calc waysB (l ++ [c]) cs 1 0 * (l.count c + 1) * cntF l cs = waysB (l ++ [c]) cs 1 0 * (cntF l cs * (l.count c + 1)) := by rw [Nat.mul_assoc, Nat.mul_comm (l.count c + 1)]
    _ = (l.length + 1) * fac l.length := h1
    _ = (l.length + 1) * (waysB l cs 1 0 * cntF l cs) := by rw [h2]
    _ = _ := by simp only [Nat.mul_assoc, Nat.mul_left_comm, Nat.mul_comm]
theorem ways_div (cs : List UInt8) (hn : cs.Nodup) (l : List UInt8) (c : UInt8) (h : ∀ x ∈ l ++ [c], x ∈ cs) : waysB l cs 1 0 * (l.length + 1) / ((l ++ [c]).count c) = waysB (l ++ [c]) cs 1 0 := by
  rw [← ways_snoc cs hn l c h, List.count_append, List.count_singleton_self]
  exact Nat.mul_div_cancel _ (Nat.succ_pos _)
theorem ways_le (cs : List UInt8) (hn : cs.Nodup) (l : List UInt8) (h : ∀ x ∈ l, x ∈ cs) : waysB l cs 1 0 ≤ fac l.length := by
  have h2 := ways_fac l cs 1 0
  rw [cntS_all cs hn l h] at h2
  simp only [show fac 0 = 1 from rfl, Nat.mul_one, Nat.one_mul, Nat.zero_add] at h2
  rw [← h2]
  exact Nat.le_mul_of_pos_right _ (cntF_pos l cs)
theorem fac_mono : ∀ {a b : Nat}, a ≤ b → fac a ≤ fac b := by
  intro a b h
  induction h with
  | refl => exact Nat.le_refl _
  | step _ ih => exact Nat.le_trans ih (Nat.le_mul_of_pos_left _ (Nat.succ_pos _))
theorem cho_mono (t : Nat) : ∀ j n, cho (t + j) j ≤ cho (t + (j + n)) (j + n)
  | j, 0 => Nat.le_refl _
  | j, n + 1 => Nat.le_trans (cho_mono t j n) (Nat.le_add_right (cho (t + (j + n)) (j + n)) (cho (t + (j + n)) (j + n + 1)))
theorem cho_one (t n : Nat) : 1 ≤ cho (t + n) n := by
  have := cho_mono t 0 n
  rwa [cho_zero, Nat.zero_add] at this
theorem ways_ge (l : List UInt8) : ∀ cs out t, out ≤ waysB l cs out t
  | [], out, t => Nat.le_refl _
  | c :: cs, out, t => Nat.le_trans (Nat.le_mul_of_pos_right _ (cho_one t _)) (ways_ge l cs _ _)
theorem cho_div (out t j : Nat) : out * cho (t + j) j * (t + j + 1) / (j + 1) = out * cho (t + (j + 1)) (j + 1) := by
  rw [Nat.mul_assoc, ← cho_lift (t + j) j, ← Nat.mul_assoc, Nat.mul_div_cancel _ (Nat.succ_pos j)]
  rfl

def digs : List UInt8 := (List.range' 49 9).map Nat.toUInt8
theorem digs_nodup : digs.Nodup := by decide
theorem dig_mem (c : UInt8) (h : isDig c = true) : c ∈ digs := by
  have : ∀ n : Fin 256, isDig (UInt8.ofNat n.val) = true → UInt8.ofNat n.val ∈ digs := by decide +kernel
  have h2 := this ⟨c.toNat, c.toNat_lt⟩
  simp only [UInt8.ofNat_toNat] at h2
  exact h2 h
theorem clN_is : ∀ (rest pre : List UInt8), (∀ x ∈ pre ++ rest, x ∈ digs) → clN pre rest (waysB pre digs 1 0) = waysB (pre ++ rest) digs 1 0
  | [], pre, _ => by simp [clN]
  | c :: rest, pre, h => by
    rw [clN, ways_div digs digs_nodup pre c (fun x hx => h x (by
      rcases List.mem_append.1 hx with hx | hx
      · exact List.mem_append.2 (Or.inl hx)
      · rw [List.mem_singleton] at hx
        subst hx
        simp)), clN_is rest (pre ++ [c]) (by simpa using h)]
    simp
theorem cl_l1 (s : ByteArray) (c : UInt8) (out t : Nat) (R : Int × Bool) (hn : s.size ≤ 1048576) (d : Nat) : ∀ i j : Nat, s.size - i = d → i ≤ s.size → t + (j + (s.data.toList.drop i).count c) ≤ 12 → out * cho (t + (j + (s.data.toList.drop i).count c)) (j + (s.data.toList.drop i).count c) ≤ 479001600 →
    Ev (fun k => spec_CountLoadings.l0 k s ((out * cho (t + (j + (s.data.toList.drop i).count c)) (j + (s.data.toList.drop i).count c) : Nat) : Int) ((t + (j + (s.data.toList.drop i).count c) : Nat) : Int) (((c.toNat : Int) + 1) % 256)) R →
    Ev (fun k => spec_CountLoadings.l1 k s ((out * cho (t + j) j : Nat) : Int) ((t + j : Nat) : Int) (c.toNat : Int) (j : Int) (i : Int)) R := by
  induction d with
  | zero =>
    intro i j hd hi ht hB hK
    obtain rfl : i = s.size := by omega
    rw [← len_list, List.drop_length] at hK
    refine Ev.step (fun k => ?_) hK
    simp only [spec_CountLoadings.l1]
    rw [if_neg (by omega)]
    rfl
  | succ d ih =>
    intro i j hd hi ht hB hK
    have hl : i < s.data.toList.length := by rw [len_list]; omega
    rw [cons_drop _ i hl] at ht hB hK
    by_cases e : s.data.toList[i] = c
    · rw [e, List.count_cons_self, show j + ((s.data.toList.drop (i + 1)).count c + 1) = j + 1 + (s.data.toList.drop (i + 1)).count c by omega] at ht hB hK
      refine Ev.step (fun k => ?_) (ih (i + 1) (j + 1) (by omega) (by omega) ht hB hK)
      have hm := Nat.mul_le_mul_left out (cho_mono t j (1 + (s.data.toList.drop (i + 1)).count c))
      rw [show j + (1 + (s.data.toList.drop (i + 1)).count c) = j + 1 + (s.data.toList.drop (i + 1)).count c by omega] at hm
      have hA : out * cho (t + j) j ≤ 479001600 := Nat.le_trans hm hB
      have hp : out * cho (t + j) j * (t + j + 1) ≤ 479001600 * 12 := Nat.mul_le_mul hA (by omega)
      have hd2 := cho_div out t j
      have hdl : out * cho (t + j) j * (t + j + 1) / (j + 1) ≤ out * cho (t + j) j * (t + j + 1) := Nat.div_le_self _ _
      rw [hd2] at hdl
      have hf : ((out * cho (t + j) j : Nat) : Int) * (((t + j : Nat) : Int) + 1) = ((out * cho (t + j) j * (t + j + 1) : Nat) : Int) := by
        rw [Int.natCast_mul (out * cho (t + j) j) (t + j + 1)]; rfl
      simp only [spec_CountLoadings.l1]
      rw [if_pos (by omega), if_pos (by omega), bt_list s i hl, e, if_pos rfl, w64 (i := (j : Int) + 1) (by omega) (by omega), if_neg (by omega), w64 (i := ((t + j : Nat) : Int) + 1) (by omega) (by omega), hf]
      generalize out * cho (t + j) j * (t + j + 1) = P at hp hd2 hdl
      rw [w64 (i := (P : Int)) (by omega) (by omega), show (j : Int) + 1 = ((j + 1 : Nat) : Int) by omega, ← Int.ofNat_tdiv, hd2]
      generalize out * cho (t + (j + 1)) (j + 1) = Q at hdl
      rw [w64 (i := (Q : Int)) (by omega) (by omega), w64 (i := (i : Int) + 1) (by omega) (by omega)]
      rfl
    · rw [List.count_cons_of_ne e] at ht hB hK
      refine Ev.step (fun k => ?_) (ih (i + 1) j (by omega) (by omega) ht hB hK)
      simp only [spec_CountLoadings.l1]
      rw [if_pos (by omega), if_pos (by omega), bt_list s i hl, if_neg (fun h2 => e (UInt8.toNat_inj.1 (by omega))), w64 (i := (i : Int) + 1) (by omega) (by omega)]
      rfl
theorem cl_l0 (s : ByteArray) (hn : s.size ≤ 1048576) (d : Nat) : ∀ c out t : Nat, c + d = 58 → t + cntS s.data.toList ((List.range' c d).map Nat.toUInt8) ≤ 12 → waysB s.data.toList ((List.range' c d).map Nat.toUInt8) out t ≤ 479001600 →
    Ev (fun k => spec_CountLoadings.l0 k s (out : Int) (t : Int) (c : Int)) ((waysB s.data.toList ((List.range' c d).map Nat.toUInt8) out t : Nat), true) := by
  induction d with
  | zero =>
    intro c out t hc ht hB
    refine ev_at 1 (fun k => ?_)
    simp only [spec_CountLoadings.l0]
    rw [if_neg (by omega)]
    rfl
  | succ d ih =>
    intro c out t hc ht hB
    rw [List.range'_succ, List.map_cons] at ht hB ⊢
    simp only [cntS, waysB] at ht hB ⊢
    have e : (Nat.toUInt8 c).toNat = c := by
      show (UInt8.ofNat c).toNat = c
      rw [UInt8.toNat_ofNat']
      exact Nat.mod_eq_of_lt (by omega)
    have hge := ways_ge s.data.toList ((List.range' (c + 1) d).map Nat.toUInt8) (out * cho (t + s.data.toList.count (Nat.toUInt8 c)) (s.data.toList.count (Nat.toUInt8 c))) (t + s.data.toList.count (Nat.toUInt8 c))
    have hi := ih (c + 1) (out * cho (t + s.data.toList.count (Nat.toUInt8 c)) (s.data.toList.count (Nat.toUInt8 c))) (t + s.data.toList.count (Nat.toUInt8 c)) (by omega) (by omega) hB
    have h1 := cl_l1 s (Nat.toUInt8 c) out t ((waysB s.data.toList ((List.range' (c + 1) d).map Nat.toUInt8) (out * cho (t + s.data.toList.count (Nat.toUInt8 c)) (s.data.toList.count (Nat.toUInt8 c))) (t + s.data.toList.count (Nat.toUInt8 c)) : Nat), true) hn _ 0 0 rfl (Nat.zero_le _) (by rw [List.drop_zero, Nat.zero_add]; omega) (by rw [List.drop_zero, Nat.zero_add]; omega) (by
      rw [List.drop_zero, Nat.zero_add, e, show ((c : Int) + 1) % 256 = ((c + 1 : Nat) : Int) by omega]
      exact hi)
    rw [cho_zero, Nat.mul_one, Nat.add_zero, e] at h1
    refine Ev.step (fun k => ?_) h1
    simp only [spec_CountLoadings.l0]
    rw [if_pos (by omega)]
    rfl
theorem FnExactCountLoadings : laws_FnExactCountLoadings.Pure := by
  intro s hs
  refine Ev.rounds ?_
  unfold laws_FnExactCountLoadings.f
  by_cases h : s.size ≤ 1048576
  · refine ev_neg (by omega) ?_
    have key : ∃ r : Int × Bool, Ev (fun k => spec_CountLoadings.f k s) r ∧ Ev (fun k => impl_CountLoadings.f s) r := by
      cases hq : loadB s with
      | false =>
        refine ⟨(0, false), ?_, ?_⟩
        · unfold spec_CountLoadings.f
          exact Ev.bind (hq ▸ ldGood_is s h) (ev_neg (by decide) (Ev.now _))
        · unfold impl_CountLoadings.f
          rw [isLoading_is s h, hq]
          exact ev_some (ev_neg (by decide) (Ev.now _))
      | true =>
        have hq2 := hq
        unfold loadB at hq2
        rw [Bool.and_eq_true, decide_eq_true_eq, List.all_eq_true] at hq2
        have hm : ∀ x ∈ s.data.toList, x ∈ digs := fun x hx => dig_mem x (hq2.2 x hx)
        have hle := ways_le digs digs_nodup s.data.toList hm
        have hf := fac_mono (show s.data.toList.length ≤ 12 from hq2.1)
        rw [show fac 12 = 479001600 by decide] at hf
        refine ⟨((waysB s.data.toList digs 1 0 : Nat), true), ?_, ?_⟩
        · unfold spec_CountLoadings.f
          refine Ev.bind (hq ▸ ldGood_is s h) (ev_pos rfl ?_)
          exact cl_l0 s h 9 49 1 0 rfl (by have := cntS_all digs digs_nodup s.data.toList hm; rw [Nat.zero_add]; show cntS s.data.toList digs ≤ 12; rw [this]; exact hq2.1) (Nat.le_trans hle hf)
        · unfold impl_CountLoadings.f
          rw [isLoading_is s h, hq]
          refine ev_some (ev_pos rfl (ev_pos hq2.1 ?_))
          have := clN_is s.data.toList [] (by simpa using hm)
          rw [show waysB [] digs 1 0 = 1 by decide, List.nil_append] at this
          rw [this]
          exact Ev.now _
    obtain ⟨r, h1, h2⟩ := key
    exact Ev.bind h1 (Ev.bind h2 (ev_pos rfl (ev_neg (by simp) (Ev.now _))))
  · exact ev_pos (by omega) (Ev.now _)

end Go.Proofs.YtoimgbcbmbpfaaaDoor.Pure

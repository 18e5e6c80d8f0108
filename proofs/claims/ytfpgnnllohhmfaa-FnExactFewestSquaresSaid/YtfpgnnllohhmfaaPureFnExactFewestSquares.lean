/- For every board: the program's FewestSquares and the reference's return the same two results. No condition. -/
import Derived.Test.YtfpgnnllohhmfaaQ0
import Derived.Test.YtfpgnnllohhmfaaQ1
import Derived.Test.YtfpgnnllohhmfaaQ2
import Derived.Test.YtfpgnnllohhmfaaQ3
import Derived.Test.YtfpgnnllohhmfaaQ5
namespace Go.Proofs.Ytfpgnnllohhmfaa.Pure
open Go.RowKit Go.Proofs.Ytfpgnnllohhmfaa.Q Go.Proofs.YtfpgnnllohhmfaaW.PrintWords Go.Proofs.YtfpgnnllohhmfaaW.PrintLast Go.Proofs.YtfpgnnllohhmfaaW.PrintMore
set_option linter.unusedVariables false
set_option linter.unusedSimpArgs false
theorem ev_pos {α : Type} {c : Prop} [Decidable c] {g f : Nat → Option α} {r : α} (hc : c) (h : Ev g r) : Ev (fun k => if c then g k else f k) r := Ev.congr (fun _ => if_pos hc) h
theorem ev_neg {α : Type} {c : Prop} [Decidable c] {g f : Nat → Option α} {r : α} (hc : ¬ c) (h : Ev f r) : Ev (fun k => if c then g k else f k) r := Ev.congr (fun _ => if_neg hc) h
theorem ev_some {α β : Type} {a : α} {f : Nat → α → Option β} {r : β} (h : Ev (fun n => f n a) r) : Ev (fun n => (some a).bind (f n)) r := Ev.bind (Ev.now a) h
theorem ev_ret {α : Type} {g : Nat → Option α} {r : α} (h : Ev g r) : Ev (fun n => (g n).bind fun t => some t) r := Ev.bind h (Ev.now r)
theorem ev_at {α : Type} {g : Nat → Option α} {r : α} (K : Nat) (h : ∀ k, g (k + K) = some r) : Ev g r := ⟨K, fun n hn => by obtain ⟨m, rfl⟩ : ∃ m, n = m + K := ⟨n - K, by omega⟩; exact h m⟩
theorem w64 {i : Int} (h0 : -9223372036854775808 ≤ i) (h1 : i ≤ 9223372036854775807) : wrap64 i = i := by
  unfold wrap64
  omega
theorem bne_self (b : Bool) : (b != b) = false := by cases b <;> rfl
theorem cons_drop {α : Type} (xs : List α) (i : Nat) (h : i < xs.length) : xs.drop i = xs[i] :: xs.drop (i + 1) := List.drop_eq_getElem_cons h
/-- a loop over the indexes of a list: what holds of one round holds of all -/
theorem ev_for {β ρ : Type} (n : Nat) (l : Nat → β → Int → Option ρ) (st : Nat → β) (r : ρ) (hstep : ∀ i, i < n → ∀ k, l (k + 1) (st i) (i : Int) = l k (st (i + 1)) ((i : Int) + 1)) (hend : ∀ k, l (k + 1) (st n) (n : Int) = some r) : ∀ i, i ≤ n → Ev (fun k => l k (st i) (i : Int)) r := by
  intro i hi
  obtain ⟨d, hd⟩ : ∃ d, n - i = d := ⟨_, rfl⟩
  induction d generalizing i with
  | zero =>
    obtain rfl : i = n := by omega
    exact ev_at 1 hend
  | succ d ih =>
    refine Ev.step (f := fun k => l k (st (i + 1)) ((i : Int) + 1)) (fun k => hstep i (by omega) k) ?_
    have := ih (i + 1) (by omega) (by omega)
    rwa [show ((i + 1 : Nat) : Int) = (i : Int) + 1 from by omega] at this

def sqS (a b : Int) (c : S63) : Int := (sqN (partsOf a b c).1.1 (partsOf a b c).1.2).1 + (sqN (partsOf a b c).2.1 (partsOf a b c).2.2).1
def okS (a b : Int) (L : List S63) : Prop := ∀ c ∈ L, 1 ≤ sqS a b c ∧ sqS a b c ≤ 10000
theorem step_is (a b : Int) (acc : Int × S63) (c : S63) (h : 1 ≤ sqS a b c ∧ sqS a b c ≤ 10000) : sqStep a b acc c = if acc.1 = 0 ∨ sqS a b c < acc.1 then (sqS a b c, c) else acc := by
  unfold sqStep
  have e : wrap64 ((sqN (partsOf a b c).1.1 (partsOf a b c).1.2).1 + (sqN (partsOf a b c).2.1 (partsOf a b c).2.2).1) = sqS a b c := w64 (by unfold sqS at h; omega) (by unfold sqS at h; omega)
  rw [e]
theorem fold_first (a b : Int) : ∀ (L : List S63) (acc : Int × S63), okS a b L → 1 ≤ acc.1 →
    (L.foldl (sqStep a b) acc = acc ∧ ∀ d ∈ L, acc.1 ≤ sqS a b d) ∨
    (∃ L1 c L2, L = L1 ++ c :: L2 ∧ L.foldl (sqStep a b) acc = (sqS a b c, c) ∧ sqS a b c < acc.1 ∧ (∀ d ∈ L1, sqS a b c < sqS a b d) ∧ ∀ d ∈ L2, sqS a b c ≤ sqS a b d)
  | [], acc, _, _ => .inl ⟨rfl, fun d hd => by simp at hd⟩
  | x :: L, acc, hok, h1 => by
    have hx := hok x (by simp)
    have hL : okS a b L := fun c hc => hok c (by simp [hc])
    rw [List.foldl_cons, step_is a b acc x hx]
    by_cases hlt : sqS a b x < acc.1
    · rw [if_pos (.inr hlt)]
      rcases fold_first a b L (sqS a b x, x) hL hx.1 with ⟨h2, h3⟩ | ⟨L1, c, L2, h2, h3, h4, h5, h6⟩
      · exact .inr ⟨[], x, L, rfl, h2, hlt, fun d hd => by simp at hd, h3⟩
      · refine .inr ⟨x :: L1, c, L2, by rw [h2]; rfl, h3, Int.lt_trans h4 hlt, fun d hd => ?_, h6⟩
        rcases List.mem_cons.1 hd with rfl | hd
        · exact h4
        · exact h5 d hd
    · rw [if_neg (by omega)]
      rcases fold_first a b L acc hL h1 with ⟨h2, h3⟩ | ⟨L1, c, L2, h2, h3, h4, h5, h6⟩
      · refine .inl ⟨h2, fun d hd => ?_⟩
        rcases List.mem_cons.1 hd with rfl | hd
        · omega
        · exact h3 d hd
      · refine .inr ⟨x :: L1, c, L2, by rw [h2]; rfl, h3, h4, fun d hd => ?_, h6⟩
        rcases List.mem_cons.1 hd with rfl | hd
        · omega
        · exact h5 d hd
theorem fold_zero (a b : Int) (L : List S63) (hne : L ≠ []) (hok : okS a b L) :
    ∃ L1 c L2, L = L1 ++ c :: L2 ∧ L.foldl (sqStep a b) (0, ⟨false, 0⟩) = (sqS a b c, c) ∧ (∀ d ∈ L1, sqS a b c < sqS a b d) ∧ ∀ d ∈ L2, sqS a b c ≤ sqS a b d := by
  cases L with
  | nil => exact absurd rfl hne
  | cons x L =>
    have hx := hok x (by simp)
    rw [List.foldl_cons, step_is a b _ x hx, if_pos (.inl rfl)]
    rcases fold_first a b L (sqS a b x, x) (fun c hc => hok c (by simp [hc])) hx.1 with ⟨h2, h3⟩ | ⟨L1, c, L2, h2, h3, h4, h5, h6⟩
    · exact ⟨[], x, L, rfl, h2, fun d hd => by simp at hd, h3⟩
    · refine ⟨x :: L1, c, L2, by rw [h2]; rfl, h3, fun d hd => ?_, h6⟩
      rcases List.mem_cons.1 hd with rfl | hd
      · exact h4
      · exact h5 d hd
theorem cuts_mem (a b sh : Nat) (c : S63) : c ∈ cutsL a b sh ↔ ∃ p : Nat, 1 ≤ p ∧ ((c = ⟨true, (p : Int)⟩ ∧ p ≤ min (a - 1) (a / sh)) ∨ (c = ⟨false, (p : Int)⟩ ∧ p ≤ min (b - 1) (b / sh))) := by
  simp only [cutsL, List.mem_append, List.mem_map, List.mem_range'_1]
  constructor
  · rintro (⟨p, hp, rfl⟩ | ⟨p, hp, rfl⟩)
    · exact ⟨p, hp.1, .inl ⟨rfl, by omega⟩⟩
    · exact ⟨p, hp.1, .inr ⟨rfl, by omega⟩⟩
  · rintro ⟨p, hp, ⟨rfl, h⟩ | ⟨rfl, h⟩⟩
    · exact .inl ⟨p, by omega, rfl⟩
    · exact .inr ⟨p, by omega, rfl⟩
theorem parts_area (a b : Int) (c : S63) : (partsOf a b c).1.1 * (partsOf a b c).1.2 + (partsOf a b c).2.1 * (partsOf a b c).2.2 = a * b := by
  unfold partsOf
  cases c.f0 with
  | true => simp only [if_true]; rw [← Int.add_mul]; congr 1; omega
  | false => simp only [Bool.false_eq_true, if_false]; rw [← Int.mul_add]; congr 1; omega
theorem area_le {a b : Int} (ha : 1 ≤ a) (ha' : a ≤ 24) (hb : 1 ≤ b) (hb' : b ≤ 24) : 1 ≤ a * b ∧ a * b ≤ 576 := by
  have h1 : a * b ≤ 24 * 24 := Int.mul_le_mul ha' hb' (by omega) (by omega)
  have h2 : 1 * 1 ≤ a * b := Int.mul_le_mul ha hb (by omega) (by omega)
  omega
theorem cuts_some (a b : Int) (ha : 1 ≤ a) (hb : 1 ≤ b) (hab : a ≠ b) : cutsL a.toNat b.toNat 1 ≠ [] := by
  intro h
  by_cases h2 : 2 ≤ a
  · have := (cuts_mem a.toNat b.toNat 1 ⟨true, 1⟩).2 ⟨1, Nat.le_refl _, .inl ⟨rfl, by rw [Nat.div_one]; omega⟩⟩
    rw [h] at this
    simp at this
  · have := (cuts_mem a.toNat b.toNat 1 ⟨false, 1⟩).2 ⟨1, Nat.le_refl _, .inr ⟨rfl, by rw [Nat.div_one]; omega⟩⟩
    rw [h] at this
    simp at this
theorem sq_bound (n : Nat) : ∀ a b : Int, (a + b).toNat < n → 1 ≤ a → a ≤ 24 → 1 ≤ b → b ≤ 24 → 1 ≤ (sqN a b).1 ∧ (sqN a b).1 ≤ a * b := by
  induction n with
  | zero => intro a b h; omega
  | succ n ih =>
    intro a b hn ha ha' hb hb'
    have har := area_le ha ha' hb hb'
    by_cases hab : a = b
    · rw [sqN_eq a b ha hb, if_pos hab]
      exact ⟨by show (1 : Int) ≤ 1; omega, har.1⟩
    · have hok : ∀ c ∈ cutsL a.toNat b.toNat 1, 2 ≤ sqS a b c ∧ sqS a b c ≤ a * b := by
        intro c hc
        have hp := partsOf_in a b 1 ha hb c hc
        have h1 := ih _ _ (by omega) hp.1.1 (by omega) hp.1.2.2.1 (by omega)
        have h2 := ih _ _ (by omega) hp.2.1 (by omega) hp.2.2.2.1 (by omega)
        have h3 := parts_area a b c
        unfold sqS
        omega
      rw [sqN_eq a b ha hb, if_neg hab]
      obtain ⟨L1, c, L2, h2, h3, _, _⟩ := fold_zero a b _ (cuts_some a b ha hb hab) (fun c hc => by have := hok c hc; omega)
      rw [h3]
      have := hok c (by rw [h2]; simp)
      exact ⟨by show 1 ≤ sqS a b c; omega, this.2⟩
theorem sq_in (a b : Int) (ha : 1 ≤ a) (ha' : a ≤ 24) (hb : 1 ≤ b) (hb' : b ≤ 24) : 1 ≤ (sqN a b).1 ∧ (sqN a b).1 ≤ a * b := sq_bound _ a b (Nat.lt_succ_self _) ha ha' hb hb'
theorem sqS_in (a b : Int) (ha : 1 ≤ a) (ha' : a ≤ 24) (hb : 1 ≤ b) (hb' : b ≤ 24) (c : S63) (hc : c ∈ cutsL a.toNat b.toNat 1) : 2 ≤ sqS a b c ∧ sqS a b c ≤ a * b := by
  have hp := partsOf_in a b 1 ha hb c hc
  have h1 := sq_in _ _ hp.1.1 (by omega) hp.1.2.2.1 (by omega)
  have h2 := sq_in _ _ hp.2.1 (by omega) hp.2.2.2.1 (by omega)
  have h3 := parts_area a b c
  unfold sqS
  omega
theorem sq_first (a b : Int) (ha : 1 ≤ a) (ha' : a ≤ 24) (hb : 1 ≤ b) (hb' : b ≤ 24) (hab : a ≠ b) :
    ∃ L1 c L2, cutsL a.toNat b.toNat 1 = L1 ++ c :: L2 ∧ sqN a b = (sqS a b c, c) ∧ (∀ d ∈ L1, sqS a b c < sqS a b d) ∧ ∀ d ∈ L2, sqS a b c ≤ sqS a b d := by
  have har := area_le ha ha' hb hb'
  rw [sqN_eq a b ha hb, if_neg hab]
  exact fold_zero a b _ (cuts_some a b ha hb hab) (fun c hc => by have := sqS_in a b ha ha' hb hb' c hc; omega)
theorem sq_le (a b : Int) (ha : 1 ≤ a) (ha' : a ≤ 24) (hb : 1 ≤ b) (hb' : b ≤ 24) (c : S63) (hc : c ∈ cutsL a.toNat b.toNat 1) : (sqN a b).1 ≤ sqS a b c := by
  by_cases hab : a = b
  · have := sqS_in a b ha ha' hb hb' c hc
    rw [sqN_eq a b ha hb, if_pos hab]
    show (1 : Int) ≤ _
    omega
  · obtain ⟨L1, d, L2, h1, h2, h3, h4⟩ := sq_first a b ha ha' hb hb' hab
    rw [h2]
    show sqS a b d ≤ sqS a b c
    rw [h1] at hc
    rcases List.mem_append.1 hc with h | h
    · have := h3 c h; omega
    · rcases List.mem_cons.1 h with rfl | h
      · omega
      · exact h4 c h
theorem half_full (a b : Nat) (c : S63) (h : c ∈ cutsL a b 2) : c ∈ cutsL a b 1 := by
  obtain ⟨p, h1, h2⟩ := (cuts_mem a b 2 c).1 h
  refine (cuts_mem a b 1 c).2 ⟨p, h1, ?_⟩
  rcases h2 with ⟨e, h⟩ | ⟨e, h⟩
  · exact .inl ⟨e, by rw [Nat.div_one]; omega⟩
  · exact .inr ⟨e, by rw [Nat.div_one]; omega⟩
/-- the other way round -/
def mirror (a b : Int) (c : S63) : S63 := ⟨c.f0, if c.f0 then a - c.f1 else b - c.f1⟩
theorem mirror_S (a b : Int) (c : S63) : sqS a b (mirror a b c) = sqS a b c := by
  unfold sqS mirror partsOf
  cases c.f0 with
  | true => simp only [if_true]; rw [show a - (a - c.f1) = c.f1 from by omega]; omega
  | false => simp only [Bool.false_eq_true, if_false]; rw [show b - (b - c.f1) = c.f1 from by omega]; omega
theorem half_or (a b : Nat) (c : S63) (h : c ∈ cutsL a b 1) : c ∈ cutsL a b 2 ∨ mirror a b c ∈ cutsL a b 2 := by
  obtain ⟨p, h1, ⟨rfl, h2⟩ | ⟨rfl, h2⟩⟩ := (cuts_mem a b 1 c).1 h
  · rw [Nat.div_one] at h2
    by_cases hp : p ≤ a / 2
    · exact .inl ((cuts_mem a b 2 _).2 ⟨p, h1, .inl ⟨rfl, by omega⟩⟩)
    · refine .inr ((cuts_mem a b 2 _).2 ⟨a - p, by omega, .inl ⟨?_, by omega⟩⟩)
      simp only [mirror, if_true]
      congr 1
      omega
  · rw [Nat.div_one] at h2
    by_cases hp : p ≤ b / 2
    · exact .inl ((cuts_mem a b 2 _).2 ⟨p, h1, .inr ⟨rfl, by omega⟩⟩)
    · refine .inr ((cuts_mem a b 2 _).2 ⟨b - p, by omega, .inr ⟨?_, by omega⟩⟩)
      simp only [mirror, Bool.false_eq_true, if_false]
      congr 1
      omega
def lsStep (a b : Int) (best : Int) (c : S63) : Int := if best < sqS a b c then best else sqS a b c
theorem ls_fold (a b : Int) : ∀ (L : List S63) (best : Int), L.foldl (lsStep a b) best ≤ best ∧ (∀ c ∈ L, L.foldl (lsStep a b) best ≤ sqS a b c) ∧ (L.foldl (lsStep a b) best = best ∨ ∃ c ∈ L, L.foldl (lsStep a b) best = sqS a b c)
  | [], best => ⟨Int.le_refl _, fun c hc => by simp at hc, .inl rfl⟩
  | x :: L, best => by
    rw [List.foldl_cons]
    obtain ⟨h1, h2, h3⟩ := ls_fold a b L (lsStep a b best x)
    have h4 : lsStep a b best x ≤ best ∧ lsStep a b best x ≤ sqS a b x ∧ (lsStep a b best x = best ∨ lsStep a b best x = sqS a b x) := by
      unfold lsStep
      by_cases h : best < sqS a b x
      · rw [if_pos h]; omega
      · rw [if_neg h]; omega
    refine ⟨by omega, fun c hc => ?_, ?_⟩
    · rcases List.mem_cons.1 hc with rfl | hc
      · omega
      · exact h2 c hc
    · rcases h3 with h3 | ⟨c, hc, h3⟩
      · rcases h4.2.2 with h5 | h5
        · exact .inl (by omega)
        · exact .inr ⟨x, by simp, by omega⟩
      · exact .inr ⟨c, by simp [hc], h3⟩
/-- the reference's way: half of the cuts, from 1 or the number of all squares on -/
theorem half_is (a b : Nat) (ha : 1 ≤ a) (ha' : a ≤ 24) (hb : 1 ≤ b) (hb' : b ≤ 24) : (cutsL a b 2).foldl (lsStep a b) (if (a : Int) = b then 1 else (a : Int) * b) = (sqN a b).1 := by
  obtain ⟨h1, h2, h3⟩ := ls_fold a b (cutsL a b 2) (if (a : Int) = b then 1 else (a : Int) * b)
  have hfull : ∀ c ∈ cutsL a b 2, (sqN a b).1 ≤ sqS a b c := fun c hc => sq_le a b (by omega) (by omega) (by omega) (by omega) c (by simpa using half_full a b c hc)
  have hin := sq_in a b (by omega) (by omega) (by omega) (by omega)
  by_cases hab : (a : Int) = b
  · rw [if_pos hab] at h1 h2 h3 ⊢
    have e : (sqN a b).1 = 1 := by rw [sqN_eq _ _ (by omega) (by omega), if_pos hab]
    rcases h3 with h3 | ⟨c, hc, h3⟩
    · rw [h3, e]
    · have := hfull c hc
      omega
  · rw [if_neg hab] at h1 h2 h3 ⊢
    obtain ⟨L1, c, L2, e1, e2, _, _⟩ := sq_first a b (by omega) (by omega) (by omega) (by omega) hab
    have hc : c ∈ cutsL a b 1 := by
      have : c ∈ cutsL (a : Int).toNat (b : Int).toNat 1 := by rw [e1]; simp
      simpa using this
    have hle : (cutsL a b 2).foldl (lsStep a b) ((a : Int) * b) ≤ sqS a b c := by
      rcases half_or a b c hc with h | h
      · exact h2 c h
      · have := h2 _ h
        rwa [mirror_S] at this
    have e3 : (sqN a b).1 = sqS a b c := by rw [e2]
    rcases h3 with h3 | ⟨d, hd, h3⟩
    · omega
    · have := hfull d hd
      omega

def tab {α : Type} (n : Nat) (f : Nat → α) : List α := (List.range n).map f
theorem tab_len {α : Type} (n : Nat) (f : Nat → α) : (tab n f).length = n := by simp [tab]
theorem tab_rep {α : Type} (n : Nat) (x : α) : List.replicate n x = tab n (fun _ => x) := by simp [tab, List.map_const']
theorem tab_get {α : Type} (n : Nat) (f : Nat → α) (i : Nat) (h : i < n) (z : α) : (tab n f).getD i z = f i := by simp [tab, h]
theorem rd_tab (n : Nat) (f : Nat → Int) (i : Nat) (h : i < n) : rd (tab n f) (i : Int) = f i := by simp [rd, tab, h]
theorem tab_ext {α : Type} (n : Nat) (f g : Nat → α) (h : ∀ j, j < n → f j = g j) : tab n f = tab n g := by
  unfold tab
  exact List.map_congr_left (fun j hj => h j (List.mem_range.1 hj))
theorem tab_set {α : Type} (n : Nat) (f g : Nat → α) (i : Nat) (x : α) (hx : i < n → g i = x) (ho : ∀ j, j < n → j ≠ i → f j = g j) : (tab n f).set i x = tab n g := by
  apply List.ext_getElem
  · simp [tab]
  · intro j h1 h2
    have hj' : j < n := by simpa [tab] using h1
    rw [List.getElem_set]
    by_cases hj : i = j
    · subst hj
      rw [if_pos rfl]
      simp [tab, hx hj']
    · rw [if_neg hj]
      simp [tab, ho j hj' (fun h => hj h.symm)]

def rowsT (a b : Nat) (V : Nat → Nat → Int) (w h : Nat) : List (List Int) := tab (a + 1) fun i => if i = 0 then [] else if i < w then tab (b + 1) (fun j => V i j) else if i = w then tab (b + 1) (fun j => if j < h then V i j else 0) else []
theorem rows_len (a b : Nat) (V : Nat → Nat → Int) (w h : Nat) : (rowsT a b V w h).length = a + 1 := tab_len _ _
theorem rows_old (a b : Nat) (V : Nat → Nat → Int) (w h i : Nat) (h0 : 0 < i) (h1 : i < w) (h2 : i ≤ a) : rd_L1 (rowsT a b V w h) (i : Int) = tab (b + 1) (fun j => V i j) := by
  simp only [rd_L1, rowsT, Int.toNat_natCast]
  rw [tab_get _ _ _ (by omega), if_neg (by omega), if_pos h1]
theorem rows_cur (a b : Nat) (V : Nat → Nat → Int) (w h : Nat) (h0 : 0 < w) (h2 : w ≤ a) : rd_L1 (rowsT a b V w h) (w : Int) = tab (b + 1) (fun j => if j < h then V w j else 0) := by
  simp only [rd_L1, rowsT, Int.toNat_natCast]
  rw [tab_get _ _ _ (by omega), if_neg (by omega), if_neg (by omega), if_pos rfl]
theorem rows_set (a b : Nat) (V : Nat → Nat → Int) (w h : Nat) (h0 : 0 < w) : (rowsT a b V w h).set w ((tab (b + 1) (fun j => if j < h then V w j else 0)).set h (V w h)) = rowsT a b V w (h + 1) := by
  refine tab_set _ _ _ _ _ (fun _ => ?_) (fun j _ hj => ?_)
  · rw [if_neg (by omega), if_neg (by omega), if_pos rfl]
    refine (tab_set _ _ (fun j => if j < h + 1 then V w j else 0) _ _ (fun _ => if_pos (by omega)) (fun j _ hj => ?_)).symm
    by_cases h1 : j < h
    · rw [if_pos h1, if_pos (by omega)]
    · rw [if_neg h1, if_neg (by omega)]
  · by_cases h1 : j = 0
    · rw [if_pos h1, if_pos h1]
    · rw [if_neg h1, if_neg h1, if_neg hj, if_neg hj]
theorem rows_next (a b : Nat) (V : Nat → Nat → Int) (hV : ∀ i, V i 0 = 0) (w : Nat) : (rowsT a b V w (b + 1)).set (w + 1) (List.replicate (b + 1) 0) = rowsT a b V (w + 1) 1 := by
  refine tab_set _ _ _ _ _ (fun _ => ?_) (fun j _ hj => ?_)
  · rw [if_neg (by omega), if_neg (by omega), if_pos rfl, tab_rep]
    refine tab_ext _ _ _ (fun j _ => ?_)
    by_cases h1 : j < 1
    · obtain rfl : j = 0 := by omega
      rw [if_pos h1, hV]
    · rw [if_neg h1]
  · by_cases h1 : j = 0
    · rw [if_pos h1, if_pos h1]
    · rw [if_neg h1, if_neg h1]
      by_cases h2 : j < w
      · rw [if_pos h2, if_pos (by omega)]
      · rw [if_neg h2]
        by_cases h3 : j = w
        · subst h3
          rw [if_pos rfl, if_pos (by omega)]
          exact tab_ext _ _ _ (fun i hi => if_pos hi)
        · rw [if_neg h3, if_neg (by omega), if_neg (by omega)]
theorem rows_none (a b : Nat) (V : Nat → Nat → Int) : List.replicate (a + 1) [] = rowsT a b V 0 (b + 1) := by
  rw [tab_rep]
  refine tab_ext _ _ _ (fun j _ => ?_)
  by_cases h1 : j = 0
  · rw [if_pos h1]
  · rw [if_neg h1, if_neg (by omega), if_neg (by omega)]
theorem rows_all (a b : Nat) (V : Nat → Nat → Int) (i j : Nat) (h0 : 0 < i) (h1 : i ≤ a) (h2 : j ≤ b) : rd_L1 (rowsT a b V a (b + 1)) (i : Int) = tab (b + 1) (fun j => V i j) := by
  by_cases h : i < a
  · exact rows_old a b V a (b + 1) i h0 h h1
  · obtain rfl : i = a := by omega
    rw [rows_cur i b V i (b + 1) h0 (Nat.le_refl _)]
    exact tab_ext _ _ _ (fun j hj => if_pos hj)

def inB (lo hi a : Int) : Bool := decide (lo ≤ a) && decide (a ≤ hi)
theorem inB_iff (lo hi a : Int) : inB lo hi a = true ↔ lo ≤ a ∧ a ≤ hi := by simp [inB]
theorem in_is (a lo hi : Int) : spec_l1In.f a lo hi = some (inB lo hi a) := by
  unfold spec_l1In.f inB
  by_cases h : lo ≤ a
  · rw [if_pos h, decide_eq_true h, Bool.true_and]
  · rw [if_neg h, decide_eq_false h, Bool.false_and]

theorem within_is (a lo hi : Int) : impl_within.f a lo hi = some (inB lo hi a) := by
  unfold impl_within.f inB
  by_cases h : lo ≤ a
  · rw [if_pos h, decide_eq_true h, Bool.true_and]
  · rw [if_neg h, decide_eq_false h, Bool.false_and]

theorem okW_in (a b x : Int) : okW a b x = inB a b x := rfl
def boardB (a b : Int) : Bool := inB 1 24 a && inB 1 24 b
theorem boardB_iff (a b : Int) : boardB a b = true ↔ (1 ≤ a ∧ a ≤ 24) ∧ 1 ≤ b ∧ b ≤ 24 := by simp [boardB, inB]
theorem good_is (a b : Int) : spec_bdGood.f a b = some (boardB a b) := by
  unfold spec_bdGood.f boardB
  rw [in_is, in_is]
  cases inB 1 24 a <;> rfl
theorem board_is (a b : Int) : impl_isBoard.f a b = some (boardB a b) := by
  unfold impl_isBoard.f boardB
  rw [within_is, within_is]
  cases inB 1 24 a <;> rfl

theorem least_is (a b : Int) : spec_l1Least.f a b = some (if a < b then a else b) := by
  unfold spec_l1Least.f
  by_cases h : a < b
  · rw [if_pos h, if_pos h]
  · rw [if_neg h, if_neg h]
def sqT (i j : Nat) : Int := if j = 0 then 0 else (sqN (i : Int) (j : Int)).1
theorem sqT_pos (i j : Nat) (h : 0 < j) : sqT i j = (sqN (i : Int) (j : Int)).1 := if_neg (by omega)
section
variable (a b : Nat) (ha : a ≤ 24) (hb : b ≤ 24)
set_option linter.unusedSectionVars false
include ha hb
theorem sqt_l3 (w h : Nat) (h1 : 0 < w) (h2 : w ≤ a) (h3 : 0 < h) (h4 : h ≤ b) (R : List (List Int)) (d : Nat) : ∀ (p : Nat) (best : Int), h / 2 + 1 - p = d → 1 ≤ p → p ≤ h / 2 + 1 →
    ((List.range' p d).map (fun (p : Nat) => (⟨false, (p : Int)⟩ : S63))).foldl (lsStep (w : Int) (h : Int)) best = (sqN (w : Int) (h : Int)).1 →
    Ev (fun k => spec_bdSquares.l1 k (a : Int) (b : Int) (rowsT a b sqT w (h + 1)) (w : Int) ((h + 1 : Nat) : Int)) R →
    Ev (fun k => spec_bdSquares.l3 k (a : Int) (b : Int) (rowsT a b sqT w h) (w : Int) (h : Int) best (p : Int)) R := by
  induction d with
  | zero =>
    intro p best hd hp hp2 hf hK
    refine Ev.step (fun k => ?_) hK
    simp only [List.range'_zero, List.map_nil, List.foldl_nil] at hf
    simp only [spec_bdSquares.l3]
    rw [w64 (i := 2 * (p : Int)) (by omega) (by omega), if_neg (by omega), rows_len, rows_cur _ _ _ _ _ h1 h2, tab_len, if_pos (by omega), if_pos (by omega), if_pos (by omega), if_pos (by omega), Int.toNat_natCast, Int.toNat_natCast, hf, ← sqT_pos w h h3, rows_set _ _ _ _ _ h1, w64 (by omega) (by omega)]
    rfl
  | succ d ih =>
    intro p best hd hp hp2 hf hK
    rw [List.range'_succ, List.map_cons, List.foldl_cons] at hf
    have hmem : (⟨false, (p : Int)⟩ : S63) ∈ cutsL (w : Int).toNat (h : Int).toNat 1 := (cuts_mem _ _ 1 _).2 ⟨p, hp, .inr ⟨rfl, by rw [Nat.div_one]; omega⟩⟩
    have hS := sqS_in w h (by omega) (by omega) (by omega) (by omega) _ hmem
    have har := area_le (a := (w : Int)) (b := (h : Int)) (by omega) (by omega) (by omega) (by omega)
    have eS : sqS w h ⟨false, (p : Int)⟩ = (sqN (w : Int) (p : Int)).1 + (sqN (w : Int) ((h - p : Nat) : Int)).1 := by
      simp only [sqS, partsOf, Bool.false_eq_true, if_false]
      rw [show (h : Int) - (p : Int) = ((h - p : Nat) : Int) from by omega]
    refine Ev.step (fun k => ?_) (ih (p + 1) _ (by omega) (by omega) (by omega) hf hK)
    simp only [spec_bdSquares.l3]
    rw [w64 (i := 2 * (p : Int)) (by omega) (by omega), if_pos (by omega), rows_len, rows_cur _ _ _ _ _ h1 h2, tab_len, w64 (i := (h : Int) - (p : Int)) (by omega) (by omega), show (h : Int) - (p : Int) = ((h - p : Nat) : Int) from by omega, rd_tab _ _ _ (by omega), rd_tab _ _ _ (by omega), if_pos (show p < h by omega), if_pos (show h - p < h by omega), sqT_pos _ _ (by omega), sqT_pos _ _ (by omega), ← eS, w64 (i := sqS w h ⟨false, (p : Int)⟩) (by omega) (by omega)]
    rw [if_pos (by omega), if_pos (by omega), if_pos (by omega), if_pos (by omega), if_pos (by omega), if_pos (by omega), least_is, Option.bind_some, w64 (i := (p : Int) + 1) (by omega) (by omega)]
    rfl
theorem sqt_l2 (w h : Nat) (h1 : 0 < w) (h2 : w ≤ a) (h3 : 0 < h) (h4 : h ≤ b) (R : List (List Int)) (d : Nat) : ∀ (p : Nat) (best : Int), w / 2 + 1 - p = d → 1 ≤ p → p ≤ w / 2 + 1 →
    ((List.range' 1 (h / 2)).map (fun (p : Nat) => (⟨false, (p : Int)⟩ : S63))).foldl (lsStep (w : Int) (h : Int)) (((List.range' p d).map (fun (p : Nat) => (⟨true, (p : Int)⟩ : S63))).foldl (lsStep (w : Int) (h : Int)) best) = (sqN (w : Int) (h : Int)).1 →
    Ev (fun k => spec_bdSquares.l1 k (a : Int) (b : Int) (rowsT a b sqT w (h + 1)) (w : Int) ((h + 1 : Nat) : Int)) R →
    Ev (fun k => spec_bdSquares.l2 k (a : Int) (b : Int) (rowsT a b sqT w h) (w : Int) (h : Int) best (p : Int)) R := by
  induction d with
  | zero =>
    intro p best hd hp hp2 hf hK
    simp only [List.range'_zero, List.map_nil, List.foldl_nil] at hf
    refine Ev.step (fun k => ?_) (sqt_l3 a b ha hb w h h1 h2 h3 h4 R (h / 2) 1 best (by omega) (by omega) (by omega) hf hK)
    simp only [spec_bdSquares.l2]
    rw [w64 (i := 2 * (p : Int)) (by omega) (by omega), if_neg (by omega)]
    rfl
  | succ d ih =>
    intro p best hd hp hp2 hf hK
    rw [List.range'_succ, List.map_cons, List.foldl_cons] at hf
    have hmem : (⟨true, (p : Int)⟩ : S63) ∈ cutsL (w : Int).toNat (h : Int).toNat 1 := (cuts_mem _ _ 1 _).2 ⟨p, hp, .inl ⟨rfl, by rw [Nat.div_one]; omega⟩⟩
    have hS := sqS_in w h (by omega) (by omega) (by omega) (by omega) _ hmem
    have har := area_le (a := (w : Int)) (b := (h : Int)) (by omega) (by omega) (by omega) (by omega)
    have eS : sqS w h ⟨true, (p : Int)⟩ = (sqN (p : Int) (h : Int)).1 + (sqN ((w - p : Nat) : Int) (h : Int)).1 := by
      simp only [sqS, partsOf, if_true]
      rw [show (w : Int) - (p : Int) = ((w - p : Nat) : Int) from by omega]
    refine Ev.step (fun k => ?_) (ih (p + 1) _ (by omega) (by omega) (by omega) hf hK)
    simp only [spec_bdSquares.l2]
    rw [w64 (i := 2 * (p : Int)) (by omega) (by omega), if_pos (by omega), rows_len, w64 (i := (w : Int) - (p : Int)) (by omega) (by omega), show (w : Int) - (p : Int) = ((w - p : Nat) : Int) from by omega, rows_old _ _ _ _ _ p (by omega) (by omega) (by omega), rows_old _ _ _ _ _ (w - p) (by omega) (by omega) (by omega), tab_len, tab_len, rd_tab _ _ _ (by omega), rd_tab _ _ _ (by omega), sqT_pos _ _ h3, sqT_pos _ _ h3, ← eS, w64 (i := sqS w h ⟨true, (p : Int)⟩) (by omega) (by omega)]
    rw [if_pos (by omega), if_pos (by omega), if_pos (by omega), if_pos (by omega), if_pos (by omega), if_pos (by omega), if_pos (by omega), least_is, Option.bind_some, w64 (i := (p : Int) + 1) (by omega) (by omega)]
    rfl
theorem sqt_l1 (w : Nat) (h1 : 0 < w) (h2 : w ≤ a) (R : List (List Int)) (hK : Ev (fun k => spec_bdSquares.l0 k (a : Int) (b : Int) (rowsT a b sqT w (b + 1)) ((w + 1 : Nat) : Int)) R) (d : Nat) : ∀ h : Nat, b + 1 - h = d → 0 < h → h ≤ b + 1 →
    Ev (fun k => spec_bdSquares.l1 k (a : Int) (b : Int) (rowsT a b sqT w h) (w : Int) (h : Int)) R := by
  induction d with
  | zero =>
    intro h hd h3 h4
    obtain rfl : h = b + 1 := by omega
    refine Ev.step (fun k => ?_) hK
    simp only [spec_bdSquares.l1]
    rw [if_neg (by omega), w64 (by omega) (by omega)]
    rfl
  | succ d ih =>
    intro h hd h3 h4
    have hih := ih (h + 1) (by omega) (by omega) (by omega)
    have hcv := half_is w h (by omega) (by omega) (by omega) (by omega)
    have har := area_le (a := (w : Int)) (b := (h : Int)) (by omega) (by omega) (by omega) (by omega)
    unfold cutsL at hcv
    rw [show min (w - 1) (w / 2) = w / 2 from by omega, show min (h - 1) (h / 2) = h / 2 from by omega, List.foldl_append] at hcv
    have h3' := sqt_l2 a b ha hb w h h1 h2 h3 (by omega) R (w / 2) 1 _ (by omega) (by omega) (by omega) hcv hih
    refine Ev.step (fun k => ?_) (Ev.step (f := fun k => spec_bdSquares.l2 k (a : Int) (b : Int) (rowsT a b sqT w h) (w : Int) (h : Int) (if (w : Int) = h then 1 else (w : Int) * h) 1) (g := fun k => spec_bdSquares.j2 k (a : Int) (b : Int) (rowsT a b sqT w h) (w : Int) (h : Int) (if (w : Int) = h then 1 else (w : Int) * h)) (fun k => by simp only [spec_bdSquares.j2]) h3')
    simp only [spec_bdSquares.l1]
    rw [if_pos (by omega)]
    by_cases hwh : (w : Int) = h
    · rw [if_pos hwh, if_pos hwh]
    · rw [if_neg hwh, if_neg hwh, w64 (by omega) (by omega)]
theorem sqt_l0 (d : Nat) : ∀ w : Nat, a - w = d → w ≤ a → Ev (fun k => spec_bdSquares.l0 k (a : Int) (b : Int) (rowsT a b sqT w (b + 1)) ((w + 1 : Nat) : Int)) (rowsT a b sqT a (b + 1)) := by
  induction d with
  | zero =>
    intro w hd hw
    obtain rfl : w = a := by omega
    refine ev_at 1 (fun k => ?_)
    simp only [spec_bdSquares.l0]
    rw [if_neg (by omega)]
  | succ d ih =>
    intro w hd hw
    refine Ev.step (fun k => ?_) (sqt_l1 a b ha hb (w + 1) (by omega) (by omega) _ (ih (w + 1) (by omega) (by omega)) _ 1 rfl (by omega) (by omega))
    simp only [spec_bdSquares.l0]
    rw [if_pos (by omega), w64 (i := (b : Int) + 1) (by omega) (by omega), show (b : Int) + 1 = ((b + 1 : Nat) : Int) from by omega, rows_len, if_pos (by omega), if_pos (by omega), if_pos (by omega), if_pos (by omega), Int.toNat_natCast, Int.toNat_natCast, rows_next _ _ _ (fun _ => if_pos rfl)]
    rfl
theorem bdSquares_is : Ev (fun k => spec_bdSquares.f k (a : Int) (b : Int)) (rowsT a b sqT a (b + 1)) := by
  have h := sqt_l0 a b ha hb _ 0 rfl (Nat.zero_le _)
  unfold spec_bdSquares.f
  rw [w64 (i := (a : Int) + 1) (by omega) (by omega), show (a : Int) + 1 = ((a + 1 : Nat) : Int) from by omega, Int.toNat_natCast]
  refine ev_pos (by omega) (ev_pos (by omega) ?_)
  rw [rows_none a b sqT]
  exact h
end

theorem few_law (a b : Int) (x : Int) (ok : Bool) (hs : Ev (fun k => spec_FewestSquares.f k a b) (x, ok)) (hi : impl_FewestSquares.f a b = some (x, ok)) : Ev (fun k => laws_FnExactFewestSquares.f k a b) true := by
  unfold laws_FnExactFewestSquares.f
  refine Ev.bind hs ?_
  rw [hi]
  have hb : ¬ (ok != ok) = true := by cases ok <;> decide
  exact ev_some (ev_pos rfl (ev_neg hb (Ev.now _)))
theorem FnExactFewestSquares : laws_FnExactFewestSquares.Pure := by
  intro a b _ _
  refine Ev.rounds ?_
  cases hq : boardB a b with
  | false =>
    refine few_law a b 0 false ?_ ?_
    · unfold spec_FewestSquares.f
      rw [good_is, hq]
      exact ev_some (ev_neg (by decide) (Ev.now _))
    · simp [impl_FewestSquares.f, board_is, hq]
  | true =>
    have hb := (boardB_iff a b).1 hq
    obtain ⟨m, rfl⟩ := Int.eq_ofNat_of_zero_le (show 0 ≤ a by omega)
    obtain ⟨n, rfl⟩ := Int.eq_ofNat_of_zero_le (show 0 ≤ b by omega)
    refine few_law _ _ (sqN m n).1 true ?_ ?_
    · unfold spec_FewestSquares.f
      rw [good_is, hq]
      refine ev_some (ev_pos rfl (Ev.bind (bdSquares_is m n (by omega) (by omega)) ?_))
      rw [rows_len, rows_all _ _ _ m n (by omega) (Nat.le_refl _) (Nat.le_refl _), tab_len, rd_tab _ _ _ (by omega), sqT_pos _ _ (by omega)]
      exact ev_pos (by omega) (ev_pos (by omega) (ev_pos (by omega) (ev_pos (by omega) (Ev.now _))))
    · simp only [impl_FewestSquares.f, board_is, hq, Option.bind_some, if_true]

end Go.Proofs.Ytfpgnnllohhmfaa.Pure

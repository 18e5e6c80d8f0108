/- In how many ways a number is a sum of parts out of a list: the order of the list does not matter. No condition. -/
import Derived.Test.YtekabbefflclaaaQ0
import Derived.Test.YtekabbefflclaaaUTab
namespace Go.Proofs.Ytekabbefflclaaa.Pure
open Go.RowKit Go.Proofs.Ytekabbefflclaaa.Q Go.Proofs.YtekabbefflclaaaW.PrintWords Go.Proofs.YtekabbefflclaaaW.PrintLast Go.Proofs.YtekabbefflclaaaW.PrintMore
set_option linter.unusedVariables false
set_option linter.unusedSimpArgs false
def partN : List Nat → Nat → Nat
  | [], n => if n = 0 then 1 else 0
  | s :: S, n => if h : 0 < s ∧ s ≤ n then partN S n + partN (s :: S) (n - s) else partN S n
  termination_by S n => (S.length, n)
  decreasing_by
    all_goals simp_wf
    · left; omega
    · right; omega
    · left; omega
theorem partN_nil (n : Nat) : partN [] n = if n = 0 then 1 else 0 := by rw [partN]
theorem partN_cons (s : Nat) (S : List Nat) (n : Nat) : partN (s :: S) n = partN S n + if 0 < s ∧ s ≤ n then partN (s :: S) (n - s) else 0 := by
  conv => lhs; rw [partN]
  split <;> simp
theorem partN_swap (a b : Nat) (S : List Nat) (n : Nat) : partN (a :: b :: S) n = partN (b :: a :: S) n := by
  induction n using Nat.strongRecOn with
  | _ n ih =>
    rw [partN_cons a (b :: S) n, partN_cons b (a :: S) n, partN_cons b S n, partN_cons a S n]
    by_cases ha : 0 < a ∧ a ≤ n
    · rw [if_pos ha, if_pos ha, ih (n - a) (by omega), partN_cons b (a :: S) (n - a)]
      by_cases hb : 0 < b ∧ b ≤ n
      · rw [if_pos hb, if_pos hb, ← ih (n - b) (by omega), partN_cons a (b :: S) (n - b)]
        by_cases hab : a + b ≤ n
        · rw [if_pos (by omega), if_pos (by omega), show n - b - a = n - a - b from by omega, ih (n - a - b) (by omega)]
          omega
        · rw [if_neg (by omega), if_neg (by omega)]
          omega
      · rw [if_neg hb, if_neg hb, if_neg (by omega)]
        omega
    · rw [if_neg ha, if_neg ha]
      by_cases hb : 0 < b ∧ b ≤ n
      · rw [if_pos hb, if_pos hb, ← ih (n - b) (by omega), partN_cons a (b :: S) (n - b), if_neg (by omega)]
        omega
      · rw [if_neg hb, if_neg hb]
theorem partN_perm {S T : List Nat} (h : S.Perm T) : ∀ n, partN S n = partN T n := by
  induction h with
  | nil => intro n; rfl
  | @cons s l1 l2 _ ih =>
    intro n
    induction n using Nat.strongRecOn with
    | _ n ihn =>
      rw [partN_cons s l1 n, partN_cons s l2 n, ih n]
      by_cases hs : 0 < s ∧ s ≤ n
      · rw [if_pos hs, if_pos hs, ihn (n - s) (by omega)]
      · rw [if_neg hs, if_neg hs]
  | swap a b S => intro n; exact partN_swap b a S n
  | trans _ _ h1 h2 => intro n; rw [h1 n, h2 n]
theorem partN_zero : ∀ S : List Nat, partN S 0 = 1
  | [] => by rw [partN_nil]; rfl
  | s :: S => by rw [partN_cons, if_neg (by omega), partN_zero S]
theorem partN_drop (A S : List Nat) (n : Nat) (h : ∀ s ∈ A, n < s) : partN (A ++ S) n = partN S n := by
  induction A with
  | nil => rfl
  | cons a A ih =>
    rw [List.cons_append, partN_cons, if_neg (by have := h a (by simp); omega), ih (fun s hs => h s (by simp [hs]))]
    rfl
/-- the numbers from L down to 1 -/
def dn : Nat → List Nat
  | 0 => []
  | L + 1 => (L + 1) :: dn L
theorem dn_perm : ∀ n, (dn n).Perm (List.range' 1 n)
  | 0 => by simp [dn]
  | n + 1 => by
    rw [List.range'_concat]
    have h := (dn_perm n).cons (n + 1)
    refine h.trans ?_
    have := List.perm_append_comm (l₁ := [n + 1]) (l₂ := List.range' 1 n)
    simpa [Nat.add_comm] using this
theorem up_dn (n : Nat) (h : n ≤ 60) : partN (List.range' 1 60) n = partN (dn n) n := by
  have e : List.range' 1 60 = List.range' 1 n ++ List.range' (n + 1) (60 - n) := by
    rw [show n + 1 = 1 + n from by omega, List.range'_append_1, show n + (60 - n) = 60 from by omega]
  rw [e, partN_perm List.perm_append_comm, partN_drop _ _ _ (fun s hs => by simp [List.mem_range'_1] at hs; omega), partN_perm (dn_perm n).symm]
theorem wrap_add (a b : Int) : wrap64 (wrap64 a + wrap64 b) = wrap64 (a + b) := by
  unfold wrap64
  omega

end Go.Proofs.Ytekabbefflclaaa.Pure

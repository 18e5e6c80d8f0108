/- The reference's table of the values of boards is what the program reckons by recursion. Condition: a board of at most 24 by 24. -/
import Derived.Test.YtfpgnnllohhmfaaQ0
import Derived.Test.YtfpgnnllohhmfaaQ12
import Derived.Test.YtfpgnnllohhmfaaQ17
import Derived.Test.YtfpgnnllohhmfaaQ8
import Derived.Test.YtfpgnnllohhmfaaURows
import Derived.Test.YtfpgnnllohhmfaaUPieces
namespace Go.Proofs.Ytfpgnnllohhmfaa.Pure
open Go.RowKit Go.Proofs.Ytfpgnnllohhmfaa.Q Go.Proofs.YtfpgnnllohhmfaaW.PrintWords Go.Proofs.YtfpgnnllohhmfaaW.PrintLast Go.Proofs.YtfpgnnllohhmfaaW.PrintMore
set_option linter.unusedVariables false
set_option linter.unusedSimpArgs false
theorem most_is (a b : Int) : spec_l1Most.f a b = some (mx a b) := by
  unfold spec_l1Most.f mx
  by_cases h : a > b
  · rw [if_pos h, if_neg (by omega)]
  · rw [if_neg h]
    by_cases h2 : a < b
    · rw [if_pos h2]
    · rw [if_neg h2]
      congr 1
      omega
theorem bdIs_is (a b : Int) (x : S38) (tn : Bool) : spec_bdIs.f a b x.f0 x.f1 x.f2 tn = some (justB a b tn x) := by
  unfold spec_bdIs.f justB
  by_cases h0 : a = x.f0 <;> by_cases h1 : b = x.f1 <;> cases tn <;> by_cases h2 : a = x.f1 <;> by_cases h3 : b = x.f0 <;> simp [h0, h1, h2, h3] <;> simp_all
/-- the value of a board that is not cut -/
def whF (a b : Int) (tn : Bool) (best : Int) (x : S38) : Int := if justB a b tn x = true then mx best x.f2 else best
theorem wholeN_fold (a b : Int) (tn : Bool) (l : List S38) : ∀ i best kind, (wholeN a b tn l i best kind).1 = l.foldl (whF a b tn) best := by
  induction l with
  | nil => intro i best kind; rfl
  | cons x l ih =>
    intro i best kind
    rw [wholeN, List.foldl_cons]
    unfold whF
    cases h : justB a b tn x with
    | false => rw [Bool.false_and, if_neg (by decide), if_neg (by decide), ih]; rfl
    | true =>
      rw [Bool.true_and, if_pos rfl]
      unfold mx
      by_cases h2 : best < x.f2
      · rw [decide_eq_true h2, if_pos rfl, if_pos h2, ih]; rfl
      · rw [decide_eq_false h2, if_neg (by decide), if_neg h2, ih]; rfl
def valV (l : List S38) (tn : Bool) (i j : Nat) : Int := if j = 0 then 0 else cvN (whN l tn) (i : Int) (j : Int)
theorem valV_pos (l : List S38) (tn : Bool) (i j : Nat) (h : 0 < j) : valV l tn i j = cvN (whN l tn) (i : Int) (j : Int) := if_neg (by omega)
section
variable (a b : Nat) (l : List S38) (tn : Bool) (ha : a ≤ 24) (hb : b ≤ 24) (hl : l.length ≤ 1048576)
set_option linter.unusedSectionVars false
include ha hb hl
theorem val_l4 (w h : Nat) (h1 : 0 < w) (h2 : w ≤ a) (h3 : 0 < h) (h4 : h ≤ b) (R : List (List Int)) (d : Nat) : ∀ (p : Nat) (best : Int), h / 2 + 1 - p = d → 1 ≤ p → p ≤ h / 2 + 1 →
    ((List.range' p d).map (fun (p : Nat) => (⟨false, (p : Int)⟩ : S63))).foldl (cvStep (whN l tn) (w : Int) (h : Int)) best = cvN (whN l tn) (w : Int) (h : Int) →
    Ev (fun k => spec_bdValues.l1 k (a : Int) (b : Int) l tn (rowsT a b (valV l tn) w (h + 1)) (w : Int) ((h + 1 : Nat) : Int)) R →
    Ev (fun k => spec_bdValues.l4 k (a : Int) (b : Int) l tn (rowsT a b (valV l tn) w h) (w : Int) (h : Int) best (p : Int)) R := by
  induction d with
  | zero =>
    intro p best hd hp hp2 hf hK
    refine Ev.step (fun k => ?_) hK
    simp only [List.range'_zero, List.map_nil, List.foldl_nil] at hf
    simp only [spec_bdValues.l4]
    rw [w64 (i := 2 * (p : Int)) (by omega) (by omega), if_neg (by omega), rows_len, rows_cur _ _ _ _ _ h1 h2, tab_len, if_pos (by omega), if_pos (by omega), if_pos (by omega), if_pos (by omega), Int.toNat_natCast, Int.toNat_natCast, hf, ← valV_pos l tn w h h3, rows_set _ _ _ _ _ h1, w64 (by omega) (by omega)]
    rfl
  | succ d ih =>
    intro p best hd hp hp2 hf hK
    rw [List.range'_succ, List.map_cons, List.foldl_cons] at hf
    refine Ev.step (fun k => ?_) (ih (p + 1) _ (by omega) (by omega) (by omega) hf hK)
    simp only [spec_bdValues.l4]
    rw [w64 (i := 2 * (p : Int)) (by omega) (by omega), if_pos (by omega), rows_len, rows_cur _ _ _ _ _ h1 h2, tab_len, w64 (i := (h : Int) - (p : Int)) (by omega) (by omega), show (h : Int) - (p : Int) = ((h - p : Nat) : Int) from by omega, rd_tab _ _ _ (by omega), rd_tab _ _ _ (by omega), if_pos (show p < h by omega), if_pos (show h - p < h by omega), valV_pos _ _ _ _ (by omega), valV_pos _ _ _ _ (by omega)]
    rw [if_pos (by omega), if_pos (by omega), if_pos (by omega), if_pos (by omega), if_pos (by omega), if_pos (by omega), most_is, Option.bind_some, w64 (i := (p : Int) + 1) (by omega) (by omega)]
    unfold cvStep partsOf
    simp only [Bool.false_eq_true, if_false]
    rw [show (h : Int) - (p : Int) = ((h - p : Nat) : Int) from by omega]
    rfl
theorem val_l3 (w h : Nat) (h1 : 0 < w) (h2 : w ≤ a) (h3 : 0 < h) (h4 : h ≤ b) (R : List (List Int)) (d : Nat) : ∀ (p : Nat) (best : Int), w / 2 + 1 - p = d → 1 ≤ p → p ≤ w / 2 + 1 →
    ((List.range' 1 (h / 2)).map (fun (p : Nat) => (⟨false, (p : Int)⟩ : S63))).foldl (cvStep (whN l tn) (w : Int) (h : Int)) (((List.range' p d).map (fun (p : Nat) => (⟨true, (p : Int)⟩ : S63))).foldl (cvStep (whN l tn) (w : Int) (h : Int)) best) = cvN (whN l tn) (w : Int) (h : Int) →
    Ev (fun k => spec_bdValues.l1 k (a : Int) (b : Int) l tn (rowsT a b (valV l tn) w (h + 1)) (w : Int) ((h + 1 : Nat) : Int)) R →
    Ev (fun k => spec_bdValues.l3 k (a : Int) (b : Int) l tn (rowsT a b (valV l tn) w h) (w : Int) (h : Int) best (p : Int)) R := by
  induction d with
  | zero =>
    intro p best hd hp hp2 hf hK
    simp only [List.range'_zero, List.map_nil, List.foldl_nil] at hf
    refine Ev.step (fun k => ?_) (val_l4 a b l tn ha hb hl w h h1 h2 h3 h4 R (h / 2) 1 best (by omega) (by omega) (by omega) hf hK)
    simp only [spec_bdValues.l3]
    rw [w64 (i := 2 * (p : Int)) (by omega) (by omega), if_neg (by omega)]
    rfl
  | succ d ih =>
    intro p best hd hp hp2 hf hK
    rw [List.range'_succ, List.map_cons, List.foldl_cons] at hf
    refine Ev.step (fun k => ?_) (ih (p + 1) _ (by omega) (by omega) (by omega) hf hK)
    simp only [spec_bdValues.l3]
    rw [w64 (i := 2 * (p : Int)) (by omega) (by omega), if_pos (by omega), rows_len, w64 (i := (w : Int) - (p : Int)) (by omega) (by omega), show (w : Int) - (p : Int) = ((w - p : Nat) : Int) from by omega, rows_old _ _ _ _ _ p (by omega) (by omega) (by omega), rows_old _ _ _ _ _ (w - p) (by omega) (by omega) (by omega), tab_len, tab_len, rd_tab _ _ _ (by omega), rd_tab _ _ _ (by omega), valV_pos _ _ _ _ h3, valV_pos _ _ _ _ h3]
    rw [if_pos (by omega), if_pos (by omega), if_pos (by omega), if_pos (by omega), if_pos (by omega), if_pos (by omega), if_pos (by omega), most_is, Option.bind_some, w64 (i := (p : Int) + 1) (by omega) (by omega)]
    unfold cvStep partsOf
    simp only [if_true]
    rw [show (w : Int) - (p : Int) = ((w - p : Nat) : Int) from by omega]
    rfl
theorem val_l2 (w h : Nat) (T R : List (List Int)) (r : Int) (hK : Ev (fun k => spec_bdValues.l3 k (a : Int) (b : Int) l tn T (w : Int) (h : Int) r 1) R) (d : Nat) : ∀ (i : Nat) (best : Int), l.length - i = d → i ≤ l.length →
    (l.drop i).foldl (whF (w : Int) (h : Int) tn) best = r →
    Ev (fun k => spec_bdValues.l2 k (a : Int) (b : Int) l tn T (w : Int) (h : Int) best l (l.length : Int) (i : Int)) R := by
  induction d with
  | zero =>
    intro i best hd hi hf
    obtain rfl : i = l.length := by omega
    rw [List.drop_length, List.foldl_nil] at hf
    refine Ev.step (fun k => ?_) hK
    simp only [spec_bdValues.l2]
    rw [if_neg (by omega), hf]
  | succ d ih =>
    intro i best hd hi hf
    have hlt : i < l.length := by omega
    rw [cons_drop l i hlt, List.foldl_cons] at hf
    have hr : rd_T38 l (i : Int) = l[i] := by simp [rd_T38, hlt]
    refine Ev.step (fun k => ?_) (ih (i + 1) _ (by omega) (by omega) hf)
    simp only [spec_bdValues.l2]
    rw [if_pos (by omega), if_pos (by omega), if_pos (by omega), hr, bdIs_is, w64 (by omega) (by omega)]
    unfold whF
    cases justB (w : Int) (h : Int) tn l[i] with
    | true => simp only [Option.bind_some, if_true, most_is]; rfl
    | false => simp only [Option.bind_some, Bool.false_eq_true, if_false]; rfl
theorem val_l1 (w : Nat) (h1 : 0 < w) (h2 : w ≤ a) (R : List (List Int)) (hK : Ev (fun k => spec_bdValues.l0 k (a : Int) (b : Int) l tn (rowsT a b (valV l tn) w (b + 1)) ((w + 1 : Nat) : Int)) R) (d : Nat) : ∀ h : Nat, b + 1 - h = d → 0 < h → h ≤ b + 1 →
    Ev (fun k => spec_bdValues.l1 k (a : Int) (b : Int) l tn (rowsT a b (valV l tn) w h) (w : Int) (h : Int)) R := by
  induction d with
  | zero =>
    intro h hd h3 h4
    obtain rfl : h = b + 1 := by omega
    refine Ev.step (fun k => ?_) hK
    simp only [spec_bdValues.l1]
    rw [if_neg (by omega), w64 (by omega) (by omega)]
    rfl
  | succ d ih =>
    intro h hd h3 h4
    have hih := ih (h + 1) (by omega) (by omega) (by omega)
    have hcv := cvN_eq (whN l tn) (w : Int) (h : Int) (by omega) (by omega)
    rw [Int.toNat_natCast, Int.toNat_natCast] at hcv
    unfold cutsL at hcv
    rw [show min (w - 1) (w / 2) = w / 2 from by omega, show min (h - 1) (h / 2) = h / 2 from by omega, List.foldl_append] at hcv
    have h3' := val_l3 a b l tn ha hb hl w h h1 h2 h3 (by omega) R (w / 2) 1 (whN l tn (w : Int) (h : Int)) (by omega) (by omega) (by omega) hcv.symm hih
    have h2' := val_l2 a b l tn ha hb hl w h _ R _ h3' _ 0 0 rfl (Nat.zero_le _) (by rw [List.drop_zero, ← wholeN_fold _ _ _ l 0 0 (-1)]; rfl)
    refine Ev.step (fun k => ?_) h2'
    simp only [spec_bdValues.l1]
    rw [if_pos (by omega)]
    rfl
theorem val_l0 (d : Nat) : ∀ w : Nat, a - w = d → w ≤ a → Ev (fun k => spec_bdValues.l0 k (a : Int) (b : Int) l tn (rowsT a b (valV l tn) w (b + 1)) ((w + 1 : Nat) : Int)) (rowsT a b (valV l tn) a (b + 1)) := by
  induction d with
  | zero =>
    intro w hd hw
    obtain rfl : w = a := by omega
    refine ev_at 1 (fun k => ?_)
    simp only [spec_bdValues.l0]
    rw [if_neg (by omega)]
  | succ d ih =>
    intro w hd hw
    refine Ev.step (fun k => ?_) (val_l1 a b l tn ha hb hl (w + 1) (by omega) (by omega) _ (ih (w + 1) (by omega) (by omega)) _ 1 rfl (by omega) (by omega))
    simp only [spec_bdValues.l0]
    rw [if_pos (by omega), w64 (i := (b : Int) + 1) (by omega) (by omega), show (b : Int) + 1 = ((b + 1 : Nat) : Int) from by omega, rows_len, if_pos (by omega), if_pos (by omega), if_pos (by omega), if_pos (by omega), Int.toNat_natCast, Int.toNat_natCast, rows_next _ _ _ (fun _ => if_pos rfl)]
    rfl
theorem bdValues_is : Ev (fun k => spec_bdValues.f k (a : Int) (b : Int) l tn) (rowsT a b (valV l tn) a (b + 1)) := by
  have h := val_l0 a b l tn ha hb hl _ 0 rfl (Nat.zero_le _)
  unfold spec_bdValues.f
  rw [w64 (i := (a : Int) + 1) (by omega) (by omega), show (a : Int) + 1 = ((a + 1 : Nat) : Int) from by omega, Int.toNat_natCast]
  refine ev_pos (by omega) (ev_pos (by omega) ?_)
  rw [rows_none a b (valV l tn)]
  exact h
end

end Go.Proofs.Ytfpgnnllohhmfaa.Pure

-- Written by the session's program wip/myprint.py (over the kit's print); the given parts by hand.
import Derived.Test.YtbjjmnnbkaoajaaDoorM0
namespace Go.Proofs.YtbjjmnnbkaoajaaDoor.M
open Go.RowKit Go.Proofs.YtbjjmnnbkaoajaaDoorW.PrintWords Go.Proofs.YtbjjmnnbkaoajaaDoorW.PrintLast Go.Proofs.YtbjjmnnbkaoajaaDoorW.PrintMore
attribute [local go_sem] max2_int min2_int max_two min_two max_three min_three max_four min_four   -- for this text's walks alone
set_option linter.unusedVariables false
set_option linter.unusedSimpArgs false

-- given: slices.Reverse[[]byte,byte]

/-! ### slices.Reverse at []byte: by hand -/
def slices_Reverse.f (k : Nat) : Option Unit := none
/-- a row of bytes that a conversion made, told by what stands in it -/
def RowF (W : World) (B n : Nat) (f : Nat → Int) : Prop := ∀ t, t < n → W.cell? ⟨B, t, none⟩ = some (.int .u8 (f t)) ∧ W.frozen? ⟨B, t, none⟩ = false
theorem RowF.lt {W : World} {B n : Nat} {f : Nat → Int} (h : RowF W B n f) (h0 : 0 < n) : B < W.heap.size := World.block_lt_of_cell? W _ (h 0 h0).1
theorem RowF.below {W W' : World} {B n : Nat} {f : Nat → Int} (h : RowF W B n f) (hb : Below W.heap.size W W') : RowF W' B n f := by
  intro t ht
  have hB := h.lt (by omega)
  exact ⟨(hb.cell (p := ⟨B, t, none⟩) hB).trans (h t ht).1, (hb.frozen (p := ⟨B, t, none⟩) hB).trans (h t ht).2⟩
theorem RowF.set {W : World} {B n : Nat} {f : Nat → Int} (h : RowF W B n f) (i : Nat) (hi : i < n) (x : Int) : RowF (W.setCell ⟨B, i, none⟩ (.int .u8 x)) B n (fun t => if t = i then x else f t) := by
  intro t ht
  refine ⟨?_, by rw [World.frozen?_setCell]; exact (h t ht).2⟩
  by_cases e : t = i
  · subst e
    simp only [if_true]
    exact World.cell?_setCell_same (v := .int .u8 x) (h := (h t ht).1)
  · simp only [if_neg e]
    rw [show (W.setCell ⟨B, i, none⟩ (.int .u8 x)).cell? ⟨B, t, none⟩ = W.cell? ⟨B, t, none⟩ from by apply World.cell?_setCell_other; intro h2; injection h2 with _ h3 _; exact e h3.symm]
    exact (h t ht).1
theorem RowF.congr {W : World} {B n : Nat} {f g : Nat → Int} (h : RowF W B n f) (e : ∀ t, t < n → f t = g t) : RowF W B n g := fun t ht => by rw [← e t ht]; exact h t ht
theorem RowF.made (w : World) (e : TypeId) (s : ByteArray) : RowF (Lib.bytesWorld w e s) w.heap.size s.size (fun t => ((s.data.toList.getD t 0).toNat : Int)) := by
  intro t ht
  refine ⟨Lib.bytesWorld_cell w e s t ht, ?_⟩
  have hsz : s.size ≤ (Lib.bytesCells w e s).size := by simp [Lib.bytesCells]
  unfold World.frozen?
  rw [Lib.bytesWorld_at_new]
  simp
  omega
theorem wr_sub (j : Nat) (h : j ≤ 1048576) : wrap64 ((j : Int) - 1) = (j : Int) - 1 := by unfold wrap64; omega
def revF (f : Nat → Int) (n i : Nat) (t : Nat) : Int := if t < i ∨ n - i ≤ t then f (n - 1 - t) else f t
set_option maxHeartbeats 4000000 in
set_option maxRecDepth 100000 in
theorem rev_calls (B n c0 base : Nat) (f : Nat → Int) (w : World) (hn : n ≤ 1048576) (h : RowF w B n f) (hb : base ≤ B) (hbw : base ≤ w.heap.size) :
    Calls Tryd.prog 31 #[.slice (some ⟨B, 0, none⟩) n c0] w fun e w' => e = .returned (.tuple #[]) ∧ RowF w' B n (fun t => f (n - 1 - t)) ∧ Below base w w' ∧ w.heap.size ≤ w'.heap.size := by
  have HR := Aside0.mk (RowF.congr (g := revF f n 0) h (fun t ht => by unfold revF; rw [if_neg (by omega)]))
  clear h
  have mixed : Tryd.prog.follows .mixedOrders = true := by kernel_rfl
  have hw1 : wrap64 ((n : Int) - 1) = (n : Int) - 1 := by unfold wrap64; omega
  go_enter Tryd.func31, Tryd.ntmps31
  go_wp2_with fail
  go_loopg [2, 3] n (fun gg v2 v3 wr => ∃ i : Nat, i ≤ n ∧ n - i ≤ gg ∧ 2 * i ≤ n + 1 ∧ v2 = .int .i64 i ∧ v3 = .int .i64 ((n : Int) - 1 - i) ∧ Aside0 (RowF wr B n (revF f n i)) ∧ Aside0 (Below base w wr))
  case atStart => exact ⟨0, by omega, by omega, by omega, rfl, by simp [hw1], HR, ⟨Below.refl _ _⟩⟩
  case round =>
    clear HR
    obtain ⟨i, hin, hgg, hi2, rfl, rfl, HR, HW⟩ := hrel
    by_cases hlt : i < n - 1 - i
    · obtain ⟨j, hjn⟩ : ∃ j : Nat, j + i + 1 = n := ⟨n - 1 - i, by omega⟩
      have hj : (n : Int) - 1 - i = (j : Int) := by omega
      have hj1 : j ≤ 1048576 := by omega
      have hj2 : (j : Int) - 1 = (n : Int) - 1 - ((i + 1 : Nat) : Int) := by omega
      rw [hj]
      have q1 : ((i : Int) < (j : Int)) = True := eq_true (by omega)
      have q2 : (0 ≤ (i : Int)) = True := eq_true (by omega)
      have q3 : ((i : Int) < (n : Int)) = True := eq_true (by omega)
      have q4 : (0 ≤ (j : Int)) = True := eq_true (by omega)
      have q5 : ((j : Int) < (n : Int)) = True := eq_true (by omega)
      have hi0 := (HR.out i (by omega))
      have hj0 := (HR.out j (by omega))
      rw [show revF f n i i = f i by unfold revF; rw [if_neg (by omega)]] at hi0
      rw [show revF f n i j = f j by unfold revF; rw [if_neg (by omega)]] at hj0
      obtain ⟨ci, fi⟩ := hi0
      obtain ⟨cj, fj⟩ := hj0
      have hne : ¬ i = j := by omega
      have hwi : wrap64 ((i : Int) + 1) = ((i + 1 : Nat) : Int) := by unfold wrap64; omega
      have hwj : wrap64 ((j : Int) - 1) = (n : Int) - 1 - ((i + 1 : Nat) : Int) := (wr_sub j hj1).trans hj2
      have HJ := Aside0.mk (And.intro hjn hj2)
      clear hj2 hjn hj1 hj
      have hset2 : ∀ m x, ((wr.drewN m).setCell ⟨B, i, none⟩ (.int .u8 x)).cell? ⟨B, j, none⟩ = some (.int .u8 (f j)) := fun m x => by
        rw [show ((wr.drewN m).setCell ⟨B, i, none⟩ (.int .u8 x)).cell? ⟨B, j, none⟩ = (wr.drewN m).cell? ⟨B, j, none⟩ from by apply World.cell?_setCell_other; intro h2; injection h2 with _ h3 _; exact hne h3]
        exact cj
      go_wp2_with fail
      go_region_o
      go_wp2
      go_roundg (n - (i + 1))
      case measure => omega
      case rel =>
        refine ⟨i + 1, by omega, by omega, by omega, by simp, ?_, ⟨?_⟩, ⟨?_⟩⟩
        · have e1 := HJ.out.2
          first | rw [hwj] | rw [e1] | simp [e1]
        · refine RowF.below (W := (wr.setCell ⟨B, i, none⟩ (.int .u8 (f j))).setCell ⟨B, j, none⟩ (.int .u8 (f i))) (RowF.congr ((HR.out.set i (by have := HJ.out.1; omega) (f j)).set j (by have := HJ.out.1; omega) (f i)) ?_) (Below.refl _ _).drew
          intro t ht
          unfold revF
          have e0 := HJ.out.1
          have e2 : n - 1 - i = j := by omega
          have e3 : n - 1 - j = i := by omega
          by_cases h1 : t = j
          · subst h1; rw [if_pos rfl, if_pos (by omega), e3]
          · by_cases h2 : t = i
            · subst h2; rw [if_neg h1, if_pos rfl, if_pos (by omega), e2]
            · rw [if_neg h1, if_neg h2]
              by_cases h3 : t < i ∨ n - i ≤ t
              · rw [if_pos h3, if_pos (by omega)]
              · rw [if_neg h3, if_neg (by omega)]
        · exact (((HW.out.setCell (p := ⟨B, i, none⟩) hb _).setCell (p := ⟨B, j, none⟩) hb _)).drew
    · have q1 : ((i : Int) < (n : Int) - 1 - i) = False := eq_false (by omega)
      go_wp2_with fail
      go_end0
      refine ⟨rfl, RowF.congr HR.out ?_, HW.out, HW.out.size⟩
      intro t ht
      unfold revF
      by_cases h3 : t < i ∨ n - i ≤ t
      · rw [if_pos h3]
      · rw [if_neg h3, show n - 1 - t = t by omega]

/-! ### cmp_isNaN_byte: function 73 -/
def cmp_isNaN_byte.f (a0 : Int) : Option (Bool) := some (a0 != a0)
set_option maxHeartbeats 8000000 in
set_option maxRecDepth 100000 in
theorem cmp_isNaN_byte.calls (a0 : Int) (r : Bool) (w : World) (h : cmp_isNaN_byte.f a0 = some r) :
    Calls Tryd.prog 73 #[.int .u8 a0] w fun e w' => e = .returned (.bool r) ∧ Drawn0 w w' := by
  have H : (some (a0 != a0)) = some r := h
  clear h
  obtain rfl := Option.some.inj H
  go_enter Tryd.func73, Tryd.ntmps73
  go_wp2
  go_ret
  exact ⟨by first | rfl | (simp; done) | (simp [*]; done), by repeat (first | exact Drawn0.refl _ | apply Drawn0.step)⟩

/-! ### cmp_Less_byte: function 53 -/
def cmp_Less_byte.f (a0 : Int) (a1 : Int) : Option (Bool) := (cmp_isNaN_byte.f a0).bind fun t108 => (if t108 = true then ((cmp_isNaN_byte.f a1).bind fun t109 => (if t109 = true then (some (decide (a0 < a1))) else (some true))) else (some (decide (a0 < a1))))
set_option maxHeartbeats 8000000 in
set_option maxRecDepth 100000 in
theorem cmp_Less_byte.calls (a0 : Int) (a1 : Int) (r : Bool) (w : World) (h : cmp_Less_byte.f a0 a1 = some r) :
    Calls Tryd.prog 53 #[.int .u8 a0, .int .u8 a1] w fun e w' => e = .returned (.bool r) ∧ Drawn0 w w' := by
  have H : ((cmp_isNaN_byte.f a0).bind fun t108 => (if t108 = true then ((cmp_isNaN_byte.f a1).bind fun t109 => (if t109 = true then (some (decide (a0 < a1))) else (some true))) else (some (decide (a0 < a1))))) = some r := h
  clear h
  replace H := Option.bind_eq_some_iff.mp H
  obtain ⟨t108, A30, H⟩ := H
  replace H : (if t108 = true then ((cmp_isNaN_byte.f a1).bind fun t109 => (if t109 = true then (some (decide (a0 < a1))) else (some true))) else (some (decide (a0 < a1)))) = some r := H
  have A3 := Aside0.mk A30
  clear A30
  by_cases c4 : t108 = true
  · subst c4
    have H1 : ((cmp_isNaN_byte.f a1).bind fun t109 => (if t109 = true then (some (decide (a0 < a1))) else (some true))) = some r := by rw [if_pos rfl] at H; exact H
    clear H
    have H := H1
    clear H1
    replace H := Option.bind_eq_some_iff.mp H
    obtain ⟨t109, A50, H⟩ := H
    replace H : (if t109 = true then (some (decide (a0 < a1))) else (some true)) = some r := H
    have A5 := Aside0.mk A50
    clear A50
    by_cases c6 : t109 = true
    · subst c6
      have H1 : (some (decide (a0 < a1))) = some r := by rw [if_pos rfl] at H; exact H
      clear H
      have H := H1
      clear H1
      obtain rfl := Option.some.inj H
      go_enter Tryd.func53, Tryd.ntmps53
      go_wp2_with (first | ((with_reducible refine gate_callee (f := 73) rfl ?_); refine goesL_ (some 6) rfl rfl Tryd.func73 (by kernel_rfl) rfl #[.int .u8 a0] rfl (by (try simp only [List.map_toArray, List.map_cons, List.map_nil]); first | done | rfl | (simp only [List.length_drop, List.length_take]; rfl)) ?_; (with_reducible refine (cmp_isNaN_byte.calls a0 true _ A3.out).mono ?_); rintro e w' ⟨rfl, ⟨nd, rfl⟩⟩; refine ⟨_, rfl, ?_⟩) | (go_at_call 73; (with_reducible refine (cmp_isNaN_byte.calls a1 true _ A5.out).mono ?_); rintro e w' ⟨rfl, ⟨nd, rfl⟩⟩))
      go_ret
      exact ⟨by first | rfl | (simp; done) | (simp [*]; done), by repeat (first | exact Drawn0.refl _ | apply Drawn0.step)⟩
    · replace c6 := Bool.eq_false_iff.mpr c6
      subst c6
      have H1 : (some true) = some r := by rw [if_neg (show ¬ (false = true) by decide)] at H; exact H
      clear H
      have H := H1
      clear H1
      obtain rfl := Option.some.inj H
      go_enter Tryd.func53, Tryd.ntmps53
      go_wp2_with (first | ((with_reducible refine gate_callee (f := 73) rfl ?_); refine goesL_ (some 6) rfl rfl Tryd.func73 (by kernel_rfl) rfl #[.int .u8 a0] rfl (by (try simp only [List.map_toArray, List.map_cons, List.map_nil]); first | done | rfl | (simp only [List.length_drop, List.length_take]; rfl)) ?_; (with_reducible refine (cmp_isNaN_byte.calls a0 true _ A3.out).mono ?_); rintro e w' ⟨rfl, ⟨nd, rfl⟩⟩; refine ⟨_, rfl, ?_⟩) | (go_at_call 73; (with_reducible refine (cmp_isNaN_byte.calls a1 false _ A5.out).mono ?_); rintro e w' ⟨rfl, ⟨nd, rfl⟩⟩))
      go_ret
      exact ⟨by first | rfl | (simp; done) | (simp [*]; done), by repeat (first | exact Drawn0.refl _ | apply Drawn0.step)⟩
  · replace c4 := Bool.eq_false_iff.mpr c4
    subst c4
    have H1 : (some (decide (a0 < a1))) = some r := by rw [if_neg (show ¬ (false = true) by decide)] at H; exact H
    clear H
    have H := H1
    clear H1
    obtain rfl := Option.some.inj H
    go_enter Tryd.func53, Tryd.ntmps53
    go_wp2_with (first | ((with_reducible refine gate_callee (f := 73) rfl ?_); refine goesL_ (some 6) rfl rfl Tryd.func73 (by kernel_rfl) rfl #[.int .u8 a0] rfl (by (try simp only [List.map_toArray, List.map_cons, List.map_nil]); first | done | rfl | (simp only [List.length_drop, List.length_take]; rfl)) ?_; (with_reducible refine (cmp_isNaN_byte.calls a0 false _ A3.out).mono ?_); rintro e w' ⟨rfl, ⟨nd, rfl⟩⟩; refine ⟨_, rfl, ?_⟩))
    go_ret
    exact ⟨by first | rfl | (simp; done) | (simp [*]; done), by repeat (first | exact Drawn0.refl _ | apply Drawn0.step)⟩

-- given: slices.insertionSortOrdered[byte]

/-! ### slices.insertionSortOrdered at byte, on a row that a conversion made: by hand -/
def slices_insertionSortOrdered_byte.f (k : Nat) : Option Unit := none
def upTo (ys : List Int) (i : Nat) : Prop := ∀ s t, s < t → t < i → t < ys.length → ys.getD s 0 ≤ ys.getD t 0
def butAt (ys : List Int) (i j : Nat) : Prop := ∀ s t, s < t → t ≤ i → t ≠ j → ys.getD s 0 ≤ ys.getD t 0
theorem less_is (x y : Int) : cmp_Less_byte.f x y = some (decide (x < y)) := by
  unfold cmp_Less_byte.f cmp_isNaN_byte.f
  simp
def swap2 (ys : List Int) (j m : Nat) : List Int := (ys.set j (ys.getD m 0)).set m (ys.getD j 0)
theorem swap2_len (ys : List Int) (j m : Nat) : (swap2 ys j m).length = ys.length := by simp [swap2]
theorem swap2_perm (ys : List Int) (j m : Nat) (hj : j < ys.length) (hm : m < ys.length) : (swap2 ys j m).Perm ys := by
  have h := List.set_set_perm hj hm
  unfold swap2
  rw [show ys.getD m 0 = ys[m] by simp [hm], show ys.getD j 0 = ys[j] by simp [hj]]
  exact h
theorem swap2_at (ys : List Int) (j m t : Nat) (hj : j < ys.length) (hm : m < ys.length) (ht : t < ys.length) : (swap2 ys j m).getD t 0 = if t = m then ys.getD j 0 else if t = j then ys.getD m 0 else ys.getD t 0 := by
  unfold swap2
  rw [List.getD_eq_getElem?_getD, List.getElem?_set]
  by_cases h1 : m = t
  · subst h1
    rw [if_pos rfl, if_pos (by simpa using hm), if_pos rfl]
    rfl
  · rw [if_neg h1, if_neg (fun e => h1 e.symm), List.getElem?_set]
    by_cases h2 : j = t
    · subst h2
      rw [if_pos rfl, if_pos hj, if_pos rfl]
      rfl
    · rw [if_neg h2, if_neg (fun e => h2 e.symm), ← List.getD_eq_getElem?_getD]
theorem butAt_start (ys : List Int) (i : Nat) (h : upTo ys i) (hi : i < ys.length) : butAt ys i i := fun s t h1 h2 h3 => h s t h1 (by omega) (by omega)
theorem butAt_end (ys : List Int) (i j : Nat) (h : butAt ys i j) (hj : j = 0 ∨ ∃ m, m + 1 = j ∧ ys.getD m 0 ≤ ys.getD j 0) : upTo ys (i + 1) := by
  intro s t h1 h2 _
  by_cases e : t = j
  · rcases hj with hj | ⟨m, hm, hle⟩
    · omega
    · subst e
      by_cases e2 : s = m
      · rw [e2]; exact hle
      · exact Int.le_trans (h s m (by omega) (by omega) (by omega)) hle
  · exact h s t h1 (by omega) e
theorem butAt_step (ys : List Int) (i j m : Nat) (hm : m + 1 = j) (hi : i < ys.length) (hj : j ≤ i) (h : butAt ys i j) (hlt : ys.getD j 0 < ys.getD m 0) : butAt (swap2 ys j m) i m := by
  intro s t h1 h2 h3
  rw [swap2_at ys j m s (by omega) (by omega) (by omega), swap2_at ys j m t (by omega) (by omega) (by omega), if_neg h3]
  by_cases e : t = j
  · rw [if_pos e]
    by_cases e2 : s = m
    · rw [if_pos e2]; omega
    · rw [if_neg e2, if_neg (by omega)]
      exact h s m (by omega) (by omega) (by omega)
  · rw [if_neg e]
    by_cases e2 : s = m
    · rw [if_pos e2]
      exact h j t (by omega) h2 e
    · rw [if_neg e2]
      by_cases e3 : s = j
      · rw [if_pos e3]
        exact h m t (by omega) h2 e
      · rw [if_neg e3]
        exact h s t h1 h2 e
set_option maxHeartbeats 4000000 in
set_option maxRecDepth 100000 in
theorem ins_calls (B n c0 base : Nat) (xs : List Int) (w : World) (hxl : xs.length = n) (hn : n ≤ 1000) (h : RowF w B n (fun t => xs.getD t 0)) (hb : base ≤ B) (hbw : base ≤ w.heap.size) :
    Calls Tryd.prog 47 #[.slice (some ⟨B, 0, none⟩) n c0, .int .i64 0, .int .i64 n] w fun e w' => e = .returned (.tuple #[]) ∧ (∃ ys : List Int, ys.Perm xs ∧ upTo ys n ∧ RowF w' B n (fun t => ys.getD t 0)) ∧ Below base w w' ∧ w.heap.size ≤ w'.heap.size := by
  have mixed : Tryd.prog.follows .mixedOrders = true := by kernel_rfl
  have HR := Aside0.mk h
  clear h
  go_enter Tryd.func47, Tryd.ntmps47
  go_wp2_with fail
  go_loopg [6] n (fun gg v6 wr => ∃ (i : Nat) (ys : List Int), i ≤ n + 1 ∧ n + 1 - i ≤ gg ∧ v6 = .int .i64 i ∧ ys.length = n ∧ Aside0 (ys.Perm xs) ∧ Aside0 (upTo ys i) ∧ Aside0 (RowF wr B n (fun t => ys.getD t 0)) ∧ Aside0 (Below base w wr))
  case atStart => exact ⟨1, xs, by omega, by omega, rfl, hxl, ⟨List.Perm.refl _⟩, ⟨fun s t h1 h2 => by omega⟩, HR, ⟨Below.refl _ _⟩⟩
  case round =>
    clear HR
    obtain ⟨i, ys, hin, hgg, rfl, hyl, HP, HU, HR, HW⟩ := hrel
    by_cases hlt : i < n
    · have c1 : ((i : Int) < (n : Int)) = True := eq_true (by omega)
      have HI0 := Aside0.mk (butAt_start ys i HU.out (by omega))
      go_wp2_with fail
      go_loopg [7] i (fun gg v7 w' => ∃ (j : Nat) (zs : List Int), j ≤ i ∧ j ≤ gg ∧ v7 = .int .i64 j ∧ zs.length = n ∧ Aside0 (zs.Perm xs) ∧ Aside0 (butAt zs i j) ∧ Aside0 (RowF w' B n (fun t => zs.getD t 0)) ∧ Aside0 (Below base w w'))
      case atStart => exact ⟨i, ys, by omega, by omega, rfl, hyl, HP, HI0, HR, HW⟩
      case round =>
        clear HP HI0 HR HW HU
        obtain ⟨j, zs, hji, hgj, rfl, hzl, HP, HI, HR, HW⟩ := hrel
        by_cases hj0 : 0 < j
        · obtain ⟨m, hmj⟩ : ∃ m : Nat, m + 1 = j := ⟨j - 1, by omega⟩
          have p0 : decide ((0 : Int) < (j : Int)) = true := decide_eq_true (by omega)
          have p1 : (0 ≤ (j : Int)) = True := eq_true (by omega)
          have p2 : ((j : Int) < (n : Int)) = True := eq_true (by omega)
          have p3 : (0 ≤ (m : Int)) = True := eq_true (by omega)
          have p4 : ((m : Int) < (n : Int)) = True := eq_true (by omega)
          have e1 : wrap64 ((j : Int) - 1) = (m : Int) := by unfold wrap64; omega
          have e2 : IntKind.i64.wrap ((j : Int) - 1) = (m : Int) := (i64_w _).trans e1
          have cj : wr.cell? ⟨B, j, none⟩ = some (.int .u8 (zs.getD j 0)) := (HR.out j (by omega)).1
          have fj : wr.frozen? ⟨B, j, none⟩ = false := (HR.out j (by omega)).2
          have cm : wr.cell? ⟨B, m, none⟩ = some (.int .u8 (zs.getD m 0)) := (HR.out m (by omega)).1
          have fm : wr.frozen? ⟨B, m, none⟩ = false := (HR.out m (by omega)).2
          have hne : ¬ j = m := by omega
          have HSW := Aside0.mk (swap2_perm zs j m (by omega) (by omega))
          have HSA := Aside0.mk (fun t (ht : t < zs.length) => swap2_at zs j m t (by omega) (by omega) ht)
          have HST := Aside0.mk (butAt_step zs i j m hmj (by omega) hji HI.out)
          have HEN := Aside0.mk (butAt_end zs i j HI.out)
          have HMJ := Aside0.mk hmj
          have hset : ∀ k x, ((wr.drewN k).setCell ⟨B, j, none⟩ (.int .u8 x)).cell? ⟨B, m, none⟩ = some (.int .u8 (zs.getD m 0)) := fun k x => by
            rw [show ((wr.drewN k).setCell ⟨B, j, none⟩ (.int .u8 x)).cell? ⟨B, m, none⟩ = (wr.drewN k).cell? ⟨B, m, none⟩ from by apply World.cell?_setCell_other; intro h2; injection h2 with _ h3 _; exact hne h3]
            exact cm
          have HL := Aside0.mk (less_is (zs.getD j 0) (zs.getD m 0))
          clear hmj e1
          generalize hxj : zs.getD j 0 = xj at cj HSA HST HEN HL
          generalize hxm : zs.getD m 0 = xm at cm HSA HST HEN HL hset
          cases hq : decide (xj < xm) with
          | true =>
            rw [hq] at HL
            have HQ := Aside0.mk hq
            clear hq
            go_wp2_with fail
            go_quiet (first | (go_at_call 53; exact Calls.quiet_of ((cmp_Less_byte.calls xj xm true _ HL.out).mono (fun _ _ ⟨he, ⟨nd, hw⟩⟩ => ⟨he, nd, hw⟩))))
            go_wp2_with fail
            go_region_o
            go_wp2
            go_roundg m
            case measure => have := HMJ.out; omega
            case rel =>
              have hmj := HMJ.out
              refine ⟨m, swap2 zs j m, by omega, by omega, by first | rfl | simp, by rw [swap2_len]; exact hzl, ⟨HSW.out.trans HP.out⟩, ⟨HST.out (of_decide_eq_true HQ.out)⟩, ⟨?_⟩, ⟨?_⟩⟩
              · refine RowF.congr (((RowF.below HR.out (pw_below_drewN (Below.refl _ _) (nq + 1))).set j (by omega) xm).set m (by omega) xj) (fun t ht => ?_)
                rw [HSA.out t (by omega)]
              · exact ((pw_below_drewN HW.out (nq + 1)).setCell (p := ⟨B, j, none⟩) hb _).setCell (p := ⟨B, m, none⟩) hb _
          | false =>
            rw [hq] at HL
            have HQ := Aside0.mk hq
            clear hq
            go_wp2_with fail
            go_quiet (first | (go_at_call 53; exact Calls.quiet_of ((cmp_Less_byte.calls xj xm false _ HL.out).mono (fun _ _ ⟨he, ⟨nd, hw⟩⟩ => ⟨he, nd, hw⟩))))
            go_wp2_with fail
            go_roundg (n - i)
            case measure => omega
            case rel =>
              refine ⟨i + 1, zs, by omega, by omega, by go_num, hzl, HP, ⟨HEN.out (.inr ⟨m, HMJ.out, ?_⟩)⟩, ⟨?_⟩, ⟨?_⟩⟩
              · have := of_decide_eq_false HQ.out; omega
              · exact RowF.below HR.out (by repeat (first | exact Below.refl _ _ | apply below_alloc | apply pw_below_drewN))
              · exact pw_below_drewN HW.out _
        · have p0 : decide ((0 : Int) < (j : Int)) = false := decide_eq_false (by omega)
          go_wp2_with fail
          go_quiet (fail)
          go_wp2_with fail
          go_roundg (n - i)
          case measure => omega
          case rel =>
            refine ⟨i + 1, zs, by omega, by omega, by go_num, hzl, HP, ⟨butAt_end zs i j HI.out (.inl (by omega))⟩, ⟨?_⟩, ⟨?_⟩⟩
            · exact RowF.below HR.out (by repeat (first | exact Below.refl _ _ | apply below_alloc | apply pw_below_drewN))
            · exact pw_below_drewN HW.out _
    · have c1 : ((i : Int) < (n : Int)) = False := eq_false (by omega)
      go_wp2_with fail
      go_end0
      exact ⟨rfl, ⟨ys, HP.out, fun s t h1 h2 h3 => HU.out s t h1 (by omega) h3, HR.out⟩, HW.out, HW.out.size⟩

-- given: part dsc

/-! ### bytes in descending order: lists -/
theorem strOf_map (t : ByteArray) : strOfNums (t.data.toList.map fun x => (x.toNat : Int)) = t := by
  rcases t with ⟨⟨l⟩⟩
  simp [strOfNums, Function.comp_def]
def dscF : List UInt8 → List UInt8 → List UInt8
  | [], _ => []
  | c :: cs, l => dscF cs l ++ l.filter (fun x => x == c)
def dig9 : List UInt8 := (List.range' 49 9).map Nat.toUInt8
theorem dsc_perm {l m : List UInt8} (h : l.Perm m) : ∀ cs : List UInt8, dscF cs l = dscF cs m
  | [] => rfl
  | c :: cs => by rw [dscF, dscF, dsc_perm h cs, List.filter_beq, List.filter_beq, h.count_eq]
theorem dsc_skip (c : UInt8) (l : List UInt8) : ∀ cs : List UInt8, c ∉ cs → dscF cs (l.filter (fun x => x != c)) = dscF cs l
  | [], _ => rfl
  | d :: cs, h => by
    rw [List.mem_cons, not_or] at h
    rw [dscF, dscF, dsc_skip c l cs h.2, List.filter_filter]
    congr 1
    refine List.filter_congr fun x _ => ?_
    by_cases e : x = d
    · subst e
      have : x ≠ c := fun e => h.1 e.symm
      simp [this]
    · simp [e]
theorem dsc_split (c : UInt8) : ∀ r : List UInt8, r.Pairwise (fun a b => b.toNat ≤ a.toNat) → (∀ x ∈ r, c.toNat ≤ x.toNat) → r = r.filter (fun x => x != c) ++ r.filter (fun x => x == c)
  | [], _, _ => rfl
  | x :: r, hp, hc => by
    rw [List.pairwise_cons] at hp
    by_cases e : x = c
    · subst e
      have hall : ∀ y ∈ r, y = x := fun y hy => by
        have h1 := hp.1 y hy
        have h2 := hc y (List.mem_cons_of_mem _ hy)
        exact UInt8.toNat_inj.1 (by omega)
      have h1 : (x :: r).filter (fun y => y != x) = [] := by
        rw [List.filter_eq_nil_iff]
        intro y hy
        rw [List.mem_cons] at hy
        rcases hy with rfl | hy
        · simp
        · rw [hall y hy]; simp
      have h2 : (x :: r).filter (fun y => y == x) = x :: r := by
        rw [List.filter_eq_self]
        intro y hy
        rw [List.mem_cons] at hy
        rcases hy with rfl | hy
        · simp
        · rw [hall y hy]; simp
      rw [h1, h2, List.nil_append]
    · have ih := dsc_split c r hp.2 (fun y hy => hc y (List.mem_cons_of_mem _ hy))
      rw [List.filter_cons, if_pos (by simpa using e), List.filter_cons, if_neg (by simpa using e), List.cons_append, ← ih]
theorem dsc_self : ∀ (cs : List UInt8), cs.Pairwise (fun a b => a.toNat < b.toNat) → ∀ r : List UInt8, r.Pairwise (fun a b => b.toNat ≤ a.toNat) → (∀ x ∈ r, x ∈ cs) → dscF cs r = r
  | [], _, r, _, h => by
    have : r = [] := List.eq_nil_iff_forall_not_mem.2 fun x hx => by simpa using h x hx
    subst this
    rfl
  | c :: cs, hcs, r, hr, h => by
    rw [List.pairwise_cons] at hcs
    have hnot : c ∉ cs := fun hm => Nat.lt_irrefl _ (hcs.1 c hm)
    have hs := dsc_split c r hr (fun x hx => by
      have := h x hx
      rw [List.mem_cons] at this
      rcases this with rfl | this
      · exact Nat.le_refl _
      · exact Nat.le_of_lt (hcs.1 x this))
    have ih := dsc_self cs hcs.2 (r.filter (fun x => x != c)) (hr.filter _) (fun x hx => by
      rw [List.mem_filter] at hx
      have := h x hx.1
      rw [List.mem_cons] at this
      rcases this with rfl | this
      · simp at hx
      · exact this)
    rw [dsc_skip c r cs hnot] at ih
    rw [dscF, ih]
    exact hs.symm
theorem dsc_nums (l : List UInt8) (ys : List Int) (hd : ∀ x ∈ l, x ∈ dig9) (hp : ys.Perm (l.map fun x => (x.toNat : Int))) (hu : ∀ s t, s < t → t < ys.length → ys.getD s 0 ≤ ys.getD t 0) : (dscF dig9 l).map (fun x => (x.toNat : Int)) = ys.reverse := by
  have hmem : ∀ y ∈ ys, ∃ x ∈ l, (x.toNat : Int) = y := fun y hy => List.mem_map.1 (hp.mem_iff.1 hy)
  have hys : (ys.map fun y => UInt8.ofNat y.toNat).map (fun x => (x.toNat : Int)) = ys := by
    rw [List.map_map]
    conv => rhs; rw [← List.map_id ys]
    refine List.map_congr_left fun y hy => ?_
    obtain ⟨x, _, rfl⟩ := hmem y hy
    simp
  have hpm : (ys.map fun y => UInt8.ofNat y.toNat).Perm l := by
    have h1 := hp.map (fun y => UInt8.ofNat y.toNat)
    rw [List.map_map] at h1
    have h2 : l.map ((fun y => UInt8.ofNat (Int.toNat y)) ∘ fun x => (x.toNat : Int)) = l := by
      conv => rhs; rw [← List.map_id l]
      refine List.map_congr_left fun x _ => by simp
    rwa [h2] at h1
  generalize hm : (ys.map fun y => UInt8.ofNat y.toNat) = m at hys hpm
  have hml : m.length = ys.length := by rw [← hm, List.length_map]
  have hasc : m.reverse.Pairwise (fun a b => b.toNat ≤ a.toNat) := by
    rw [List.pairwise_reverse, List.pairwise_iff_getElem]
    intro i j hi hj hij
    have h1 := hu i j hij (by omega)
    rw [← hys] at h1
    simp only [List.getD_eq_getElem?_getD, List.getElem?_map, List.getElem?_eq_getElem hi, List.getElem?_eq_getElem hj, Option.map_some, Option.getD_some] at h1
    omega
  have hself := dsc_self dig9 (by decide) m.reverse hasc (fun x hx => hd x (hpm.mem_iff.1 (List.mem_reverse.1 hx)))
  rw [dsc_perm ((List.reverse_perm m).trans hpm) dig9] at hself
  rw [hself, List.map_reverse, hys]

-- given: slices.Sort[[]byte,byte]

/-! ### slices.Sort at byte, of at most 12 bytes: by hand -/
def slices_Sort.f (k : Nat) : Option Unit := none
set_option maxHeartbeats 4000000 in
set_option maxRecDepth 100000 in
theorem pdq_calls (B n c0 base : Nat) (lim : Int) (xs : List Int) (w : World) (hxl : xs.length = n) (hn : n ≤ 12) (h : RowF w B n (fun t => xs.getD t 0)) (hb : base ≤ B) (hbw : base ≤ w.heap.size) :
    Calls Tryd.prog 36 #[.slice (some ⟨B, 0, none⟩) n c0, .int .i64 0, .int .i64 n, .int .i64 lim] w fun e w' => e = .returned (.tuple #[]) ∧ (∃ ys : List Int, ys.Perm xs ∧ upTo ys n ∧ RowF w' B n (fun t => ys.getD t 0)) ∧ Below base w w' ∧ w.heap.size ≤ w'.heap.size := by
  have HI := Aside0.mk (ins_calls B n c0 base xs w hxl (by omega) h hb hbw)
  clear h
  have p0 : wrap64 ((n : Int) - 0) = (n : Int) := by unfold wrap64; omega
  have p1 : wrap64 (n : Int) = (n : Int) := by unfold wrap64; omega
  have p2 : ((n : Int) ≤ 12) = True := eq_true (by omega)
  have p3 : decide ((n : Int) ≤ 12) = true := decide_eq_true (by omega)
  go_enter Tryd.func36, Tryd.ntmps36
  go_wp2_with fail
  go_loopg [1, 2, 3, 8, 9] 0 (fun gg v1 v2 v3 v8 v9 wr => v1 = .int .i64 0 ∧ v2 = .int .i64 n ∧ wr = w)
  case atStart => exact ⟨rfl, rfl, rfl⟩
  case round =>
    obtain ⟨rfl, rfl, rfl⟩ := hrel
    go_wp2_with (go_at_call 47; refine HI.out.mono ?_; rintro e w2 ⟨rfl, hy2, hb2, hs2⟩; have HY2 := Aside0.mk hy2; have HB2 := Aside0.mk hb2; have HS2 := Aside0.mk hs2; clear hy2 hb2 hs2)
    (try simp only [Exit.inBlock, Exit.then])
    refine bodyPost_ret (results_none rfl _ _ _) rfl ?_
    exact ⟨rfl, HY2.out, HB2.out, HS2.out⟩
theorem sort_calls (B n c0 base : Nat) (xs : List Int) (w : World) (hxl : xs.length = n) (hn : n ≤ 12) (h : RowF w B n (fun t => xs.getD t 0)) (hb : base ≤ B) (hbw : base ≤ w.heap.size) :
    Calls Tryd.prog 30 #[.slice (some ⟨B, 0, none⟩) n c0] w fun e w' => e = .returned (.tuple #[]) ∧ (∃ ys : List Int, ys.Perm xs ∧ upTo ys n ∧ RowF w' B n (fun t => ys.getD t 0)) ∧ Below base w w' ∧ w.heap.size ≤ w'.heap.size := by
  have HI := Aside0.mk (fun lim => pdq_calls B n c0 base lim xs w hxl hn h hb hbw)
  clear h
  have p0 : IntKind.u64.wrap (n : Int) = (n : Int) := by simp [IntKind.wrap, IntKind.bits, IntKind.signed]; omega
  go_enter Tryd.func30, Tryd.ntmps30
  go_wp2_with (first | (go_at_call 37; refine (Any.bits_Len Tryd.lays125 (n : Int) _ (by omega) (by omega)).mono ?_; rintro e w1 ⟨rfl, rfl⟩) | (go_at_call 36; refine (HI.out _).mono ?_; rintro e w2 ⟨rfl, hy2, hb2, hs2⟩; have HY2 := Aside0.mk hy2; have HB2 := Aside0.mk hb2; have HS2 := Aside0.mk hs2; clear hy2 hb2 hs2))
  go_end0
  exact ⟨rfl, HY2.out, HB2.out, HS2.out⟩
theorem rowF_made (w : World) (e : TypeId) (s : ByteArray) : RowF (Lib.bytesWorld w e s) w.heap.size s.size (fun t => (s.data.toList.map fun x => (x.toNat : Int)).getD t 0) :=
  RowF.congr (RowF.made w e s) (fun t ht => by
    rw [List.getD_eq_getElem?_getD, List.getD_eq_getElem?_getD, List.getElem?_map, List.getElem?_eq_getElem (show t < s.data.toList.length from ht)]
    rfl)
/-- what a row of digits, sorted and reversed, is as a text -/
theorem conv_dsc (W : World) (B n cap : Nat) (l : List UInt8) (ys : List Int) (hl : l.length = n) (hd : ∀ x ∈ l, x ∈ dig9) (hp : ys.Perm (l.map fun x => (x.toNat : Int))) (hu : upTo ys n) (h : RowF W B n (fun t => ys.getD (n - 1 - t) 0)) :
    (convert 38 9 (.slice (some ⟨B, 0, none⟩) n cap)).run Tryd.prog W = .ok (.string ⟨(dscF dig9 l).toArray⟩) W := by
  have hyl : ys.length = n := by rw [hp.length_eq, List.length_map, hl]
  have hz := dsc_nums l ys hd hp (fun s t h1 h2 => hu s t h1 (by omega) h2)
  have hzl : ys.reverse.length = n := by rw [List.length_reverse, hyl]
  have h1 := run_convert_bytes_arg W 38 5 Tryd.underlying38 Tryd.underlying5 B 0 n cap ys.reverse hzl (fun i hi => by
    rw [Nat.zero_add, (h i hi).1]
    congr 2
    show ys.getD (n - 1 - i) 0 = _
    rw [List.getD_eq_getElem?_getD, List.getD_eq_getElem?_getD, List.getElem?_reverse (by omega), hyl]) 9 Tryd.underlying9
  rw [h1, ← hz]
  congr 2
  have := strOf_map ⟨(dscF dig9 l).toArray⟩
  rw [show (⟨(dscF dig9 l).toArray⟩ : ByteArray).data.toList = dscF dig9 l by simp] at this
  exact this

-- given: strings.IndexByte

/-! ### strings.IndexByte, by its contract -/
def strings_IndexByte.f (a0 : ByteArray) (a1 : Int) : Option Int := some (Lib.indexByte a0.data.toList a1.toNat.toUInt8)
theorem strings_IndexByte.calls (a0 : ByteArray) (a1 : Int) (r : Int) (w : World) (h : strings_IndexByte.f a0 a1 = some r) :
    Calls Tryd.prog 34 #[.string a0, .int .u8 a1] w fun e w' => e = .returned (.int .i64 r) ∧ Drawn0 w w' := by
  obtain rfl := Option.some.inj h
  exact (Any.strings_IndexByte Tryd.lays137 a0 a1 w).mono fun e w' ⟨he, hw⟩ => ⟨he, hw ▸ Drawn0.refl _⟩

-- given: part cut1
/-! ### strings.Replace, where a byte is cut out: Count and Index read no variable there -/
def cutB (c : UInt8) : Nat → List UInt8 → List UInt8
  | _, [] => []
  | 0, l => l
  | g + 1, x :: t => if x = c then cutB c g t else x :: cutB c (g + 1) t
theorem cutB_zero (c : UInt8) (l : List UInt8) : cutB c 0 l = l := by cases l <;> rfl
theorem cut_split (c : UInt8) : ∀ l : List UInt8, 0 < l.count c → ∃ j : Nat, Lib.indexByte l c = (j : Int) ∧ j < l.length ∧ (∀ g, cutB c (g + 1) l = l.take j ++ cutB c g (l.drop (j + 1))) ∧ l.count c = (l.drop (j + 1)).count c + 1
  | [], h => by simp at h
  | x :: t, h => by
    by_cases hx : x = c
    · subst hx
      exact ⟨0, by simp [Lib.indexByte], by simp, fun g => by simp [cutB], by simp⟩
    · have ht : 0 < t.count c := by rwa [List.count_cons_of_ne hx] at h
      obtain ⟨j, h1, h2, h3, h4⟩ := cut_split c t ht
      refine ⟨j + 1, ?_, by simp; omega, fun g => ?_, ?_⟩
      · rw [Lib.indexByte, if_neg (by simpa using hx), h1, if_neg (by first | (simp; done) | (simp; omega))]
        omega
      · rw [cutB, if_neg hx, h3 g]
        simp
      · rw [List.count_cons_of_ne hx, h4]
        simp
theorem cut_all (c : UInt8) : ∀ l : List UInt8, cutB c (l.count c) l = l.filter (fun x => x != c)
  | [] => rfl
  | x :: t => by
    by_cases hx : x = c
    · subst hx
      rw [List.count_cons_self, cutB, if_pos rfl, cut_all x t]
      simp
    · have := cut_all c t
      rw [List.count_cons_of_ne hx]
      cases hn : t.count c with
      | zero =>
        rw [hn, cutB_zero] at this
        rw [cutB_zero, List.filter_cons, if_pos (by simpa using hx), ← this]
      | succ n => rw [hn] at this; rw [cutB, if_neg hx, this, List.filter_cons, if_pos (by simpa using hx)]
theorem cut_one (c : UInt8) : ∀ l : List UInt8, cutB c 1 l = l.erase c
  | [] => rfl
  | x :: t => by
    by_cases hx : x = c
    · subst hx; rw [cutB, if_pos rfl, cutB_zero]; simp
    · rw [cutB, if_neg hx, cut_one c t, List.erase_cons_tail (by simpa using hx)]
theorem cut_more (c : UInt8) : ∀ (l : List UInt8) (n m : Nat), l.count c ≤ n → l.count c ≤ m → cutB c n l = cutB c m l
  | [], n, m, _, _ => by cases n <;> cases m <;> rfl
  | x :: t, n, m, hn, hm => by
    by_cases hx : x = c
    · subst hx
      rw [List.count_cons_self] at hn hm
      obtain ⟨n, rfl⟩ : ∃ k, n = k + 1 := ⟨n - 1, by omega⟩
      obtain ⟨m, rfl⟩ : ∃ k, m = k + 1 := ⟨m - 1, by omega⟩
      rw [cutB, cutB, if_pos rfl, if_pos rfl, cut_more x t n m (by omega) (by omega)]
    · rw [List.count_cons_of_ne hx] at hn hm
      have e : ∀ k, cutB c k (x :: t) = x :: cutB c k t := by
        intro k
        cases k with
        | zero => rw [cutB_zero, cutB_zero]
        | succ k => rw [cutB, if_neg hx]
      rw [e, e, cut_more c t n m hn hm]
section
open Go.Shelf Go.Lib
variable {P : Program} {ρ : Ren}
set_option maxHeartbeats 16000000 in
set_option maxRecDepth 1000000 in
theorem cut_some (L : Lays.n154 P ρ) (X : Builder.Extra P ρ) (s old new : ByteArray) (c : UInt8) (n : Int) (K : Nat) (w : World)
    (hs : s.size ≤ 1048576) (hold : old = ⟨#[c]⟩) (hnew : new.data.toList = []) (hK1 : 1 ≤ K) (hKc : K ≤ s.data.toList.count c)
    (hcase : (K = s.data.toList.count c ∧ (n < 0 ∨ ((s.data.toList.count c : Nat) : Int) < n)) ∨ (n = (K : Int) ∧ ¬ (n < 0 ∨ ((s.data.toList.count c : Nat) : Int) < n))) :
    Calls P (ρ.f 154) #[.string s, .string old, .string new, .int .i64 n] w fun e w' =>
      e = .returned (.string ⟨(cutB c K s.data.toList).toArray⟩) ∧ Below w.heap.size w w' := by
  have hC : Calls P (ρ.f 138) #[.string s, .string old] w fun e w' => e = .returned (.int .i64 (Lib.countByte s.data.toList c)) ∧ w' = w := by
    subst hold
    exact Any.strings_Count_one { L with } s c w
  have HI : Aside0 (∀ (t : ByteArray) (v : World), Calls P (ρ.f 143) #[.string t, .string old] v fun e w' => e = .returned (.int .i64 (Lib.indexByte t.data.toList c)) ∧ w' = v) := by
    subst hold
    exact ⟨fun t v => Any.strings_Index_one { L with } t c v⟩
  have hos : old.size = 1 := by subst hold; rfl
  have hns : new.size = 0 := by rw [← ByteArray.size_data, ← Array.length_toList, hnew]; rfl
  have hne : old ≠ new := fun e => by rw [e] at hos; omega
  clear hold
  have hlen : s.data.toList.length = s.size := rfl
  have hcl : s.data.toList.count c ≤ s.size := List.count_le_length
  unfold Lib.countByte at hC
  generalize hcn : s.data.toList.count c = cn at hC hKc hcase hcl
  have hbeq : (old.toList == new.toList) = false := (Lib.bytes_beq_false_iff old new).2 hne
  have hcz : ((cn : Int) == 0) = false := beq_eq_false_iff_ne.2 (by omega)
  have hnz : (n == 0) = false := beq_eq_false_iff_ne.2 (by omega)
  have hod : decide (0 < old.size) = true := decide_eq_true (by omega)
  have ho0 : (0 : Int) < (old.size : Int) := by omega
  have hga := Lib.grow_arg s.size K new.size old.size hK1 (by rw [hos]; omega) (by rw [hns]; omega)
  have HT : Aside0 (K ≤ (s.data.toList.drop 0).count c) := ⟨by rw [List.drop_zero, hcn]; exact hKc⟩
  have HS : Aside0 (old.size = 1 ∧ new.size = 0 ∧ K * new.size = 0 ∧ K * old.size = K) := ⟨hos, hns, by rw [hns]; rfl, by rw [hos]; omega⟩
  clear hcn hos hns
  rcases hcase with ⟨rfl, hcase⟩ | ⟨rfl, hcase⟩
  all_goals (
    have mixed := L.mixed
    have t72 := L.t72; have a72 := L.a72; have z72 := L.z72; have v72 := L.v72; have u72 := run_underlying L.t72
    have t70 := L.t70; have a70 := L.a70; have z70 := L.z70; have v70 := L.v70; have u70 := run_underlying L.t70
    have t37 := L.t37; have a37 := L.a37; have z37 := L.z37; have v37 := L.v37; have u37 := run_underlying L.t37
    have t3 := L.t3; have a3 := L.a3; have z3 := L.z3; have v3 := L.v3; have u3 := run_underlying L.t3
    have t9 := L.t9; have a9 := L.a9; have z9 := L.z9; have v9 := L.v9; have u9 := run_underlying L.t9
    have t4 := L.t4; have a4 := L.a4; have z4 := L.z4; have v4 := L.v4; have u4 := run_underlying L.t4
    have e138 : ∀ args w, (callFunc (ρ.f 138) args).run P w = .ok (.enter (ρ.f 138) args) w := enters_of L.f138 (by kernel_rfl) rfl
    have e143 : ∀ args w, (callFunc (ρ.f 143) args).run P w = .ok (.enter (ρ.f 143) args) w := enters_of L.f143 (by kernel_rfl) rfl
    have e165 : ∀ args w, (callFunc (ρ.f 165) args).run P w = .ok (.enter (ρ.f 165) args) w := enters_of L.f165 (by kernel_rfl) rfl
    have e166 : ∀ args w, (callFunc (ρ.f 166) args).run P w = .ok (.enter (ρ.f 166) args) w := enters_of L.f166 (by kernel_rfl) rfl
    have e169 : ∀ args w, (callFunc (ρ.f 169) args).run P w = .ok (.enter (ρ.f 169) args) w := enters_of L.f169 (by kernel_rfl) rfl
    go_enter L.f154, Body.n154_ntmps ρ
    go_wp2_with (first | (go_at_fn (ρ.f 138); refine hC.mono ?_; rintro e w' ⟨rfl, hw⟩; rw [hw]))
    all_goals (
    clear hC
    try rw [hga]
    refine (Any.Builder_Grow_fresh { L with } X w.heap.size w.heap.size _ _ (Nat.le_refl _) (heap_alloc_new w _) (by simp) (by have hq := HS.out; omega)).mono ?_
    rintro e w1 ⟨rfl, hb0, hb1⟩
    have HB := Aside0.mk (Or.inr hb0 : Lib.IsBuilder (ρ.t 72) (ρ.t 5) w.heap.size w.heap.size (Lib.byteCells []) w1)
    have HW := Aside0.mk (((Below.refl w.heap.size w).alloc (Nat.le_refl _) _).trans hb1)
    clear hb0 hb1 hga
    go_wp2_with fail
    go_loopg [11, 53] K (fun g s11 s53 wx => ∃ (i start : Nat) (out : List UInt8), s53 = .int .i64 i ∧ s11 = .int .i64 start ∧ i + g = K ∧ start ≤ s.size ∧ out.length ≤ start ∧
      Aside0 (g ≤ (s.data.toList.drop start).count c) ∧ Aside0 (out ++ cutB c g (s.data.toList.drop start) = cutB c K s.data.toList) ∧ Aside0 (Lib.IsBuilder (ρ.t 72) (ρ.t 5) w.heap.size w.heap.size (Lib.byteCells out) wx) ∧ Aside0 (Below w.heap.size w wx))
    case atStart => exact ⟨0, 0, [], rfl, rfl, by omega, Nat.zero_le _, Nat.zero_le _, HT, ⟨by simp⟩, HB, HW⟩
    case round =>
      clear HB HW HT
      obtain ⟨i, start, out, rfl, rfl, hig, hst, hol, HT, HE, HB, HW⟩ := hrel
      have hBw : w.heap.size ≤ wr.heap.size := HW.out.size
      have q1 : (0 : Int) ≤ (start : Int) := by omega
      have q2 : (start : Int) ≤ (s.size : Int) := by omega
      cases gk with
      | zero =>
        have hiK : ¬ ((i : Int) < (K : Int)) := by omega
        go_wp2_with fail
        refine (Any.Builder_WriteString { L with } X w.heap.size w.heap.size _ _ wr HB.out (by rw [Lib.byteCells_length, ByteArray.size_extract]; omega) hBw).mono ?_
        rintro e w3 ⟨rfl, h3, hb3⟩
        have H3 : Aside0 (Lib.IsBuilder (ρ.t 72) (ρ.t 5) w.heap.size w.heap.size (Lib.byteCells (cutB c K s.data.toList)) w3) := by
          rw [Lib.strCells_eq, Lib.extract_to_end, ← Lib.byteCells_append] at h3
          have hf := HE.out
          rw [cutB_zero] at hf
          rw [hf] at h3
          exact ⟨Or.inr h3⟩
        have HW3 := Aside0.mk (HW.out.trans hb3)
        have hBw3 : w.heap.size ≤ w3.heap.size := HW3.out.size
        clear h3 hb3
        go_wp2_with fail
        refine (Any.Builder_String_any { L with } X w.heap.size w.heap.size _ w3 H3.out hBw3).mono ?_
        rintro e w5 ⟨rfl, hb5⟩
        have HW5 := Aside0.mk (HW3.out.trans hb5)
        clear hb5
        go_wp2
        go_ret
        exact ⟨rfl, HW5.out⟩
      | succ g =>
        have hiK : (i : Int) < (K : Int) := by omega
        obtain ⟨j, hj, hjl, hcut, hcnt⟩ := cut_split c (s.data.toList.drop start) (by have := HT.out; omega)
        rw [List.length_drop, hlen] at hjl
        have HC := Aside0.mk (And.intro (hcut g) hcnt)
        clear hcut hcnt
        have q3 : (start : Int) ≤ (start : Int) + (j : Int) := by omega
        have q4 : (start : Int) + (j : Int) ≤ (s.size : Int) := by omega
        go_wp2_with (first | (go_at_fn (ρ.f 143); refine (HI.out _ _).mono ?_; rintro e w' ⟨rfl, hw⟩; rw [hw, Lib.extract_to_end, hj]))
        refine (Any.Builder_WriteString { L with } X w.heap.size w.heap.size _ (s.extract start (start + j)) wr HB.out (by rw [Lib.byteCells_length, ByteArray.size_extract]; omega) hBw).mono ?_
        rintro e w3 ⟨rfl, h3, hb3⟩
        have hBw3 : w.heap.size ≤ w3.heap.size := Nat.le_trans hBw hb3.size
        have H3 := Aside0.mk h3
        have HW3 := Aside0.mk (HW.out.trans hb3)
        clear h3 hb3
        go_wp2_with fail
        refine (Any.Builder_WriteString { L with } X w.heap.size w.heap.size _ new w3 (Or.inr H3.out) (by rw [List.length_append, Lib.byteCells_length, Lib.strCells_length, ByteArray.size_extract, HS.out.2.1]; omega) hBw3).mono ?_
        rintro e w4 ⟨rfl, h4, hb4⟩
        have H4 : Aside0 (Lib.IsBuilder (ρ.t 72) (ρ.t 5) w.heap.size w.heap.size (Lib.byteCells (out ++ (s.data.toList.drop start).take j)) w4) := by
          rw [Lib.strCells_eq, Lib.strCells_eq, hnew, Lib.extract_data, Nat.add_sub_cancel_left, ← Lib.byteCells_append, ← Lib.byteCells_append, List.append_nil] at h4
          exact ⟨Or.inr h4⟩
        have HW4 := Aside0.mk (HW3.out.trans hb4)
        clear h4 hb4
        go_wp2
        go_roundg g
        case measure => omega
        case rel =>
          refine ⟨i + 1, start + j + 1, _, by first | rfl | (simp; unfold wrap64; omega), by have hq := HS.out.1; first | rfl | (simp; done) | (simp [hq]; done) | (simp [hq]; unfold wrap64; omega), by omega, by omega, ?_, ⟨?_⟩, ⟨?_⟩, H4, HW4⟩
          · rw [List.length_append, List.length_take, List.length_drop]; omega
          · have h1 := HT.out; have h2 := HC.out.2; rw [List.drop_drop] at h2; rw [show start + j + 1 = start + (j + 1) by omega]; omega
          · have h1 := HE.out; have h2 := HC.out.1; rw [List.drop_drop] at h2; rw [show start + j + 1 = start + (j + 1) by omega, List.append_assoc, ← h2]; exact h1))
set_option maxHeartbeats 4000000 in
set_option maxRecDepth 1000000 in
theorem cut_none (L : Lays.n154 P ρ) (s old new : ByteArray) (c : UInt8) (n : Int) (w : World) (hold : old = ⟨#[c]⟩) (hne : old ≠ new) (hn0 : n ≠ 0) (h0 : s.data.toList.count c = 0) :
    Calls P (ρ.f 154) #[.string s, .string old, .string new, .int .i64 n] w fun e w' => e = .returned (.string s) ∧ w' = w := by
  have hC : Calls P (ρ.f 138) #[.string s, .string old] w fun e w' => e = .returned (.int .i64 0) ∧ w' = w := by
    subst hold
    have := Any.strings_Count_one { L with } s c w
    unfold Lib.countByte at this
    rw [h0] at this
    exact this
  have hbeq : (old.toList == new.toList) = false := (Lib.bytes_beq_false_iff old new).2 hne
  have hnz : (n == 0) = false := beq_eq_false_iff_ne.2 hn0
  clear hold
  have t3 := L.t3; have a3 := L.a3; have z3 := L.z3; have v3 := L.v3
  have t9 := L.t9; have a9 := L.a9; have z9 := L.z9; have v9 := L.v9
  have t4 := L.t4; have a4 := L.a4; have z4 := L.z4; have v4 := L.v4
  have e138 : ∀ args w, (callFunc (ρ.f 138) args).run P w = .ok (.enter (ρ.f 138) args) w := enters_of L.f138 (by kernel_rfl) rfl
  go_enter L.f154, Body.n154_ntmps ρ
  go_wp2_with (first | (go_at_fn (ρ.f 138); refine hC.mono ?_; rintro e w' ⟨rfl, hw⟩; rw [hw]))
  go_ret
  exact ⟨rfl, rfl⟩
/-- strings.Replace, where a byte is cut out -/
theorem cut_calls (L : Lays.n154 P ρ) (X : Builder.Extra P ρ) (s : ByteArray) (c : UInt8) (new : ByteArray) (n : Int) (w : World) (hs : s.size ≤ 1048576) (hnew : new.data.toList = []) :
    Calls P (ρ.f 154) #[.string s, .string ⟨#[c]⟩, .string new, .int .i64 n] w fun e w' =>
      e = .returned (.string ⟨(cutB c (if n < 0 then s.size else n.toNat) s.data.toList).toArray⟩) ∧ Below w.heap.size w w' := by
  have hcl : s.data.toList.count c ≤ s.size := List.count_le_length
  have hne : (⟨#[c]⟩ : ByteArray) ≠ new := fun e => by rw [← e] at hnew; simp at hnew
  by_cases hn0 : n = 0
  · refine (Any.strings_Replace_none L s _ new n w (Or.inr hn0)).mono fun e w' ⟨h1, h2⟩ => ⟨?_, h2 ▸ Below.refl _ _⟩
    subst hn0
    rw [h1, if_neg (by omega), show (0 : Int).toNat = 0 from rfl, cutB_zero]
  by_cases h0 : s.data.toList.count c = 0
  · refine (cut_none L s _ new c n w rfl hne hn0 h0).mono fun e w' ⟨h1, h2⟩ => ⟨?_, h2 ▸ Below.refl _ _⟩
    rw [h1, cut_more c s.data.toList _ 0 (by omega) (by omega), cutB_zero]
  by_cases hc : n < 0 ∨ ((s.data.toList.count c : Nat) : Int) < n
  · have h := cut_some L X s _ new c n (s.data.toList.count c) w hs rfl hnew (by omega) (Nat.le_refl _) (Or.inl ⟨rfl, hc⟩)
    rwa [cut_more c s.data.toList (s.data.toList.count c) (if n < 0 then s.size else n.toNat) (Nat.le_refl _) (by split <;> omega)] at h
  · have h := cut_some L X s _ new c n n.toNat w hs rfl hnew (by omega) (by omega) (Or.inr ⟨by omega, hc⟩)
    rwa [if_neg (by omega)]
end

-- given: strings.Replace

/-! ### strings.Replace, where a byte is cut out -/
def strings_Replace.f (a0 a1 a2 : ByteArray) (a3 : Int) : Option ByteArray := if a1.size = 1 ∧ a2.data.toList = [] ∧ a0.size ≤ 1048576 then some ⟨(cutB (a1.data.toList.headD 0) (if a3 < 0 then a0.size else a3.toNat) a0.data.toList).toArray⟩ else none
theorem strings_Replace.calls (a0 a1 a2 : ByteArray) (a3 : Int) (r : ByteArray) (w : World) (h : strings_Replace.f a0 a1 a2 a3 = some r) :
    Calls Tryd.prog 46 #[.string a0, .string a1, .string a2, .int .i64 a3] w fun e w' => e = .returned (.string r) ∧ Below w.heap.size w w' := by
  unfold strings_Replace.f at h
  split at h
  · rename_i hc
    obtain rfl := Option.some.inj h
    obtain ⟨c, rfl⟩ := Lib.one_byte a1 hc.1
    exact cut_calls Tryd.lays154 Tryd.Builder_Extra_154 a0 c a2 a3 w hc.2.2 hc.2.1
  · cases h

-- given: strings.ReplaceAll

/-! ### strings.ReplaceAll at an 'old' of one byte -/
def strings_ReplaceAll.f (a0 a1 a2 : ByteArray) : Option ByteArray := strings_Replace.f a0 a1 a2 (-1)
set_option maxHeartbeats 1000000 in
theorem strings_ReplaceAll.calls (a0 a1 a2 : ByteArray) (r : ByteArray) (w : World) (h : strings_ReplaceAll.f a0 a1 a2 = some r) :
    Calls Tryd.prog 35 #[.string a0, .string a1, .string a2] w fun e w' => e = .returned (.string r) ∧ Below w.heap.size w w' := by
  have HH := Aside0.mk (strings_Replace.calls a0 a1 a2 (-1) r w h)
  clear h
  go_enter Tryd.func35, Tryd.ntmps35
  go_wp2_with (go_at_call 46; refine HH.out.mono ?_; rintro e w' ⟨rfl, hB⟩)
  go_ret
  exact ⟨rfl, hB⟩

-- given: part bytesrow
/-! ### the bytes of a string in a row that a conversion made -/
def BytesAt (w : World) (b : Nat) (s : ByteArray) : Prop := ∀ j (h : j < s.data.toList.length), w.cell? ⟨b, j, none⟩ = some (.int .u8 ((s.data.toList[j]'h).toNat : Int))
theorem BytesAt.made (w : World) (e : TypeId) (s : ByteArray) : BytesAt (Lib.bytesWorld w e s) w.heap.size s := by
  intro j h
  rw [Lib.bytesWorld_cell w e s j h]
  congr 3
  simp [List.getD, List.getElem?_eq_getElem h]
theorem BytesAt.below {w w' : World} {b : Nat} {s : ByteArray} (h : BytesAt w b s) (hb : Below w.heap.size w w') : BytesAt w' b s :=
  fun j hj => (hb.cell (World.block_lt_of_cell? w _ (h j hj))).trans (h j hj)
theorem BytesAt.grown {w w' : World} {b : Nat} {s : ByteArray} {o : Option Nat} (h : BytesAt w b s) (hg : w.grownBy w' o) (hne : some b ≠ o) : BytesAt w' b s := by
  intro j hj
  have h1 := h j hj
  rw [← h1]
  unfold World.cell?
  rw [hg.block b (World.block_lt_of_cell? w _ h1) hne]
theorem below_bytes (w : World) (e : TypeId) (s : ByteArray) : Below w.heap.size w (Lib.bytesWorld w e s) :=
  ⟨by simp [Lib.bytesWorld, World.freeze, World.alloc, World.drew, -World.alloc_eq, -World.drew_eq], by simp [Lib.bytesWorld, World.freeze, World.alloc, World.drew, -World.alloc_eq, -World.drew_eq], by simp [Lib.bytesWorld, World.freeze, World.alloc, World.drew, -World.alloc_eq, -World.drew_eq], by rw [Lib.bytesWorld_size]; omega, fun k hk => Lib.bytesWorld_at_old w e s k hk⟩
theorem R_empty {α : Type} (d : Kd α) (W : World) (e base : Nat) (ok : Nat → Prop) (hfresh : ok W.heap.size) (hbase : base ≤ W.heap.size) : d.R e (W.alloc (.cells #[] e)) base ok (.slice (some ⟨W.heap.size, 0, none⟩) 0 0) [] := by
  refine ⟨fun k hk => ?_, [], ?_, Reps.none _ _⟩
  · have : W.heap.size = k := by simpa [Value.ownBlock] using hk
    subst this
    exact hfresh
  · have h2 := World.ownsRow_lit (base := base) (e := e) (size := d.sz) W #[] 0 hbase (by simp [maxLen]) (by simp)
    simpa using h2
theorem two_bytes (w : World) (e : TypeId) (x y : Int) : Kd.C (Kd.int .u8) (w.alloc (.cells #[.int .u8 x, .int .u8 y] e)) (some ⟨w.heap.size, 0, none⟩) 2 [x, y] := by
  refine ⟨rfl, by omega, fun _ => ⟨_, rfl, fun j p hj => ?_⟩⟩
  match j, hj with
  | 0, hj =>
    obtain rfl := Option.some.inj hj
    refine ⟨[.int .u8 x], rfl, rfl, fun i u hu => ?_⟩
    match i, hu with
    | 0, hu => obtain rfl := Option.some.inj hu; simp [Kd.int, Kd.scalar, Addr.add]
    | i + 1, hu => simp at hu
  | 1, hj =>
    obtain rfl := Option.some.inj hj
    refine ⟨[.int .u8 y], rfl, rfl, fun i u hu => ?_⟩
    match i, hu with
    | 0, hu => obtain rfl := Option.some.inj hu; simp [Kd.int, Kd.scalar, Addr.add]
    | i + 1, hu => simp at hu
  | j + 2, hj => simp at hj
theorem one_string {P : Program} {W : World} {e' src dst e : TypeId} (hs : P.underlying src = some (.slice e)) (he : P.underlying e = some (.int .u8)) (hd : P.underlying dst = some .string) (c : UInt8) (x : Int) (hx : x = (c.toNat : Int)) (B : Nat) (hB : B = W.heap.size) :
    (convert src dst (.slice (some ⟨B, 0, none⟩) 1 1)).run P (W.alloc (.cells #[.int .u8 x] e')) = .ok (.string ⟨#[c]⟩) (W.alloc (.cells #[.int .u8 x] e')) := by
  subst hx hB
  have h := run_convert_bytes_arg (W.alloc (.cells #[.int .u8 (c.toNat : Int)] e')) src e hs he W.heap.size 0 1 1 [(c.toNat : Int)] rfl (fun i hi => by
    obtain rfl : i = 0 := by omega
    unfold World.cell?
    rw [heap_alloc_new]
    rfl) dst hd
  rw [h]
  simp [strOfNums]

end Go.Proofs.YtbjjmnnbkaoajaaDoor.M

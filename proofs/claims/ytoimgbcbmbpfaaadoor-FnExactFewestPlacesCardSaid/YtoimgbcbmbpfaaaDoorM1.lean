-- Written by the session's program wip/myprint.py (over the kit's print); the given parts by hand.
import Derived.Test.YtoimgbcbmbpfaaaDoorM0
namespace Go.Proofs.YtoimgbcbmbpfaaaDoor.M
open Go.RowKit Go.Proofs.YtoimgbcbmbpfaaaDoorW.PrintWords Go.Proofs.YtoimgbcbmbpfaaaDoorW.PrintLast Go.Proofs.YtoimgbcbmbpfaaaDoorW.PrintMore
attribute [local go_sem] max2_int min2_int max_two min_two max_three min_three max_four min_four   -- for this text's walks alone
set_option linter.unusedVariables false
set_option linter.unusedSimpArgs false

/-! ### spec_l1In: function 48 -/
def spec_l1In.f (a0 : Int) (a1 : Int) (a2 : Int) : Option (Bool) := if a0 ≥ a1 then (some (decide (a0 ≤ a2))) else (some false)
set_option maxHeartbeats 8000000 in
set_option maxRecDepth 100000 in
theorem spec_l1In.calls (a0 : Int) (a1 : Int) (a2 : Int) (r : Bool) (w : World) (h : spec_l1In.f a0 a1 a2 = some r) :
    Calls Tryd.prog 48 #[.int .i64 a0, .int .i64 a1, .int .i64 a2] w fun e w' => e = .returned (.bool r) ∧ Drawn0 w w' := by
  have H : (if a0 ≥ a1 then (some (decide (a0 ≤ a2))) else (some false)) = some r := h
  clear h
  by_cases c4 : a0 ≥ a1
  · rw [if_pos c4] at H
    have c4b0 : decide (a1 ≤ a0) = true := decide_eq_true c4
    clear c4
    obtain rfl := Option.some.inj H
    go_enter Tryd.func48, Tryd.ntmps48
    go_wp2
    go_ret
    exact ⟨by first | rfl | (simp; done) | (simp [*]; done), by repeat (first | exact Drawn0.refl _ | apply Drawn0.step)⟩
  · rw [if_neg c4] at H
    have c4b0 : decide (a1 ≤ a0) = false := decide_eq_false c4
    clear c4
    obtain rfl := Option.some.inj H
    go_enter Tryd.func48, Tryd.ntmps48
    go_wp2
    go_ret
    exact ⟨by first | rfl | (simp; done) | (simp [*]; done), by repeat (first | exact Drawn0.refl _ | apply Drawn0.step)⟩

/-! ### spec_ldGood: function 46 -/
def spec_ldGood.l0 : Nat → ByteArray → Int → Option (Bool)
  | 0, _, _ => none
  | k + 1, x0, x3 => if x3 < (x0.size : Int) then (if 0 ≤ x3 then ((spec_l1In.f (wrap64 ((wrap64 (bt x0 x3)) - 48)) 1 9).bind fun t101 => (if t101 = true then (spec_ldGood.l0 k x0 (wrap64 (x3 + 1))) else (some false))) else (none)) else (some true)
def spec_ldGood.f (k : Nat) (a0 : ByteArray) : Option (Bool) := if (a0.size : Int) > 12 then (some false) else (spec_ldGood.l0 k a0 0)
theorem spec_ldGood.mono_l : ∀ k, (∀ y0 y1, LeO (spec_ldGood.l0 k y0 y1) (spec_ldGood.l0 (k + 1) y0 y1))
  | 0 => fun _ _ r h => by simp [spec_ldGood.l0] at h
  | k + 1 => by
    have ih0 := spec_ldGood.mono_l k
    · intro y0 y1
      unfold spec_ldGood.l0
      repeat' first
      | (with_reducible exact ih0 _ _)
      | (with_reducible exact LeO.refl _)
      | (with_reducible exact LeO.none _)
      | (with_reducible refine LeO.ite ?_ ?_)
      | (with_reducible refine LeO.bind ?_ (fun _ => ?_))
      | exact ih0 _ _
      | exact LeO.none _
      | refine LeO.ite ?_ ?_
      | refine LeO.bind ?_ (fun _ => ?_)
theorem spec_ldGood.mono : ∀ a0 k, LeO (spec_ldGood.f k a0) (spec_ldGood.f (k + 1) a0) := by
  intro a0 k
  have ih0 := spec_ldGood.mono_l k
  unfold spec_ldGood.f
  repeat' first
      | (with_reducible exact ih0 _ _)
      | (with_reducible exact LeO.refl _)
      | (with_reducible exact LeO.none _)
      | (with_reducible refine LeO.ite ?_ ?_)
      | (with_reducible refine LeO.bind ?_ (fun _ => ?_))
      | exact ih0 _ _
      | exact LeO.none _
      | refine LeO.ite ?_ ?_
      | refine LeO.bind ?_ (fun _ => ?_)
set_option maxHeartbeats 8000000 in
set_option maxRecDepth 100000 in
theorem spec_ldGood.calls (k : Nat) (a0 : ByteArray) (r : Bool) (w : World) (h : spec_ldGood.f k a0 = some r) :
    Calls Tryd.prog 46 #[.string a0] w fun e w' => e = .returned (.bool r) ∧ Drawn0 w w' := by
  have H : (if (a0.size : Int) > 12 then (some false) else (spec_ldGood.l0 k a0 0)) = some r := h
  clear h
  by_cases c2 : (a0.size : Int) > 12
  · rw [if_pos c2] at H
    have c2b0 : decide (12 < (a0.size : Int)) = true := decide_eq_true c2
    have c2b1 : decide (12 < a0.size) = true := decide_eq_true (by omega)
    clear c2
    obtain rfl := Option.some.inj H
    go_enter Tryd.func46, Tryd.ntmps46
    go_wp2
    go_ret
    exact ⟨by first | rfl | (simp; done) | (simp [*]; done), by repeat (first | exact Drawn0.refl _ | apply Drawn0.step)⟩
  · rw [if_neg c2] at H
    have c2b0 : decide (12 < (a0.size : Int)) = false := decide_eq_false c2
    have c2b1 : decide (12 < a0.size) = false := decide_eq_false (by omega)
    clear c2
    have H' := Aside0.mk H
    clear H
    go_enter Tryd.func46, Tryd.ntmps46
    go_wp2
    go_loopg [3] k (fun kq v3 w' => ∃ (x3_1 : Int), v3 = .int .i64 x3_1 ∧ Aside0 (spec_ldGood.l0 kq a0 x3_1 = some r) ∧ Aside0 (kq ≤ k) ∧ Drawn0 w w')
    case atStart => exact ⟨(0), (by first | rfl | (simp; done) | (simp [*]; done)), H', ⟨Nat.le_refl _⟩, by repeat (first | exact Drawn0.refl _ | apply Drawn0.step)⟩
    case round =>
      clear H'
      try clear c2
      try clear c2b0
      try clear c2b1
      try clear p2
      obtain ⟨x3_1, rfl, HA, HK1, ⟨m1, rfl⟩⟩ := hrel
      cases gk with
      | zero => exact absurd HA.out (by simp [spec_ldGood.l0])
      | succ k1 =>
        have H := HA.out
        clear HA
        simp only [spec_ldGood.l0] at H
        by_cases c3 : x3_1 < (a0.size : Int)
        · rw [if_pos c3] at H
          have c3b0 : decide (x3_1 < (a0.size : Int)) = true := decide_eq_true c3
          clear c3
          by_cases c4 : 0 ≤ x3_1
          · rw [if_pos c4] at H
            have c4b0 : decide (0 ≤ x3_1) = true := decide_eq_true c4
            clear c4
            replace H := Option.bind_eq_some_iff.mp H
            obtain ⟨t101, A60, H⟩ := H
            replace H : (if t101 = true then (spec_ldGood.l0 k1 a0 (wrap64 (x3_1 + 1))) else (some false)) = some r := H
            have A6 := Aside0.mk A60
            clear A60
            by_cases c7 : t101 = true
            · subst c7
              have H1 : (spec_ldGood.l0 k1 a0 (wrap64 (x3_1 + 1))) = some r := by rw [if_pos rfl] at H; exact H
              clear H
              have H := H1
              clear H1
              have H' := Aside0.mk H
              clear H
              have p5 : 0 ≤ (x3_1 : Int) := of_decide_eq_true (by first | (with_reducible assumption) | assumption)
              have q5 : x3_1 < (a0.size : Int) := of_decide_eq_true (by first | (with_reducible assumption) | assumption)
              have hx5 := bt_at a0 x3_1
              replace p5 := eq_true p5
              replace q5 := eq_true q5
              go_wp2_with (first | ((with_reducible refine gate_callee (f := 48) rfl ?_); refine goesL_ (some 18) rfl rfl Tryd.func48 (by kernel_rfl) rfl #[.int .i64 (wrap64 ((wrap64 (bt a0 x3_1)) - 48)), .int .i64 1, .int .i64 9] rfl (by (try simp only [List.map_toArray, List.map_cons, List.map_nil]); first | done | rfl | (simp only [List.length_drop, List.length_take]; rfl)) ?_; (with_reducible refine (spec_l1In.calls (wrap64 ((wrap64 (bt a0 x3_1)) - 48)) 1 9 true _ A6.out).mono ?_); rintro e w' ⟨rfl, ⟨nd, rfl⟩⟩; refine ⟨_, rfl, ?_⟩))
              go_roundg k1
              case measure => have := HK1.out; omega
              case rel => exact ⟨(wrap64 (x3_1 + 1)), (by first | rfl | (simp; done) | (simp [*]; done)), H', ⟨by have := HK1.out; omega⟩, by repeat (first | exact Drawn0.refl _ | apply Drawn0.step)⟩
            · replace c7 := Bool.eq_false_iff.mpr c7
              subst c7
              have H1 : (some false) = some r := by rw [if_neg (show ¬ (false = true) by decide)] at H; exact H
              clear H
              have H := H1
              clear H1
              obtain rfl := Option.some.inj H
              have p5 : 0 ≤ (x3_1 : Int) := of_decide_eq_true (by first | (with_reducible assumption) | assumption)
              have q5 : x3_1 < (a0.size : Int) := of_decide_eq_true (by first | (with_reducible assumption) | assumption)
              have hx5 := bt_at a0 x3_1
              replace p5 := eq_true p5
              replace q5 := eq_true q5
              go_wp2_with (first | ((with_reducible refine gate_callee (f := 48) rfl ?_); refine goesL_ (some 18) rfl rfl Tryd.func48 (by kernel_rfl) rfl #[.int .i64 (wrap64 ((wrap64 (bt a0 x3_1)) - 48)), .int .i64 1, .int .i64 9] rfl (by (try simp only [List.map_toArray, List.map_cons, List.map_nil]); first | done | rfl | (simp only [List.length_drop, List.length_take]; rfl)) ?_; (with_reducible refine (spec_l1In.calls (wrap64 ((wrap64 (bt a0 x3_1)) - 48)) 1 9 false _ A6.out).mono ?_); rintro e w' ⟨rfl, ⟨nd, rfl⟩⟩; refine ⟨_, rfl, ?_⟩))
              go_ret
              exact ⟨by first | rfl | (simp; done) | (simp [*]; done), by repeat (first | exact Drawn0.refl _ | apply Drawn0.step)⟩
          · rw [if_neg c4] at H
            exact absurd H (by simp)
        · rw [if_neg c3] at H
          have c3b0 : decide (x3_1 < (a0.size : Int)) = false := decide_eq_false c3
          clear c3
          obtain rfl := Option.some.inj H
          go_wp2
          go_ret
          exact ⟨by first | rfl | (simp; done) | (simp [*]; done), by repeat (first | exact Drawn0.refl _ | apply Drawn0.step)⟩

-- given: part places

/-! ### where each box goes: lists -/
def fIdx (c : Int) : List Int → Int
  | [] => -1
  | x :: t => if c ≤ x then 0 else if fIdx c t < 0 then -1 else fIdx c t + 1
theorem fIdx_none (c : Int) : ∀ l : List Int, (∀ j, j < l.length → l.getD j 0 < c) → fIdx c l = -1
  | [], _ => rfl
  | x :: t, h => by
    have h0 := h 0 (by simp)
    have ht := fIdx_none c t (fun j hj => by simpa using h (j + 1) (by simpa using hj))
    simp at h0
    rw [fIdx, if_neg (by omega), ht, if_pos (by omega)]
theorem fIdx_at (c : Int) : ∀ (l : List Int) (k : Nat), k < l.length → (∀ j, j < k → l.getD j 0 < c) → c ≤ l.getD k 0 → fIdx c l = (k : Int)
  | [], k, h, _, _ => by simp at h
  | x :: t, 0, _, _, h => by
    simp at h
    rw [fIdx, if_pos h]
    rfl
  | x :: t, k + 1, hk, hl, h => by
    have h0 := hl 0 (by omega)
    have ht := fIdx_at c t k (by simpa using hk) (fun j hj => by simpa using hl (j + 1) (by omega)) (by simpa using h)
    simp at h0
    rw [fIdx, if_neg (by omega), ht, if_neg (by omega)]
    omega
theorem fIdx_range (c : Int) : ∀ l : List Int, fIdx c l = -1 ∨ (0 ≤ fIdx c l ∧ fIdx c l < l.length)
  | [] => .inl rfl
  | x :: t => by
    have := fIdx_range c t
    rw [fIdx]
    by_cases h : c ≤ x
    · rw [if_pos h]; right; exact ⟨by omega, by rw [List.length_cons]; omega⟩
    · rw [if_neg h]
      by_cases h2 : fIdx c t < 0
      · rw [if_pos h2]; exact .inl rfl
      · rw [if_neg h2]; right; exact ⟨by omega, by rw [List.length_cons]; omega⟩
def plStep (p : List Int × List Int) (c : UInt8) : List Int × List Int :=
  if fIdx (c.toNat : Int) p.2 < 0 then (p.1 ++ [(p.2.length : Int)], (p.2 ++ [(c.toNat : Int)]).set p.2.length (c.toNat : Int)) else (p.1 ++ [fIdx (c.toNat : Int) p.2], p.2.set (fIdx (c.toNat : Int) p.2).toNat (c.toNat : Int))
theorem plStep_len (p : List Int × List Int) (c : UInt8) : (plStep p c).1.length = p.1.length + 1 ∧ (plStep p c).2.length ≤ p.2.length + 1 := by
  unfold plStep
  split <;> simp
theorem plStep_none (xs ts : List Int) (c : UInt8) (h : ∀ j, j < ts.length → ts.getD j 0 < (c.toNat : Int)) : plStep (xs, ts) c = (xs ++ [(ts.length : Int)], ts ++ [(c.toNat : Int)]) := by
  unfold plStep
  rw [fIdx_none _ _ h, if_pos (by decide)]
  simp
theorem plStep_at (xs ts : List Int) (c : UInt8) (k : Nat) (hk : k < ts.length) (h : ∀ j, j < k → ts.getD j 0 < (c.toNat : Int)) (h2 : (c.toNat : Int) ≤ ts.getD k 0) : plStep (xs, ts) c = (xs ++ [(k : Int)], ts.set k (c.toNat : Int)) := by
  unfold plStep
  rw [fIdx_at _ _ k hk h h2, if_neg (by omega), Int.toNat_natCast]
theorem pl_put {W w : World} {eX eT g n cap i : Nat} {okX okT : Nat → Prop} {xs ts : List Int} {u : Value} (HX : Kd.R (Kd.int .i64) eX W w.heap.size okX u xs) (HT : Kd.R (Kd.int .u8) eT W w.heap.size okT (.slice (some ⟨g, 0, none⟩) n cap) ts) (hne : eX ≠ eT) (c : Int) (HB : Below w.heap.size w W) (hg : w.heap.size ≤ g) :
    Kd.R (Kd.int .i64) eX (W.setCell ⟨g, i, none⟩ (.int .u8 c)) w.heap.size okX u xs ∧ Kd.R (Kd.int .u8) eT (W.setCell ⟨g, i, none⟩ (.int .u8 c)) w.heap.size okT (.slice (some ⟨g, 0, none⟩) n cap) (ts.set i c) ∧ Below w.heap.size w (W.setCell ⟨g, i, none⟩ (.int .u8 c)) := by
  have h := Kd.R_putg HT (i : Int) c
  rw [Int.toNat_natCast] at h
  refine ⟨Kd.R_over' (v := .slice (some ⟨g, 0, none⟩) n cap) HX (Kd.R_typed HT) (fun q hq => ?_) h.2, h.1, HB.setCell hg _⟩
  have : q = eX := by simpa [Kd.int, Kd.scalar] using hq
  rw [this]
  exact hne

-- given: loop.example/g01334/spec.ldPlaces

/-! ### spec_ldPlaces: by hand -/
def spec_ldPlaces.f (a0 : ByteArray) : Option (List Int × List Int) := if a0.size ≤ 1000 then some (a0.data.toList.foldl plStep ([], [])) else none
set_option maxHeartbeats 4000000 in
set_option maxRecDepth 100000 in
theorem spec_ldPlaces.calls (a0 : ByteArray) (r1 : List Int) (r2 : List Int) (w : World) (h : spec_ldPlaces.f a0 = some (r1, r2)) :
    Calls Tryd.prog 54 #[.string a0] w fun e w' => ∃ v0_ v1_ : Value, e = .returned (.tuple #[v0_, v1_]) ∧ Kd.R (Kd.int .i64) 3 w' w.heap.size (fun _ => True) v0_ r1 ∧ Kd.R (Kd.int .u8) 5 w' w.heap.size (fun _ => True) v1_ r2 ∧ Below w.heap.size w w' := by
  unfold spec_ldPlaces.f at h
  by_cases hsz : a0.size ≤ 1000
  · rw [if_pos hsz] at h
    have HRES := Aside0.mk (Option.some.inj h)
    clear h
    have hlenL : a0.data.toList.length = a0.size := rfl
    go_enter Tryd.func54, Tryd.ntmps54
    go_wp2_with fail
    go_loopg [4, 5, 6] a0.size (fun gg v4 v5 v6 wr => ∃ (kk : Nat) (xs ts : List Int), kk ≤ a0.size ∧ a0.size - kk ≤ gg ∧ v6 = .int .i64 kk ∧ xs.length ≤ kk ∧ ts.length ≤ kk ∧ Aside0 ((a0.data.toList.take kk).foldl plStep ([], []) = (xs, ts)) ∧ Aside0 (Kd.R (Kd.int .i64) 3 wr w.heap.size (fun _ => True) v4 xs) ∧ Aside0 (Kd.R (Kd.int .u8) 5 wr w.heap.size (fun _ => True) v5 ts) ∧ Aside0 (Below w.heap.size w wr))
    case atStart => exact ⟨0, [], [], by omega, by omega, rfl, by simp, by simp, ⟨rfl⟩, ⟨Kd.R_nil _ _ _ _ _⟩, ⟨Kd.R_nil _ _ _ _ _⟩, ⟨Below.refl _ _⟩⟩
    case round =>
      obtain ⟨kk, xs, ts, hkk, hgg, rfl, hxl, htl, HF, HX, HT, HB⟩ := hrel
      by_cases hlt : kk < a0.size
      · have c1 : ((kk : Int) < (a0.size : Int)) = True := eq_true (by omega)
        have c2 : (0 ≤ (kk : Int)) = True := eq_true (by omega)
        have hltL : kk < a0.data.toList.length := by rw [hlenL]; exact hlt
        have htake : a0.data.toList.take (kk + 1) = a0.data.toList.take kk ++ [a0.data.toList[kk]'hltL] := by rw [List.take_add_one, List.getElem?_eq_getElem hltL]; rfl
        have hx1 : ∀ hh : kk < a0.size, ((a0[kk]'hh).toNat : Int) = ((a0.data.toList[kk]'hltL).toNat : Int) := fun hh => by rfl
        have hx2 : ∀ hh : (kk : Int).toNat < a0.size, ((a0[(kk : Int).toNat]'hh).toNat : Int) = ((a0.data.toList[kk]'hltL).toNat : Int) := fun hh => by simp only [Int.toNat_natCast]; rfl
        generalize a0.data.toList[kk]'hltL = c at htake hx1 hx2
        have hstep : (a0.data.toList.take (kk + 1)).foldl plStep ([], []) = plStep (xs, ts) c := by rw [htake, List.foldl_append, HF.out]; rfl
        have HST := Aside0.mk hstep
        have HPL := Aside0.mk (plStep_len (xs, ts) c)
        clear hstep htake
        obtain ⟨At, ct, rfl⟩ := Kd.R_slice HT.out
        go_wp2_with fail
        go_loopg [7] ts.length (fun gg v7 w' => ∃ (j m : Nat), j ≤ ts.length ∧ ts.length - j ≤ gg ∧ v7 = .int .i64 j ∧ Aside0 (∀ t, t < j → ts.getD t 0 < (c.toNat : Int)) ∧ w' = wr.drewN m)
        case atStart => exact ⟨0, 0, by omega, by omega, rfl, ⟨fun t ht => absurd ht (Nat.not_lt_zero _)⟩, by first | rfl | simp⟩
        case round =>
          obtain ⟨j, m, hj, hgj, rfl, HL, rfl⟩ := hrel
          by_cases hjl : j < ts.length
          · obtain ⟨g, cap, e, hg1, hg2, _⟩ := Kd.R_form HT.out (by omega)
            injection e with ea _ ec
            subst ea ec
            obtain ⟨hcell, hfr⟩ := Kd.R_celln 0 HT.out (j : Int) (by omega) (by omega)
            have hy0 : rdOf 0 ts (j : Int) = ts.getD j 0 := by simp [rdOf]
            rw [hy0, Int.toNat_natCast] at hcell
            rw [Int.toNat_natCast] at hfr
            generalize hy : ts.getD j 0 = y at hcell
            have HY := Aside0.mk hy
            clear hy hy0
            have p0 : decide ((j : Int) < (ts.length : Int)) = true := decide_eq_true (by omega)
            have p1 : (0 ≤ (j : Int)) = True := eq_true (by omega)
            have p2 : ((j : Int) < (ts.length : Int)) = True := eq_true (by omega)
            cases hq : decide (y < (c.toNat : Int)) with
            | true =>
              have HQ := Aside0.mk hq
              go_wp2_with fail
              go_quiet (fail)
              go_wp2_with fail
              go_roundg (ts.length - (j + 1))
              case measure => omega
              case rel =>
                refine ⟨j + 1, _, by omega, by omega, by go_num, ⟨fun t ht => ?_⟩, rfl⟩
                by_cases e : t = j
                · subst e; rw [HY.out]; exact of_decide_eq_true HQ.out
                · exact HL.out t (by omega)
            | false =>
              have HQ := Aside0.mk hq
              go_wp2_with fail
              go_quiet (fail)
              generalize hW : (wr.drewN m).drewN nq = W
              have HX1 := Aside0.mk (hW ▸ Kd.R_drewN (Kd.R_drewN HX.out m) nq)
              have HT1 := Aside0.mk (hW ▸ Kd.R_drewN (Kd.R_drewN HT.out m) nq)
              have HB1 := Aside0.mk (hW ▸ pw_below_drewN (pw_below_drewN HB.out m) nq)
              obtain ⟨hcW, hfW⟩ := Kd.R_celln 0 HT1.out (j : Int) (by omega) (by omega)
              rw [Int.toNat_natCast] at hcW hfW
              have hput := pl_put (i := j) HX1.out HT1.out (by decide) (c.toNat : Int) HB1.out hg1
              have HX2 := Aside0.mk hput.1
              have HT2 := Aside0.mk hput.2.1
              have HB2 := Aside0.mk hput.2.2
              have HPS := Aside0.mk (plStep_at xs ts c j hjl HL.out (by rw [HY.out]; have := of_decide_eq_false HQ.out; omega))
              have p5 : decide ((j : Int) = (ts.length : Int)) = false := decide_eq_false (by omega)
              have p6 : ((j : Int) == (ts.length : Int)) = false := by rw [beq_eq_false_iff_ne]; omega
              clear hput hq hcell hfr
              go_wp2_with (first | ((with_reducible refine gate_builtin (b := .append) (xs := #[.tmp 43, .tmp 45]) rfl ?_); at_builtin; refine Kd.R_append (Kd.int .i64) (w0 := w) w.heap.size rfl (.tmp 43) (.tmp 45) 28 3 (.int .i64 0) 8 rfl Tryd.underlying28 (by kernel_rfl) rfl (by decide) (by omega) u4 xs (j : Int) [.int .i64 (j : Int)] (fun _ => True) (fun _ => False) rfl ?aXa ?aPa (fun _ hk => hk.elim) ?aFa ?aOa ?aBa ?aSa ?aLa ?_; (case aXa => first | rfl | (refine Eq.trans rfl (congrArg (fun n => Value.slice (some ⟨n, 0, none⟩) 1 1) (?_ : W.heap.size = _)); simp)); (case aPa => exact rfl); (case aBa => exact (by repeat (first | exact HB2.out | apply below_alloc | apply pw_below_drewN))); (case aFa => exact (fun _ _ => trivial)); (case aOa => exact (by (with_reducible repeat (first | apply Kd.R_alloc | apply Kd.R_drewN | apply Kd.R_drew)); exact HX2.out)); (case aSa => exact (below_size (by repeat (first | exact HB2.out | apply below_alloc | apply pw_below_drewN)))); (case aLa => omega); intro v9 w9 ho hb hg hat; have HX9 := Aside0.mk ho; have HT9 := Aside0.mk (Kd.R_over' (v := u4) (by (with_reducible repeat (first | apply Kd.R_alloc | apply Kd.R_drewN | apply Kd.R_drew)); exact HT2.out) (Kd.R_typed (by (with_reducible repeat (first | apply Kd.R_alloc | apply Kd.R_drewN | apply Kd.R_drew)); exact HX2.out)) (by decide) hg); have HB9 := Aside0.mk hb;  clear ho hb hg hat))
              go_roundg (a0.size - (kk + 1))
              case measure => omega
              case rel =>
                refine ⟨kk + 1, xs ++ [(j : Int)], ts.set j (c.toNat : Int), by omega, by omega, by go_num, by simp; omega, by simp; omega, ⟨HST.out.trans HPS.out⟩, HX9, ⟨?_⟩, HB9⟩
                exact HT9.out
          · obtain rfl : j = ts.length := by omega
            have p0 : decide ((ts.length : Int) < (ts.length : Int)) = false := decide_eq_false (by omega)
            have p1 : (0 ≤ (ts.length : Int)) = True := eq_true (by omega)
            have HPS := Aside0.mk (plStep_none xs ts c HL.out)
            go_wp2_with fail
            go_quiet (fail)
            generalize hW : (wr.drewN m).drewN nq = W
            have HX1 := Aside0.mk (hW ▸ Kd.R_drewN (Kd.R_drewN HX.out m) nq)
            have HT1 := Aside0.mk (hW ▸ Kd.R_drewN (Kd.R_drewN HT.out m) nq)
            have HB1 := Aside0.mk (hW ▸ pw_below_drewN (pw_below_drewN HB.out m) nq)
            obtain ⟨T, hT⟩ : ∃ T, T = ts ++ [(0 : Int)] := ⟨_, rfl⟩
            have hTl : T.length = ts.length + 1 := by rw [hT]; simp
            have hTs : T.set ts.length (c.toNat : Int) = ts ++ [(c.toNat : Int)] := by rw [hT]; simp
            have p2 : ((ts.length : Int) < (T.length : Int)) = True := eq_true (by omega)
            have HTT := Aside0.mk (And.intro hT hTs)
            clear hT hTs
            go_wp2_with (first | ((with_reducible refine gate_builtin (b := .append) (xs := #[.tmp 34, .tmp 35]) rfl ?_); at_builtin; refine Kd.R_append (Kd.int .u8) (w0 := w) w.heap.size rfl (.tmp 34) (.tmp 35) 47 5 (.int .u8 0) 1 rfl Tryd.underlying47 (by kernel_rfl) rfl (by decide) (by omega) (.slice At ts.length ct) ts 0 [.int .u8 0] (fun _ => True) (fun _ => False) rfl rfl ?bP (fun _ hk => hk.elim) ?bF ?bO ?bB ?bS ?bL ?_; (case bP => exact rfl); (case bB => exact (by repeat (first | exact HB1.out | apply below_alloc | apply pw_below_drewN))); (case bF => exact (fun _ _ => trivial)); (case bO => exact (by (with_reducible repeat (first | apply Kd.R_alloc | apply Kd.R_drewN | apply Kd.R_drew)); exact HT1.out)); (case bS => exact (below_size (by repeat (first | exact HB1.out | apply below_alloc | apply pw_below_drewN)))); (case bL => omega); intro v6 w6 ho hb hg hat; rw [← HTT.out.1] at ho; have HX6 := Aside0.mk (Kd.R_over' (v := .slice At ts.length ct) (by (with_reducible repeat (first | apply Kd.R_alloc | apply Kd.R_drewN | apply Kd.R_drew)); exact HX1.out) (Kd.R_typed (by (with_reducible repeat (first | apply Kd.R_alloc | apply Kd.R_drewN | apply Kd.R_drew)); exact HT1.out)) (by decide) hg); have HT6 := Aside0.mk ho; have HB6 := Aside0.mk hb; clear ho hb hg hat; obtain ⟨g, cap, rfl, hg1, hg2, _⟩ := Kd.R_form HT6.out (by omega); obtain ⟨hcW, hfW⟩ := Kd.R_celln 0 HT6.out (ts.length : Int) (by omega) (by omega); rw [Int.toNat_natCast] at hcW hfW; have hput := pl_put (i := ts.length) HX6.out HT6.out (by decide) (c.toNat : Int) HB6.out hg1; rw [HTT.out.2] at hput; have HX2 := Aside0.mk hput.1; have HT2 := Aside0.mk hput.2.1; have HB2 := Aside0.mk hput.2.2; clear hput) | ((with_reducible refine gate_builtin (b := .append) (xs := #[.tmp 43, .tmp 45]) rfl ?_); at_builtin; refine Kd.R_append (Kd.int .i64) (w0 := w) w.heap.size rfl (.tmp 43) (.tmp 45) 28 3 (.int .i64 0) 8 rfl Tryd.underlying28 (by kernel_rfl) rfl (by decide) (by omega) u4 xs (ts.length : Int) [.int .i64 (ts.length : Int)] (fun _ => True) (fun _ => False) rfl ?aXb ?aPb (fun _ hk => hk.elim) ?aFb ?aOb ?aBb ?aSb ?aLb ?_; (case aXb => first | rfl | (refine Eq.trans rfl (congrArg (fun n => Value.slice (some ⟨n, 0, none⟩) 1 1) (?_ : w6.heap.size = _)); simp)); (case aPb => exact rfl); (case aBb => exact (by repeat (first | exact HB2.out | apply below_alloc | apply pw_below_drewN))); (case aFb => exact (fun _ _ => trivial)); (case aOb => exact (by (with_reducible repeat (first | apply Kd.R_alloc | apply Kd.R_drewN | apply Kd.R_drew)); exact HX2.out)); (case aSb => exact (below_size (by repeat (first | exact HB2.out | apply below_alloc | apply pw_below_drewN)))); (case aLb => omega); intro v9 w9 ho hb hg hat; have HX9 := Aside0.mk ho; have HT9 := Aside0.mk (Kd.R_over' (v := u4) (by (with_reducible repeat (first | apply Kd.R_alloc | apply Kd.R_drewN | apply Kd.R_drew)); exact HT2.out) (Kd.R_typed (by (with_reducible repeat (first | apply Kd.R_alloc | apply Kd.R_drewN | apply Kd.R_drew)); exact HX2.out)) (by decide) hg); have HB9 := Aside0.mk hb;  clear ho hb hg hat))
            go_roundg (a0.size - (kk + 1))
            case measure => omega
            case rel =>
              refine ⟨kk + 1, xs ++ [(ts.length : Int)], ts ++ [(c.toNat : Int)], by omega, by omega, by go_num, by simp; omega, by simp; omega, ⟨HST.out.trans HPS.out⟩, HX9, ⟨?_⟩, HB9⟩
              have ht9 := HT9.out
              first | exact ht9 | (rw [hTl] at ht9; exact ht9)
      · have c1 : ((kk : Int) < (a0.size : Int)) = False := eq_false (by omega)
        obtain rfl : kk = a0.size := by omega
        have hf := HF.out
        rw [show a0.data.toList.take a0.size = a0.data.toList from List.take_of_length_le (by rw [hlenL]; exact Nat.le_refl _), HRES.out] at hf
        obtain ⟨rfl, rfl⟩ := Prod.mk.inj hf
        go_wp2_with fail
        go_ret2
        exact ⟨_, _, rfl, HX.out, HT.out, HB.out⟩
  · rw [if_neg hsz] at h
    exact absurd h (by simp)

/-! ### spec_FewestPlaces: function 24 -/
def spec_FewestPlaces.f (k : Nat) (a0 : ByteArray) : Option (Int × Bool) := (spec_ldGood.f k a0).bind fun t102 => (if t102 = true then ((spec_ldPlaces.f a0).bind fun bt103 => (some ((bt103.2.length : Int), true))) else (some (0, false)))
theorem spec_FewestPlaces.mono : ∀ a0 k, LeO (spec_FewestPlaces.f k a0) (spec_FewestPlaces.f (k + 1) a0) := by
  intro a0 k
  unfold spec_FewestPlaces.f
  repeat' first
      | (with_reducible exact spec_ldGood.mono _ _)
      | (with_reducible exact LeO.refl _)
      | (with_reducible exact LeO.none _)
      | (with_reducible refine LeO.ite ?_ ?_)
      | (with_reducible refine LeO.bind ?_ (fun _ => ?_))
      | exact spec_ldGood.mono _ _
      | exact LeO.none _
      | refine LeO.ite ?_ ?_
      | refine LeO.bind ?_ (fun _ => ?_)
set_option maxHeartbeats 8000000 in
set_option maxRecDepth 100000 in
theorem spec_FewestPlaces.calls (k : Nat) (a0 : ByteArray) (r1 : Int) (r2 : Bool) (w : World) (h : spec_FewestPlaces.f k a0 = some (r1, r2)) :
    Calls Tryd.prog 24 #[.string a0] w fun e w' => e = .returned (.tuple #[.int .i64 r1, .bool r2]) ∧ Below w.heap.size w w' := by
  have HB := Aside0.mk (Below.refl w.heap.size w)
  have H : ((spec_ldGood.f k a0).bind fun t102 => (if t102 = true then ((spec_ldPlaces.f a0).bind fun bt103 => (some ((bt103.2.length : Int), true))) else (some (0, false)))) = some (r1, r2) := h
  clear h
  replace H := Option.bind_eq_some_iff.mp H
  obtain ⟨t102, A20, H⟩ := H
  replace H : (if t102 = true then ((spec_ldPlaces.f a0).bind fun bt103 => (some ((bt103.2.length : Int), true))) else (some (0, false))) = some (r1, r2) := H
  have A2 := Aside0.mk A20
  clear A20
  by_cases c3 : t102 = true
  · subst c3
    have H1 : ((spec_ldPlaces.f a0).bind fun bt103 => (some ((bt103.2.length : Int), true))) = some (r1, r2) := by rw [if_pos rfl] at H; exact H
    clear H
    have H := H1
    clear H1
    replace H := Option.bind_eq_some_iff.mp H
    obtain ⟨⟨t103, t104⟩, A40, H⟩ := H
    replace H : (some ((t104.length : Int), true)) = some (r1, r2) := H
    have A4 := Aside0.mk A40
    clear A40
    simp only [Option.some.injEq, Prod.mk.injEq] at H
    obtain ⟨rfl, rfl⟩ := H
    go_enter Tryd.func24, Tryd.ntmps24
    go_wp2_with (first | ((with_reducible refine gate_callee (f := 46) rfl ?_); refine goesL_ (some 7) rfl rfl Tryd.func46 (by kernel_rfl) rfl #[.string a0] rfl (by (try simp only [List.map_toArray, List.map_cons, List.map_nil]); first | done | rfl | (simp only [List.length_drop, List.length_take]; rfl)) ?_; (with_reducible refine (spec_ldGood.calls k a0 true _ A2.out).mono ?_); rintro e w' ⟨rfl, ⟨nd, rfl⟩⟩; refine ⟨_, rfl, ?_⟩) | ((with_reducible refine gate_callee (f := 54) rfl ?_); refine goesL_ (some 11) rfl rfl Tryd.func54 (by kernel_rfl) rfl #[.string a0] rfl (by (try simp only [List.map_toArray, List.map_cons, List.map_nil]); first | done | rfl | (simp only [List.length_drop, List.length_take]; rfl)) ?_; (with_reducible refine (spec_ldPlaces.calls a0 t103 t104 _ A4.out).mono ?_); rintro e w5 ⟨v105, v107, rfl, ho0, ho1, hb⟩; refine ⟨_, rfl, ?_⟩; have n0_ := Aside0.mk (Kd.R_lower ho0 (below_size (by repeat (first | (with_reducible first | exact HB.out | apply below_alloc | apply pw_below_drewN | apply below_drew1) | exact HB.out)))); have n1_ := Aside0.mk (Kd.R_lower ho1 (below_size (by repeat (first | (with_reducible first | exact HB.out | apply below_alloc | apply pw_below_drewN | apply below_drew1) | exact HB.out)))); have n2_ := Aside0.mk (below_step (by repeat (first | (with_reducible first | exact HB.out | apply below_alloc | apply pw_below_drewN | apply below_drew1) | exact HB.out)) hb); clear HB; have HO106 := n0_; have HO108 := n1_; have HB := n2_; clear n0_ n1_ n2_; (try clear hb); (try clear hb2); (try clear hk); (try clear hi); (try clear ho0); (try clear ho1); obtain ⟨Ao6, co6, eo6⟩ := Kd.R_slice HO108.out; subst eo6))
    go_ret2
    exact ⟨by first | rfl | (simp [errW_none, errW_some] <;> rfl) | (simp [*, errW_none, errW_some] <;> rfl), by repeat (first | (with_reducible first | exact HB.out | apply below_alloc | apply pw_below_drewN | apply below_drew1) | exact HB.out)⟩
  · replace c3 := Bool.eq_false_iff.mpr c3
    subst c3
    have H1 : (some (0, false)) = some (r1, r2) := by rw [if_neg (show ¬ (false = true) by decide)] at H; exact H
    clear H
    have H := H1
    clear H1
    simp only [Option.some.injEq, Prod.mk.injEq] at H
    obtain ⟨rfl, rfl⟩ := H
    go_enter Tryd.func24, Tryd.ntmps24
    go_wp2_with (first | ((with_reducible refine gate_callee (f := 46) rfl ?_); refine goesL_ (some 7) rfl rfl Tryd.func46 (by kernel_rfl) rfl #[.string a0] rfl (by (try simp only [List.map_toArray, List.map_cons, List.map_nil]); first | done | rfl | (simp only [List.length_drop, List.length_take]; rfl)) ?_; (with_reducible refine (spec_ldGood.calls k a0 false _ A2.out).mono ?_); rintro e w' ⟨rfl, ⟨nd, rfl⟩⟩; refine ⟨_, rfl, ?_⟩))
    go_ret2
    exact ⟨by first | rfl | (simp [errW_none, errW_some] <;> rfl) | (simp [*, errW_none, errW_some] <;> rfl), by repeat (first | (with_reducible first | exact HB.out | apply below_alloc | apply pw_below_drewN | apply below_drew1) | exact HB.out)⟩

-- given: strings.Trim

/-! ### strings.Trim at an ASCII cutset, by its contract -/
def strings_Trim.f (a0 a1 : ByteArray) : Option ByteArray := if a0.size ≤ 9223372036854775807 ∧ a1.size < 4294967281 ∧ a1.data.toList.all (fun b => decide (b.toNat < 128)) = true then some ⟨(Lib.trimS a0.data.toList a1.data.toList).toArray⟩ else none
theorem strings_Trim.calls (a0 a1 : ByteArray) (r : ByteArray) (w : World) (h : strings_Trim.f a0 a1 = some r) :
    Calls Tryd.prog 47 #[.string a0, .string a1] w fun e w' => e = .returned (.string r) ∧ Below w.heap.size w w' := by
  unfold strings_Trim.f at h
  split at h
  · rename_i hc
    obtain rfl := Option.some.inj h
    exact Any.strings_Trim_laid Tryd.lays160 (by kernel_rfl) a0 a1 w hc.1 hc.2.1 (ascii_of_all hc.2.2)
  · cases h

/-! ### impl_IsLoading: function 17 -/
def impl_IsLoading.f (a0 : ByteArray) : Option (Bool) := if (a0.size : Int) ≤ 12 then ((strings_Trim.f a0 (⟨#[49, 50, 51, 52, 53, 54, 55, 56, 57]⟩ : ByteArray)).bind fun t109 => (some (t109.toList == ([] : List UInt8)))) else (some false)
set_option maxHeartbeats 8000000 in
set_option maxRecDepth 100000 in
theorem impl_IsLoading.calls (a0 : ByteArray) (r : Bool) (w : World) (h : impl_IsLoading.f a0 = some r) :
    Calls Tryd.prog 17 #[.string a0] w fun e w' => e = .returned (.bool r) ∧ Below w.heap.size w w' := by
  have HB := Aside0.mk (Below.refl w.heap.size w)
  have H : (if (a0.size : Int) ≤ 12 then ((strings_Trim.f a0 (⟨#[49, 50, 51, 52, 53, 54, 55, 56, 57]⟩ : ByteArray)).bind fun t109 => (some (t109.toList == ([] : List UInt8)))) else (some false)) = some r := h
  clear h
  by_cases c2 : (a0.size : Int) ≤ 12
  · rw [if_pos c2] at H
    have c2b0 : decide ((a0.size : Int) ≤ 12) = true := decide_eq_true c2
    have c2b1 : decide (a0.size ≤ 12) = true := decide_eq_true (by omega)
    clear c2
    replace H := Option.bind_eq_some_iff.mp H
    obtain ⟨t109, A30, H⟩ := H
    replace H : (some (t109.toList == ([] : List UInt8))) = some r := H
    have A3 := Aside0.mk A30
    clear A30
    obtain rfl := Option.some.inj H
    go_enter Tryd.func17, Tryd.ntmps17
    go_wp2_with (first | (go_at_call 47; (with_reducible refine (strings_Trim.calls a0 (⟨#[49, 50, 51, 52, 53, 54, 55, 56, 57]⟩ : ByteArray) t109 _ A3.out).mono ?_); rintro e w4 ⟨rfl, hb⟩; have n0_ := Aside0.mk (below_step (by repeat (first | (with_reducible first | exact HB.out | apply below_alloc | apply pw_below_drewN | apply below_drew1) | exact HB.out)) hb); clear HB; have HB := n0_; clear n0_; (try clear hb); (try clear hb2); (try clear hk); (try clear hi)))
    go_ret
    exact ⟨by first | rfl | (simp [errW_none, errW_some] <;> rfl) | (simp [*, errW_none, errW_some] <;> rfl), by repeat (first | (with_reducible first | exact HB.out | apply below_alloc | apply pw_below_drewN | apply below_drew1) | exact HB.out)⟩
  · rw [if_neg c2] at H
    have c2b0 : decide ((a0.size : Int) ≤ 12) = false := decide_eq_false c2
    have c2b1 : decide (a0.size ≤ 12) = false := decide_eq_false (by omega)
    clear c2
    obtain rfl := Option.some.inj H
    go_enter Tryd.func17, Tryd.ntmps17
    go_wp2
    go_ret
    exact ⟨by first | rfl | (simp [errW_none, errW_some] <;> rfl) | (simp [*, errW_none, errW_some] <;> rfl), by repeat (first | (with_reducible first | exact HB.out | apply below_alloc | apply pw_below_drewN | apply below_drew1) | exact HB.out)⟩

-- given: part bytesrow
/-! ### the bytes of a string in a row that a conversion made -/
def BytesAt (w : World) (b : Nat) (s : ByteArray) : Prop := ∀ j (h : j < s.data.toList.length), w.cell? ⟨b, j, none⟩ = some (.int .u8 ((s.data.toList[j]'h).toNat : Int))
theorem BytesAt.made (w : World) (e : TypeId) (s : ByteArray) : BytesAt (Lib.bytesWorld w e s) w.heap.size s := by
  intro j h
  rw [Lib.bytesWorld_cell w e s j h]
  congr 3
  simp [List.getD, List.getElem?_eq_getElem h]
theorem BytesAt.below {w w' : World} {b : Nat} {s : ByteArray} (h : BytesAt w b s) (hb : Below w.heap.size w w') : BytesAt w' b s :=
  fun j hj => (hb.cell (World.block_lt_of_cell? w _ (h j hj))).trans (h j hj)
theorem BytesAt.grown {w w' : World} {b : Nat} {s : ByteArray} {o : Option Nat} (h : BytesAt w b s) (hg : w.grownBy w' o) (hne : some b ≠ o) : BytesAt w' b s := by
  intro j hj
  have h1 := h j hj
  rw [← h1]
  unfold World.cell?
  rw [hg.block b (World.block_lt_of_cell? w _ h1) hne]
theorem below_bytes (w : World) (e : TypeId) (s : ByteArray) : Below w.heap.size w (Lib.bytesWorld w e s) :=
  ⟨by simp [Lib.bytesWorld, World.freeze, World.alloc, World.drew, -World.alloc_eq, -World.drew_eq], by simp [Lib.bytesWorld, World.freeze, World.alloc, World.drew, -World.alloc_eq, -World.drew_eq], by simp [Lib.bytesWorld, World.freeze, World.alloc, World.drew, -World.alloc_eq, -World.drew_eq], by rw [Lib.bytesWorld_size]; omega, fun k hk => Lib.bytesWorld_at_old w e s k hk⟩
theorem R_empty {α : Type} (d : Kd α) (W : World) (e base : Nat) (ok : Nat → Prop) (hfresh : ok W.heap.size) (hbase : base ≤ W.heap.size) : d.R e (W.alloc (.cells #[] e)) base ok (.slice (some ⟨W.heap.size, 0, none⟩) 0 0) [] := by
  refine ⟨fun k hk => ?_, [], ?_, Reps.none _ _⟩
  · have : W.heap.size = k := by simpa [Value.ownBlock] using hk
    subst this
    exact hfresh
  · have h2 := World.ownsRow_lit (base := base) (e := e) (size := d.sz) W #[] 0 hbase (by simp [maxLen]) (by simp)
    simpa using h2
theorem two_bytes (w : World) (e : TypeId) (x y : Int) : Kd.C (Kd.int .u8) (w.alloc (.cells #[.int .u8 x, .int .u8 y] e)) (some ⟨w.heap.size, 0, none⟩) 2 [x, y] := by
  refine ⟨rfl, by omega, fun _ => ⟨_, rfl, fun j p hj => ?_⟩⟩
  match j, hj with
  | 0, hj =>
    obtain rfl := Option.some.inj hj
    refine ⟨[.int .u8 x], rfl, rfl, fun i u hu => ?_⟩
    match i, hu with
    | 0, hu => obtain rfl := Option.some.inj hu; simp [Kd.int, Kd.scalar, Addr.add]
    | i + 1, hu => simp at hu
  | 1, hj =>
    obtain rfl := Option.some.inj hj
    refine ⟨[.int .u8 y], rfl, rfl, fun i u hu => ?_⟩
    match i, hu with
    | 0, hu => obtain rfl := Option.some.inj hu; simp [Kd.int, Kd.scalar, Addr.add]
    | i + 1, hu => simp at hu
  | j + 2, hj => simp at hj
theorem one_string {P : Program} {W : World} {e' src dst e : TypeId} (hs : P.underlying src = some (.slice e)) (he : P.underlying e = some (.int .u8)) (hd : P.underlying dst = some .string) (c : UInt8) (x : Int) (hx : x = (c.toNat : Int)) (B : Nat) (hB : B = W.heap.size) :
    (convert src dst (.slice (some ⟨B, 0, none⟩) 1 1)).run P (W.alloc (.cells #[.int .u8 x] e')) = .ok (.string ⟨#[c]⟩) (W.alloc (.cells #[.int .u8 x] e')) := by
  subst hx hB
  have h := run_convert_bytes_arg (W.alloc (.cells #[.int .u8 (c.toNat : Int)] e')) src e hs he W.heap.size 0 1 1 [(c.toNat : Int)] rfl (fun i hi => by
    obtain rfl : i = 0 := by omega
    unfold World.cell?
    rw [heap_alloc_new]
    rfl) dst hd
  rw [h]
  simp [strOfNums]

-- given: loop.example/g01334/impl.PlacesOfBoxes

/-! ### impl_PlacesOfBoxes: by hand -/
theorem BytesAt.setCell {w : World} {b g i : Nat} {v : Value} {s : ByteArray} (h : BytesAt w b s) (hne : g ≠ b) : BytesAt (w.setCell ⟨g, i, none⟩ v) b s := by
  intro j hj
  rw [show (w.setCell ⟨g, i, none⟩ v).cell? ⟨b, j, none⟩ = w.cell? ⟨b, j, none⟩ from by apply World.cell?_setCell_other; intro h2; injection h2 with h3 _ _; exact hne h3]
  exact h j hj
theorem own_lt {α : Type} {d : Kd α} {e : TypeId} {w : World} {base : Nat} {ok : Nat → Prop} {v : Value} {xs : List α} (h : d.R e w base ok v xs) : ∀ k, v.ownBlock = some k → k < w.heap.size := by
  intro k hk
  obtain ⟨cells, hc⟩ := Kd.R_typed h k hk
  exact (Array.getElem?_eq_some_iff.1 hc).1
theorem cell_grown {w w' : World} {b i : Nat} {v : Value} {o : Option Nat} (h : w.cell? ⟨b, i, none⟩ = some v) (hg : w.grownBy w' o) (hne : some b ≠ o) : w'.cell? ⟨b, i, none⟩ = some v := by
  rw [← h]
  unfold World.cell?
  rw [hg.block b (World.block_lt_of_cell? w _ h) hne]
def impl_PlacesOfBoxes.f (a0 : ByteArray) : Option (List Int × Bool) := (impl_IsLoading.f a0).bind fun p => if p = true then (if a0.size ≤ 1000 then some ((a0.data.toList.foldl plStep ([], [])).1, true) else none) else some ([], false)
set_option maxHeartbeats 1000000 in
theorem pl_closure (x c : Int) (B : Nat) (w : World) (h1 : w.cell? ⟨B, 0, none⟩ = some (.int .u8 c)) :
    Calls Tryd.prog 57 #[.int .u8 x, .pointer (some ⟨B, 0, none⟩)] w fun e w' => e = .returned (.bool (decide (c ≤ x))) ∧ Drawn0 w w' := by
  go_enter Tryd.func57, Tryd.ntmps57
  go_wp2_with fail
  go_ret
  exact ⟨rfl, by repeat (first | exact Drawn0.refl _ | apply Drawn0.step)⟩
set_option maxHeartbeats 2000000 in
theorem pl_index (A0 : Option Addr) (c0 : Nat) (l0 : List Int) (c : Int) (B : Nat) (w : World) (hr0 : Kd.C (Kd.int .u8) w A0 l0.length l0) (h1 : w.cell? ⟨B, 0, none⟩ = some (.int .u8 c)) :
    Calls Tryd.prog 56 #[.slice A0 l0.length c0, .func (.func 57) #[] #[.pointer (some ⟨B, 0, none⟩)]] w fun e w' => e = .returned (.int .i64 (fIdx c l0)) ∧ Drawn0 w w' := by
  have HR0 := Aside0.mk hr0
  have HB1 := Aside0.mk h1
  have hl := hr0.2.1
  clear hr0 h1
  have eg : ∀ (args : Array Value) (W : World), (callFunc 57 args).run Tryd.prog W = .ok (.enter 57 args) W := enters_of Tryd.func57 (by kernel_rfl) rfl
  go_enter Tryd.func56, Tryd.ntmps56
  go_wp2
  go_loopg [5, 8] l0.length (fun gg _ s8 wr => ∃ kk : Nat, kk ≤ l0.length ∧ l0.length - kk ≤ gg ∧ s8 = .int .i64 kk ∧ Aside0 (∀ j, j < kk → l0.getD j 0 < c) ∧ Drawn0 w wr)
  case atStart => exact ⟨0, Nat.zero_le _, by omega, rfl, ⟨fun j hj => absurd hj (Nat.not_lt_zero _)⟩, by repeat (first | exact Drawn0.refl _ | apply Drawn0.step)⟩
  case round =>
    obtain ⟨kk, hkk, hg, rfl, HA, ⟨m1, rfl⟩⟩ := hrel
    by_cases hlt : kk < l0.length
    · have hltz : (kk : Int) < (l0.length : Int) := by omega
      obtain ⟨ad, rfl, hx0⟩ := Kd.at_int HR0.out (kk : Int) (by omega) hltz
      rw [show rd l0 (kk : Int) = l0.getD kk 0 by simp [rd], Int.toNat_natCast] at hx0
      generalize hy : l0.getD kk 0 = y at hx0
      have HY := Aside0.mk hy
      clear hy
      have hcall := fun (W : World) (h : Drawn0 w W) => pl_closure y c B W (by obtain ⟨n, rfl⟩ := h; exact HB1.out)
      cases hq : decide (c ≤ y) with
      | true =>
        rw [hq] at hcall
        have HQ := Aside0.mk hq
        have HC := Aside0.mk hcall
        clear hq hcall
        go_wp2_with (go_at_call 57; refine (HC.out _ (by repeat (first | exact Drawn0.refl _ | apply Drawn0.step))).mono ?_; rintro e w' ⟨rfl, ⟨nd, rfl⟩⟩)
        go_ret
        refine ⟨?_, by repeat (first | exact Drawn0.refl _ | apply Drawn0.step)⟩
        rw [fIdx_at c l0 kk hlt HA.out (by rw [HY.out]; exact of_decide_eq_true HQ.out)]
        rfl
      | false =>
        rw [hq] at hcall
        have HQ := Aside0.mk hq
        have HC := Aside0.mk hcall
        clear hq hcall
        go_wp2_with (go_at_call 57; refine (HC.out _ (by repeat (first | exact Drawn0.refl _ | apply Drawn0.step))).mono ?_; rintro e w' ⟨rfl, ⟨nd, rfl⟩⟩)
        go_roundg (l0.length - (kk + 1))
        case measure => omega
        case rel =>
          refine ⟨kk + 1, by omega, by omega, by go_num, ⟨fun j hj => ?_⟩, by repeat (first | exact Drawn0.refl _ | apply Drawn0.step)⟩
          by_cases e : j = kk
          · subst e; rw [HY.out]; have := of_decide_eq_false HQ.out; omega
          · exact HA.out j (by omega)
    · have hltz : ¬ (kk : Int) < (l0.length : Int) := by omega
      have hk : kk = l0.length := by omega
      subst hk
      go_wp2
      go_ret
      refine ⟨?_, by repeat (first | exact Drawn0.refl _ | apply Drawn0.step)⟩
      rw [fIdx_none c l0 HA.out]
      rfl
set_option maxHeartbeats 4000000 in
set_option maxRecDepth 100000 in
theorem impl_PlacesOfBoxes.calls (a0 : ByteArray) (r1 : List Int) (r2 : Bool) (w : World) (h : impl_PlacesOfBoxes.f a0 = some (r1, r2)) :
    Calls Tryd.prog 34 #[.string a0] w fun e w' => ∃ v0_ : Value, e = .returned (.tuple #[v0_, .bool r2]) ∧ Kd.R (Kd.int .i64) 3 w' w.heap.size (fun _ => True) v0_ r1 ∧ Below w.heap.size w w' := by
  cases hp : impl_IsLoading.f a0 with
  | none => simp [impl_PlacesOfBoxes.f, hp] at h
  | some p =>
    have HP := Aside0.mk hp
    cases p with
    | false =>
      simp [impl_PlacesOfBoxes.f, hp] at h
      obtain ⟨rfl, rfl⟩ := h
      clear hp
      go_enter Tryd.func34, Tryd.ntmps34
      go_wp2_with (go_at_call 17; refine (impl_IsLoading.calls a0 false _ HP.out).mono ?_; rintro e w1 ⟨rfl, hb1⟩; have HB1 := Aside0.mk hb1; clear hb1)
      go_ret2
      exact ⟨_, rfl, Kd.R_nil _ _ _ _ _, HB1.out⟩
    | true =>
      simp only [impl_PlacesOfBoxes.f, hp, Option.bind_some, if_true] at h
      by_cases hsz : a0.size ≤ 1000
      · rw [if_pos hsz] at h
        obtain ⟨rfl, rfl⟩ := Prod.mk.inj (Option.some.inj h)
        clear h hp
        have hlenL : a0.data.toList.length = a0.size := rfl
        have hmf : ∀ (fn : Fn) (first cap : Array Value) (w : World), (Instr.makeFunc fn first cap).run Tryd.prog w = .ok (.func fn first cap) w := fun _ _ _ _ => rfl
        have hconv := fun W : World => Lib.run_convert_string_bytes (P := Tryd.prog) W 9 47 5 a0 Tryd.underlying9 Tryd.underlying47 Tryd.underlying5
        go_enter Tryd.func34, Tryd.ntmps34
        go_wp2_with (go_at_call 17; refine (impl_IsLoading.calls a0 true _ HP.out).mono ?_; rintro e w1 ⟨rfl, hb1⟩; have HB1 := Aside0.mk hb1; clear hb1)
        have hs1 : (w1.alloc (.cells #[] 3)).heap.size = w1.heap.size + 1 := by simp
        have hs2 : ((w1.alloc (.cells #[] 3)).alloc (.cells #[] 5)).heap.size = w1.heap.size + 2 := by simp
        have HX := Aside0.mk (Kd.R_below (Kd.R_alloc (R_empty (Kd.int .i64) w1 3 w.heap.size (fun k => k ≠ w1.heap.size + 2) (by simp) HB1.out.size) (.cells #[] 5)) (below_bytes ((w1.alloc (.cells #[] 3)).alloc (.cells #[] 5)) 5 a0))
        have HT := Aside0.mk (Kd.R_below (R_empty (Kd.int .u8) (w1.alloc (.cells #[] 3)) 5 w.heap.size (fun k => k ≠ w1.heap.size + 2) (by rw [hs1]; omega) (by rw [hs1]; have := HB1.out.size; omega)) (below_bytes ((w1.alloc (.cells #[] 3)).alloc (.cells #[] 5)) 5 a0))
        rw [hs1] at HT
        have HBY := Aside0.mk (BytesAt.made ((w1.alloc (.cells #[] 3)).alloc (.cells #[] 5)) 5 a0)
        rw [hs2] at HBY
        have HBW := Aside0.mk (HB1.out.trans (((by repeat (first | exact Below.refl _ _ | apply below_alloc) : Below w1.heap.size w1 ((w1.alloc (.cells #[] 3)).alloc (.cells #[] 5))).trans ((below_bytes ((w1.alloc (.cells #[] 3)).alloc (.cells #[] 5)) 5 a0).mono (by simp; omega))).mono HB1.out.size))
        have HSZ := Aside0.mk (show w1.heap.size + 3 ≤ (Lib.bytesWorld ((w1.alloc (.cells #[] 3)).alloc (.cells #[] 5)) 5 a0).heap.size by rw [Lib.bytesWorld_size, hs2]; omega)
        clear hs1 hs2
        generalize hcapE : grownCap ((w1.alloc (.cells #[] 3)).alloc (.cells #[] 5)) a0.size 0 5 = cap0
        clear hcapE
        go_loopg [4, 5, 17] a0.size (fun gg v4 v5 v17 wr => ∃ (kk : Nat) (xs ts : List Int), kk ≤ a0.size ∧ a0.size - kk ≤ gg ∧ v17 = .int .i64 kk ∧ xs.length ≤ kk ∧ ts.length ≤ kk ∧ Aside0 ((a0.data.toList.take kk).foldl plStep ([], []) = (xs, ts)) ∧ Aside0 (Kd.R (Kd.int .i64) 3 wr w.heap.size (fun k => k ≠ w1.heap.size + 2) v4 xs) ∧ Aside0 (Kd.R (Kd.int .u8) 5 wr w.heap.size (fun k => k ≠ w1.heap.size + 2) v5 ts) ∧ Aside0 (BytesAt wr (w1.heap.size + 2) a0) ∧ Aside0 (Below w.heap.size w wr) ∧ Aside0 (w1.heap.size + 3 ≤ wr.heap.size))
        case atStart => exact ⟨0, [], [], by omega, by omega, rfl, by simp, by simp, ⟨rfl⟩, HX, HT, HBY, HBW, HSZ⟩
        case round =>
          clear HX HT HBY HBW HSZ
          obtain ⟨kk, xs, ts, hkk, hgg, rfl, hxl, htl, HF, HX, HT, HBY, HB, HSZ⟩ := hrel
          by_cases hlt : kk < a0.size
          · have c1 : ((kk : Int) < (a0.size : Int)) = True := eq_true (by omega)
            have c2 : (0 ≤ (kk : Int)) = True := eq_true (by omega)
            have hltL : kk < a0.data.toList.length := by rw [hlenL]; exact hlt
            have htake : a0.data.toList.take (kk + 1) = a0.data.toList.take kk ++ [a0.data.toList[kk]'hltL] := by rw [List.take_add_one, List.getElem?_eq_getElem hltL]; rfl
            have hcell := HBY.out kk hltL
            generalize a0.data.toList[kk]'hltL = c at htake hcell
            have hstep : (a0.data.toList.take (kk + 1)).foldl plStep ([], []) = plStep (xs, ts) c := by rw [htake, List.foldl_append, HF.out]; rfl
            have HST := Aside0.mk hstep
            clear hstep htake
            obtain ⟨At, ct, rfl⟩ := Kd.R_slice HT.out
            have HC := Aside0.mk (Kd.R_reads' HT.out).2.2
            have HOL := Aside0.mk (own_lt HT.out)
            have hcall := fun (W : World) (hb : Below wr.heap.size wr W) (h1 : W.cell? ⟨wr.heap.size, 0, none⟩ = some (.int .u8 (c.toNat : Int))) => pl_index At ct ts (c.toNat : Int) wr.heap.size W (Kd.C_below HC.out hb) h1
            by_cases hneg : fIdx (c.toNat : Int) ts < 0
            · have HPS := Aside0.mk (show plStep (xs, ts) c = (xs ++ [(ts.length : Int)], (ts ++ [(c.toNat : Int)]).set ts.length (c.toNat : Int)) by unfold plStep; rw [if_pos hneg])
              generalize fIdx (c.toNat : Int) ts = i at hcall hneg
              have HCA := Aside0.mk hcall
              have q1 : decide (i < 0) = true := decide_eq_true hneg
              have p1 : (0 ≤ (ts.length : Int)) = True := eq_true (by omega)
              obtain ⟨T, hT⟩ : ∃ T, T = ts ++ [(c.toNat : Int)] := ⟨_, rfl⟩
              have hTl : T.length = ts.length + 1 := by rw [hT]; simp
              have p2 : ((ts.length : Int) < (T.length : Int)) = True := eq_true (by omega)
              have HTT := Aside0.mk hT
              clear hT hcall hneg
              go_wp2_with (first | (go_at_call 56; refine (HCA.out _ (by repeat (first | exact Below.refl _ _ | apply below_alloc | apply pw_below_drewN)) (by simp)).mono ?_; rintro e w2 ⟨rfl, ⟨nd, hw⟩⟩; have hb2 : Below wr.heap.size wr w2 := (by rw [hw]; repeat (first | exact Below.refl _ _ | apply below_alloc | apply pw_below_drewN)); have hcB : w2.cell? ⟨wr.heap.size, 0, none⟩ = some (.int .u8 (c.toNat : Int)) := (by rw [hw]; simp); clear hw; have HXc := Aside0.mk (Kd.R_below HX.out hb2); have HTc := Aside0.mk (Kd.R_below HT.out hb2); have HYc := Aside0.mk (HBY.out.below hb2); have HBc := Aside0.mk (HB.out.trans (hb2.mono HB.out.size)); have HSc := Aside0.mk (Nat.le_trans HSZ.out hb2.size); clear hb2) | ((with_reducible refine gate_builtin (b := .append) (xs := #[.tmp 28, .tmp 30]) rfl ?_); at_builtin; refine Kd.R_append (Kd.int .u8) (w0 := w) w.heap.size rfl (.tmp 28) (.tmp 30) 47 5 (.int .u8 0) 1 rfl Tryd.underlying47 (by kernel_rfl) rfl (by decide) (by omega) (.slice At ts.length ct) ts (c.toNat : Int) [.int .u8 (c.toNat : Int)] (fun k => k ≠ w1.heap.size + 2) (fun _ => False) rfl ?bX ?bP (fun _ hk => hk.elim) ?bF ?bO ?bB ?bS ?bL ?_; (case bX => first | rfl | (refine Eq.trans rfl (congrArg (fun n => Value.slice (some ⟨n, 0, none⟩) 1 1) (?_ : w2.heap.size = _)); simp)); (case bP => exact rfl); (case bB => exact (by repeat (first | exact HBc.out | apply below_alloc | apply pw_below_drewN))); (case bF => intro k hk; have h7 := HSc.out; show k ≠ w1.heap.size + 2; (try simp at hk); omega); (case bO => exact (by (with_reducible repeat (first | apply Kd.R_alloc | apply Kd.R_drewN | apply Kd.R_drew)); exact HTc.out)); (case bS => exact (below_size (by repeat (first | exact HBc.out | apply below_alloc | apply pw_below_drewN)))); (case bL => omega); intro v6 w6 ho hb hg hat; rw [← HTT.out] at ho; have HX6 := Aside0.mk (Kd.R_over' (v := .slice At ts.length ct) (by (with_reducible repeat (first | apply Kd.R_alloc | apply Kd.R_drewN | apply Kd.R_drew)); exact HXc.out) (Kd.R_typed (by (with_reducible repeat (first | apply Kd.R_alloc | apply Kd.R_drewN | apply Kd.R_drew)); exact HTc.out)) (by decide) hg); have HT6 := Aside0.mk ho; have HB6 := Aside0.mk hb; have hcB6 : w6.cell? ⟨wr.heap.size, 0, none⟩ = some (.int .u8 (c.toNat : Int)) := cell_grown (by first | exact hcB | (simp; exact hcB) | simpa using hcB) hg (by intro hh; exact absurd (HOL.out _ hh.symm) (Nat.lt_irrefl _)); have HY6 := Aside0.mk (BytesAt.grown (BytesAt.below HYc.out (by repeat (first | exact Below.refl _ _ | apply below_alloc | apply pw_below_drewN))) hg (Kd.R_away HT.out (fun k hk => hk))); have hsz6 : w1.heap.size + 3 ≤ w6.heap.size := (by have h1 := hg.size; have h2 := HSc.out; (try simp at h1); omega); clear ho hb hg hat; obtain ⟨g, cap, rfl, hg1, hg2, _⟩ := Kd.R_form HT6.out (by omega); obtain ⟨hcW, hfW⟩ := Kd.R_celln 0 HT6.out (ts.length : Int) (by omega) (by omega); rw [Int.toNat_natCast] at hcW hfW; have hput := pl_put (i := ts.length) HX6.out HT6.out (by decide) (c.toNat : Int) HB6.out hg1; have HX2 := Aside0.mk hput.1; have HT2 := Aside0.mk hput.2.1; have HB2 := Aside0.mk hput.2.2; have HBY2 := Aside0.mk (BytesAt.setCell (i := ts.length) (v := .int .u8 (c.toNat : Int)) HY6.out (HT6.out.1 g rfl)); have HSZ2 : Aside0 (w1.heap.size + 3 ≤ (w6.setCell ⟨g, ts.length, none⟩ (.int .u8 (c.toNat : Int))).heap.size) := ⟨by simpa using hsz6⟩; clear hput hsz6) | ((with_reducible refine gate_builtin (b := .append) (xs := #[.tmp 36, .tmp 38]) rfl ?_); at_builtin; refine Kd.R_append (Kd.int .i64) (w0 := w) w.heap.size rfl (.tmp 36) (.tmp 38) 28 3 (.int .i64 0) 8 rfl Tryd.underlying28 (by kernel_rfl) rfl (by decide) (by omega) u4 xs (ts.length : Int) [.int .i64 (ts.length : Int)] (fun k => k ≠ w1.heap.size + 2) (fun _ => False) rfl ?aXb ?aPb (fun _ hk => hk.elim) ?aFb ?aOb ?aBb ?aSb ?aLb ?_; (case aXb => first | rfl | (refine Eq.trans rfl (congrArg (fun n => Value.slice (some ⟨n, 0, none⟩) 1 1) (?_ : w6.heap.size = _)); simp)); (case aPb => exact rfl); (case aBb => exact (by repeat (first | exact HB2.out | apply below_alloc | apply pw_below_drewN))); (case aFb => intro k hk; have := HSZ2.out; simp at hk this; omega); (case aOb => exact (by (with_reducible repeat (first | apply Kd.R_alloc | apply Kd.R_drewN | apply Kd.R_drew)); exact HX2.out)); (case aSb => exact (below_size (by repeat (first | exact HB2.out | apply below_alloc | apply pw_below_drewN)))); (case aLb => omega); intro v9 w9 ho hb hg hat; have HX9 := Aside0.mk ho; have HT9 := Aside0.mk (Kd.R_over' (v := u4) (by (with_reducible repeat (first | apply Kd.R_alloc | apply Kd.R_drewN | apply Kd.R_drew)); exact HT2.out) (Kd.R_typed (by (with_reducible repeat (first | apply Kd.R_alloc | apply Kd.R_drewN | apply Kd.R_drew)); exact HX2.out)) (by decide) hg); have HB9 := Aside0.mk hb; have HY9 := Aside0.mk (BytesAt.grown (BytesAt.below HBY2.out (by repeat (first | exact Below.refl _ _ | apply below_alloc | apply pw_below_drewN))) hg (Kd.R_away HX2.out (fun k hk => hk))); have HG9 := Aside0.mk hg.size; clear ho hb hg hat))
              go_roundg (a0.size - (kk + 1))
              case measure => omega
              case rel =>
                refine ⟨kk + 1, xs ++ [(ts.length : Int)], T.set ts.length (c.toNat : Int), by omega, by omega, by go_num, by simp; omega, by rw [List.length_set]; omega, ⟨?_⟩, HX9, ⟨?_⟩, HY9, HB9, ⟨?_⟩⟩
                · rw [HST.out, HPS.out, HTT.out]
                · have ht9 := HT9.out
                  first | exact ht9 | (rw [List.length_set]; exact ht9) | (rw [hTl] at ht9; exact ht9)
                · have h1 := HG9.out
                  have h2 := HSZ2.out
                  simp at h1 h2
                  omega
            · obtain ⟨k, hk⟩ : ∃ k : Nat, fIdx (c.toNat : Int) ts = (k : Int) := ⟨(fIdx (c.toNat : Int) ts).toNat, by omega⟩
              have hkl : k < ts.length := by rcases fIdx_range (c.toNat : Int) ts with h | h <;> omega
              have HPS := Aside0.mk (show plStep (xs, ts) c = (xs ++ [(k : Int)], ts.set k (c.toNat : Int)) by unfold plStep; rw [if_neg hneg, hk, Int.toNat_natCast])
              rw [hk] at hcall
              have HCA := Aside0.mk hcall
              have q1 : decide ((k : Int) < 0) = false := decide_eq_false (by omega)
              have p1 : (0 ≤ (k : Int)) = True := eq_true (by omega)
              have p2 : ((k : Int) < (ts.length : Int)) = True := eq_true (by omega)
              obtain ⟨g, cap, e, hg1, hg2, _⟩ := Kd.R_form HT.out (by omega)
              injection e with ea _ ec
              subst ea ec
              clear hcall hneg hk
              go_wp2_with (first | (go_at_call 56; refine (HCA.out _ (by repeat (first | exact Below.refl _ _ | apply below_alloc | apply pw_below_drewN)) (by simp)).mono ?_; rintro e w2 ⟨rfl, ⟨nd, hw⟩⟩; have hb2 : Below wr.heap.size wr w2 := (by rw [hw]; repeat (first | exact Below.refl _ _ | apply below_alloc | apply pw_below_drewN)); have hcB : w2.cell? ⟨wr.heap.size, 0, none⟩ = some (.int .u8 (c.toNat : Int)) := (by rw [hw]; simp); clear hw; have HXc := Aside0.mk (Kd.R_below HX.out hb2); have HTc := Aside0.mk (Kd.R_below HT.out hb2); have HYc := Aside0.mk (HBY.out.below hb2); have HBc := Aside0.mk (HB.out.trans (hb2.mono HB.out.size)); have HSc := Aside0.mk (Nat.le_trans HSZ.out hb2.size); clear hb2; obtain ⟨hcW, hfW⟩ := Kd.R_celln 0 HTc.out (k : Int) (by omega) (by omega); rw [Int.toNat_natCast] at hcW hfW; have hput := pl_put (i := k) HXc.out HTc.out (by decide) (c.toNat : Int) HBc.out hg1; have HX2 := Aside0.mk hput.1; have HT2 := Aside0.mk hput.2.1; have HB2 := Aside0.mk hput.2.2; have HBY2 := Aside0.mk (BytesAt.setCell (i := k) (v := .int .u8 (c.toNat : Int)) HYc.out (HTc.out.1 g rfl)); have HSZ2 : Aside0 (w1.heap.size + 3 ≤ (w2.setCell ⟨g, k, none⟩ (.int .u8 (c.toNat : Int))).heap.size) := ⟨by simpa using HSc.out⟩; clear hput) | ((with_reducible refine gate_builtin (b := .append) (xs := #[.tmp 36, .tmp 38]) rfl ?_); at_builtin; refine Kd.R_append (Kd.int .i64) (w0 := w) w.heap.size rfl (.tmp 36) (.tmp 38) 28 3 (.int .i64 0) 8 rfl Tryd.underlying28 (by kernel_rfl) rfl (by decide) (by omega) u4 xs (k : Int) [.int .i64 (k : Int)] (fun k => k ≠ w1.heap.size + 2) (fun _ => False) rfl ?aXa ?aPa (fun _ hk => hk.elim) ?aFa ?aOa ?aBa ?aSa ?aLa ?_; (case aXa => first | rfl | (refine Eq.trans rfl (congrArg (fun n => Value.slice (some ⟨n, 0, none⟩) 1 1) (?_ : w2.heap.size = _)); simp)); (case aPa => exact rfl); (case aBa => exact (by repeat (first | exact HB2.out | apply below_alloc | apply pw_below_drewN))); (case aFa => intro k hk; have := HSZ2.out; simp at hk this; omega); (case aOa => exact (by (with_reducible repeat (first | apply Kd.R_alloc | apply Kd.R_drewN | apply Kd.R_drew)); exact HX2.out)); (case aSa => exact (below_size (by repeat (first | exact HB2.out | apply below_alloc | apply pw_below_drewN)))); (case aLa => omega); intro v9 w9 ho hb hg hat; have HX9 := Aside0.mk ho; have HT9 := Aside0.mk (Kd.R_over' (v := u4) (by (with_reducible repeat (first | apply Kd.R_alloc | apply Kd.R_drewN | apply Kd.R_drew)); exact HT2.out) (Kd.R_typed (by (with_reducible repeat (first | apply Kd.R_alloc | apply Kd.R_drewN | apply Kd.R_drew)); exact HX2.out)) (by decide) hg); have HB9 := Aside0.mk hb; have HY9 := Aside0.mk (BytesAt.grown (BytesAt.below HBY2.out (by repeat (first | exact Below.refl _ _ | apply below_alloc | apply pw_below_drewN))) hg (Kd.R_away HX2.out (fun k hk => hk))); have HG9 := Aside0.mk hg.size; clear ho hb hg hat))
              go_roundg (a0.size - (kk + 1))
              case measure => omega
              case rel =>
                refine ⟨kk + 1, xs ++ [(k : Int)], ts.set k (c.toNat : Int), by omega, by omega, by go_num, by simp; omega, by rw [List.length_set]; omega, ⟨?_⟩, HX9, ⟨?_⟩, HY9, HB9, ⟨?_⟩⟩
                · rw [HST.out, HPS.out]
                · have ht9 := HT9.out
                  first | exact ht9 | (rw [List.length_set]; exact ht9) | (rw [hTl] at ht9; exact ht9)
                · have h1 := HG9.out
                  have h2 := HSZ2.out
                  simp at h1 h2
                  omega
          · have c1 : ((kk : Int) < (a0.size : Int)) = False := eq_false (by omega)
            obtain rfl : kk = a0.size := by omega
            have hf := HF.out
            rw [show a0.data.toList.take a0.size = a0.data.toList from List.take_of_length_le (by rw [hlenL]; exact Nat.le_refl _)] at hf
            have HF2 := Aside0.mk hf
            clear hf
            go_wp2_with fail
            go_ret2
            refine ⟨_, rfl, ?_, HB.out⟩
            rw [HF2.out]
            exact Kd.R_mono HX.out (fun _ _ => trivial)
      · rw [if_neg hsz] at h
        exact absurd h (by simp)

/-! ### impl_FewestPlaces: function 25 -/
def impl_FewestPlaces.l0 : Nat → Bool → Int → List Int → Int → Int → Option (Int × Bool)
  | 0, _, _, _, _, _ => none
  | k + 1, x5, x6, x14, x15, x16 => if x16 < x15 then (if 0 ≤ x16 then (if x16 < (x14.length : Int) then (impl_FewestPlaces.l0 k x5 (mx x6 (wrap64 ((rd x14 x16) + 1))) x14 x15 (wrap64 (x16 + 1))) else (none)) else (none)) else (some (x6, x5))
def impl_FewestPlaces.f (k : Nat) (a0 : ByteArray) : Option (Int × Bool) := (impl_PlacesOfBoxes.f a0).bind fun bt110 => (impl_FewestPlaces.l0 k bt110.2 0 bt110.1 (bt110.1.length : Int) 0)
theorem impl_FewestPlaces.mono_l : ∀ k, (∀ y0 y1 y2 y3 y4, LeO (impl_FewestPlaces.l0 k y0 y1 y2 y3 y4) (impl_FewestPlaces.l0 (k + 1) y0 y1 y2 y3 y4))
  | 0 => fun _ _ _ _ _ r h => by simp [impl_FewestPlaces.l0] at h
  | k + 1 => by
    have ih0 := impl_FewestPlaces.mono_l k
    · intro y0 y1 y2 y3 y4
      unfold impl_FewestPlaces.l0
      repeat' first
      | (with_reducible exact ih0 _ _ _ _ _)
      | (with_reducible exact LeO.refl _)
      | (with_reducible exact LeO.none _)
      | (with_reducible refine LeO.ite ?_ ?_)
      | (with_reducible refine LeO.bind ?_ (fun _ => ?_))
      | exact ih0 _ _ _ _ _
      | exact LeO.none _
      | refine LeO.ite ?_ ?_
      | refine LeO.bind ?_ (fun _ => ?_)
theorem impl_FewestPlaces.mono : ∀ a0 k, LeO (impl_FewestPlaces.f k a0) (impl_FewestPlaces.f (k + 1) a0) := by
  intro a0 k
  have ih0 := impl_FewestPlaces.mono_l k
  unfold impl_FewestPlaces.f
  repeat' first
      | (with_reducible exact ih0 _ _ _ _ _)
      | (with_reducible exact LeO.refl _)
      | (with_reducible exact LeO.none _)
      | (with_reducible refine LeO.ite ?_ ?_)
      | (with_reducible refine LeO.bind ?_ (fun _ => ?_))
      | exact ih0 _ _ _ _ _
      | exact LeO.none _
      | refine LeO.ite ?_ ?_
      | refine LeO.bind ?_ (fun _ => ?_)
set_option maxHeartbeats 8000000 in
set_option maxRecDepth 100000 in
theorem impl_FewestPlaces.calls (k : Nat) (a0 : ByteArray) (r1 : Int) (r2 : Bool) (w : World) (h : impl_FewestPlaces.f k a0 = some (r1, r2)) :
    Calls Tryd.prog 25 #[.string a0] w fun e w' => e = .returned (.tuple #[.int .i64 r1, .bool r2]) ∧ Below w.heap.size w w' := by
  have HB := Aside0.mk (Below.refl w.heap.size w)
  have H : ((impl_PlacesOfBoxes.f a0).bind fun bt110 => (impl_FewestPlaces.l0 k bt110.2 0 bt110.1 (bt110.1.length : Int) 0)) = some (r1, r2) := h
  clear h
  replace H := Option.bind_eq_some_iff.mp H
  obtain ⟨⟨t110, t111⟩, A20, H⟩ := H
  replace H : (impl_FewestPlaces.l0 k t111 0 t110 (t110.length : Int) 0) = some (r1, r2) := H
  have A2 := Aside0.mk A20
  clear A20
  have H' := Aside0.mk H
  clear H
  go_enter Tryd.func25, Tryd.ntmps25
  go_wp2_with (first | ((with_reducible refine gate_callee (f := 34) rfl ?_); refine goesL_ (some 11) rfl rfl Tryd.func34 (by kernel_rfl) rfl #[.string a0] rfl (by (try simp only [List.map_toArray, List.map_cons, List.map_nil]); first | done | rfl | (simp only [List.length_drop, List.length_take]; rfl)) ?_; (with_reducible refine (impl_PlacesOfBoxes.calls a0 t110 t111 _ A2.out).mono ?_); rintro e w3 ⟨v112, rfl, ho0, hb⟩; refine ⟨_, rfl, ?_⟩; have n0_ := Aside0.mk (Kd.R_lower ho0 (below_size (by repeat (first | (with_reducible first | exact HB.out | apply below_alloc | apply pw_below_drewN | apply below_drew1) | exact HB.out)))); have n1_ := Aside0.mk (below_step (by repeat (first | (with_reducible first | exact HB.out | apply below_alloc | apply pw_below_drewN | apply below_drew1) | exact HB.out)) hb); clear HB; have HO113 := n0_; have HB := n1_; clear n0_ n1_; (try clear hb); (try clear hb2); (try clear hk); (try clear hi); (try clear ho0); obtain ⟨Ao4, co4, eo4⟩ := Kd.R_slice HO113.out; subst eo4))
  go_loopg [6, 16] k (fun kq v6 v16 w' => ∃ (x6_1 : Int) (x16_1 : Int), v6 = .int .i64 x6_1 ∧ v16 = .int .i64 x16_1 ∧ Aside0 (impl_FewestPlaces.l0 kq t111 x6_1 t110 (t110.length : Int) x16_1 = some (r1, r2)) ∧ Aside0 (kq ≤ k) ∧ Aside0 (Kd.R (Kd.int .i64) 3 w' w.heap.size (fun _ => True) (.slice Ao4 t110.length co4) t110) ∧ Aside0 (Below w.heap.size w w'))
  case atStart => exact ⟨(0), (0), (by first | rfl | (simp; done) | (simp [*]; done)), (by first | rfl | (simp; done) | (simp [*]; done)), H', ⟨Nat.le_refl _⟩, ⟨by (with_reducible repeat (first | apply Kd.R_alloc | apply Kd.R_drewN | apply Kd.R_drew)); exact HO113.out⟩, ⟨by repeat (first | (with_reducible first | exact HB.out | apply below_alloc | apply pw_below_drewN | apply below_drew1) | exact HB.out)⟩⟩
  case round =>
    clear H'
    try clear c2
    try clear p2
    try clear c3
    obtain ⟨x6_1, x16_1, rfl, rfl, HA, HK1, HO_14, HB⟩ := hrel
    cases gk with
    | zero => exact absurd HA.out (by simp [impl_FewestPlaces.l0])
    | succ k1 =>
      have H := HA.out
      clear HA
      simp only [impl_FewestPlaces.l0] at H
      by_cases c5 : x16_1 < (t110.length : Int)
      · rw [if_pos c5] at H
        have c5b0 : decide (x16_1 < (t110.length : Int)) = true := decide_eq_true c5
        clear c5
        by_cases c6 : 0 ≤ x16_1
        · rw [if_pos c6] at H
          have c6b0 : decide (0 ≤ x16_1) = true := decide_eq_true c6
          clear c6
          by_cases c7 : x16_1 < (t110.length : Int)
          · rw [if_pos c7] at H
            have c7b0 : decide (x16_1 < (t110.length : Int)) = true := decide_eq_true c7
            clear c7
            obtain ⟨ji8, hji8⟩ : ∃ j_ : Int, (mx x6_1 (wrap64 ((rd t110 x16_1) + 1))) = j_ := ⟨_, rfl⟩
            replace H : (impl_FewestPlaces.l0 k1 t111 ji8 t110 (t110.length : Int) (wrap64 (x16_1 + 1))) = some (r1, r2) := by first | (rw [hji8] at H; exact H) | (simp only [hji8] at H ⊢; exact H)
            have hji8_ : (if x6_1 < (wrap64 ((rd t110 x16_1) + 1)) then (wrap64 ((rd t110 x16_1) + 1)) else x6_1) = ji8 := hji8
            have H' := Aside0.mk H
            clear H
            have p114 : 0 ≤ (x16_1 : Int) := of_decide_eq_true (by first | (with_reducible assumption) | assumption)
            have q114 : x16_1 < (t110.length : Int) := of_decide_eq_true (by first | (with_reducible assumption) | assumption)
            obtain ⟨ad114, e114, hx114_0⟩ := Kd.at_int (Kd.R_reads' HO_14.out).2.2 x16_1 p114 q114
            cases e114
            replace p114 := eq_true p114
            replace q114 := eq_true q114
            go_wp2
            go_roundg k1
            case measure => have := HK1.out; omega
            case rel => exact ⟨(ji8), (wrap64 (x16_1 + 1)), (by first | rfl | (simp; done) | (simp only [← hji8] <;> (first | rfl | simp)) | (simp [*]; done)), (by first | rfl | (simp; done) | (simp [*]; done)), H', ⟨by have := HK1.out; omega⟩, ⟨by (with_reducible repeat (first | apply Kd.R_alloc | apply Kd.R_drewN | apply Kd.R_drew)); exact HO_14.out⟩, ⟨by repeat (first | (with_reducible first | exact HB.out | apply below_alloc | apply pw_below_drewN | apply below_drew1) | exact HB.out)⟩⟩
          · rw [if_neg c7] at H
            exact absurd H (by simp)
        · rw [if_neg c6] at H
          exact absurd H (by simp)
      · rw [if_neg c5] at H
        have c5b0 : decide (x16_1 < (t110.length : Int)) = false := decide_eq_false c5
        clear c5
        simp only [Option.some.injEq, Prod.mk.injEq] at H
        obtain ⟨rfl, rfl⟩ := H
        go_wp2
        go_ret2
        exact ⟨by first | rfl | (simp [errW_none, errW_some] <;> rfl) | (simp [*, errW_none, errW_some] <;> rfl), by repeat (first | (with_reducible first | exact HB.out | apply below_alloc | apply pw_below_drewN | apply below_drew1) | exact HB.out)⟩

/-! ### laws_FnExactFewestPlaces: function 7 -/
def laws_FnExactFewestPlaces.f (k : Nat) (a0 : ByteArray) : Option (Bool) := if (a0.size : Int) > 1048576 then (some true) else ((spec_FewestPlaces.f k a0).bind fun bt115 => ((impl_FewestPlaces.f k a0).bind fun bt117 => (if bt117.1 = bt115.1 then (if (bt117.2 != bt115.2) = true then (none) else (some true)) else (none))))
theorem laws_FnExactFewestPlaces.mono : ∀ a0 k, LeO (laws_FnExactFewestPlaces.f k a0) (laws_FnExactFewestPlaces.f (k + 1) a0) := by
  intro a0 k
  unfold laws_FnExactFewestPlaces.f
  repeat' first
      | (with_reducible exact impl_FewestPlaces.mono _ _)
      | (with_reducible exact spec_FewestPlaces.mono _ _)
      | (with_reducible exact LeO.refl _)
      | (with_reducible exact LeO.none _)
      | (with_reducible refine LeO.ite ?_ ?_)
      | (with_reducible refine LeO.bind ?_ (fun _ => ?_))
      | exact impl_FewestPlaces.mono _ _
      | exact spec_FewestPlaces.mono _ _
      | exact LeO.none _
      | refine LeO.ite ?_ ?_
      | refine LeO.bind ?_ (fun _ => ?_)
set_option maxHeartbeats 8000000 in
set_option maxRecDepth 100000 in
theorem laws_FnExactFewestPlaces.calls (k : Nat) (a0 : ByteArray) (r : Bool) (w : World) (hrt : r = true) (h : laws_FnExactFewestPlaces.f k a0 = some r) :
    Calls Tryd.prog 7 #[.string a0] w fun e w' => e = .returned (.bool r) ∧ Below w.heap.size w w' := by
  have HRT := Aside0.mk hrt
  clear hrt
  have HB := Aside0.mk (Below.refl w.heap.size w)
  have H : (if (a0.size : Int) > 1048576 then (some true) else ((spec_FewestPlaces.f k a0).bind fun bt115 => ((impl_FewestPlaces.f k a0).bind fun bt117 => (if bt117.1 = bt115.1 then (if (bt117.2 != bt115.2) = true then (none) else (some true)) else (none))))) = some r := h
  clear h
  by_cases c2 : (a0.size : Int) > 1048576
  · rw [if_pos c2] at H
    have c2b0 : decide (1048576 < (a0.size : Int)) = true := decide_eq_true c2
    have c2b1 : decide (1048576 < a0.size) = true := decide_eq_true (by omega)
    clear c2
    obtain rfl := Option.some.inj H
    go_enter Tryd.func7, Tryd.ntmps7
    go_wp2
    go_ret
    exact ⟨by first | rfl | (simp [errW_none, errW_some] <;> rfl) | (simp [*, errW_none, errW_some] <;> rfl), by repeat (first | (with_reducible first | exact HB.out | apply below_alloc | apply pw_below_drewN | apply below_drew1) | exact HB.out)⟩
  · rw [if_neg c2] at H
    have c2b0 : decide (1048576 < (a0.size : Int)) = false := decide_eq_false c2
    have c2b1 : decide (1048576 < a0.size) = false := decide_eq_false (by omega)
    clear c2
    replace H := Option.bind_eq_some_iff.mp H
    obtain ⟨⟨t115, t116⟩, A30, H⟩ := H
    replace H : ((impl_FewestPlaces.f k a0).bind fun bt117 => (if bt117.1 = t115 then (if (bt117.2 != t116) = true then (none) else (some true)) else (none))) = some r := H
    have A3 := Aside0.mk A30
    clear A30
    replace H := Option.bind_eq_some_iff.mp H
    obtain ⟨⟨t117, t118⟩, A40, H⟩ := H
    replace H : (if t117 = t115 then (if (t118 != t116) = true then (none) else (some true)) else (none)) = some r := H
    have A4 := Aside0.mk A40
    clear A40
    by_cases c5 : t117 = t115
    · rw [if_pos c5] at H
      have c5b0 : (t117 == t115) = true := beq_iff_eq.mpr c5
      have c5b1 : (t117 != t115) = false := bne_eq_false_iff_eq.mpr c5
      clear c5
      by_cases c6 : (t118 != t116) = true
      · rw [if_pos c6] at H
        exact absurd H (by simp)
      · rw [if_neg c6] at H
        have c6b0 : (t118 != t116) = false := by simpa using c6
        (try (have c6b1 : decide (t118 = t116) = true := by simpa using c6))
        (try (have c6b2 : (t118 == t116) = true := by simpa using c6))
        clear c6
        obtain rfl := Option.some.inj H
        go_enter Tryd.func7, Tryd.ntmps7
        go_wp2_with (first | ((with_reducible refine gate_callee (f := 24) rfl ?_); refine goesL_ (some 12) rfl rfl Tryd.func24 (by kernel_rfl) rfl #[.string a0] rfl (by (try simp only [List.map_toArray, List.map_cons, List.map_nil]); first | done | rfl | (simp only [List.length_drop, List.length_take]; rfl)) ?_; (with_reducible refine (spec_FewestPlaces.calls k a0 t115 t116 _ A3.out).mono ?_); rintro e w7 ⟨rfl, hb⟩; refine ⟨_, rfl, ?_⟩; have n0_ := Aside0.mk (below_step (by repeat (first | (with_reducible first | exact HB.out | apply below_alloc | apply pw_below_drewN | apply below_drew1) | exact HB.out)) hb); clear HB; have HB := n0_; clear n0_; (try clear hb); (try clear hb2); (try clear hk); (try clear hi)) | ((with_reducible refine gate_callee (f := 25) rfl ?_); refine goesL_ (some 17) rfl rfl Tryd.func25 (by kernel_rfl) rfl #[.string a0] rfl (by (try simp only [List.map_toArray, List.map_cons, List.map_nil]); first | done | rfl | (simp only [List.length_drop, List.length_take]; rfl)) ?_; (with_reducible refine (impl_FewestPlaces.calls k a0 t117 t118 _ A4.out).mono ?_); rintro e w8 ⟨rfl, hb⟩; refine ⟨_, rfl, ?_⟩; have n0_ := Aside0.mk (below_step (by repeat (first | (with_reducible first | exact HB.out | apply below_alloc | apply pw_below_drewN | apply below_drew1) | exact HB.out)) hb); clear HB; have HB := n0_; clear n0_; (try clear hb); (try clear hb2); (try clear hk); (try clear hi)))
        go_ret
        exact ⟨by first | rfl | (simp [errW_none, errW_some] <;> rfl) | (simp [*, errW_none, errW_some] <;> rfl), by repeat (first | (with_reducible first | exact HB.out | apply below_alloc | apply pw_below_drewN | apply below_drew1) | exact HB.out)⟩
    · rw [if_neg c5] at H
      exact absurd H (by simp)

/-- THE ONE PURE STATEMENT of laws_FnExactFewestPlaces: yours. -/
def laws_FnExactFewestPlaces.Pure : Prop := ∀ (a0 : ByteArray), a0.size ≤ 140737488351232 → ∃ k, laws_FnExactFewestPlaces.f k a0 = some true
theorem laws_FnExactFewestPlaces.walk (P : laws_FnExactFewestPlaces.Pure) (a0 : ByteArray) (w : World) (w0 : a0.size ≤ 140737488351232) :
    Calls Tryd.prog 7 #[.string a0] w fun e w' => e = .returned (.bool true) ∧ Below w.heap.size w w' := by
  obtain ⟨k, h⟩ := P a0 w0
  refine (laws_FnExactFewestPlaces.calls k a0 true w rfl h).mono ?_
  rintro e w' ⟨rfl, hd⟩
  exact ⟨rfl, hd⟩

end Go.Proofs.YtoimgbcbmbpfaaaDoor.M

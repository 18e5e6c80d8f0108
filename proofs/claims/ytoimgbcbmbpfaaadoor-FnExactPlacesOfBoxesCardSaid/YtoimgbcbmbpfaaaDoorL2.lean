-- Written by the session's program wip/myprint.py (over the kit's print); the given parts by hand.
import Derived.Test.YtoimgbcbmbpfaaaDoorL0
import Derived.Test.YtoimgbcbmbpfaaaDoorL1
namespace Go.Proofs.YtoimgbcbmbpfaaaDoor.L
open Go.RowKit Go.Proofs.YtoimgbcbmbpfaaaDoorW.PrintWords Go.Proofs.YtoimgbcbmbpfaaaDoorW.PrintLast Go.Proofs.YtoimgbcbmbpfaaaDoorW.PrintMore
attribute [local go_sem] max2_int min2_int max_two min_two max_three min_three max_four min_four   -- for this text's walks alone
set_option linter.unusedVariables false
set_option linter.unusedSimpArgs false

-- given: loop.example/g01334/impl.PlacesOfBoxes

/-! ### impl_PlacesOfBoxes: by hand -/
theorem BytesAt.setCell {w : World} {b g i : Nat} {v : Value} {s : ByteArray} (h : BytesAt w b s) (hne : g ≠ b) : BytesAt (w.setCell ⟨g, i, none⟩ v) b s := by
  intro j hj
  rw [show (w.setCell ⟨g, i, none⟩ v).cell? ⟨b, j, none⟩ = w.cell? ⟨b, j, none⟩ from by apply World.cell?_setCell_other; intro h2; injection h2 with h3 _ _; exact hne h3]
  exact h j hj
theorem own_lt {α : Type} {d : Kd α} {e : TypeId} {w : World} {base : Nat} {ok : Nat → Prop} {v : Value} {xs : List α} (h : d.R e w base ok v xs) : ∀ k, v.ownBlock = some k → k < w.heap.size := by
  intro k hk
  obtain ⟨cells, hc⟩ := Kd.R_typed h k hk
  exact (Array.getElem?_eq_some_iff.1 hc).1
theorem cell_grown {w w' : World} {b i : Nat} {v : Value} {o : Option Nat} (h : w.cell? ⟨b, i, none⟩ = some v) (hg : w.grownBy w' o) (hne : some b ≠ o) : w'.cell? ⟨b, i, none⟩ = some v := by
  rw [← h]
  unfold World.cell?
  rw [hg.block b (World.block_lt_of_cell? w _ h) hne]
def impl_PlacesOfBoxes.f (a0 : ByteArray) : Option (List Int × Bool) := (impl_IsLoading.f a0).bind fun p => if p = true then (if a0.size ≤ 1000 then some ((a0.data.toList.foldl plStep ([], [])).1, true) else none) else some ([], false)
set_option maxHeartbeats 1000000 in
theorem pl_closure (x c : Int) (B : Nat) (w : World) (h1 : w.cell? ⟨B, 0, none⟩ = some (.int .u8 c)) :
    Calls Tryd.prog 57 #[.int .u8 x, .pointer (some ⟨B, 0, none⟩)] w fun e w' => e = .returned (.bool (decide (c ≤ x))) ∧ Drawn0 w w' := by
  go_enter Tryd.func57, Tryd.ntmps57
  go_wp2_with fail
  go_ret
  exact ⟨rfl, by repeat (first | exact Drawn0.refl _ | apply Drawn0.step)⟩
set_option maxHeartbeats 2000000 in
theorem pl_index (A0 : Option Addr) (c0 : Nat) (l0 : List Int) (c : Int) (B : Nat) (w : World) (hr0 : Kd.C (Kd.int .u8) w A0 l0.length l0) (h1 : w.cell? ⟨B, 0, none⟩ = some (.int .u8 c)) :
    Calls Tryd.prog 56 #[.slice A0 l0.length c0, .func (.func 57) #[] #[.pointer (some ⟨B, 0, none⟩)]] w fun e w' => e = .returned (.int .i64 (fIdx c l0)) ∧ Drawn0 w w' := by
  have HR0 := Aside0.mk hr0
  have HB1 := Aside0.mk h1
  have hl := hr0.2.1
  clear hr0 h1
  have eg : ∀ (args : Array Value) (W : World), (callFunc 57 args).run Tryd.prog W = .ok (.enter 57 args) W := enters_of Tryd.func57 (by kernel_rfl) rfl
  go_enter Tryd.func56, Tryd.ntmps56
  go_wp2
  go_loopg [5, 8] l0.length (fun gg _ s8 wr => ∃ kk : Nat, kk ≤ l0.length ∧ l0.length - kk ≤ gg ∧ s8 = .int .i64 kk ∧ Aside0 (∀ j, j < kk → l0.getD j 0 < c) ∧ Drawn0 w wr)
  case atStart => exact ⟨0, Nat.zero_le _, by omega, rfl, ⟨fun j hj => absurd hj (Nat.not_lt_zero _)⟩, by repeat (first | exact Drawn0.refl _ | apply Drawn0.step)⟩
  case round =>
    obtain ⟨kk, hkk, hg, rfl, HA, ⟨m1, rfl⟩⟩ := hrel
    by_cases hlt : kk < l0.length
    · have hltz : (kk : Int) < (l0.length : Int) := by omega
      obtain ⟨ad, rfl, hx0⟩ := Kd.at_int HR0.out (kk : Int) (by omega) hltz
      rw [show rd l0 (kk : Int) = l0.getD kk 0 by simp [rd], Int.toNat_natCast] at hx0
      generalize hy : l0.getD kk 0 = y at hx0
      have HY := Aside0.mk hy
      clear hy
      have hcall := fun (W : World) (h : Drawn0 w W) => pl_closure y c B W (by obtain ⟨n, rfl⟩ := h; exact HB1.out)
      cases hq : decide (c ≤ y) with
      | true =>
        rw [hq] at hcall
        have HQ := Aside0.mk hq
        have HC := Aside0.mk hcall
        clear hq hcall
        go_wp2_with (go_at_call 57; refine (HC.out _ (by repeat (first | exact Drawn0.refl _ | apply Drawn0.step))).mono ?_; rintro e w' ⟨rfl, ⟨nd, rfl⟩⟩)
        go_ret
        refine ⟨?_, by repeat (first | exact Drawn0.refl _ | apply Drawn0.step)⟩
        rw [fIdx_at c l0 kk hlt HA.out (by rw [HY.out]; exact of_decide_eq_true HQ.out)]
        rfl
      | false =>
        rw [hq] at hcall
        have HQ := Aside0.mk hq
        have HC := Aside0.mk hcall
        clear hq hcall
        go_wp2_with (go_at_call 57; refine (HC.out _ (by repeat (first | exact Drawn0.refl _ | apply Drawn0.step))).mono ?_; rintro e w' ⟨rfl, ⟨nd, rfl⟩⟩)
        go_roundg (l0.length - (kk + 1))
        case measure => omega
        case rel =>
          refine ⟨kk + 1, by omega, by omega, by go_num, ⟨fun j hj => ?_⟩, by repeat (first | exact Drawn0.refl _ | apply Drawn0.step)⟩
          by_cases e : j = kk
          · subst e; rw [HY.out]; have := of_decide_eq_false HQ.out; omega
          · exact HA.out j (by omega)
    · have hltz : ¬ (kk : Int) < (l0.length : Int) := by omega
      have hk : kk = l0.length := by omega
      subst hk
      go_wp2
      go_ret
      refine ⟨?_, by repeat (first | exact Drawn0.refl _ | apply Drawn0.step)⟩
      rw [fIdx_none c l0 HA.out]
      rfl
set_option maxHeartbeats 4000000 in
set_option maxRecDepth 100000 in
theorem impl_PlacesOfBoxes.calls (a0 : ByteArray) (r1 : List Int) (r2 : Bool) (w : World) (h : impl_PlacesOfBoxes.f a0 = some (r1, r2)) :
    Calls Tryd.prog 34 #[.string a0] w fun e w' => ∃ v0_ : Value, e = .returned (.tuple #[v0_, .bool r2]) ∧ Kd.R (Kd.int .i64) 3 w' w.heap.size (fun _ => True) v0_ r1 ∧ Below w.heap.size w w' := by
  cases hp : impl_IsLoading.f a0 with
  | none => simp [impl_PlacesOfBoxes.f, hp] at h
  | some p =>
    have HP := Aside0.mk hp
    cases p with
    | false =>
      simp [impl_PlacesOfBoxes.f, hp] at h
      obtain ⟨rfl, rfl⟩ := h
      clear hp
      go_enter Tryd.func34, Tryd.ntmps34
      go_wp2_with (go_at_call 17; refine (impl_IsLoading.calls a0 false _ HP.out).mono ?_; rintro e w1 ⟨rfl, hb1⟩; have HB1 := Aside0.mk hb1; clear hb1)
      go_ret2
      exact ⟨_, rfl, Kd.R_nil _ _ _ _ _, HB1.out⟩
    | true =>
      simp only [impl_PlacesOfBoxes.f, hp, Option.bind_some, if_true] at h
      by_cases hsz : a0.size ≤ 1000
      · rw [if_pos hsz] at h
        obtain ⟨rfl, rfl⟩ := Prod.mk.inj (Option.some.inj h)
        clear h hp
        have hlenL : a0.data.toList.length = a0.size := rfl
        have hmf : ∀ (fn : Fn) (first cap : Array Value) (w : World), (Instr.makeFunc fn first cap).run Tryd.prog w = .ok (.func fn first cap) w := fun _ _ _ _ => rfl
        have hconv := fun W : World => Lib.run_convert_string_bytes (P := Tryd.prog) W 9 47 5 a0 Tryd.underlying9 Tryd.underlying47 Tryd.underlying5
        go_enter Tryd.func34, Tryd.ntmps34
        go_wp2_with (go_at_call 17; refine (impl_IsLoading.calls a0 true _ HP.out).mono ?_; rintro e w1 ⟨rfl, hb1⟩; have HB1 := Aside0.mk hb1; clear hb1)
        have hs1 : (w1.alloc (.cells #[] 3)).heap.size = w1.heap.size + 1 := by simp
        have hs2 : ((w1.alloc (.cells #[] 3)).alloc (.cells #[] 5)).heap.size = w1.heap.size + 2 := by simp
        have HX := Aside0.mk (Kd.R_below (Kd.R_alloc (R_empty (Kd.int .i64) w1 3 w.heap.size (fun k => k ≠ w1.heap.size + 2) (by simp) HB1.out.size) (.cells #[] 5)) (below_bytes ((w1.alloc (.cells #[] 3)).alloc (.cells #[] 5)) 5 a0))
        have HT := Aside0.mk (Kd.R_below (R_empty (Kd.int .u8) (w1.alloc (.cells #[] 3)) 5 w.heap.size (fun k => k ≠ w1.heap.size + 2) (by rw [hs1]; omega) (by rw [hs1]; have := HB1.out.size; omega)) (below_bytes ((w1.alloc (.cells #[] 3)).alloc (.cells #[] 5)) 5 a0))
        rw [hs1] at HT
        have HBY := Aside0.mk (BytesAt.made ((w1.alloc (.cells #[] 3)).alloc (.cells #[] 5)) 5 a0)
        rw [hs2] at HBY
        have HBW := Aside0.mk (HB1.out.trans (((by repeat (first | exact Below.refl _ _ | apply below_alloc) : Below w1.heap.size w1 ((w1.alloc (.cells #[] 3)).alloc (.cells #[] 5))).trans ((below_bytes ((w1.alloc (.cells #[] 3)).alloc (.cells #[] 5)) 5 a0).mono (by simp; omega))).mono HB1.out.size))
        have HSZ := Aside0.mk (show w1.heap.size + 3 ≤ (Lib.bytesWorld ((w1.alloc (.cells #[] 3)).alloc (.cells #[] 5)) 5 a0).heap.size by rw [Lib.bytesWorld_size, hs2]; omega)
        clear hs1 hs2
        generalize hcapE : grownCap ((w1.alloc (.cells #[] 3)).alloc (.cells #[] 5)) a0.size 0 5 = cap0
        clear hcapE
        go_loopg [4, 5, 17] a0.size (fun gg v4 v5 v17 wr => ∃ (kk : Nat) (xs ts : List Int), kk ≤ a0.size ∧ a0.size - kk ≤ gg ∧ v17 = .int .i64 kk ∧ xs.length ≤ kk ∧ ts.length ≤ kk ∧ Aside0 ((a0.data.toList.take kk).foldl plStep ([], []) = (xs, ts)) ∧ Aside0 (Kd.R (Kd.int .i64) 3 wr w.heap.size (fun k => k ≠ w1.heap.size + 2) v4 xs) ∧ Aside0 (Kd.R (Kd.int .u8) 5 wr w.heap.size (fun k => k ≠ w1.heap.size + 2) v5 ts) ∧ Aside0 (BytesAt wr (w1.heap.size + 2) a0) ∧ Aside0 (Below w.heap.size w wr) ∧ Aside0 (w1.heap.size + 3 ≤ wr.heap.size))
        case atStart => exact ⟨0, [], [], by omega, by omega, rfl, by simp, by simp, ⟨rfl⟩, HX, HT, HBY, HBW, HSZ⟩
        case round =>
          clear HX HT HBY HBW HSZ
          obtain ⟨kk, xs, ts, hkk, hgg, rfl, hxl, htl, HF, HX, HT, HBY, HB, HSZ⟩ := hrel
          by_cases hlt : kk < a0.size
          · have c1 : ((kk : Int) < (a0.size : Int)) = True := eq_true (by omega)
            have c2 : (0 ≤ (kk : Int)) = True := eq_true (by omega)
            have hltL : kk < a0.data.toList.length := by rw [hlenL]; exact hlt
            have htake : a0.data.toList.take (kk + 1) = a0.data.toList.take kk ++ [a0.data.toList[kk]'hltL] := by rw [List.take_add_one, List.getElem?_eq_getElem hltL]; rfl
            have hcell := HBY.out kk hltL
            generalize a0.data.toList[kk]'hltL = c at htake hcell
            have hstep : (a0.data.toList.take (kk + 1)).foldl plStep ([], []) = plStep (xs, ts) c := by rw [htake, List.foldl_append, HF.out]; rfl
            have HST := Aside0.mk hstep
            clear hstep htake
            obtain ⟨At, ct, rfl⟩ := Kd.R_slice HT.out
            have HC := Aside0.mk (Kd.R_reads' HT.out).2.2
            have HOL := Aside0.mk (own_lt HT.out)
            have hcall := fun (W : World) (hb : Below wr.heap.size wr W) (h1 : W.cell? ⟨wr.heap.size, 0, none⟩ = some (.int .u8 (c.toNat : Int))) => pl_index At ct ts (c.toNat : Int) wr.heap.size W (Kd.C_below HC.out hb) h1
            by_cases hneg : fIdx (c.toNat : Int) ts < 0
            · have HPS := Aside0.mk (show plStep (xs, ts) c = (xs ++ [(ts.length : Int)], (ts ++ [(c.toNat : Int)]).set ts.length (c.toNat : Int)) by unfold plStep; rw [if_pos hneg])
              generalize fIdx (c.toNat : Int) ts = i at hcall hneg
              have HCA := Aside0.mk hcall
              have q1 : decide (i < 0) = true := decide_eq_true hneg
              have p1 : (0 ≤ (ts.length : Int)) = True := eq_true (by omega)
              obtain ⟨T, hT⟩ : ∃ T, T = ts ++ [(c.toNat : Int)] := ⟨_, rfl⟩
              have hTl : T.length = ts.length + 1 := by rw [hT]; simp
              have p2 : ((ts.length : Int) < (T.length : Int)) = True := eq_true (by omega)
              have HTT := Aside0.mk hT
              clear hT hcall hneg
              go_wp2_with (first | (go_at_call 56; refine (HCA.out _ (by repeat (first | exact Below.refl _ _ | apply below_alloc | apply pw_below_drewN)) (by simp)).mono ?_; rintro e w2 ⟨rfl, ⟨nd, hw⟩⟩; have hb2 : Below wr.heap.size wr w2 := (by rw [hw]; repeat (first | exact Below.refl _ _ | apply below_alloc | apply pw_below_drewN)); have hcB : w2.cell? ⟨wr.heap.size, 0, none⟩ = some (.int .u8 (c.toNat : Int)) := (by rw [hw]; simp); clear hw; have HXc := Aside0.mk (Kd.R_below HX.out hb2); have HTc := Aside0.mk (Kd.R_below HT.out hb2); have HYc := Aside0.mk (HBY.out.below hb2); have HBc := Aside0.mk (HB.out.trans (hb2.mono HB.out.size)); have HSc := Aside0.mk (Nat.le_trans HSZ.out hb2.size); clear hb2) | ((with_reducible refine gate_builtin (b := .append) (xs := #[.tmp 28, .tmp 30]) rfl ?_); at_builtin; refine Kd.R_append (Kd.int .u8) (w0 := w) w.heap.size rfl (.tmp 28) (.tmp 30) 47 5 (.int .u8 0) 1 rfl Tryd.underlying47 (by kernel_rfl) rfl (by decide) (by omega) (.slice At ts.length ct) ts (c.toNat : Int) [.int .u8 (c.toNat : Int)] (fun k => k ≠ w1.heap.size + 2) (fun _ => False) rfl ?bX ?bP (fun _ hk => hk.elim) ?bF ?bO ?bB ?bS ?bL ?_; (case bX => first | rfl | (refine Eq.trans rfl (congrArg (fun n => Value.slice (some ⟨n, 0, none⟩) 1 1) (?_ : w2.heap.size = _)); simp)); (case bP => exact rfl); (case bB => exact (by repeat (first | exact HBc.out | apply below_alloc | apply pw_below_drewN))); (case bF => intro k hk; have h7 := HSc.out; show k ≠ w1.heap.size + 2; (try simp at hk); omega); (case bO => exact (by (with_reducible repeat (first | apply Kd.R_alloc | apply Kd.R_drewN | apply Kd.R_drew)); exact HTc.out)); (case bS => exact (below_size (by repeat (first | exact HBc.out | apply below_alloc | apply pw_below_drewN)))); (case bL => omega); intro v6 w6 ho hb hg hat; rw [← HTT.out] at ho; have HX6 := Aside0.mk (Kd.R_over' (v := .slice At ts.length ct) (by (with_reducible repeat (first | apply Kd.R_alloc | apply Kd.R_drewN | apply Kd.R_drew)); exact HXc.out) (Kd.R_typed (by (with_reducible repeat (first | apply Kd.R_alloc | apply Kd.R_drewN | apply Kd.R_drew)); exact HTc.out)) (by decide) hg); have HT6 := Aside0.mk ho; have HB6 := Aside0.mk hb; have hcB6 : w6.cell? ⟨wr.heap.size, 0, none⟩ = some (.int .u8 (c.toNat : Int)) := cell_grown (by first | exact hcB | (simp; exact hcB) | simpa using hcB) hg (by intro hh; exact absurd (HOL.out _ hh.symm) (Nat.lt_irrefl _)); have HY6 := Aside0.mk (BytesAt.grown (BytesAt.below HYc.out (by repeat (first | exact Below.refl _ _ | apply below_alloc | apply pw_below_drewN))) hg (Kd.R_away HT.out (fun k hk => hk))); have hsz6 : w1.heap.size + 3 ≤ w6.heap.size := (by have h1 := hg.size; have h2 := HSc.out; (try simp at h1); omega); clear ho hb hg hat; obtain ⟨g, cap, rfl, hg1, hg2, _⟩ := Kd.R_form HT6.out (by omega); obtain ⟨hcW, hfW⟩ := Kd.R_celln 0 HT6.out (ts.length : Int) (by omega) (by omega); rw [Int.toNat_natCast] at hcW hfW; have hput := pl_put (i := ts.length) HX6.out HT6.out (by decide) (c.toNat : Int) HB6.out hg1; have HX2 := Aside0.mk hput.1; have HT2 := Aside0.mk hput.2.1; have HB2 := Aside0.mk hput.2.2; have HBY2 := Aside0.mk (BytesAt.setCell (i := ts.length) (v := .int .u8 (c.toNat : Int)) HY6.out (HT6.out.1 g rfl)); have HSZ2 : Aside0 (w1.heap.size + 3 ≤ (w6.setCell ⟨g, ts.length, none⟩ (.int .u8 (c.toNat : Int))).heap.size) := ⟨by simpa using hsz6⟩; clear hput hsz6) | ((with_reducible refine gate_builtin (b := .append) (xs := #[.tmp 36, .tmp 38]) rfl ?_); at_builtin; refine Kd.R_append (Kd.int .i64) (w0 := w) w.heap.size rfl (.tmp 36) (.tmp 38) 28 3 (.int .i64 0) 8 rfl Tryd.underlying28 (by kernel_rfl) rfl (by decide) (by omega) u4 xs (ts.length : Int) [.int .i64 (ts.length : Int)] (fun k => k ≠ w1.heap.size + 2) (fun _ => False) rfl ?aXb ?aPb (fun _ hk => hk.elim) ?aFb ?aOb ?aBb ?aSb ?aLb ?_; (case aXb => first | rfl | (refine Eq.trans rfl (congrArg (fun n => Value.slice (some ⟨n, 0, none⟩) 1 1) (?_ : w6.heap.size = _)); simp)); (case aPb => exact rfl); (case aBb => exact (by repeat (first | exact HB2.out | apply below_alloc | apply pw_below_drewN))); (case aFb => intro k hk; have := HSZ2.out; simp at hk this; omega); (case aOb => exact (by (with_reducible repeat (first | apply Kd.R_alloc | apply Kd.R_drewN | apply Kd.R_drew)); exact HX2.out)); (case aSb => exact (below_size (by repeat (first | exact HB2.out | apply below_alloc | apply pw_below_drewN)))); (case aLb => omega); intro v9 w9 ho hb hg hat; have HX9 := Aside0.mk ho; have HT9 := Aside0.mk (Kd.R_over' (v := u4) (by (with_reducible repeat (first | apply Kd.R_alloc | apply Kd.R_drewN | apply Kd.R_drew)); exact HT2.out) (Kd.R_typed (by (with_reducible repeat (first | apply Kd.R_alloc | apply Kd.R_drewN | apply Kd.R_drew)); exact HX2.out)) (by decide) hg); have HB9 := Aside0.mk hb; have HY9 := Aside0.mk (BytesAt.grown (BytesAt.below HBY2.out (by repeat (first | exact Below.refl _ _ | apply below_alloc | apply pw_below_drewN))) hg (Kd.R_away HX2.out (fun k hk => hk))); have HG9 := Aside0.mk hg.size; clear ho hb hg hat))
              go_roundg (a0.size - (kk + 1))
              case measure => omega
              case rel =>
                refine ⟨kk + 1, xs ++ [(ts.length : Int)], T.set ts.length (c.toNat : Int), by omega, by omega, by go_num, by simp; omega, by rw [List.length_set]; omega, ⟨?_⟩, HX9, ⟨?_⟩, HY9, HB9, ⟨?_⟩⟩
                · rw [HST.out, HPS.out, HTT.out]
                · have ht9 := HT9.out
                  first | exact ht9 | (rw [List.length_set]; exact ht9) | (rw [hTl] at ht9; exact ht9)
                · have h1 := HG9.out
                  have h2 := HSZ2.out
                  simp at h1 h2
                  omega
            · obtain ⟨k, hk⟩ : ∃ k : Nat, fIdx (c.toNat : Int) ts = (k : Int) := ⟨(fIdx (c.toNat : Int) ts).toNat, by omega⟩
              have hkl : k < ts.length := by rcases fIdx_range (c.toNat : Int) ts with h | h <;> omega
              have HPS := Aside0.mk (show plStep (xs, ts) c = (xs ++ [(k : Int)], ts.set k (c.toNat : Int)) by unfold plStep; rw [if_neg hneg, hk, Int.toNat_natCast])
              rw [hk] at hcall
              have HCA := Aside0.mk hcall
              have q1 : decide ((k : Int) < 0) = false := decide_eq_false (by omega)
              have p1 : (0 ≤ (k : Int)) = True := eq_true (by omega)
              have p2 : ((k : Int) < (ts.length : Int)) = True := eq_true (by omega)
              obtain ⟨g, cap, e, hg1, hg2, _⟩ := Kd.R_form HT.out (by omega)
              injection e with ea _ ec
              subst ea ec
              clear hcall hneg hk
              go_wp2_with (first | (go_at_call 56; refine (HCA.out _ (by repeat (first | exact Below.refl _ _ | apply below_alloc | apply pw_below_drewN)) (by simp)).mono ?_; rintro e w2 ⟨rfl, ⟨nd, hw⟩⟩; have hb2 : Below wr.heap.size wr w2 := (by rw [hw]; repeat (first | exact Below.refl _ _ | apply below_alloc | apply pw_below_drewN)); have hcB : w2.cell? ⟨wr.heap.size, 0, none⟩ = some (.int .u8 (c.toNat : Int)) := (by rw [hw]; simp); clear hw; have HXc := Aside0.mk (Kd.R_below HX.out hb2); have HTc := Aside0.mk (Kd.R_below HT.out hb2); have HYc := Aside0.mk (HBY.out.below hb2); have HBc := Aside0.mk (HB.out.trans (hb2.mono HB.out.size)); have HSc := Aside0.mk (Nat.le_trans HSZ.out hb2.size); clear hb2; obtain ⟨hcW, hfW⟩ := Kd.R_celln 0 HTc.out (k : Int) (by omega) (by omega); rw [Int.toNat_natCast] at hcW hfW; have hput := pl_put (i := k) HXc.out HTc.out (by decide) (c.toNat : Int) HBc.out hg1; have HX2 := Aside0.mk hput.1; have HT2 := Aside0.mk hput.2.1; have HB2 := Aside0.mk hput.2.2; have HBY2 := Aside0.mk (BytesAt.setCell (i := k) (v := .int .u8 (c.toNat : Int)) HYc.out (HTc.out.1 g rfl)); have HSZ2 : Aside0 (w1.heap.size + 3 ≤ (w2.setCell ⟨g, k, none⟩ (.int .u8 (c.toNat : Int))).heap.size) := ⟨by simpa using HSc.out⟩; clear hput) | ((with_reducible refine gate_builtin (b := .append) (xs := #[.tmp 36, .tmp 38]) rfl ?_); at_builtin; refine Kd.R_append (Kd.int .i64) (w0 := w) w.heap.size rfl (.tmp 36) (.tmp 38) 28 3 (.int .i64 0) 8 rfl Tryd.underlying28 (by kernel_rfl) rfl (by decide) (by omega) u4 xs (k : Int) [.int .i64 (k : Int)] (fun k => k ≠ w1.heap.size + 2) (fun _ => False) rfl ?aXa ?aPa (fun _ hk => hk.elim) ?aFa ?aOa ?aBa ?aSa ?aLa ?_; (case aXa => first | rfl | (refine Eq.trans rfl (congrArg (fun n => Value.slice (some ⟨n, 0, none⟩) 1 1) (?_ : w2.heap.size = _)); simp)); (case aPa => exact rfl); (case aBa => exact (by repeat (first | exact HB2.out | apply below_alloc | apply pw_below_drewN))); (case aFa => intro k hk; have := HSZ2.out; simp at hk this; omega); (case aOa => exact (by (with_reducible repeat (first | apply Kd.R_alloc | apply Kd.R_drewN | apply Kd.R_drew)); exact HX2.out)); (case aSa => exact (below_size (by repeat (first | exact HB2.out | apply below_alloc | apply pw_below_drewN)))); (case aLa => omega); intro v9 w9 ho hb hg hat; have HX9 := Aside0.mk ho; have HT9 := Aside0.mk (Kd.R_over' (v := u4) (by (with_reducible repeat (first | apply Kd.R_alloc | apply Kd.R_drewN | apply Kd.R_drew)); exact HT2.out) (Kd.R_typed (by (with_reducible repeat (first | apply Kd.R_alloc | apply Kd.R_drewN | apply Kd.R_drew)); exact HX2.out)) (by decide) hg); have HB9 := Aside0.mk hb; have HY9 := Aside0.mk (BytesAt.grown (BytesAt.below HBY2.out (by repeat (first | exact Below.refl _ _ | apply below_alloc | apply pw_below_drewN))) hg (Kd.R_away HX2.out (fun k hk => hk))); have HG9 := Aside0.mk hg.size; clear ho hb hg hat))
              go_roundg (a0.size - (kk + 1))
              case measure => omega
              case rel =>
                refine ⟨kk + 1, xs ++ [(k : Int)], ts.set k (c.toNat : Int), by omega, by omega, by go_num, by simp; omega, by rw [List.length_set]; omega, ⟨?_⟩, HX9, ⟨?_⟩, HY9, HB9, ⟨?_⟩⟩
                · rw [HST.out, HPS.out]
                · have ht9 := HT9.out
                  first | exact ht9 | (rw [List.length_set]; exact ht9) | (rw [hTl] at ht9; exact ht9)
                · have h1 := HG9.out
                  have h2 := HSZ2.out
                  simp at h1 h2
                  omega
          · have c1 : ((kk : Int) < (a0.size : Int)) = False := eq_false (by omega)
            obtain rfl : kk = a0.size := by omega
            have hf := HF.out
            rw [show a0.data.toList.take a0.size = a0.data.toList from List.take_of_length_le (by rw [hlenL]; exact Nat.le_refl _)] at hf
            have HF2 := Aside0.mk hf
            clear hf
            go_wp2_with fail
            go_ret2
            refine ⟨_, rfl, ?_, HB.out⟩
            rw [HF2.out]
            exact Kd.R_mono HX.out (fun _ _ => trivial)
      · rw [if_neg hsz] at h
        exact absurd h (by simp)

/-! ### laws_FnExactPlacesOfBoxes: function 10 -/
def laws_FnExactPlacesOfBoxes.f (k : Nat) (a0 : ByteArray) : Option (Bool) := if (a0.size : Int) > 1048576 then (some true) else ((spec_PlacesOfBoxes.f k a0).bind fun bt114 => ((impl_PlacesOfBoxes.f a0).bind fun bt118 => ((laws_eqIntS.f k bt118.1 bt114.1).bind fun t122 => (if t122 = true then (if (bt118.2 != bt114.2) = true then (none) else ((laws_markIntS.f k bt118.1 1).bind fun bt123 => ((laws_heldIntS.f k bt123.2 1).bind fun t125 => (if t125 < 0 then (some false) else (if t125 = bt123.1 then ((impl_PlacesOfBoxes.f a0).bind fun bt126 => ((laws_eqIntS.f k bt126.1 bt114.1).bind fun t130 => (if t130 = true then (if (bt126.2 != bt114.2) = true then (none) else ((laws_heldIntS.f k bt123.2 1).bind fun t131 => (if t131 < 0 then (some false) else (if t131 = bt123.1 then (some true) else (none))))) else (none)))) else (none)))))) else (none)))))
theorem laws_FnExactPlacesOfBoxes.mono : ∀ a0 k, LeO (laws_FnExactPlacesOfBoxes.f k a0) (laws_FnExactPlacesOfBoxes.f (k + 1) a0) := by
  intro a0 k
  unfold laws_FnExactPlacesOfBoxes.f
  repeat' first
      | (with_reducible exact laws_eqIntS.mono _ _ _)
      | (with_reducible exact laws_heldIntS.mono _ _ _)
      | (with_reducible exact laws_markIntS.mono _ _ _)
      | (with_reducible exact spec_PlacesOfBoxes.mono _ _)
      | (with_reducible exact LeO.refl _)
      | (with_reducible exact LeO.none _)
      | (with_reducible refine LeO.ite ?_ ?_)
      | (with_reducible refine LeO.bind ?_ (fun _ => ?_))
      | exact laws_eqIntS.mono _ _ _
      | exact laws_heldIntS.mono _ _ _
      | exact laws_markIntS.mono _ _ _
      | exact spec_PlacesOfBoxes.mono _ _
      | exact LeO.none _
      | refine LeO.ite ?_ ?_
      | refine LeO.bind ?_ (fun _ => ?_)
set_option maxHeartbeats 8000000 in
set_option maxRecDepth 100000 in
theorem laws_FnExactPlacesOfBoxes.calls (k : Nat) (a0 : ByteArray) (r : Bool) (w : World) (hrt : r = true) (h : laws_FnExactPlacesOfBoxes.f k a0 = some r) :
    Calls Tryd.prog 10 #[.string a0] w fun e w' => e = .returned (.bool r) ∧ Below w.heap.size w w' := by
  have HRT := Aside0.mk hrt
  clear hrt
  have HB := Aside0.mk (Below.refl w.heap.size w)
  have H : (if (a0.size : Int) > 1048576 then (some true) else ((spec_PlacesOfBoxes.f k a0).bind fun bt114 => ((impl_PlacesOfBoxes.f a0).bind fun bt118 => ((laws_eqIntS.f k bt118.1 bt114.1).bind fun t122 => (if t122 = true then (if (bt118.2 != bt114.2) = true then (none) else ((laws_markIntS.f k bt118.1 1).bind fun bt123 => ((laws_heldIntS.f k bt123.2 1).bind fun t125 => (if t125 < 0 then (some false) else (if t125 = bt123.1 then ((impl_PlacesOfBoxes.f a0).bind fun bt126 => ((laws_eqIntS.f k bt126.1 bt114.1).bind fun t130 => (if t130 = true then (if (bt126.2 != bt114.2) = true then (none) else ((laws_heldIntS.f k bt123.2 1).bind fun t131 => (if t131 < 0 then (some false) else (if t131 = bt123.1 then (some true) else (none))))) else (none)))) else (none)))))) else (none)))))) = some r := h
  clear h
  by_cases c2 : (a0.size : Int) > 1048576
  · rw [if_pos c2] at H
    have c2b0 : decide (1048576 < (a0.size : Int)) = true := decide_eq_true c2
    have c2b1 : decide (1048576 < a0.size) = true := decide_eq_true (by omega)
    clear c2
    obtain rfl := Option.some.inj H
    go_enter Tryd.func10, Tryd.ntmps10
    go_wp2
    go_ret
    exact ⟨by first | rfl | (simp [errW_none, errW_some] <;> rfl) | (simp [*, errW_none, errW_some] <;> rfl), by repeat (first | (with_reducible first | exact HB.out | apply below_alloc | apply pw_below_drewN | apply below_drew1) | exact HB.out)⟩
  · rw [if_neg c2] at H
    have c2b0 : decide (1048576 < (a0.size : Int)) = false := decide_eq_false c2
    have c2b1 : decide (1048576 < a0.size) = false := decide_eq_false (by omega)
    clear c2
    replace H := Option.bind_eq_some_iff.mp H
    obtain ⟨⟨t114, t115⟩, A30, H⟩ := H
    replace H : ((impl_PlacesOfBoxes.f a0).bind fun bt118 => ((laws_eqIntS.f k bt118.1 t114).bind fun t122 => (if t122 = true then (if (bt118.2 != t115) = true then (none) else ((laws_markIntS.f k bt118.1 1).bind fun bt123 => ((laws_heldIntS.f k bt123.2 1).bind fun t125 => (if t125 < 0 then (some false) else (if t125 = bt123.1 then ((impl_PlacesOfBoxes.f a0).bind fun bt126 => ((laws_eqIntS.f k bt126.1 t114).bind fun t130 => (if t130 = true then (if (bt126.2 != t115) = true then (none) else ((laws_heldIntS.f k bt123.2 1).bind fun t131 => (if t131 < 0 then (some false) else (if t131 = bt123.1 then (some true) else (none))))) else (none)))) else (none)))))) else (none)))) = some r := H
    have A3 := Aside0.mk A30
    clear A30
    replace H := Option.bind_eq_some_iff.mp H
    obtain ⟨⟨t118, t119⟩, A40, H⟩ := H
    replace H : ((laws_eqIntS.f k t118 t114).bind fun t122 => (if t122 = true then (if (t119 != t115) = true then (none) else ((laws_markIntS.f k t118 1).bind fun bt123 => ((laws_heldIntS.f k bt123.2 1).bind fun t125 => (if t125 < 0 then (some false) else (if t125 = bt123.1 then ((impl_PlacesOfBoxes.f a0).bind fun bt126 => ((laws_eqIntS.f k bt126.1 t114).bind fun t130 => (if t130 = true then (if (bt126.2 != t115) = true then (none) else ((laws_heldIntS.f k bt123.2 1).bind fun t131 => (if t131 < 0 then (some false) else (if t131 = bt123.1 then (some true) else (none))))) else (none)))) else (none)))))) else (none))) = some r := H
    have A4 := Aside0.mk A40
    clear A40
    replace H := Option.bind_eq_some_iff.mp H
    obtain ⟨t122, A50, H⟩ := H
    replace H : (if t122 = true then (if (t119 != t115) = true then (none) else ((laws_markIntS.f k t118 1).bind fun bt123 => ((laws_heldIntS.f k bt123.2 1).bind fun t125 => (if t125 < 0 then (some false) else (if t125 = bt123.1 then ((impl_PlacesOfBoxes.f a0).bind fun bt126 => ((laws_eqIntS.f k bt126.1 t114).bind fun t130 => (if t130 = true then (if (bt126.2 != t115) = true then (none) else ((laws_heldIntS.f k bt123.2 1).bind fun t131 => (if t131 < 0 then (some false) else (if t131 = bt123.1 then (some true) else (none))))) else (none)))) else (none)))))) else (none)) = some r := H
    have A5 := Aside0.mk A50
    clear A50
    by_cases c6 : t122 = true
    · subst c6
      have H1 : (if (t119 != t115) = true then (none) else ((laws_markIntS.f k t118 1).bind fun bt123 => ((laws_heldIntS.f k bt123.2 1).bind fun t125 => (if t125 < 0 then (some false) else (if t125 = bt123.1 then ((impl_PlacesOfBoxes.f a0).bind fun bt126 => ((laws_eqIntS.f k bt126.1 t114).bind fun t130 => (if t130 = true then (if (bt126.2 != t115) = true then (none) else ((laws_heldIntS.f k bt123.2 1).bind fun t131 => (if t131 < 0 then (some false) else (if t131 = bt123.1 then (some true) else (none))))) else (none)))) else (none)))))) = some r := by rw [if_pos rfl] at H; exact H
      clear H
      have H := H1
      clear H1
      by_cases c7 : (t119 != t115) = true
      · rw [if_pos c7] at H
        exact absurd H (by simp)
      · rw [if_neg c7] at H
        have c7b0 : (t119 != t115) = false := by simpa using c7
        (try (have c7b1 : decide (t119 = t115) = true := by simpa using c7))
        (try (have c7b2 : (t119 == t115) = true := by simpa using c7))
        clear c7
        replace H := Option.bind_eq_some_iff.mp H
        obtain ⟨⟨t123, t124⟩, A80, H⟩ := H
        replace H : ((laws_heldIntS.f k t124 1).bind fun t125 => (if t125 < 0 then (some false) else (if t125 = t123 then ((impl_PlacesOfBoxes.f a0).bind fun bt126 => ((laws_eqIntS.f k bt126.1 t114).bind fun t130 => (if t130 = true then (if (bt126.2 != t115) = true then (none) else ((laws_heldIntS.f k t124 1).bind fun t131 => (if t131 < 0 then (some false) else (if t131 = t123 then (some true) else (none))))) else (none)))) else (none)))) = some r := H
        have A8 := Aside0.mk A80
        clear A80
        replace H := Option.bind_eq_some_iff.mp H
        obtain ⟨t125, A90, H⟩ := H
        replace H : (if t125 < 0 then (some false) else (if t125 = t123 then ((impl_PlacesOfBoxes.f a0).bind fun bt126 => ((laws_eqIntS.f k bt126.1 t114).bind fun t130 => (if t130 = true then (if (bt126.2 != t115) = true then (none) else ((laws_heldIntS.f k t124 1).bind fun t131 => (if t131 < 0 then (some false) else (if t131 = t123 then (some true) else (none))))) else (none)))) else (none))) = some r := H
        have A9 := Aside0.mk A90
        clear A90
        by_cases c10 : t125 < 0
        · rw [if_pos c10] at H
          have c10b0 : decide (t125 < 0) = true := decide_eq_true c10
          clear c10
          exact absurd ((Option.some.inj H).trans HRT.out) (by decide)
        · rw [if_neg c10] at H
          have c10b0 : decide (t125 < 0) = false := decide_eq_false c10
          clear c10
          by_cases c11 : t125 = t123
          · rw [if_pos c11] at H
            have c11b0 : (t125 == t123) = true := beq_iff_eq.mpr c11
            have c11b1 : (t125 != t123) = false := bne_eq_false_iff_eq.mpr c11
            clear c11
            replace H := Option.bind_eq_some_iff.mp H
            obtain ⟨⟨t126, t127⟩, A120, H⟩ := H
            replace H : ((laws_eqIntS.f k t126 t114).bind fun t130 => (if t130 = true then (if (t127 != t115) = true then (none) else ((laws_heldIntS.f k t124 1).bind fun t131 => (if t131 < 0 then (some false) else (if t131 = t123 then (some true) else (none))))) else (none))) = some r := H
            have A12 := Aside0.mk A120
            clear A120
            replace H := Option.bind_eq_some_iff.mp H
            obtain ⟨t130, A130, H⟩ := H
            replace H : (if t130 = true then (if (t127 != t115) = true then (none) else ((laws_heldIntS.f k t124 1).bind fun t131 => (if t131 < 0 then (some false) else (if t131 = t123 then (some true) else (none))))) else (none)) = some r := H
            have A13 := Aside0.mk A130
            clear A130
            by_cases c14 : t130 = true
            · subst c14
              have H1 : (if (t127 != t115) = true then (none) else ((laws_heldIntS.f k t124 1).bind fun t131 => (if t131 < 0 then (some false) else (if t131 = t123 then (some true) else (none))))) = some r := by rw [if_pos rfl] at H; exact H
              clear H
              have H := H1
              clear H1
              by_cases c15 : (t127 != t115) = true
              · rw [if_pos c15] at H
                exact absurd H (by simp)
              · rw [if_neg c15] at H
                have c15b0 : (t127 != t115) = false := by simpa using c15
                (try (have c15b1 : decide (t127 = t115) = true := by simpa using c15))
                (try (have c15b2 : (t127 == t115) = true := by simpa using c15))
                clear c15
                replace H := Option.bind_eq_some_iff.mp H
                obtain ⟨t131, A160, H⟩ := H
                replace H : (if t131 < 0 then (some false) else (if t131 = t123 then (some true) else (none))) = some r := H
                have A16 := Aside0.mk A160
                clear A160
                by_cases c17 : t131 < 0
                · rw [if_pos c17] at H
                  have c17b0 : decide (t131 < 0) = true := decide_eq_true c17
                  clear c17
                  exact absurd ((Option.some.inj H).trans HRT.out) (by decide)
                · rw [if_neg c17] at H
                  have c17b0 : decide (t131 < 0) = false := decide_eq_false c17
                  clear c17
                  by_cases c18 : t131 = t123
                  · rw [if_pos c18] at H
                    have c18b0 : (t131 == t123) = true := beq_iff_eq.mpr c18
                    have c18b1 : (t131 != t123) = false := bne_eq_false_iff_eq.mpr c18
                    clear c18
                    obtain rfl := Option.some.inj H
                    go_enter Tryd.func10, Tryd.ntmps10
                    go_wp2_with (first | ((with_reducible refine gate_callee (f := 33) rfl ?_); refine goesL_ (some 16) rfl rfl Tryd.func33 (by kernel_rfl) rfl #[.string a0] rfl (by (try simp only [List.map_toArray, List.map_cons, List.map_nil]); first | done | rfl | (simp only [List.length_drop, List.length_take]; rfl)) ?_; (with_reducible refine (spec_PlacesOfBoxes.calls k a0 t114 t115 _ A3.out).mono ?_); rintro e w19 ⟨v116, rfl, ho0, hb⟩; refine ⟨_, rfl, ?_⟩; have n0_ := Aside0.mk (Kd.R_lower ho0 (below_size (by repeat (first | (with_reducible first | exact HB.out | apply below_alloc | apply pw_below_drewN | apply below_drew1) | exact HB.out)))); have n1_ := Aside0.mk (below_step (by repeat (first | (with_reducible first | exact HB.out | apply below_alloc | apply pw_below_drewN | apply below_drew1) | exact HB.out)) hb); clear HB; have HO117 := n0_; have HB := n1_; clear n0_ n1_; (try clear hb); (try clear hb2); (try clear hk); (try clear hi); (try clear ho0)) | ((with_reducible refine gate_callee (f := 34) rfl ?_); refine goesL_ (some 21) rfl rfl Tryd.func34 (by kernel_rfl) rfl #[.string a0] rfl (by (try simp only [List.map_toArray, List.map_cons, List.map_nil]); first | done | rfl | (simp only [List.length_drop, List.length_take]; rfl)) ?_; (with_reducible refine (impl_PlacesOfBoxes.calls a0 t118 t119 _ A4.out).mono ?_); rintro e w20 ⟨v120, rfl, ho0, hb⟩; refine ⟨_, rfl, ?_⟩; have n0_ := Aside0.mk (Kd.R_elder' (by (with_reducible repeat (first | apply Kd.R_alloc | apply Kd.R_drewN | apply Kd.R_drew)); exact HO117.out) (Kd.R_base ho0) hb); have n1_ := Aside0.mk (Kd.R_lower (Kd.R_new' ho0 (Kd.R_lt (by (with_reducible repeat (first | apply Kd.R_alloc | apply Kd.R_drewN | apply Kd.R_drew)); exact HO117.out))) (below_size (by repeat (first | (with_reducible first | exact HB.out | apply below_alloc | apply pw_below_drewN | apply below_drew1) | exact HB.out)))); have n2_ := Aside0.mk (below_step (by repeat (first | (with_reducible first | exact HB.out | apply below_alloc | apply pw_below_drewN | apply below_drew1) | exact HB.out)) hb); clear HO117; clear HB; have HO117 := n0_; have HO121 := n1_; have HB := n2_; clear n0_ n1_ n2_; (try clear hb); (try clear hb2); (try clear hk); (try clear hi); (try clear ho0); obtain ⟨Ao21, co21, eo21⟩ := Kd.R_slice HO121.out; subst eo21; obtain ⟨Ao22, co22, eo22⟩ := Kd.R_slice HO117.out; subst eo22) | ((with_reducible refine gate_callee (f := 28) rfl ?_); refine goesL_ (some 26) rfl rfl Tryd.func28 (by kernel_rfl) rfl #[.slice Ao21 t118.length co21, .slice Ao22 t114.length co22] rfl (by (try simp only [List.map_toArray, List.map_cons, List.map_nil]); first | done | rfl | (simp only [List.length_drop, List.length_take]; rfl)) ?_; (with_reducible refine (laws_eqIntS.calls k _ _ t118 _ _ t114 true _ ?side1 ?side2 ?side3 ?side4 A5.out).mono ?_); (case side1 => repeat (first | exact (Kd.R_reads' HO121.out).2.2 | (with_reducible refine Kd.C_alloc ?_ _) | (with_reducible refine Kd.C_drewN ?_ _) | (with_reducible refine Kd.C_drew ?_))); (case side2 => exact (Kd.R_reads' HO121.out).2.1); (case side3 => repeat (first | exact (Kd.R_reads' HO117.out).2.2 | (with_reducible refine Kd.C_alloc ?_ _) | (with_reducible refine Kd.C_drewN ?_ _) | (with_reducible refine Kd.C_drew ?_))); (case side4 => exact (Kd.R_reads' HO117.out).2.1); rintro e w' ⟨rfl, ⟨nd, rfl⟩⟩; refine ⟨_, rfl, ?_⟩) | ((with_reducible refine gate_callee (f := 29) rfl ?_); refine goesL_ (some 35) rfl rfl Tryd.func29 (by kernel_rfl) rfl #[.slice Ao21 t118.length co21, .int .i64 1] rfl (by (try simp only [List.map_toArray, List.map_cons, List.map_nil]); first | done | rfl | (simp only [List.length_drop, List.length_take]; rfl)) ?_; (with_reducible refine (laws_markIntS.calls k (fun k_ => some k_ = (.slice Ao21 t118.length co21 : Value).ownBlock) (.slice Ao21 t118.length co21) t118 1 t123 t124 w _ ?side1 ?side2 A8.out).mono ?_); (case side1 => repeat (first | (with_reducible first | exact HB.out | apply below_alloc | apply pw_below_drewN | apply below_drew1) | exact HB.out)); (case side2 => exact Kd.R_tight rfl HO121.out); rintro e w23 ⟨rfl, hy0, hb, hkp⟩; refine ⟨_, rfl, ?_⟩; have n0_ := Aside0.mk (Kd.R_mono (ok' := fun k_ => some k_ ≠ (.slice Ao21 t118.length co21 : Value).ownBlock) (Kd.R_keptB (HO117.out) hkp (fun k_ hk_ hs_ => (hk_.2) hs_)) (fun k_ hk_ => hk_.1.2)); have n1_ := Aside0.mk (Kd.R_reok rfl hy0 (fun k_ e_ => HO121.out.1 k_ e_)); have n2_ := Aside0.mk (hb); clear HO117; clear HO121; clear HB; have HO117 := n0_; have HO121 := n1_; have HB := n2_; clear n0_ n1_ n2_; (try clear hb); (try clear hkp); (try clear hy0)) | ((with_reducible refine gate_callee (f := 30) rfl ?_); refine goesL_ (some 38) rfl rfl Tryd.func30 (by kernel_rfl) rfl #[.slice Ao21 t124.length co21, .int .i64 1] rfl (by (try simp only [List.map_toArray, List.map_cons, List.map_nil]); first | done | (rw [show t124.length = t118.length from (Kd.R_reads' HO121.out).1.symm] <;> rfl) | rfl | (simp only [List.length_drop, List.length_take]; rfl)) ?_; (with_reducible refine (laws_heldIntS.calls k _ _ t124 1 t125 _ ?side1 ?side2 A9.out).mono ?_); (case side1 => repeat (first | exact (Kd.R_reads' HO121.out).2.2 | (with_reducible refine Kd.C_alloc ?_ _) | (with_reducible refine Kd.C_drewN ?_ _) | (with_reducible refine Kd.C_drew ?_))); (case side2 => rw [show t124.length = t118.length from (Kd.R_reads' HO121.out).1.symm]; exact (Kd.R_reads' HO121.out).2.1); rintro e w' ⟨rfl, ⟨nd, rfl⟩⟩; refine ⟨_, rfl, ?_⟩) | ((with_reducible refine gate_callee (f := 34) rfl ?_); refine goesL_ (some 46) rfl rfl Tryd.func34 (by kernel_rfl) rfl #[.string a0] rfl (by (try simp only [List.map_toArray, List.map_cons, List.map_nil]); first | done | rfl | (simp only [List.length_drop, List.length_take]; rfl)) ?_; (with_reducible refine (impl_PlacesOfBoxes.calls a0 t126 t127 _ A12.out).mono ?_); rintro e w24 ⟨v128, rfl, ho0, hb⟩; refine ⟨_, rfl, ?_⟩; have n0_ := Aside0.mk (Kd.R_elder' (by (with_reducible repeat (first | apply Kd.R_alloc | apply Kd.R_drewN | apply Kd.R_drew)); exact HO117.out) (Kd.R_base ho0) hb); have n1_ := Aside0.mk (Kd.R_elder' (by (with_reducible repeat (first | apply Kd.R_alloc | apply Kd.R_drewN | apply Kd.R_drew)); exact HO121.out) (Kd.R_base ho0) hb); have n2_ := Aside0.mk (Kd.R_lower (Kd.R_new' (Kd.R_new' ho0 (Kd.R_lt (by (with_reducible repeat (first | apply Kd.R_alloc | apply Kd.R_drewN | apply Kd.R_drew)); exact HO117.out))) (Kd.R_lt (by (with_reducible repeat (first | apply Kd.R_alloc | apply Kd.R_drewN | apply Kd.R_drew)); exact HO121.out))) (below_size (by repeat (first | (with_reducible first | exact HB.out | apply below_alloc | apply pw_below_drewN | apply below_drew1) | exact HB.out)))); have n3_ := Aside0.mk (below_step (by repeat (first | (with_reducible first | exact HB.out | apply below_alloc | apply pw_below_drewN | apply below_drew1) | exact HB.out)) hb); clear HO117; clear HO121; clear HB; have HO117 := n0_; have HO121 := n1_; have HO129 := n2_; have HB := n3_; clear n0_ n1_ n2_ n3_; (try clear hb); (try clear hb2); (try clear hk); (try clear hi); (try clear ho0); obtain ⟨Ao25, co25, eo25⟩ := Kd.R_slice HO129.out; subst eo25) | ((with_reducible refine gate_callee (f := 28) rfl ?_); refine goesL_ (some 51) rfl rfl Tryd.func28 (by kernel_rfl) rfl #[.slice Ao25 t126.length co25, .slice Ao22 t114.length co22] rfl (by (try simp only [List.map_toArray, List.map_cons, List.map_nil]); first | done | rfl | (simp only [List.length_drop, List.length_take]; rfl)) ?_; (with_reducible refine (laws_eqIntS.calls k _ _ t126 _ _ t114 true _ ?side1 ?side2 ?side3 ?side4 A13.out).mono ?_); (case side1 => repeat (first | exact (Kd.R_reads' HO129.out).2.2 | (with_reducible refine Kd.C_alloc ?_ _) | (with_reducible refine Kd.C_drewN ?_ _) | (with_reducible refine Kd.C_drew ?_))); (case side2 => exact (Kd.R_reads' HO129.out).2.1); (case side3 => repeat (first | exact (Kd.R_reads' HO117.out).2.2 | (with_reducible refine Kd.C_alloc ?_ _) | (with_reducible refine Kd.C_drewN ?_ _) | (with_reducible refine Kd.C_drew ?_))); (case side4 => exact (Kd.R_reads' HO117.out).2.1); rintro e w' ⟨rfl, ⟨nd, rfl⟩⟩; refine ⟨_, rfl, ?_⟩) | ((with_reducible refine gate_callee (f := 30) rfl ?_); refine goesL_ (some 60) rfl rfl Tryd.func30 (by kernel_rfl) rfl #[.slice Ao21 t124.length co21, .int .i64 1] rfl (by (try simp only [List.map_toArray, List.map_cons, List.map_nil]); first | done | (rw [show t124.length = t118.length from (Kd.R_reads' HO121.out).1.symm] <;> rfl) | rfl | (simp only [List.length_drop, List.length_take]; rfl)) ?_; (with_reducible refine (laws_heldIntS.calls k _ _ t124 1 t131 _ ?side1 ?side2 A16.out).mono ?_); (case side1 => repeat (first | exact (Kd.R_reads' HO121.out).2.2 | (with_reducible refine Kd.C_alloc ?_ _) | (with_reducible refine Kd.C_drewN ?_ _) | (with_reducible refine Kd.C_drew ?_))); (case side2 => rw [show t124.length = t118.length from (Kd.R_reads' HO121.out).1.symm]; exact (Kd.R_reads' HO121.out).2.1); rintro e w' ⟨rfl, ⟨nd, rfl⟩⟩; refine ⟨_, rfl, ?_⟩))
                    go_ret
                    exact ⟨by first | rfl | (simp [errW_none, errW_some] <;> rfl) | (simp [*, errW_none, errW_some] <;> rfl), by repeat (first | (with_reducible first | exact HB.out | apply below_alloc | apply pw_below_drewN | apply below_drew1) | exact HB.out)⟩
                  · rw [if_neg c18] at H
                    exact absurd H (by simp)
            · replace c14 := Bool.eq_false_iff.mpr c14
              subst c14
              have H1 : (none) = some r := by rw [if_neg (show ¬ (false = true) by decide)] at H; exact H
              clear H
              have H := H1
              clear H1
              exact absurd H (by simp)
          · rw [if_neg c11] at H
            exact absurd H (by simp)
    · replace c6 := Bool.eq_false_iff.mpr c6
      subst c6
      have H1 : (none) = some r := by rw [if_neg (show ¬ (false = true) by decide)] at H; exact H
      clear H
      have H := H1
      clear H1
      exact absurd H (by simp)

/-- THE ONE PURE STATEMENT of laws_FnExactPlacesOfBoxes: yours. -/
def laws_FnExactPlacesOfBoxes.Pure : Prop := ∀ (a0 : ByteArray), a0.size ≤ 140737488351232 → ∃ k, laws_FnExactPlacesOfBoxes.f k a0 = some true
theorem laws_FnExactPlacesOfBoxes.walk (P : laws_FnExactPlacesOfBoxes.Pure) (a0 : ByteArray) (w : World) (w0 : a0.size ≤ 140737488351232) :
    Calls Tryd.prog 10 #[.string a0] w fun e w' => e = .returned (.bool true) ∧ Below w.heap.size w w' := by
  obtain ⟨k, h⟩ := P a0 w0
  refine (laws_FnExactPlacesOfBoxes.calls k a0 true w rfl h).mono ?_
  rintro e w' ⟨rfl, hd⟩
  exact ⟨rfl, hd⟩

end Go.Proofs.YtoimgbcbmbpfaaaDoor.L

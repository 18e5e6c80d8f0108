-- Written by the session's program wip/myprint.py (over the kit's print); the given parts by hand.
import Derived.Test.YtekabbefflclaaaQ0
import Derived.Test.YtekabbefflclaaaQ1
import Derived.Test.YtekabbefflclaaaQ3
import Derived.Test.YtekabbefflclaaaQ4
import Derived.Test.YtekabbefflclaaaQ5
import Derived.Test.YtekabbefflclaaaQ6
namespace Go.Proofs.Ytekabbefflclaaa.Q
open Go.RowKit Go.Proofs.YtekabbefflclaaaW.PrintWords Go.Proofs.YtekabbefflclaaaW.PrintLast Go.Proofs.YtekabbefflclaaaW.PrintMore
attribute [local go_sem] max2_int min2_int max_two min_two max_three min_three max_four min_four   -- for this text's walks alone
set_option linter.unusedVariables false
set_option linter.unusedSimpArgs false

-- given: loop.example/g01334/impl.FirstBestCut

/-! ### impl_FirstBestCut: by hand -/
def fbc : Nat → List Int → Int → Int → List Int → Option (List Int × Bool)
  | 0, _, _, _, _ => none
  | k + 1, ps, rod, least, out => if 0 < rod then (if (ps.length : Int) < least then none else if least ≤ rod then
      (if 0 ≤ (cutN ps least.toNat (rod - least).toNat).1 ∧ wrap64 ((cutN ps least.toNat (rod - least).toNat).1 + ps.getD (least.toNat - 1) 0) = (cutN ps least.toNat rod.toNat).1 then fbc k ps (rod - least) least (out ++ [least]) else fbc k ps rod (least + 1) out) else fbc k ps rod (least + 1) out) else some (out, true)
def impl_FirstBestCut.f (l0 : List Int) (a1 : Int) : Option (List Int × Bool) :=
  (impl_arePrices.f l0).bind fun p => if p = true then ((impl_isRod.f a1).bind fun q => if q = true then fbc 200 l0 a1 1 [] else some ([], false)) else some ([], false)
theorem memo_ne {kl : Int → Int → Lit} {N : Nat} {V : Int → Int → Value} {P : Program} {k : TypeId} {w : World} {B : Nat} (hm : Memo P k kl N V w B) {e base : Nat} {ok : Nat → Prop} {v : Value} {xs : List Int} (h : (Kd.int .i64).R e w base ok v xs) : some B ≠ v.ownBlock := by
  obtain ⟨D, ⟨es, clock, hh, _⟩, _⟩ := hm
  intro hB
  obtain ⟨cells, hc⟩ := Kd.R_typed h B hB.symm
  rw [hh] at hc
  simp at hc
theorem R_memo {kl : Int → Int → Lit} {N : Nat} {V : Int → Int → Value} {P : Program} {k : TypeId} {w w' : World} {B : Nat} (hm : Memo P k kl N V w B) {e base : Nat} {v : Value} {xs : List Int} (h : (Kd.int .i64).R e w base (fun _ => True) v xs) (hg : w.grownBy w' (some B)) : (Kd.int .i64).R e w' base (fun _ => True) v xs := by
  have hne := memo_ne hm h
  have h1 : (Kd.int .i64).R e w base (fun k => some k = v.ownBlock) v xs := by
    refine Kd.R_flat (d := Kd.int .i64) (fun h => h) h (fun k hk _ => hk.symm)
  exact Kd.R_mono (Kd.R_grown h1 hg (fun k hk => by rw [hk]; exact fun hh => hne hh.symm)) (fun _ _ => trivial)
set_option maxHeartbeats 2000000 in
theorem impl_FirstBestCut.calls (A0 : Option Addr) (c0 : Nat) (l0 : List Int) (a1 : Int) (r1 : List Int) (r2 : Bool) (w : World) (hr0 : Kd.C (Kd.int .i64) w A0 l0.length l0) (hc0 : l0.length ≤ c0) (h : impl_FirstBestCut.f l0 a1 = some (r1, r2)) :
    Calls Try.prog 16 #[.slice A0 l0.length c0, .int .i64 a1] w fun e w' => ∃ v0_ : Value, e = .returned (.tuple #[v0_, .bool r2]) ∧ Kd.R (Kd.int .i64) 3 w' w.heap.size (fun _ => True) v0_ r1 ∧ Below w.heap.size w w' := by
  have hu := Try.underlying40
  have HR0 := Aside0.mk hr0
  have HC0 := Aside0.mk hc0
  clear hr0 hc0
  cases hp : impl_arePrices.f l0 with
  | none => simp [impl_FirstBestCut.f, hp] at h
  | some p =>
    have HP := Aside0.mk hp
    cases p with
    | false =>
      simp [impl_FirstBestCut.f, hp] at h
      obtain ⟨rfl, rfl⟩ := h
      clear hp
      go_enter Try.func16, Try.ntmps16
      go_wp2_with (go_at_call 22; refine (impl_arePrices.calls A0 c0 l0 false _ HR0.out HC0.out HP.out).mono ?_; rintro e w1 ⟨rfl, hb1⟩; have HB1 := Aside0.mk hb1; clear hb1)
      go_ret2
      exact ⟨_, rfl, Kd.R_nil _ _ _ _ _, HB1.out⟩
    | true =>
      simp only [impl_FirstBestCut.f, hp, Option.bind_some, if_true] at h
      clear hp
      cases hq : impl_isRod.f a1 with
      | none => simp [hq] at h
      | some q =>
        have HQ := Aside0.mk hq
        cases q with
        | false =>
          simp [hq] at h
          obtain ⟨rfl, rfl⟩ := h
          clear hq
          go_enter Try.func16, Try.ntmps16
          go_wp2_with (first | (go_at_call 22; refine (impl_arePrices.calls A0 c0 l0 true _ HR0.out HC0.out HP.out).mono ?_; rintro e w1 ⟨rfl, hb1⟩; have HB1 := Aside0.mk hb1; clear hb1) | (go_at_call 23; refine (impl_isRod.calls a1 false _ HQ.out).mono ?_; rintro e w' ⟨rfl, ⟨nd, rfl⟩⟩))
          go_ret2
          exact ⟨_, rfl, Kd.R_nil _ _ _ _ _, HB1.out.trans (by repeat (first | exact Below.refl _ _ | apply below_alloc | apply pw_below_drewN))⟩
        | true =>
          simp only [hq, Option.bind_some, if_true] at h
          have hlen : l0.length ≤ 60 := by
            have := HP.out
            unfold impl_arePrices.f impl_within.f at this
            by_cases c1 : 1 ≤ (l0.length : Int)
            · by_cases c2 : (l0.length : Int) ≤ 60
              · omega
              · simp [c1, c2] at this
            · simp [c1] at this
          have hrod : 1 ≤ a1 ∧ a1 ≤ 60 := by
            have := HQ.out
            unfold impl_isRod.f impl_within.f at this
            by_cases c1 : 1 ≤ a1
            · by_cases c2 : a1 ≤ 60
              · omega
              · simp [c1, c2] at this
            · simp [c1] at this
          clear hq
          have H := Aside0.mk h
          clear h
          go_enter Try.func16, Try.ntmps16
          go_wp2_with (first | (go_at_call 22; refine (impl_arePrices.calls A0 c0 l0 true _ HR0.out HC0.out HP.out).mono ?_; rintro e w1 ⟨rfl, hb1⟩; have HB1 := Aside0.mk hb1; clear hb1) | (go_at_call 23; refine (impl_isRod.calls a1 true _ HQ.out).mono ?_; rintro e w' ⟨rfl, ⟨nd, rfl⟩⟩) | (go_at_call 24; refine (cutsOf_calls A0 c0 l0 (rodV l0) _).mono ?_; rintro e w2 ⟨B, rfl, hb2, hB, hm⟩; have HB2 := Aside0.mk (HB1.out.trans ((by repeat (first | exact Below.refl _ _ | apply below_alloc | apply pw_below_drewN) : Below w.heap.size w1 _).trans (hb2.mono (by have := HB1.out.size; simp; omega)))); have HBB := Aside0.mk (Nat.le_trans HB1.out.size (Nat.le_trans (by simp) hB)); have HM := Aside0.mk hm; clear hb2 hB hm))
          have HO := Aside0.mk (show Kd.R (Kd.int .i64) 3 ((w2.alloc (.cells #[] 3)).alloc (.cells #[.slice A0 l0.length c0, .map (some B)] 40)) w.heap.size (fun _ => True) (.slice (some ⟨w2.heap.size, 0, none⟩) 0 0) [] from
            ⟨fun _ _ => trivial, [], ⟨rfl, .inr ⟨w2.heap.size, 0, #[], rfl, HB2.out.size, (heap_alloc_old _ _ (by simp)).trans (heap_alloc_new _ _), Nat.le_refl _, Nat.zero_le _, rfl, rfl⟩⟩, Reps.none _ _⟩)
          have hcb : ((w2.alloc (.cells #[] 3)).alloc (.cells #[.slice A0 l0.length c0, .map (some B)] 40)).heap[w2.heap.size + 1]? = some (.cells #[.slice A0 l0.length c0, .map (some B)] 40 (0, 0)) := by
            have hz : (w2.alloc (.cells #[] 3)).heap.size = w2.heap.size + 1 := by simp
            rw [← hz]
            exact heap_alloc_new _ _
          go_loopg [1, 7, 8] 200 (fun kq v1 v7 v8 w' => ∃ (rod least : Int) (out : List Int), v1 = .int .i64 rod ∧ v8 = .int .i64 least ∧ Aside0 (fbc kq l0 rod least out = some (r1, r2)) ∧ 0 ≤ rod ∧ rod ≤ 60 ∧ 1 ≤ least ∧ least ≤ 61 ∧ Aside0 ((out.length : Int) + rod ≤ 60)
            ∧ Aside0 (Kd.R (Kd.int .i64) 3 w' w.heap.size (fun _ => True) v7 out) ∧ Aside0 (Below w.heap.size w w') ∧ w'.heap[w2.heap.size + 1]? = some (.cells #[.slice A0 l0.length c0, .map (some B)] 40 (0, 0)) ∧ Aside0 (Memo Try.prog 44 rodKl 60 (rodV l0) w' B) ∧ Aside0 (w2.heap.size + 2 ≤ w'.heap.size))
          case atStart =>
            exact ⟨a1, 1, [], rfl, rfl, H, by omega, by omega, by omega, by omega, ⟨by simp; omega⟩, HO, ⟨HB2.out.trans ((by repeat (first | exact Below.refl _ _ | apply below_alloc | apply pw_below_drewN) : Below w2.heap.size w2 _).mono HB2.out.size)⟩, hcb, ⟨HM.out.below (by repeat (first | exact Below.refl _ _ | apply below_alloc | apply pw_below_drewN))⟩, ⟨by simp⟩⟩
          case round =>
            clear hcb
            obtain ⟨rod, least, out, rfl, rfl, HA, hr0, hr60, hl1, hl61, HS, HO, HB, hcb, HM, HZ⟩ := hrel
            cases gk with
            | zero => exact absurd HA.out (by simp [fbc])
            | succ k1 =>
              have H1 := HA.out
              clear HA H
              rw [fbc] at H1
              by_cases hr : 0 < rod
              · rw [if_pos hr] at H1
                by_cases hx : (l0.length : Int) < least
                · rw [if_pos hx] at H1
                  exact absurd H1 (by simp)
                · rw [if_neg hx] at H1
                  have H := Aside0.mk H1
                  clear H1
                  have HCB := Aside0.mk hcb
                  clear hcb
                  have ne : ∀ {wx : World}, wx.heap[w2.heap.size + 1]? = some (.cells #[.slice A0 l0.length c0, .map (some B)] 40 (0, 0)) → Memo Try.prog 44 rodKl 60 (rodV l0) wx B → w2.heap.size + 1 ≠ B := by
                    intro wx h1 ⟨D, ⟨es, clock, hh, _⟩, _⟩ he
                    rw [he, hh] at h1
                    simp at h1
                  have hneB := ne HCB.out HM.out
                  clear ne
                  go_wp2_with ((with_reducible refine gate_dst (N := 27) rfl ?_); refine wpList_load_row rfl 40 (.tmp 6) rfl (w2.heap.size + 1) rfl _ _ _ _ HCB.out hu rfl (by kernel_rfl) ?_)
                  refine (cuts_of1 l0 hlen A0 c0 B least rod _ hl1 hl61 hr0 hr60 (Kd.C_below HR0.out HB.out) HM.out).mono ?_
                  rintro e w3 ⟨rfl, hm3, hg3⟩
                  have HCB3 := Aside0.mk ((hg3.block (w2.heap.size + 1) (by have := HZ.out; omega) (by simpa using hneB)).trans HCB.out)
                  have HO3 := Aside0.mk (R_memo HM.out HO.out hg3)
                  have HB3 := Aside0.mk (below_of_grown HB.out HB.out.size HBB.out hg3)
                  have HZ3 := Aside0.mk (Nat.le_trans HZ.out hg3.size)
                  have HM3 := Aside0.mk hm3
                  clear hm3 hg3 HCB HO HB HZ HM
                  unfold rodRes
                  by_cases hlr : least ≤ rod
                  · have H1 := H.out
                    rw [if_pos hlr] at H1
                    have HN := Aside0.mk H1
                    clear H H1
                    go_wp2_with ((with_reducible refine gate_dst (N := 34) rfl ?_); refine wpList_load_row rfl 40 (.tmp 6) rfl (w2.heap.size + 1) rfl _ _ _ _ HCB3.out hu rfl (by kernel_rfl) ?_)
                    refine (cuts_of1 l0 hlen A0 c0 B least (rod - least) _ hl1 hl61 (by omega) (by omega) (Kd.C_below HR0.out HB3.out) HM3.out).mono ?_
                    rintro e w4 ⟨rfl, hm4, hg4⟩
                    have hHCB4 := (hg4.block (w2.heap.size + 1) (by have := HZ3.out; omega) (by simpa using hneB)).trans HCB3.out
                    have HO4 := Aside0.mk (R_memo HM3.out HO3.out hg4)
                    have HB4 := Aside0.mk (below_of_grown HB3.out HB3.out.size HBB.out hg4)
                    have HZ4 := Aside0.mk (Nat.le_trans HZ3.out hg4.size)
                    have HM4 := Aside0.mk hm4
                    have HCB4 := Aside0.mk hHCB4
                    clear hm4 hg4 HCB3 HO3 HB3 HZ3 HM3 hHCB4
                    unfold rodRes

                    obtain ⟨ad, hA0, hpr⟩ := Kd.at_int (Kd.C_below HR0.out HB4.out) (least - 1) (by omega) (by omega)
                    rw [show (least - 1).toNat = least.toNat - 1 from by omega, show rd l0 (least - 1) = l0.getD (least.toNat - 1) 0 from by unfold rd; rw [show (least - 1).toNat = least.toNat - 1 from by omega]] at hpr
                    have HN' := HN.out
                    clear HN
                    generalize hp1 : cutN l0 least.toNat (rod - least).toNat = p1 at HN' ⊢
                    generalize hp2 : cutN l0 least.toNat rod.toNat = p2 at HN' ⊢
                    generalize hprice : l0.getD (least.toNat - 1) 0 = price at HN' hpr
                    clear hp1 hp2 hprice
                    subst hA0
                    by_cases hge : 0 ≤ p1.1
                    · cases ht : (wrap64 (p1.1 + price) == p2.1) with
                      | true =>
                        have ht' : wrap64 (p1.1 + price) = p2.1 := beq_iff_eq.mp ht
                        rw [if_pos ⟨hge, ht'⟩] at HN'
                        have HN := Aside0.mk HN'
                        clear HN' ht'
                        go_wp2_with ((with_reducible refine gate_builtin (b := .append) (xs := #[.tmp 61, .tmp 63]) rfl ?_); at_builtin; refine Kd.R_append (Kd.int .i64) (w0 := w) w.heap.size rfl (.tmp 61) (.tmp 63) 25 3 (.int .i64 0) 8 rfl Try.underlying25 (by kernel_rfl) rfl (by decide) (by omega) u7 out least [.int .i64 least] (fun _ => True) (fun _ => False) rfl rfl rfl (fun _ hk => hk.elim) (fun _ _ => trivial) HO4.out HB4.out HB4.out.size (by have := HS.out; omega) ?_; intro v5 w5 ho hb hg hat; have HO5 := Aside0.mk ho; have HB5 := Aside0.mk hb; have HG5 := Aside0.mk hg; clear ho hb hg hat)
                        have hHCB5 := (HG5.out.block (w2.heap.size + 1) (by have := HZ4.out; omega) (Kd.R_ne HO4.out HCB4.out (by decide))).trans HCB4.out
                        have HM5 := Aside0.mk (HM4.out.same (HG5.out.block B HM4.out.lt (memo_ne HM4.out HO4.out)))
                        have HZ5 := Aside0.mk (Nat.le_trans HZ4.out HG5.out.size)
                        go_roundg k1
                        case measure => omega
                        case rel => exact ⟨rod - least, least, out ++ [least], rfl, rfl, ⟨HN.out⟩, by omega, by omega, by omega, by omega, ⟨by have := HS.out; simp; omega⟩, HO5, HB5, hHCB5, HM5, HZ5⟩
                      | false =>
                        have ht' : ¬ wrap64 (p1.1 + price) = p2.1 := beq_eq_false_iff_ne.mp ht
                        rw [if_neg (fun h => ht' h.2)] at HN'
                        have HN := Aside0.mk HN'
                        clear HN' ht'
                        go_wp2_with fail
                        go_roundg k1
                        case measure => omega
                        case rel => exact ⟨rod, least + 1, out, rfl, rfl, ⟨HN.out⟩, by omega, by omega, by omega, by omega, HS, HO4, HB4, HCB4.out, HM4, HZ4⟩
                    · rw [if_neg (fun h => hge h.1)] at HN'
                      have HN := Aside0.mk HN'
                      clear HN'
                      go_wp2_with fail
                      go_roundg k1
                      case measure => omega
                      case rel => exact ⟨rod, least + 1, out, rfl, rfl, ⟨HN.out⟩, by omega, by omega, by omega, by omega, HS, HO4, HB4, HCB4.out, HM4, HZ4⟩
                  · have H1 := H.out
                    rw [if_neg hlr] at H1
                    have HN := Aside0.mk H1
                    clear H H1
                    go_wp2_with ((with_reducible refine gate_dst (N := 34) rfl ?_); refine wpList_load_row rfl 40 (.tmp 6) rfl (w2.heap.size + 1) rfl _ _ _ _ HCB3.out hu rfl (by kernel_rfl) ?_)
                    refine (cuts_of1 l0 hlen A0 c0 B least 0 _ hl1 hl61 (by omega) (by omega) (Kd.C_below HR0.out HB3.out) HM3.out).mono ?_
                    rintro e w4 ⟨rfl, hm4, hg4⟩
                    have hHCB4 := (hg4.block (w2.heap.size + 1) (by have := HZ3.out; omega) (by simpa using hneB)).trans HCB3.out
                    have HO4 := Aside0.mk (R_memo HM3.out HO3.out hg4)
                    have HB4 := Aside0.mk (below_of_grown HB3.out HB3.out.size HBB.out hg4)
                    have HZ4 := Aside0.mk (Nat.le_trans HZ3.out hg4.size)
                    have HM4 := Aside0.mk hm4
                    have HCB4 := Aside0.mk hHCB4
                    clear hm4 hg4 HCB3 HO3 HB3 HZ3 HM3 hHCB4
                    unfold rodRes
                    go_wp2_with fail
                    go_roundg k1
                    case measure => omega
                    case rel => exact ⟨rod, least + 1, out, rfl, rfl, ⟨HN.out⟩, by omega, by omega, by omega, by omega, HS, HO4, HB4, HCB4.out, HM4, HZ4⟩
              · rw [if_neg hr] at H1
                simp only [Option.some.injEq, Prod.mk.injEq] at H1
                obtain ⟨rfl, rfl⟩ := H1
                go_wp2_with fail
                go_ret2
                exact ⟨_, rfl, HO.out, HB.out⟩

end Go.Proofs.Ytekabbefflclaaa.Q

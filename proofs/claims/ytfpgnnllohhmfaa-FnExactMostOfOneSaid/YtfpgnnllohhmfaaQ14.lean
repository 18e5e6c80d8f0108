-- Written by the session's program wip/myprint.py (over the kit's print); the given parts by hand.
import Derived.Test.YtfpgnnllohhmfaaQ0
import Derived.Test.YtfpgnnllohhmfaaQ13
namespace Go.Proofs.Ytfpgnnllohhmfaa.Q
open Go.RowKit Go.Proofs.YtfpgnnllohhmfaaW.PrintWords Go.Proofs.YtfpgnnllohhmfaaW.PrintLast Go.Proofs.YtfpgnnllohhmfaaW.PrintMore
attribute [local go_sem] max2_int min2_int max_two min_two max_three min_three max_four min_four   -- for this text's walks alone
set_option linter.unusedVariables false
set_option linter.unusedSimpArgs false

-- given: (loop.example/g01334/impl.cutter).whole

/-! ### (cutter).whole: by hand -/
def justB (a b : Int) (tn : Bool) (x : S38) : Bool := (a == x.f0 && b == x.f1) || (tn && (a == x.f1 && b == x.f0))
theorem isJust_is (a b : Int) (x : S38) (tn : Bool) : impl_board_isJust.f a b x.f0 x.f1 x.f2 tn = some (justB a b tn x) := by
  unfold impl_board_isJust.f justB
  cases h : (a == x.f0 && (b == x.f1)) <;> cases tn <;> simp [h]
def wholeN (a b : Int) (tn : Bool) : List S38 → Int → Int → Int → Int × Int
  | [], _, best, kind => (best, kind)
  | x :: l, i, best, kind => if justB a b tn x && decide (best < x.f2) then wholeN a b tn l (i + 1) x.f2 i else wholeN a b tn l (i + 1) best kind
set_option maxHeartbeats 1000000 in
set_option maxRecDepth 100000 in
theorem cutter_whole (A0 : Option Addr) (c0 : Nat) (l0 : List S38) (tn : Bool) (m : Option Nat) (a b : Int) (w : World) (hr0 : Kd.C k38 w A0 l0.length l0) :
    Calls Try.prog 85 #[.agg #[.slice A0 l0.length c0, .bool tn, .map m], .agg #[.int .i64 a, .int .i64 b]] w fun e w' => e = .returned (.tuple #[.int .i64 (wholeN a b tn l0 0 0 (-1)).1, .int .i64 (wholeN a b tn l0 0 0 (-1)).2]) ∧ Below w.heap.size w w' := by
  have hu := Try.underlying80
  have hu2 := Try.underlying38
  have hu3 := Try.underlying69
  have HR0 := Aside0.mk hr0
  have hl := hr0.2.1
  clear hr0
  go_enter Try.func85, Try.ntmps85
  go_wp2
  have c1 : ((w.alloc (.cells #[.slice A0 l0.length c0, .bool tn, .map m] 80)).alloc (.cells #[.int .i64 a, .int .i64 b] 69)).cell? ⟨w.heap.size, 1, none⟩ = some (.bool tn) := by simp
  have b0 : ((w.alloc (.cells #[.slice A0 l0.length c0, .bool tn, .map m] 80)).alloc (.cells #[.int .i64 a, .int .i64 b] 69)).cell? ⟨w.heap.size + 1, 0, none⟩ = some (.int .i64 a) := by simp
  have b1 : ((w.alloc (.cells #[.slice A0 l0.length c0, .bool tn, .map m] 80)).alloc (.cells #[.int .i64 a, .int .i64 b] 69)).cell? ⟨w.heap.size + 1, 1, none⟩ = some (.int .i64 b) := by simp
  have HB0 := Aside0.mk (below_alloc (below_alloc (Below.refl w.heap.size w) (.cells #[.slice A0 l0.length c0, .bool tn, .map m] 80)) (.cells #[.int .i64 a, .int .i64 b] 69))
  generalize (w.alloc (.cells #[.slice A0 l0.length c0, .bool tn, .map m] 80)).alloc (.cells #[.int .i64 a, .int .i64 b] 69) = W0 at c1 b0 b1 HB0 ⊢
  have HC1 := Aside0.mk c1
  have HB_0 := Aside0.mk b0
  have HB_1 := Aside0.mk b1
  clear c1 b0 b1
  go_loopg [6, 7, 13] l0.length (fun gg v6 v7 v13 wr => ∃ (kk : Nat) (best kind : Int), kk ≤ l0.length ∧ l0.length - kk ≤ gg ∧ v6 = .int .i64 best ∧ v7 = .int .i64 kind ∧ v13 = .int .i64 kk ∧ Aside0 (wholeN a b tn (l0.drop kk) (kk : Int) best kind = wholeN a b tn l0 0 0 (-1)) ∧ Aside0 (Below W0.heap.size W0 wr))
  case atStart => exact ⟨0, 0, -1, Nat.zero_le _, by omega, rfl, rfl, rfl, ⟨rfl⟩, ⟨Below.refl _ _⟩⟩
  case round =>
    obtain ⟨kk, best, kind, hkk, hg, rfl, rfl, rfl, HA, HB⟩ := hrel
    have c1 := (HB.out.cell (World.block_lt_of_cell? W0 _ HC1.out)).trans HC1.out
    have b0 := (HB.out.cell (World.block_lt_of_cell? W0 _ HB_0.out)).trans HB_0.out
    have b1 := (HB.out.cell (World.block_lt_of_cell? W0 _ HB_1.out)).trans HB_1.out
    by_cases hlt : kk < l0.length
    · have hltz : (kk : Int) < (l0.length : Int) := by omega
      have hrw := Kd.C_below HR0.out (HB0.out.trans (HB.out.mono HB0.out.size))
      obtain ⟨ad, rfl, hx0, hx1, hx2⟩ := at_T38 hrw (kk : Int) (by omega) hltz
      rw [show rd_T38 l0 (kk : Int) = l0[kk] by simp [rd_T38, hlt], Int.toNat_natCast] at hx0 hx1 hx2
      have hstep : wholeN a b tn (l0.drop kk) (kk : Int) best kind = if justB a b tn l0[kk] && decide (best < l0[kk].f2) then wholeN a b tn (l0.drop (kk + 1)) ((kk : Int) + 1) l0[kk].f2 kk else wholeN a b tn (l0.drop (kk + 1)) ((kk : Int) + 1) best kind := by
        rw [List.drop_eq_getElem_cons hlt, wholeN]
      rw [HA.out] at hstep
      have HJ := Aside0.mk (isJust_is a b l0[kk] tn)
      generalize hy : l0[kk] = y at hx0 hx1 hx2 hstep HJ
      clear hy hrw HA
      have hWp : ∀ {ad : Addr} {v : Value}, wr.cell? ad = some v → (wr.alloc (.cells #[.int .i64 y.f0, .int .i64 y.f1, .int .i64 y.f2] 38)).cell? ad = some v := fun h => ((below_alloc (Below.refl _ _) _).cell (World.block_lt_of_cell? wr _ h)).trans h
      replace c1 := hWp c1
      replace b0 := hWp b0
      replace b1 := hWp b1
      clear hWp
      cases hq : justB a b tn y with
      | true =>
        rw [hq] at HJ
        cases hd : decide (best < y.f2) with
        | true =>
          rw [hq, hd, Bool.true_and, if_pos rfl] at hstep
          have HN := Aside0.mk hstep
          clear hq hstep
          go_wp2_with (go_at_call 90; refine (impl_board_isJust.calls a b y.f0 y.f1 y.f2 tn true _ HJ.out).mono ?_; rintro e w' ⟨rfl, hb⟩; have HB2 := Aside0.mk hb; have hp2 : w'.cell? ⟨wr.heap.size, 2, none⟩ = some (.int .i64 y.f2) := (hb.cell (by simp)).trans (by simp); clear hb)
          go_roundg (l0.length - (kk + 1))
          case measure => omega
          case rel => exact ⟨kk + 1, y.f2, kk, by omega, by omega, rfl, rfl, by go_num, ⟨HN.out.symm⟩, ⟨HB.out.trans ((by repeat (first | exact Below.refl _ _ | apply below_alloc | apply pw_below_drewN) : Below wr.heap.size wr _).mono HB.out.size |>.trans (HB2.out.mono (by have := HB.out.size; simp; omega)))⟩⟩
        | false =>
          rw [hq, hd, Bool.and_false, if_neg (by decide)] at hstep
          have HN := Aside0.mk hstep
          clear hq hstep
          go_wp2_with (go_at_call 90; refine (impl_board_isJust.calls a b y.f0 y.f1 y.f2 tn true _ HJ.out).mono ?_; rintro e w' ⟨rfl, hb⟩; have HB2 := Aside0.mk hb; have hp2 : w'.cell? ⟨wr.heap.size, 2, none⟩ = some (.int .i64 y.f2) := (hb.cell (by simp)).trans (by simp); clear hb)
          go_roundg (l0.length - (kk + 1))
          case measure => omega
          case rel => exact ⟨kk + 1, best, kind, by omega, by omega, rfl, rfl, by go_num, ⟨HN.out.symm⟩, ⟨HB.out.trans ((by repeat (first | exact Below.refl _ _ | apply below_alloc | apply pw_below_drewN) : Below wr.heap.size wr _).mono HB.out.size |>.trans (HB2.out.mono (by have := HB.out.size; simp; omega)))⟩⟩
      | false =>
        rw [hq] at HJ
        rw [hq, Bool.false_and, if_neg (by decide)] at hstep
        have HN := Aside0.mk hstep
        clear hq hstep
        go_wp2_with (go_at_call 90; refine (impl_board_isJust.calls a b y.f0 y.f1 y.f2 tn false _ HJ.out).mono ?_; rintro e w' ⟨rfl, hb⟩; have HB2 := Aside0.mk hb; have hp2 : w'.cell? ⟨wr.heap.size, 2, none⟩ = some (.int .i64 y.f2) := (hb.cell (by simp)).trans (by simp); clear hb)
        go_roundg (l0.length - (kk + 1))
        case measure => omega
        case rel => exact ⟨kk + 1, best, kind, by omega, by omega, rfl, rfl, by go_num, ⟨HN.out.symm⟩, ⟨HB.out.trans ((by repeat (first | exact Below.refl _ _ | apply below_alloc | apply pw_below_drewN) : Below wr.heap.size wr _).mono HB.out.size |>.trans (HB2.out.mono (by have := HB.out.size; simp; omega)))⟩⟩
    · have hk : kk = l0.length := by omega
      subst hk
      go_wp2
      go_ret2
      have hh := HA.out
      rw [List.drop_length, wholeN] at hh
      exact ⟨by rw [← hh]; rfl, HB0.out.trans (HB.out.mono HB0.out.size)⟩

end Go.Proofs.Ytfpgnnllohhmfaa.Q

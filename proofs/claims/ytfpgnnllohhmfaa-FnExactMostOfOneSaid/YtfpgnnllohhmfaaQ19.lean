-- Written by the session's program wip/myprint.py (over the kit's print); the given parts by hand.
import Derived.Test.YtfpgnnllohhmfaaQ0
import Derived.Test.YtfpgnnllohhmfaaQ13
import Derived.Test.YtfpgnnllohhmfaaQ17
import Derived.Test.YtfpgnnllohhmfaaQ18
namespace Go.Proofs.Ytfpgnnllohhmfaa.Q
open Go.RowKit Go.Proofs.YtfpgnnllohhmfaaW.PrintWords Go.Proofs.YtfpgnnllohhmfaaW.PrintLast Go.Proofs.YtfpgnnllohhmfaaW.PrintMore
attribute [local go_sem] max2_int min2_int max_two min_two max_three min_three max_four min_four   -- for this text's walks alone
set_option linter.unusedVariables false
set_option linter.unusedSimpArgs false

-- given: loop.example/g01334/impl.MostOfOne

/-! ### impl_MostOfOne: by hand -/
theorem one_piece (W : World) (g : Nat) (x : S38) (h0 : W.cell? ⟨g, 0, none⟩ = some (.int .i64 x.f0)) (h1 : W.cell? ⟨g, 1, none⟩ = some (.int .i64 x.f1)) (h2 : W.cell? ⟨g, 2, none⟩ = some (.int .i64 x.f2)) : Kd.C k38 W (some ⟨g, 0, none⟩) [x].length [x] := by
  refine ⟨rfl, by simp, fun _ => ⟨_, rfl, fun j p hj => ?_⟩⟩
  cases j with
  | succ j => simp at hj
  | zero =>
    obtain rfl : x = p := by simpa using hj
    refine ⟨[.int .i64 x.f0, .int .i64 x.f1, .int .i64 x.f2], rfl, k38_mk W x, fun i u hu => ?_⟩
    match i, hu with
    | 0, hu => obtain rfl := Option.some.inj hu; exact h0
    | 1, hu => obtain rfl := Option.some.inj hu; exact h1
    | 2, hu => obtain rfl := Option.some.inj hu; exact h2
    | i + 3, hu => simp at hu
def impl_MostOfOne.f (a0 : Int) (a1 : Int) (a2_0 : Int) (a2_1 : Int) (a2_2 : Int) (a3 : Bool) : Option (Int × Bool) :=
  (impl_areCut.f a0 a1 [⟨a2_0, a2_1, a2_2⟩]).bind fun p => if p = true then some (cvN (whN [⟨a2_0, a2_1, 1⟩] a3) a0 a1, true) else some (0, false)
set_option maxHeartbeats 1000000 in
set_option maxRecDepth 100000 in
theorem impl_MostOfOne.calls (a0 : Int) (a1 : Int) (a2_0 : Int) (a2_1 : Int) (a2_2 : Int) (a3 : Bool) (r1 : Int) (r2 : Bool) (w : World) (h : impl_MostOfOne.f a0 a1 a2_0 a2_1 a2_2 a3 = some (r1, r2)) :
    Calls Try.prog 33 #[.int .i64 a0, .int .i64 a1, .agg #[.int .i64 a2_0, .int .i64 a2_1, .int .i64 a2_2], .bool a3] w fun e w' => e = .returned (.tuple #[.int .i64 r1, .bool r2]) ∧ Below w.heap.size w w' := by
  have hu := Try.underlying38
  have hu2 := Try.underlying69
  cases hp : impl_areCut.f a0 a1 [⟨a2_0, a2_1, a2_2⟩] with
  | none => simp [impl_MostOfOne.f, hp] at h
  | some p =>
    have HP := Aside0.mk hp
    cases p with
    | false =>
      simp [impl_MostOfOne.f, hp] at h
      obtain ⟨rfl, rfl⟩ := h
      clear hp
      go_enter Try.func33, Try.ntmps33
      go_wp2_with (go_at_call 68; refine (impl_areCut.calls a0 a1 _ 1 [⟨a2_0, a2_1, a2_2⟩] false _ (one_piece _ _ _ (by simp) (by simp) (by simp)) (Nat.le_refl _) HP.out).mono ?_; rintro e w1 ⟨rfl, hb1⟩; have HB1 := Aside0.mk ((below_alloc (below_alloc (Below.refl w.heap.size w) _) _).trans (hb1.mono (by simp; omega))); have x0 : w1.cell? ⟨w.heap.size, 0, none⟩ = some (.int .i64 a2_0) := (hb1.cell (by simp; omega)).trans (by simp); have x1 : w1.cell? ⟨w.heap.size, 1, none⟩ = some (.int .i64 a2_1) := (hb1.cell (by simp; omega)).trans (by simp); clear hb1)
      go_ret2
      exact ⟨rfl, HB1.out⟩
    | true =>
      simp only [impl_MostOfOne.f, hp, Option.bind_some, if_true, Option.some.injEq, Prod.mk.injEq] at h
      obtain ⟨rfl, rfl⟩ := h
      clear hp
      have hin := areCut_in HP.out
      have i1 := hin.1.1
      have i2 := hin.1.2
      have i3 := hin.2.1
      have i4 := hin.2.2
      clear hin
      go_enter Try.func33, Try.ntmps33
      go_wp2_with (go_at_call 68; refine (impl_areCut.calls a0 a1 _ 1 [⟨a2_0, a2_1, a2_2⟩] true _ (one_piece _ _ _ (by simp) (by simp) (by simp)) (Nat.le_refl _) HP.out).mono ?_; rintro e w1 ⟨rfl, hb1⟩; have HB1 := Aside0.mk ((below_alloc (below_alloc (Below.refl w.heap.size w) _) _).trans (hb1.mono (by simp; omega))); have x0 : w1.cell? ⟨w.heap.size, 0, none⟩ = some (.int .i64 a2_0) := (hb1.cell (by simp; omega)).trans (by simp); have x1 : w1.cell? ⟨w.heap.size, 1, none⟩ = some (.int .i64 a2_1) := (hb1.cell (by simp; omega)).trans (by simp); clear hb1)
      have hone := one_piece (w1.alloc (.cells #[.int .i64 a2_0, .int .i64 a2_1, .int .i64 1] 38)) w1.heap.size ⟨a2_0, a2_1, 1⟩ (by simp) (by simp) (by simp)
      have HONE := Aside0.mk hone
      have HB1' := Aside0.mk (below_alloc HB1.out (.cells #[.int .i64 a2_0, .int .i64 a2_1, .int .i64 1] 38))
      have hs1 := HB1'.out.size
      clear hone
      refine (cutterOf_calls (some ⟨w1.heap.size, 0, none⟩) 1 1 a3 (cutV [⟨a2_0, a2_1, 1⟩] a3) _).mono ?_
      rintro e w2 ⟨B, rfl, hb2, hB, hm⟩
      have HR2 := Aside0.mk (Kd.C_below HONE.out hb2)
      have HB2 := Aside0.mk (HB1'.out.trans (hb2.mono hs1))
      have HBB := Aside0.mk (Nat.le_trans hs1 hB)
      have HM := Aside0.mk hm
      clear hb2 hB hm hs1 x0 x1
      go_wp2_with (go_at_call 70; refine (cutter_value1 (some ⟨w1.heap.size, 0, none⟩) 1 [⟨a2_0, a2_1, 1⟩] a3 B a0 a1 _ i1 i2 i3 i4 HR2.out HM.out).mono ?_; rintro e w3 ⟨rfl, hm3, hg3⟩; have HG3 := Aside0.mk hg3; clear hm3 hg3)
      go_ret2
      exact ⟨rfl, below_of_grown HB2.out HB2.out.size HBB.out HG3.out⟩

end Go.Proofs.Ytfpgnnllohhmfaa.Q

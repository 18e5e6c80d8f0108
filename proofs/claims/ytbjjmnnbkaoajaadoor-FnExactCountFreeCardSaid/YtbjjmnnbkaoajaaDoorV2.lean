-- Written by the session's program wip/myprint.py (over the kit's print); the given parts by hand.
import Derived.Test.YtbjjmnnbkaoajaaDoorV0
import Derived.Test.YtbjjmnnbkaoajaaDoorV1
namespace Go.Proofs.YtbjjmnnbkaoajaaDoor.V
open Go.RowKit Go.Proofs.YtbjjmnnbkaoajaaDoorW.PrintWords Go.Proofs.YtbjjmnnbkaoajaaDoorW.PrintLast Go.Proofs.YtbjjmnnbkaoajaaDoorW.PrintMore
attribute [local go_sem] max2_int min2_int max_two min_two max_three min_three max_four min_four   -- for this text's walks alone
set_option linter.unusedVariables false
set_option linter.unusedSimpArgs false

-- given: loop.example/g01334/impl.stopped
/-! ### impl_stopped: by hand, where nothing is sorted -/
def stC (a1 : Int) : UInt8 := ((wrap64 (48 + a1)) % 256).toNat.toUInt8
def stopM (c : UInt8) (l : List UInt8) : List UInt8 := (l.drop (Lib.indexByte l c).toNat).filter (fun x => x != c)
def stL (c : UInt8) (l : List UInt8) : List UInt8 × Nat := if Lib.indexByte l c < 0 then (l, 0) else (l.take (Lib.indexByte l c).toNat ++ stopM c l, (stopM c l).length)
def impl_stopped.f (a0 : ByteArray) (a1 : Int) (a2 : Bool) : Option (ByteArray × Int) := if a2 = false ∧ a0.size ≤ 1048576 then some (⟨(stL (stC a1) a0.data.toList).1.toArray⟩, ((stL (stC a1) a0.data.toList).2 : Nat)) else none
theorem stC_is (a1 : Int) : (wrap64 (48 + a1)) % 256 = ((stC a1).toNat : Int) := by
  unfold stC
  have h0 : 0 ≤ (wrap64 (48 + a1)) % 256 := Int.emod_nonneg _ (by decide)
  have h1 : (wrap64 (48 + a1)) % 256 < 256 := Int.emod_lt_of_pos _ (by decide)
  generalize (wrap64 (48 + a1)) % 256 = v at h0 h1
  have e : (v.toNat.toUInt8).toNat = v.toNat := by
    show (UInt8.ofNat v.toNat).toNat = v.toNat
    rw [UInt8.toNat_ofNat']
    exact Nat.mod_eq_of_lt (by omega)
  rw [e]
  omega
theorem strOf_map (t : ByteArray) : strOfNums (t.data.toList.map fun x => (x.toNat : Int)) = t := by
  rcases t with ⟨⟨l⟩⟩
  simp [strOfNums, Function.comp_def]
set_option maxHeartbeats 4000000 in
set_option maxRecDepth 100000 in
theorem impl_stopped.calls (a0 : ByteArray) (a1 : Int) (a2 : Bool) (r1 : ByteArray) (r2 : Int) (w : World) (h : impl_stopped.f a0 a1 a2 = some (r1, r2)) :
    Calls Tryd.prog 26 #[.string a0, .int .i64 a1, .bool a2] w fun e w' => e = .returned (.tuple #[.string r1, .int .i64 r2]) ∧ Below w.heap.size w w' := by
  have mixed : Tryd.prog.follows .mixedOrders = true := by kernel_rfl
  unfold impl_stopped.f at h
  by_cases hsz : a2 = false ∧ a0.size ≤ 1048576
  · rw [if_pos hsz] at h
    obtain ⟨rfl, rfl⟩ := Prod.mk.inj (Option.some.inj h)
    clear h
    obtain ⟨rfl, hsz⟩ := hsz
    have hlenL : a0.data.toList.length = a0.size := rfl
    have hc := stC_is a1
    generalize stC a1 = c at hc ⊢
    have HI := Aside0.mk (show strings_IndexByte.f a0 (c.toNat : Int) = some (Lib.indexByte a0.data.toList c) by unfold strings_IndexByte.f; simp)
    by_cases hneg : Lib.indexByte a0.data.toList c < 0
    · have HS := Aside0.mk (show stL c a0.data.toList = (a0.data.toList, 0) by unfold stL; rw [if_pos hneg])
      generalize Lib.indexByte a0.data.toList c = i at hneg HI
      have q1 : decide (i < 0) = true := decide_eq_true hneg
      go_enter Tryd.func26, Tryd.ntmps26
      go_wp2_with (go_at_call 34; refine (strings_IndexByte.calls a0 (c.toNat : Int) i _ HI.out).mono ?_; rintro e w1 ⟨rfl, ⟨nd, rfl⟩⟩)
      go_ret2
      refine ⟨?_, by repeat (first | exact Below.refl _ _ | apply below_alloc | apply pw_below_drewN)⟩
      rw [HS.out]
      rw [show (⟨a0.data.toList.toArray⟩ : ByteArray) = a0 by cases a0; simp]
      rfl
    · obtain ⟨j, hj⟩ : ∃ j : Nat, Lib.indexByte a0.data.toList c = (j : Int) := ⟨(Lib.indexByte a0.data.toList c).toNat, by omega⟩
      have HS := Aside0.mk (show stL c a0.data.toList = (a0.data.toList.take j ++ (a0.data.toList.drop j).filter (fun x => x != c), ((a0.data.toList.drop j).filter (fun x => x != c)).length) by unfold stL stopM; rw [if_neg hneg, hj, Int.toNat_natCast])
      have hjl : j < a0.data.toList.length := by
        have h1 := (Lib.indexByte_some hj).1
        exact (List.getElem?_eq_some_iff.1 h1).1
      rw [hj] at HI
      clear hneg hj
      have q1 : decide ((j : Int) < 0) = false := decide_eq_false (by omega)
      have q2 : (0 ≤ (j : Int)) = True := eq_true (by omega)
      have q3 : ((j : Int) ≤ (a0.size : Int)) = True := eq_true (by omega)
      have hex : (a0.extract j a0.size).data.toList = a0.data.toList.drop j := by
        rw [Lib.extract_data]
        exact List.take_of_length_le (by rw [List.length_drop]; exact Nat.le_refl _)
      have hexs : (a0.extract j a0.size).size = a0.size - j := by simp
      have HR := Aside0.mk (show strings_ReplaceAll.f (a0.extract j a0.size) ⟨#[c]⟩ ⟨#[]⟩ = some ⟨((a0.data.toList.drop j).filter (fun x => x != c)).toArray⟩ by
        unfold strings_ReplaceAll.f strings_Replace.f
        rw [if_pos ⟨rfl, rfl, by omega⟩, if_pos (by decide), hex]
        congr 2
        rw [show (⟨#[c]⟩ : ByteArray).data.toList.headD 0 = c from rfl, cut_more c _ _ ((a0.data.toList.drop j).count c) (by rw [← hex]; exact List.count_le_length) (Nat.le_refl _), cut_all])
      have hml : ((a0.data.toList.drop j).filter (fun x => x != c)).length ≤ a0.size := Nat.le_trans (List.length_filter_le _ _) (by rw [List.length_drop]; omega)
      generalize hm : (a0.data.toList.drop j).filter (fun x => x != c) = m at HS HR hml
      have hlist : (⟨m.toArray⟩ : ByteArray).data.toList = m := by simp
      have hsize : (⟨m.toArray⟩ : ByteArray).size = m.length := by rw [← hlist]; rfl
      generalize (⟨m.toArray⟩ : ByteArray) = s at HR hlist hsize
      have hstr1 := fun (n : Nat) => one_string (W := w.drewN n) (e' := 5) Tryd.underlying38 Tryd.underlying5 Tryd.underlying9 c _ rfl w.heap.size rfl
      have hconv := fun W : World => Lib.run_convert_string_bytes (P := Tryd.prog) W 9 38 5 s Tryd.underlying9 Tryd.underlying38 Tryd.underlying5
      have HL := Aside0.mk (And.intro hlist hsize)
      clear hex hexs hm hlist hsize
      go_enter Tryd.func26, Tryd.ntmps26
      go_wp2_with (go_at_call 34; refine (strings_IndexByte.calls a0 (c.toNat : Int) (j : Int) _ HI.out).mono ?_; rintro e w1 ⟨rfl, ⟨nd, rfl⟩⟩)
      go_region_with (go_at_call 35; refine (strings_ReplaceAll.calls _ _ _ s _ HR.out).mono ?_; rintro e w2 ⟨rfl, hb2⟩; have HB2 := Aside0.mk hb2; clear hb2)
      have hstr2 : ∀ n, (convert 38 9 (.slice (some ⟨w2.heap.size, 0, none⟩) s.size (grownCap w2 s.size 0 5))).run Tryd.prog ((Lib.bytesWorld w2 5 s).drewN n) = .ok (.string s) ((Lib.bytesWorld w2 5 s).drewN n) := by
        intro n
        have h1 := run_convert_bytes_arg ((Lib.bytesWorld w2 5 s).drewN n) 38 5 Tryd.underlying38 Tryd.underlying5 w2.heap.size 0 s.size (grownCap w2 s.size 0 5) (s.data.toList.map fun x => (x.toNat : Int)) (by rw [List.length_map]; rfl) (fun i hi => by
          rw [Nat.zero_add]
          refine ((BytesAt.made w2 5 s) i hi).trans ?_
          congr 2
          rw [List.getD_eq_getElem?_getD, List.getElem?_map, List.getElem?_eq_getElem (show i < s.data.toList.length from hi)]
          rfl) 9 Tryd.underlying9
        rw [h1, strOf_map]
      obtain ⟨pre, hpre⟩ : ∃ pre, a0.extract 0 j = pre := ⟨_, rfl⟩
      have hcat : (pre ++ s : ByteArray).data.toList = a0.data.toList.take j ++ m := by
        rw [← hpre, ByteArray.data_append, Array.toList_append, HL.out.1, Lib.extract_data]
        simp
      have hszs : pre.size = j := by rw [← hpre]; simp; omega
      have p1 : (pre.size + s.size ≤ 9223372036854775807) = True := eq_true (by have := HL.out.2; omega)
      have p3 : (9223372036854775807 < pre.size + s.size) = False := eq_false (by have := HL.out.2; omega)
      have HCat := Aside0.mk hcat
      have HBW := Aside0.mk (below_bytes w2 5 s)
      clear hcat hszs hconv hstr1
      generalize hcapE : grownCap w2 s.size 0 5 = cap0 at hstr2
      clear hcapE
      generalize Lib.bytesWorld w2 5 s = W at hstr2 HBW ⊢
      go_wp2_with fail
      go_quiet (fail)
      go_wp2_with fail
      go_ret2
      refine ⟨?_, ?_⟩
      · rw [HS.out]
        show Ending.returned (.tuple #[.string (pre ++ s), .int .i64 (s.size : Int)]) = .returned (.tuple #[.string ⟨(a0.data.toList.take j ++ m).toArray⟩, .int .i64 ((m.length : Nat) : Int)])
        rw [← HCat.out, ← HL.out.2, show (⟨(pre ++ s : ByteArray).data.toList.toArray⟩ : ByteArray) = pre ++ s from by cases (pre ++ s : ByteArray); simp]
      · have h1 : Below w.heap.size w w2 := (by repeat (first | exact Below.refl _ _ | apply below_alloc | apply pw_below_drewN) : Below w.heap.size w ((w.drewN (nd + 1)).alloc (.cells #[.int .u8 (c.toNat : Int)] 5))).trans (HB2.out.mono (by simp))
        exact pw_below_drewN (h1.trans (HBW.out.mono h1.size)) nq
  · rw [if_neg hsz] at h
    exact absurd h (by simp)

/-! ### impl_moves: function 28 -/
def impl_moves.l0 : Nat → ByteArray → Bool → Int → Int → Option (Int)
  | 0, _, _, _, _ => none
  | k + 1, x0, x1, x5, x6 => if x6 ≤ 9 then ((impl_stopped.f x0 x6 x1).bind fun bt105 => (impl_moves.l0 k bt105.1 x1 (wrap64 (x5 + bt105.2)) (wrap64 (x6 + 1)))) else (some x5)
def impl_moves.f (k : Nat) (a0 : ByteArray) (a1 : Bool) : Option (Int) := impl_moves.l0 k a0 a1 0 1
theorem impl_moves.mono_l : ∀ k, (∀ y0 y1 y2 y3, LeO (impl_moves.l0 k y0 y1 y2 y3) (impl_moves.l0 (k + 1) y0 y1 y2 y3))
  | 0 => fun _ _ _ _ r h => by simp [impl_moves.l0] at h
  | k + 1 => by
    have ih0 := impl_moves.mono_l k
    · intro y0 y1 y2 y3
      unfold impl_moves.l0
      repeat' first
      | (with_reducible exact ih0 _ _ _ _)
      | (with_reducible exact LeO.refl _)
      | (with_reducible exact LeO.none _)
      | (with_reducible refine LeO.ite ?_ ?_)
      | (with_reducible refine LeO.bind ?_ (fun _ => ?_))
      | exact ih0 _ _ _ _
      | exact LeO.none _
      | refine LeO.ite ?_ ?_
      | refine LeO.bind ?_ (fun _ => ?_)
theorem impl_moves.mono : ∀ a0 a1 k, LeO (impl_moves.f k a0 a1) (impl_moves.f (k + 1) a0 a1) := by
  intro a0 a1 k
  have ih0 := impl_moves.mono_l k
  unfold impl_moves.f
  repeat' first
      | (with_reducible exact ih0 _ _ _ _)
      | (with_reducible exact LeO.refl _)
      | (with_reducible exact LeO.none _)
      | (with_reducible refine LeO.ite ?_ ?_)
      | (with_reducible refine LeO.bind ?_ (fun _ => ?_))
      | exact ih0 _ _ _ _
      | exact LeO.none _
      | refine LeO.ite ?_ ?_
      | refine LeO.bind ?_ (fun _ => ?_)
set_option maxHeartbeats 8000000 in
set_option maxRecDepth 100000 in
theorem impl_moves.calls (k : Nat) (a0 : ByteArray) (a1 : Bool) (r : Int) (w : World) (h : impl_moves.f k a0 a1 = some r) :
    Calls Tryd.prog 28 #[.string a0, .bool a1] w fun e w' => e = .returned (.int .i64 r) ∧ Below w.heap.size w w' := by
  have HB := Aside0.mk (Below.refl w.heap.size w)
  have H : (impl_moves.l0 k a0 a1 0 1) = some r := h
  clear h
  have H' := Aside0.mk H
  clear H
  go_enter Tryd.func28, Tryd.ntmps28
  go_wp2
  go_loopg [0, 5, 6] k (fun kq v0 v5 v6 w' => ∃ (x0_1 : ByteArray) (x5_1 : Int) (x6_1 : Int), v0 = .string x0_1 ∧ v5 = .int .i64 x5_1 ∧ v6 = .int .i64 x6_1 ∧ Aside0 (impl_moves.l0 kq x0_1 a1 x5_1 x6_1 = some r) ∧ Aside0 (kq ≤ k) ∧ Aside0 (Below w.heap.size w w'))
  case atStart => exact ⟨(a0), (0), (1), (by first | rfl | (simp; done) | (simp [*]; done)), (by first | rfl | (simp; done) | (simp [*]; done)), (by first | rfl | (simp; done) | (simp [*]; done)), H', ⟨Nat.le_refl _⟩, ⟨by repeat (first | (with_reducible first | exact HB.out | apply below_alloc | apply pw_below_drewN | apply below_drew1) | exact HB.out)⟩⟩
  case round =>
    clear H'
    try clear c2
    try clear p2
    obtain ⟨x0_1, x5_1, x6_1, rfl, rfl, rfl, HA, HK1, HB⟩ := hrel
    cases gk with
    | zero => exact absurd HA.out (by simp [impl_moves.l0])
    | succ k1 =>
      have H := HA.out
      clear HA
      simp only [impl_moves.l0] at H
      by_cases c3 : x6_1 ≤ 9
      · rw [if_pos c3] at H
        have c3b0 : decide (x6_1 ≤ 9) = true := decide_eq_true c3
        clear c3
        replace H := Option.bind_eq_some_iff.mp H
        obtain ⟨⟨t105, t106⟩, A40, H⟩ := H
        replace H : (impl_moves.l0 k1 t105 a1 (wrap64 (x5_1 + t106)) (wrap64 (x6_1 + 1))) = some r := H
        have A4 := Aside0.mk A40
        clear A40
        have H' := Aside0.mk H
        clear H
        go_wp2_with (first | ((with_reducible refine gate_callee (f := 26) rfl ?_); refine goesL_ (some 17) rfl rfl Tryd.func26 (by kernel_rfl) rfl #[.string x0_1, .int .i64 x6_1, .bool a1] rfl (by (try simp only [List.map_toArray, List.map_cons, List.map_nil]); first | done | rfl | (simp only [List.length_drop, List.length_take]; rfl)) ?_; (with_reducible refine (impl_stopped.calls x0_1 x6_1 a1 t105 t106 _ A4.out).mono ?_); rintro e w5 ⟨rfl, hb⟩; refine ⟨_, rfl, ?_⟩; have n0_ := Aside0.mk (below_step (by repeat (first | (with_reducible first | exact HB.out | apply below_alloc | apply pw_below_drewN | apply below_drew1) | exact HB.out)) hb); clear HB; have HB := n0_; clear n0_; (try clear hb); (try clear hb2); (try clear hk); (try clear hi)))
        go_roundg k1
        case measure => have := HK1.out; omega
        case rel => exact ⟨(t105), (wrap64 (x5_1 + t106)), (wrap64 (x6_1 + 1)), (by first | rfl | (simp; done) | (simp [*]; done)), (by first | rfl | (simp; done) | (simp [*]; done)), (by first | rfl | (simp; done) | (simp [*]; done)), H', ⟨by have := HK1.out; omega⟩, ⟨by repeat (first | (with_reducible first | exact HB.out | apply below_alloc | apply pw_below_drewN | apply below_drew1) | exact HB.out)⟩⟩
      · rw [if_neg c3] at H
        have c3b0 : decide (x6_1 ≤ 9) = false := decide_eq_false c3
        clear c3
        obtain rfl := Option.some.inj H
        go_wp2
        go_ret
        exact ⟨by first | rfl | (simp [errW_none, errW_some] <;> rfl) | (simp [*, errW_none, errW_some] <;> rfl), by repeat (first | (with_reducible first | exact HB.out | apply below_alloc | apply pw_below_drewN | apply below_drew1) | exact HB.out)⟩

/-! ### impl_bit: function 32 -/
def impl_bit.f (a0 : Bool) : Option (Int) := if a0 = true then (some 1) else (some 0)
set_option maxHeartbeats 8000000 in
set_option maxRecDepth 100000 in
theorem impl_bit.calls (a0 : Bool) (r : Int) (w : World) (h : impl_bit.f a0 = some r) :
    Calls Tryd.prog 32 #[.bool a0] w fun e w' => e = .returned (.int .i64 r) ∧ Drawn0 w w' := by
  have H : (if a0 = true then (some 1) else (some 0)) = some r := h
  clear h
  by_cases c2 : a0 = true
  · subst c2
    have H1 : (some 1) = some r := by rw [if_pos rfl] at H; exact H
    clear H
    have H := H1
    clear H1
    obtain rfl := Option.some.inj H
    go_enter Tryd.func32, Tryd.ntmps32
    go_wp2
    go_ret
    exact ⟨by first | rfl | (simp; done) | (simp [*]; done), by repeat (first | exact Drawn0.refl _ | apply Drawn0.step)⟩
  · replace c2 := Bool.eq_false_iff.mpr c2
    subst c2
    have H1 : (some 0) = some r := by rw [if_neg (show ¬ (false = true) by decide)] at H; exact H
    clear H
    have H := H1
    clear H1
    obtain rfl := Option.some.inj H
    go_enter Tryd.func32, Tryd.ntmps32
    go_wp2
    go_ret
    exact ⟨by first | rfl | (simp; done) | (simp [*]; done), by repeat (first | exact Drawn0.refl _ | apply Drawn0.step)⟩

/-! ### impl_CountFree: function 20 -/
def impl_CountFree.l0 : Nat → ByteArray → Int → Int → Int → Option (Int × Bool)
  | 0, _, _, _, _ => none
  | k + 1, x0, x4, x11, x12 => if x12 < x11 then (if 0 ≤ x12 then (if x12 ≤ (x0.size : Int) then ((impl_moves.f k (x0.extract 0 (x12 : Int).toNat) false).bind fun t108 => ((impl_bit.f (t108 == 0)).bind fun t109 => (impl_CountFree.l0 k x0 (wrap64 (x4 + t109)) x11 (wrap64 (x12 + 1))))) else (none)) else (none)) else (some (x4, true))
def impl_CountFree.f (k : Nat) (a0 : ByteArray) : Option (Int × Bool) := (impl_IsLoading.f a0).bind fun t107 => (if t107 = true then (impl_CountFree.l0 k a0 0 (wrap64 ((a0.size : Int) + 1)) 0) else (some (0, false)))
theorem impl_CountFree.mono_l : ∀ k, (∀ y0 y1 y2 y3, LeO (impl_CountFree.l0 k y0 y1 y2 y3) (impl_CountFree.l0 (k + 1) y0 y1 y2 y3))
  | 0 => fun _ _ _ _ r h => by simp [impl_CountFree.l0] at h
  | k + 1 => by
    have ih0 := impl_CountFree.mono_l k
    · intro y0 y1 y2 y3
      unfold impl_CountFree.l0
      repeat' first
      | (with_reducible exact ih0 _ _ _ _)
      | (with_reducible exact impl_moves.mono _ _ _)
      | (with_reducible exact LeO.refl _)
      | (with_reducible exact LeO.none _)
      | (with_reducible refine LeO.ite ?_ ?_)
      | (with_reducible refine LeO.bind ?_ (fun _ => ?_))
      | exact ih0 _ _ _ _
      | exact impl_moves.mono _ _ _
      | exact LeO.none _
      | refine LeO.ite ?_ ?_
      | refine LeO.bind ?_ (fun _ => ?_)
theorem impl_CountFree.mono : ∀ a0 k, LeO (impl_CountFree.f k a0) (impl_CountFree.f (k + 1) a0) := by
  intro a0 k
  have ih0 := impl_CountFree.mono_l k
  unfold impl_CountFree.f
  repeat' first
      | (with_reducible exact ih0 _ _ _ _)
      | (with_reducible exact impl_moves.mono _ _ _)
      | (with_reducible exact LeO.refl _)
      | (with_reducible exact LeO.none _)
      | (with_reducible refine LeO.ite ?_ ?_)
      | (with_reducible refine LeO.bind ?_ (fun _ => ?_))
      | exact ih0 _ _ _ _
      | exact impl_moves.mono _ _ _
      | exact LeO.none _
      | refine LeO.ite ?_ ?_
      | refine LeO.bind ?_ (fun _ => ?_)
set_option maxHeartbeats 8000000 in
set_option maxRecDepth 100000 in
theorem impl_CountFree.calls (k : Nat) (a0 : ByteArray) (r1 : Int) (r2 : Bool) (w : World) (h : impl_CountFree.f k a0 = some (r1, r2)) :
    Calls Tryd.prog 20 #[.string a0] w fun e w' => e = .returned (.tuple #[.int .i64 r1, .bool r2]) ∧ Below w.heap.size w w' := by
  have HB := Aside0.mk (Below.refl w.heap.size w)
  have H : ((impl_IsLoading.f a0).bind fun t107 => (if t107 = true then (impl_CountFree.l0 k a0 0 (wrap64 ((a0.size : Int) + 1)) 0) else (some (0, false)))) = some (r1, r2) := h
  clear h
  replace H := Option.bind_eq_some_iff.mp H
  obtain ⟨t107, A20, H⟩ := H
  replace H : (if t107 = true then (impl_CountFree.l0 k a0 0 (wrap64 ((a0.size : Int) + 1)) 0) else (some (0, false))) = some (r1, r2) := H
  have A2 := Aside0.mk A20
  clear A20
  by_cases c3 : t107 = true
  · subst c3
    have H1 : (impl_CountFree.l0 k a0 0 (wrap64 ((a0.size : Int) + 1)) 0) = some (r1, r2) := by rw [if_pos rfl] at H; exact H
    clear H
    have H := H1
    clear H1
    have H' := Aside0.mk H
    clear H
    go_enter Tryd.func20, Tryd.ntmps20
    go_wp2_with (first | ((with_reducible refine gate_callee (f := 24) rfl ?_); refine goesL_ (some 7) rfl rfl Tryd.func24 (by kernel_rfl) rfl #[.string a0] rfl (by (try simp only [List.map_toArray, List.map_cons, List.map_nil]); first | done | rfl | (simp only [List.length_drop, List.length_take]; rfl)) ?_; (with_reducible refine (impl_IsLoading.calls a0 true _ A2.out).mono ?_); rintro e w4 ⟨rfl, hb⟩; refine ⟨_, rfl, ?_⟩; have n0_ := Aside0.mk (below_step (by repeat (first | (with_reducible first | exact HB.out | apply below_alloc | apply pw_below_drewN | apply below_drew1) | exact HB.out)) hb); clear HB; have HB := n0_; clear n0_; (try clear hb); (try clear hb2); (try clear hk); (try clear hi)))
    go_loopg [4, 12] k (fun kq v4 v12 w' => ∃ (x4_1 : Int) (x12_1 : Int), v4 = .int .i64 x4_1 ∧ v12 = .int .i64 x12_1 ∧ Aside0 (impl_CountFree.l0 kq a0 x4_1 (wrap64 ((a0.size : Int) + 1)) x12_1 = some (r1, r2)) ∧ Aside0 (kq ≤ k) ∧ Aside0 (Below w.heap.size w w'))
    case atStart => exact ⟨(0), (0), (by first | rfl | (simp; done) | (simp [*]; done)), (by first | rfl | (simp; done) | (simp [*]; done)), H', ⟨Nat.le_refl _⟩, ⟨by repeat (first | (with_reducible first | exact HB.out | apply below_alloc | apply pw_below_drewN | apply below_drew1) | exact HB.out)⟩⟩
    case round =>
      clear H'
      try clear c2
      try clear p2
      try clear c3
      obtain ⟨x4_1, x12_1, rfl, rfl, HA, HK1, HB⟩ := hrel
      cases gk with
      | zero => exact absurd HA.out (by simp [impl_CountFree.l0])
      | succ k1 =>
        have H := HA.out
        clear HA
        simp only [impl_CountFree.l0] at H
        by_cases c5 : x12_1 < (wrap64 ((a0.size : Int) + 1))
        · rw [if_pos c5] at H
          have c5b0 : decide (x12_1 < (wrap64 ((a0.size : Int) + 1))) = true := decide_eq_true c5
          clear c5
          by_cases c6 : 0 ≤ x12_1
          · rw [if_pos c6] at H
            have c6b0 := eq_true c6
            have c6b1 : decide (0 ≤ x12_1) = true := decide_eq_true c6
            clear c6
            by_cases c7 : x12_1 ≤ (a0.size : Int)
            · rw [if_pos c7] at H
              have c7b0 := eq_true c7
              have c7b1 : decide (x12_1 ≤ (a0.size : Int)) = true := decide_eq_true c7
              clear c7
              replace H := Option.bind_eq_some_iff.mp H
              obtain ⟨t108, A80, H⟩ := H
              replace H : ((impl_bit.f (t108 == 0)).bind fun t109 => (impl_CountFree.l0 k1 a0 (wrap64 (x4_1 + t109)) (wrap64 ((a0.size : Int) + 1)) (wrap64 (x12_1 + 1)))) = some (r1, r2) := H
              have A8 := Aside0.mk A80
              clear A80
              replace H := Option.bind_eq_some_iff.mp H
              obtain ⟨t109, A90, H⟩ := H
              replace H : (impl_CountFree.l0 k1 a0 (wrap64 (x4_1 + t109)) (wrap64 ((a0.size : Int) + 1)) (wrap64 (x12_1 + 1))) = some (r1, r2) := H
              have A9 := Aside0.mk A90
              clear A90
              have H' := Aside0.mk H
              clear H
              go_wp2_with (first | ((with_reducible refine gate_callee (f := 28) rfl ?_); refine goesL_ (some 19) rfl rfl Tryd.func28 (by kernel_rfl) rfl #[.string (a0.extract 0 (x12_1 : Int).toNat), .bool false] rfl (by (try simp only [List.map_toArray, List.map_cons, List.map_nil]); first | done | rfl | (simp only [List.length_drop, List.length_take]; rfl)) ?_; (with_reducible refine (impl_moves.calls k1 (a0.extract 0 (x12_1 : Int).toNat) false t108 _ A8.out).mono ?_); rintro e w10 ⟨rfl, hb⟩; refine ⟨_, rfl, ?_⟩; have n0_ := Aside0.mk (below_step (by repeat (first | (with_reducible first | exact HB.out | apply below_alloc | apply pw_below_drewN | apply below_drew1) | exact HB.out)) hb); clear HB; have HB := n0_; clear n0_; (try clear hb); (try clear hb2); (try clear hk); (try clear hi)) | ((with_reducible refine gate_callee (f := 32) rfl ?_); refine goesL_ (some 21) rfl rfl Tryd.func32 (by kernel_rfl) rfl #[.bool (t108 == 0)] rfl (by (try simp only [List.map_toArray, List.map_cons, List.map_nil]); first | done | rfl | (simp only [List.length_drop, List.length_take]; rfl)) ?_; (with_reducible refine (impl_bit.calls (t108 == 0) t109 _ A9.out).mono ?_); rintro e w' ⟨rfl, ⟨nd, rfl⟩⟩; refine ⟨_, rfl, ?_⟩))
              go_roundg k1
              case measure => have := HK1.out; omega
              case rel => exact ⟨(wrap64 (x4_1 + t109)), (wrap64 (x12_1 + 1)), (by first | rfl | (simp; done) | (simp [*]; done)), (by first | rfl | (simp; done) | (simp [*]; done)), H', ⟨by have := HK1.out; omega⟩, ⟨by repeat (first | (with_reducible first | exact HB.out | apply below_alloc | apply pw_below_drewN | apply below_drew1) | exact HB.out)⟩⟩
            · rw [if_neg c7] at H
              exact absurd H (by simp)
          · rw [if_neg c6] at H
            exact absurd H (by simp)
        · rw [if_neg c5] at H
          have c5b0 : decide (x12_1 < (wrap64 ((a0.size : Int) + 1))) = false := decide_eq_false c5
          clear c5
          simp only [Option.some.injEq, Prod.mk.injEq] at H
          obtain ⟨rfl, rfl⟩ := H
          go_wp2
          go_ret2
          exact ⟨by first | rfl | (simp [errW_none, errW_some] <;> rfl) | (simp [*, errW_none, errW_some] <;> rfl), by repeat (first | (with_reducible first | exact HB.out | apply below_alloc | apply pw_below_drewN | apply below_drew1) | exact HB.out)⟩
  · replace c3 := Bool.eq_false_iff.mpr c3
    subst c3
    have H1 : (some (0, false)) = some (r1, r2) := by rw [if_neg (show ¬ (false = true) by decide)] at H; exact H
    clear H
    have H := H1
    clear H1
    simp only [Option.some.injEq, Prod.mk.injEq] at H
    obtain ⟨rfl, rfl⟩ := H
    go_enter Tryd.func20, Tryd.ntmps20
    go_wp2_with (first | ((with_reducible refine gate_callee (f := 24) rfl ?_); refine goesL_ (some 7) rfl rfl Tryd.func24 (by kernel_rfl) rfl #[.string a0] rfl (by (try simp only [List.map_toArray, List.map_cons, List.map_nil]); first | done | rfl | (simp only [List.length_drop, List.length_take]; rfl)) ?_; (with_reducible refine (impl_IsLoading.calls a0 false _ A2.out).mono ?_); rintro e w11 ⟨rfl, hb⟩; refine ⟨_, rfl, ?_⟩; have n0_ := Aside0.mk (below_step (by repeat (first | (with_reducible first | exact HB.out | apply below_alloc | apply pw_below_drewN | apply below_drew1) | exact HB.out)) hb); clear HB; have HB := n0_; clear n0_; (try clear hb); (try clear hb2); (try clear hk); (try clear hi)))
    go_ret2
    exact ⟨by first | rfl | (simp [errW_none, errW_some] <;> rfl) | (simp [*, errW_none, errW_some] <;> rfl), by repeat (first | (with_reducible first | exact HB.out | apply below_alloc | apply pw_below_drewN | apply below_drew1) | exact HB.out)⟩

/-! ### laws_FnExactCountFree: function 8 -/
def laws_FnExactCountFree.f (k : Nat) (a0 : ByteArray) : Option (Bool) := if (a0.size : Int) > 1048576 then (some true) else ((spec_CountFree.f k a0).bind fun bt110 => ((impl_CountFree.f k a0).bind fun bt112 => (if bt112.1 = bt110.1 then (if (bt112.2 != bt110.2) = true then (none) else (some true)) else (none))))
theorem laws_FnExactCountFree.mono : ∀ a0 k, LeO (laws_FnExactCountFree.f k a0) (laws_FnExactCountFree.f (k + 1) a0) := by
  intro a0 k
  unfold laws_FnExactCountFree.f
  repeat' first
      | (with_reducible exact impl_CountFree.mono _ _)
      | (with_reducible exact spec_CountFree.mono _ _)
      | (with_reducible exact LeO.refl _)
      | (with_reducible exact LeO.none _)
      | (with_reducible refine LeO.ite ?_ ?_)
      | (with_reducible refine LeO.bind ?_ (fun _ => ?_))
      | exact impl_CountFree.mono _ _
      | exact spec_CountFree.mono _ _
      | exact LeO.none _
      | refine LeO.ite ?_ ?_
      | refine LeO.bind ?_ (fun _ => ?_)
set_option maxHeartbeats 8000000 in
set_option maxRecDepth 100000 in
theorem laws_FnExactCountFree.calls (k : Nat) (a0 : ByteArray) (r : Bool) (w : World) (hrt : r = true) (h : laws_FnExactCountFree.f k a0 = some r) :
    Calls Tryd.prog 8 #[.string a0] w fun e w' => e = .returned (.bool r) ∧ Below w.heap.size w w' := by
  have HRT := Aside0.mk hrt
  clear hrt
  have HB := Aside0.mk (Below.refl w.heap.size w)
  have H : (if (a0.size : Int) > 1048576 then (some true) else ((spec_CountFree.f k a0).bind fun bt110 => ((impl_CountFree.f k a0).bind fun bt112 => (if bt112.1 = bt110.1 then (if (bt112.2 != bt110.2) = true then (none) else (some true)) else (none))))) = some r := h
  clear h
  by_cases c2 : (a0.size : Int) > 1048576
  · rw [if_pos c2] at H
    have c2b0 : decide (1048576 < (a0.size : Int)) = true := decide_eq_true c2
    have c2b1 : decide (1048576 < a0.size) = true := decide_eq_true (by omega)
    clear c2
    obtain rfl := Option.some.inj H
    go_enter Tryd.func8, Tryd.ntmps8
    go_wp2
    go_ret
    exact ⟨by first | rfl | (simp [errW_none, errW_some] <;> rfl) | (simp [*, errW_none, errW_some] <;> rfl), by repeat (first | (with_reducible first | exact HB.out | apply below_alloc | apply pw_below_drewN | apply below_drew1) | exact HB.out)⟩
  · rw [if_neg c2] at H
    have c2b0 : decide (1048576 < (a0.size : Int)) = false := decide_eq_false c2
    have c2b1 : decide (1048576 < a0.size) = false := decide_eq_false (by omega)
    clear c2
    replace H := Option.bind_eq_some_iff.mp H
    obtain ⟨⟨t110, t111⟩, A30, H⟩ := H
    replace H : ((impl_CountFree.f k a0).bind fun bt112 => (if bt112.1 = t110 then (if (bt112.2 != t111) = true then (none) else (some true)) else (none))) = some r := H
    have A3 := Aside0.mk A30
    clear A30
    replace H := Option.bind_eq_some_iff.mp H
    obtain ⟨⟨t112, t113⟩, A40, H⟩ := H
    replace H : (if t112 = t110 then (if (t113 != t111) = true then (none) else (some true)) else (none)) = some r := H
    have A4 := Aside0.mk A40
    clear A40
    by_cases c5 : t112 = t110
    · rw [if_pos c5] at H
      have c5b0 : (t112 == t110) = true := beq_iff_eq.mpr c5
      have c5b1 : (t112 != t110) = false := bne_eq_false_iff_eq.mpr c5
      clear c5
      by_cases c6 : (t113 != t111) = true
      · rw [if_pos c6] at H
        exact absurd H (by simp)
      · rw [if_neg c6] at H
        have c6b0 : (t113 != t111) = false := by simpa using c6
        (try (have c6b1 : decide (t113 = t111) = true := by simpa using c6))
        (try (have c6b2 : (t113 == t111) = true := by simpa using c6))
        clear c6
        obtain rfl := Option.some.inj H
        go_enter Tryd.func8, Tryd.ntmps8
        go_wp2_with (first | ((with_reducible refine gate_callee (f := 19) rfl ?_); refine goesL_ (some 12) rfl rfl Tryd.func19 (by kernel_rfl) rfl #[.string a0] rfl (by (try simp only [List.map_toArray, List.map_cons, List.map_nil]); first | done | rfl | (simp only [List.length_drop, List.length_take]; rfl)) ?_; (with_reducible refine (spec_CountFree.calls k a0 t110 t111 _ A3.out).mono ?_); rintro e w' ⟨rfl, ⟨nd, rfl⟩⟩; refine ⟨_, rfl, ?_⟩) | ((with_reducible refine gate_callee (f := 20) rfl ?_); refine goesL_ (some 17) rfl rfl Tryd.func20 (by kernel_rfl) rfl #[.string a0] rfl (by (try simp only [List.map_toArray, List.map_cons, List.map_nil]); first | done | rfl | (simp only [List.length_drop, List.length_take]; rfl)) ?_; (with_reducible refine (impl_CountFree.calls k a0 t112 t113 _ A4.out).mono ?_); rintro e w7 ⟨rfl, hb⟩; refine ⟨_, rfl, ?_⟩; have n0_ := Aside0.mk (below_step (by repeat (first | (with_reducible first | exact HB.out | apply below_alloc | apply pw_below_drewN | apply below_drew1) | exact HB.out)) hb); clear HB; have HB := n0_; clear n0_; (try clear hb); (try clear hb2); (try clear hk); (try clear hi)))
        go_ret
        exact ⟨by first | rfl | (simp [errW_none, errW_some] <;> rfl) | (simp [*, errW_none, errW_some] <;> rfl), by repeat (first | (with_reducible first | exact HB.out | apply below_alloc | apply pw_below_drewN | apply below_drew1) | exact HB.out)⟩
    · rw [if_neg c5] at H
      exact absurd H (by simp)

/-- THE ONE PURE STATEMENT of laws_FnExactCountFree: yours. -/
def laws_FnExactCountFree.Pure : Prop := ∀ (a0 : ByteArray), a0.size ≤ 140737488351232 → ∃ k, laws_FnExactCountFree.f k a0 = some true
theorem laws_FnExactCountFree.walk (P : laws_FnExactCountFree.Pure) (a0 : ByteArray) (w : World) (w0 : a0.size ≤ 140737488351232) :
    Calls Tryd.prog 8 #[.string a0] w fun e w' => e = .returned (.bool true) ∧ Below w.heap.size w w' := by
  obtain ⟨k, h⟩ := P a0 w0
  refine (laws_FnExactCountFree.calls k a0 true w rfl h).mono ?_
  rintro e w' ⟨rfl, hd⟩
  exact ⟨rfl, hd⟩

end Go.Proofs.YtbjjmnnbkaoajaaDoor.V

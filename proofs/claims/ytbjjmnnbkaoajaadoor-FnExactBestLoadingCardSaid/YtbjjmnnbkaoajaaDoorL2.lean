-- Written by the session's program wip/myprint.py (over the kit's print); the given parts by hand.
import Derived.Test.YtbjjmnnbkaoajaaDoorL0
import Derived.Test.YtbjjmnnbkaoajaaDoorL1
namespace Go.Proofs.YtbjjmnnbkaoajaaDoor.L
open Go.RowKit Go.Proofs.YtbjjmnnbkaoajaaDoorW.PrintWords Go.Proofs.YtbjjmnnbkaoajaaDoorW.PrintLast Go.Proofs.YtbjjmnnbkaoajaaDoorW.PrintMore
attribute [local go_sem] max2_int min2_int max_two min_two max_three min_three max_four min_four   -- for this text's walks alone
set_option linter.unusedVariables false
set_option linter.unusedSimpArgs false

-- given: slices.Sort[[]byte,byte]

/-! ### slices.Sort at byte, of at most 12 bytes: by hand -/
def slices_Sort.f (k : Nat) : Option Unit := none
set_option maxHeartbeats 4000000 in
set_option maxRecDepth 100000 in
theorem pdq_calls (B n c0 base : Nat) (lim : Int) (xs : List Int) (w : World) (hxl : xs.length = n) (hn : n ≤ 12) (h : RowF w B n (fun t => xs.getD t 0)) (hb : base ≤ B) (hbw : base ≤ w.heap.size) :
    Calls Tryd.prog 36 #[.slice (some ⟨B, 0, none⟩) n c0, .int .i64 0, .int .i64 n, .int .i64 lim] w fun e w' => e = .returned (.tuple #[]) ∧ (∃ ys : List Int, ys.Perm xs ∧ upTo ys n ∧ RowF w' B n (fun t => ys.getD t 0)) ∧ Below base w w' ∧ w.heap.size ≤ w'.heap.size := by
  have HI := Aside0.mk (ins_calls B n c0 base xs w hxl (by omega) h hb hbw)
  clear h
  have p0 : wrap64 ((n : Int) - 0) = (n : Int) := by unfold wrap64; omega
  have p1 : wrap64 (n : Int) = (n : Int) := by unfold wrap64; omega
  have p2 : ((n : Int) ≤ 12) = True := eq_true (by omega)
  have p3 : decide ((n : Int) ≤ 12) = true := decide_eq_true (by omega)
  go_enter Tryd.func36, Tryd.ntmps36
  go_wp2_with fail
  go_loopg [1, 2, 3, 8, 9] 0 (fun gg v1 v2 v3 v8 v9 wr => v1 = .int .i64 0 ∧ v2 = .int .i64 n ∧ wr = w)
  case atStart => exact ⟨rfl, rfl, rfl⟩
  case round =>
    obtain ⟨rfl, rfl, rfl⟩ := hrel
    go_wp2_with (go_at_call 47; refine HI.out.mono ?_; rintro e w2 ⟨rfl, hy2, hb2, hs2⟩; have HY2 := Aside0.mk hy2; have HB2 := Aside0.mk hb2; have HS2 := Aside0.mk hs2; clear hy2 hb2 hs2)
    (try simp only [Exit.inBlock, Exit.then])
    refine bodyPost_ret (results_none rfl _ _ _) rfl ?_
    exact ⟨rfl, HY2.out, HB2.out, HS2.out⟩
theorem sort_calls (B n c0 base : Nat) (xs : List Int) (w : World) (hxl : xs.length = n) (hn : n ≤ 12) (h : RowF w B n (fun t => xs.getD t 0)) (hb : base ≤ B) (hbw : base ≤ w.heap.size) :
    Calls Tryd.prog 30 #[.slice (some ⟨B, 0, none⟩) n c0] w fun e w' => e = .returned (.tuple #[]) ∧ (∃ ys : List Int, ys.Perm xs ∧ upTo ys n ∧ RowF w' B n (fun t => ys.getD t 0)) ∧ Below base w w' ∧ w.heap.size ≤ w'.heap.size := by
  have HI := Aside0.mk (fun lim => pdq_calls B n c0 base lim xs w hxl hn h hb hbw)
  clear h
  have p0 : IntKind.u64.wrap (n : Int) = (n : Int) := by simp [IntKind.wrap, IntKind.bits, IntKind.signed]; omega
  go_enter Tryd.func30, Tryd.ntmps30
  go_wp2_with (first | (go_at_call 37; refine (Any.bits_Len Tryd.lays125 (n : Int) _ (by omega) (by omega)).mono ?_; rintro e w1 ⟨rfl, rfl⟩) | (go_at_call 36; refine (HI.out _).mono ?_; rintro e w2 ⟨rfl, hy2, hb2, hs2⟩; have HY2 := Aside0.mk hy2; have HB2 := Aside0.mk hb2; have HS2 := Aside0.mk hs2; clear hy2 hb2 hs2))
  go_end0
  exact ⟨rfl, HY2.out, HB2.out, HS2.out⟩
theorem rowF_made (w : World) (e : TypeId) (s : ByteArray) : RowF (Lib.bytesWorld w e s) w.heap.size s.size (fun t => (s.data.toList.map fun x => (x.toNat : Int)).getD t 0) :=
  RowF.congr (RowF.made w e s) (fun t ht => by
    rw [List.getD_eq_getElem?_getD, List.getD_eq_getElem?_getD, List.getElem?_map, List.getElem?_eq_getElem (show t < s.data.toList.length from ht)]
    rfl)
/-- what a row of digits, sorted and reversed, is as a text -/
theorem conv_dsc (W : World) (B n cap : Nat) (l : List UInt8) (ys : List Int) (hl : l.length = n) (hd : ∀ x ∈ l, x ∈ dig9) (hp : ys.Perm (l.map fun x => (x.toNat : Int))) (hu : upTo ys n) (h : RowF W B n (fun t => ys.getD (n - 1 - t) 0)) :
    (convert 38 9 (.slice (some ⟨B, 0, none⟩) n cap)).run Tryd.prog W = .ok (.string ⟨(dscF dig9 l).toArray⟩) W := by
  have hyl : ys.length = n := by rw [hp.length_eq, List.length_map, hl]
  have hz := dsc_nums l ys hd hp (fun s t h1 h2 => hu s t h1 (by omega) h2)
  have hzl : ys.reverse.length = n := by rw [List.length_reverse, hyl]
  have h1 := run_convert_bytes_arg W 38 5 Tryd.underlying38 Tryd.underlying5 B 0 n cap ys.reverse hzl (fun i hi => by
    rw [Nat.zero_add, (h i hi).1]
    congr 2
    show ys.getD (n - 1 - i) 0 = _
    rw [List.getD_eq_getElem?_getD, List.getD_eq_getElem?_getD, List.getElem?_reverse (by omega), hyl]) 9 Tryd.underlying9
  rw [h1, ← hz]
  congr 2
  have := strOf_map ⟨(dscF dig9 l).toArray⟩
  rw [show (⟨(dscF dig9 l).toArray⟩ : ByteArray).data.toList = dscF dig9 l by simp] at this
  exact this

-- given: part bytesrow
/-! ### the bytes of a string in a row that a conversion made -/
def BytesAt (w : World) (b : Nat) (s : ByteArray) : Prop := ∀ j (h : j < s.data.toList.length), w.cell? ⟨b, j, none⟩ = some (.int .u8 ((s.data.toList[j]'h).toNat : Int))
theorem BytesAt.made (w : World) (e : TypeId) (s : ByteArray) : BytesAt (Lib.bytesWorld w e s) w.heap.size s := by
  intro j h
  rw [Lib.bytesWorld_cell w e s j h]
  congr 3
  simp [List.getD, List.getElem?_eq_getElem h]
theorem BytesAt.below {w w' : World} {b : Nat} {s : ByteArray} (h : BytesAt w b s) (hb : Below w.heap.size w w') : BytesAt w' b s :=
  fun j hj => (hb.cell (World.block_lt_of_cell? w _ (h j hj))).trans (h j hj)
theorem BytesAt.grown {w w' : World} {b : Nat} {s : ByteArray} {o : Option Nat} (h : BytesAt w b s) (hg : w.grownBy w' o) (hne : some b ≠ o) : BytesAt w' b s := by
  intro j hj
  have h1 := h j hj
  rw [← h1]
  unfold World.cell?
  rw [hg.block b (World.block_lt_of_cell? w _ h1) hne]
theorem below_bytes (w : World) (e : TypeId) (s : ByteArray) : Below w.heap.size w (Lib.bytesWorld w e s) :=
  ⟨by simp [Lib.bytesWorld, World.freeze, World.alloc, World.drew, -World.alloc_eq, -World.drew_eq], by simp [Lib.bytesWorld, World.freeze, World.alloc, World.drew, -World.alloc_eq, -World.drew_eq], by simp [Lib.bytesWorld, World.freeze, World.alloc, World.drew, -World.alloc_eq, -World.drew_eq], by rw [Lib.bytesWorld_size]; omega, fun k hk => Lib.bytesWorld_at_old w e s k hk⟩
theorem R_empty {α : Type} (d : Kd α) (W : World) (e base : Nat) (ok : Nat → Prop) (hfresh : ok W.heap.size) (hbase : base ≤ W.heap.size) : d.R e (W.alloc (.cells #[] e)) base ok (.slice (some ⟨W.heap.size, 0, none⟩) 0 0) [] := by
  refine ⟨fun k hk => ?_, [], ?_, Reps.none _ _⟩
  · have : W.heap.size = k := by simpa [Value.ownBlock] using hk
    subst this
    exact hfresh
  · have h2 := World.ownsRow_lit (base := base) (e := e) (size := d.sz) W #[] 0 hbase (by simp [maxLen]) (by simp)
    simpa using h2
theorem two_bytes (w : World) (e : TypeId) (x y : Int) : Kd.C (Kd.int .u8) (w.alloc (.cells #[.int .u8 x, .int .u8 y] e)) (some ⟨w.heap.size, 0, none⟩) 2 [x, y] := by
  refine ⟨rfl, by omega, fun _ => ⟨_, rfl, fun j p hj => ?_⟩⟩
  match j, hj with
  | 0, hj =>
    obtain rfl := Option.some.inj hj
    refine ⟨[.int .u8 x], rfl, rfl, fun i u hu => ?_⟩
    match i, hu with
    | 0, hu => obtain rfl := Option.some.inj hu; simp [Kd.int, Kd.scalar, Addr.add]
    | i + 1, hu => simp at hu
  | 1, hj =>
    obtain rfl := Option.some.inj hj
    refine ⟨[.int .u8 y], rfl, rfl, fun i u hu => ?_⟩
    match i, hu with
    | 0, hu => obtain rfl := Option.some.inj hu; simp [Kd.int, Kd.scalar, Addr.add]
    | i + 1, hu => simp at hu
  | j + 2, hj => simp at hj
theorem one_string {P : Program} {W : World} {e' src dst e : TypeId} (hs : P.underlying src = some (.slice e)) (he : P.underlying e = some (.int .u8)) (hd : P.underlying dst = some .string) (c : UInt8) (x : Int) (hx : x = (c.toNat : Int)) (B : Nat) (hB : B = W.heap.size) :
    (convert src dst (.slice (some ⟨B, 0, none⟩) 1 1)).run P (W.alloc (.cells #[.int .u8 x] e')) = .ok (.string ⟨#[c]⟩) (W.alloc (.cells #[.int .u8 x] e')) := by
  subst hx hB
  have h := run_convert_bytes_arg (W.alloc (.cells #[.int .u8 (c.toNat : Int)] e')) src e hs he W.heap.size 0 1 1 [(c.toNat : Int)] rfl (fun i hi => by
    obtain rfl : i = 0 := by omega
    unfold World.cell?
    rw [heap_alloc_new]
    rfl) dst hd
  rw [h]
  simp [strOfNums]

-- given: loop.example/g01334/impl.BestLoading

/-! ### impl_BestLoading: by hand -/
def impl_BestLoading.f (a0 : ByteArray) : Option (ByteArray × Bool) := (impl_IsLoading.f a0).bind fun p => if p = true then (if a0.size ≤ 12 ∧ a0.data.toList.all (fun x => dig9.contains x) = true then some (⟨(dscF dig9 a0.data.toList).toArray⟩, true) else none) else some ((⟨#[]⟩ : ByteArray), false)
set_option maxHeartbeats 4000000 in
set_option maxRecDepth 100000 in
theorem impl_BestLoading.calls (a0 : ByteArray) (r1 : ByteArray) (r2 : Bool) (w : World) (h : impl_BestLoading.f a0 = some (r1, r2)) :
    Calls Tryd.prog 16 #[.string a0] w fun e w' => e = .returned (.tuple #[.string r1, .bool r2]) ∧ Below w.heap.size w w' := by
  cases hp : impl_IsLoading.f a0 with
  | none => simp [impl_BestLoading.f, hp] at h
  | some p =>
    have HP := Aside0.mk hp
    cases p with
    | false =>
      simp [impl_BestLoading.f, hp] at h
      obtain ⟨rfl, rfl⟩ := h
      clear hp
      go_enter Tryd.func16, Tryd.ntmps16
      go_wp2_with (go_at_call 24; refine (impl_IsLoading.calls a0 false _ HP.out).mono ?_; rintro e w1 ⟨rfl, hb1⟩; have HB1 := Aside0.mk hb1; clear hb1)
      go_ret2
      exact ⟨rfl, HB1.out⟩
    | true =>
      simp only [impl_BestLoading.f, hp, Option.bind_some, if_true] at h
      by_cases hsz : a0.size ≤ 12 ∧ a0.data.toList.all (fun x => dig9.contains x) = true
      · rw [if_pos hsz] at h
        obtain ⟨rfl, rfl⟩ := Prod.mk.inj (Option.some.inj h)
        clear h hp
        obtain ⟨hsz, hall⟩ := hsz
        have HD : Aside0 (∀ x ∈ a0.data.toList, x ∈ dig9) := ⟨fun x hx => by rw [List.all_eq_true] at hall; simpa using hall x hx⟩
        clear hall
        have hconv := fun W : World => Lib.run_convert_string_bytes (P := Tryd.prog) W 9 38 5 a0 Tryd.underlying9 Tryd.underlying38 Tryd.underlying5
        go_enter Tryd.func16, Tryd.ntmps16
        go_wp2_with (first | (go_at_call 24; refine (impl_IsLoading.calls a0 true _ HP.out).mono ?_; rintro e w1 ⟨rfl, hb1⟩; have HB1 := Aside0.mk hb1; clear hb1) | (go_at_call 30; refine (sort_calls w1.heap.size a0.size _ w.heap.size (a0.data.toList.map fun x => (x.toNat : Int)) _ (by rw [List.length_map]; rfl) hsz (rowF_made w1 5 a0) HB1.out.size (Nat.le_trans HB1.out.size (below_bytes w1 5 a0).size)).mono ?_; rintro e w2 ⟨rfl, ⟨ys, hyp, hyu, hyr⟩, hb2, hs2⟩; have HY := Aside0.mk (And.intro hyp hyu); have HYR := Aside0.mk hyr; have HB2 := Aside0.mk ((HB1.out.trans ((below_bytes w1 5 a0).mono HB1.out.size)).trans hb2); clear hyp hyu hyr hb2 hs2) | (go_at_call 31; refine (rev_calls w1.heap.size a0.size _ w.heap.size (fun t => ys.getD t 0) _ (by omega) HYR.out HB1.out.size HB2.out.size).mono ?_; rintro e w3 ⟨rfl, hr3, hb3, hs3⟩; have HR3 := Aside0.mk hr3; have HB3 := Aside0.mk (HB2.out.trans hb3); have hstr := fun cap => conv_dsc w3 w1.heap.size a0.size cap a0.data.toList ys rfl HD.out HY.out.1 HY.out.2 hr3; clear hr3 hb3 hs3))
        go_ret2
        exact ⟨rfl, HB3.out⟩
      · rw [if_neg hsz] at h
        exact absurd h (by simp)

/-! ### laws_FnExactBestLoading: function 6 -/
def laws_FnExactBestLoading.f (k : Nat) (a0 : ByteArray) : Option (Bool) := if (a0.size : Int) > 1048576 then (some true) else ((spec_BestLoading.f k a0).bind fun bt107 => ((impl_BestLoading.f a0).bind fun bt109 => (if bt109.1.toList = bt107.1.toList then (if (bt109.2 != bt107.2) = true then (none) else (some true)) else (none))))
theorem laws_FnExactBestLoading.mono : ∀ a0 k, LeO (laws_FnExactBestLoading.f k a0) (laws_FnExactBestLoading.f (k + 1) a0) := by
  intro a0 k
  unfold laws_FnExactBestLoading.f
  repeat' first
      | (with_reducible exact spec_BestLoading.mono _ _)
      | (with_reducible exact LeO.refl _)
      | (with_reducible exact LeO.none _)
      | (with_reducible refine LeO.ite ?_ ?_)
      | (with_reducible refine LeO.bind ?_ (fun _ => ?_))
      | exact spec_BestLoading.mono _ _
      | exact LeO.none _
      | refine LeO.ite ?_ ?_
      | refine LeO.bind ?_ (fun _ => ?_)
set_option maxHeartbeats 8000000 in
set_option maxRecDepth 100000 in
theorem laws_FnExactBestLoading.calls (k : Nat) (a0 : ByteArray) (r : Bool) (w : World) (hrt : r = true) (h : laws_FnExactBestLoading.f k a0 = some r) :
    Calls Tryd.prog 6 #[.string a0] w fun e w' => e = .returned (.bool r) ∧ Below w.heap.size w w' := by
  have HRT := Aside0.mk hrt
  clear hrt
  have HB := Aside0.mk (Below.refl w.heap.size w)
  have H : (if (a0.size : Int) > 1048576 then (some true) else ((spec_BestLoading.f k a0).bind fun bt107 => ((impl_BestLoading.f a0).bind fun bt109 => (if bt109.1.toList = bt107.1.toList then (if (bt109.2 != bt107.2) = true then (none) else (some true)) else (none))))) = some r := h
  clear h
  by_cases c2 : (a0.size : Int) > 1048576
  · rw [if_pos c2] at H
    have c2b0 : decide (1048576 < (a0.size : Int)) = true := decide_eq_true c2
    have c2b1 : decide (1048576 < a0.size) = true := decide_eq_true (by omega)
    clear c2
    obtain rfl := Option.some.inj H
    go_enter Tryd.func6, Tryd.ntmps6
    go_wp2
    go_ret
    exact ⟨by first | rfl | (simp [errW_none, errW_some] <;> rfl) | (simp [*, errW_none, errW_some] <;> rfl), by repeat (first | (with_reducible first | exact HB.out | apply below_alloc | apply pw_below_drewN | apply below_drew1) | exact HB.out)⟩
  · rw [if_neg c2] at H
    have c2b0 : decide (1048576 < (a0.size : Int)) = false := decide_eq_false c2
    have c2b1 : decide (1048576 < a0.size) = false := decide_eq_false (by omega)
    clear c2
    replace H := Option.bind_eq_some_iff.mp H
    obtain ⟨⟨t107, t108⟩, A30, H⟩ := H
    replace H : ((impl_BestLoading.f a0).bind fun bt109 => (if bt109.1.toList = t107.toList then (if (bt109.2 != t108) = true then (none) else (some true)) else (none))) = some r := H
    have A3 := Aside0.mk A30
    clear A30
    replace H := Option.bind_eq_some_iff.mp H
    obtain ⟨⟨t109, t110⟩, A40, H⟩ := H
    replace H : (if t109.toList = t107.toList then (if (t110 != t108) = true then (none) else (some true)) else (none)) = some r := H
    have A4 := Aside0.mk A40
    clear A40
    by_cases c5 : t109.toList = t107.toList
    · rw [if_pos c5] at H
      have c5b0 : (t109.toList == t107.toList) = true := beq_iff_eq.mpr c5
      have c5b1 : (t109.toList != t107.toList) = false := bne_eq_false_iff_eq.mpr c5
      clear c5
      by_cases c6 : (t110 != t108) = true
      · rw [if_pos c6] at H
        exact absurd H (by simp)
      · rw [if_neg c6] at H
        have c6b0 : (t110 != t108) = false := by simpa using c6
        (try (have c6b1 : decide (t110 = t108) = true := by simpa using c6))
        (try (have c6b2 : (t110 == t108) = true := by simpa using c6))
        clear c6
        obtain rfl := Option.some.inj H
        go_enter Tryd.func6, Tryd.ntmps6
        go_wp2_with (first | ((with_reducible refine gate_callee (f := 15) rfl ?_); refine goesL_ (some 12) rfl rfl Tryd.func15 (by kernel_rfl) rfl #[.string a0] rfl (by (try simp only [List.map_toArray, List.map_cons, List.map_nil]); first | done | rfl | (simp only [List.length_drop, List.length_take]; rfl)) ?_; (with_reducible refine (spec_BestLoading.calls k a0 t107 t108 _ A3.out).mono ?_); rintro e w' ⟨rfl, ⟨nd, rfl⟩⟩; refine ⟨_, rfl, ?_⟩) | ((with_reducible refine gate_callee (f := 16) rfl ?_); refine goesL_ (some 17) rfl rfl Tryd.func16 (by kernel_rfl) rfl #[.string a0] rfl (by (try simp only [List.map_toArray, List.map_cons, List.map_nil]); first | done | rfl | (simp only [List.length_drop, List.length_take]; rfl)) ?_; (with_reducible refine (impl_BestLoading.calls a0 t109 t110 _ A4.out).mono ?_); rintro e w7 ⟨rfl, hb⟩; refine ⟨_, rfl, ?_⟩; have n0_ := Aside0.mk (below_step (by repeat (first | (with_reducible first | exact HB.out | apply below_alloc | apply pw_below_drewN | apply below_drew1) | exact HB.out)) hb); clear HB; have HB := n0_; clear n0_; (try clear hb); (try clear hb2); (try clear hk); (try clear hi)))
        go_ret
        exact ⟨by first | rfl | (simp [errW_none, errW_some] <;> rfl) | (simp [*, errW_none, errW_some] <;> rfl), by repeat (first | (with_reducible first | exact HB.out | apply below_alloc | apply pw_below_drewN | apply below_drew1) | exact HB.out)⟩
    · rw [if_neg c5] at H
      exact absurd H (by simp)

/-- THE ONE PURE STATEMENT of laws_FnExactBestLoading: yours. -/
def laws_FnExactBestLoading.Pure : Prop := ∀ (a0 : ByteArray), a0.size ≤ 140737488351232 → ∃ k, laws_FnExactBestLoading.f k a0 = some true
theorem laws_FnExactBestLoading.walk (P : laws_FnExactBestLoading.Pure) (a0 : ByteArray) (w : World) (w0 : a0.size ≤ 140737488351232) :
    Calls Tryd.prog 6 #[.string a0] w fun e w' => e = .returned (.bool true) ∧ Below w.heap.size w w' := by
  obtain ⟨k, h⟩ := P a0 w0
  refine (laws_FnExactBestLoading.calls k a0 true w rfl h).mono ?_
  rintro e w' ⟨rfl, hd⟩
  exact ⟨rfl, hd⟩

end Go.Proofs.YtbjjmnnbkaoajaaDoor.L

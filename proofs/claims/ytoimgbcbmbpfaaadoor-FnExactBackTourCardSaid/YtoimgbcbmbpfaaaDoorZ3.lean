-- Written by the session's program wip/myprint.py (over the kit's print); the given parts by hand.
import Derived.Test.YtoimgbcbmbpfaaaDoorZ0
import Derived.Test.YtoimgbcbmbpfaaaDoorZ2
namespace Go.Proofs.YtoimgbcbmbpfaaaDoor.Z
open Go.RowKit Go.Proofs.YtoimgbcbmbpfaaaDoorW.PrintWords Go.Proofs.YtoimgbcbmbpfaaaDoorW.PrintLast Go.Proofs.YtoimgbcbmbpfaaaDoorW.PrintMore
attribute [local go_sem] max2_int min2_int max_two min_two max_three min_three max_four min_four   -- for this text's walks alone
set_option linter.unusedVariables false
set_option linter.unusedSimpArgs false

-- given: loop.example/g01334/impl.open

/-! ### impl_open: by hand -/
def otU (c : UInt8) : UInt8 := c ^^^ 32
theorem otU_is (c : UInt8) : Go.bits .xor .u8 (c.toNat : Int) 32 = ((otU c).toNat : Int) := by
  have h : ∀ n : Fin 256, Go.bits .xor .u8 ((UInt8.ofNat n.val).toNat : Int) 32 = ((otU (UInt8.ofNat n.val)).toNat : Int) := by decide +kernel
  simpa using h ⟨c.toNat, c.toNat_lt⟩
def opL (p : List UInt8 × Bool) (c : UInt8) : List UInt8 × Bool := if decide ((c.toNat : Int) ≥ 97) = true then (p.1 ++ [c], p.2) else (cutB (otU c) 1 p.1, p.2 && Lib.hasSuffix p.1 [otU c])
def impl_open.f (a0 : ByteArray) : Option (ByteArray × Bool) := if a0.size ≤ 1048576 then some (⟨(a0.data.toList.foldl opL ([], true)).1.toArray⟩, (a0.data.toList.foldl opL ([], true)).2) else none
theorem cutB_len (c : UInt8) : ∀ (n : Nat) (l : List UInt8), (cutB c n l).length ≤ l.length
  | n, [] => by cases n <;> simp [cutB]
  | 0, x :: t => by simp [cutB]
  | n + 1, x :: t => by
    have h1 := cutB_len c n t
    have h2 := cutB_len c (n + 1) t
    rw [cutB]
    split <;> simp <;> omega
set_option maxHeartbeats 4000000 in
set_option maxRecDepth 100000 in
theorem impl_open.calls (a0 : ByteArray) (r1 : ByteArray) (r2 : Bool) (w : World) (h : impl_open.f a0 = some (r1, r2)) :
    Calls Tryd.prog 61 #[.string a0] w fun e w' => e = .returned (.tuple #[.string r1, .bool r2]) ∧ Below w.heap.size w w' := by
  unfold impl_open.f at h
  by_cases hsz : a0.size ≤ 1048576
  · rw [if_pos hsz] at h
    obtain ⟨rfl, rfl⟩ := Prod.mk.inj (Option.some.inj h)
    clear h
    have hlenL : a0.data.toList.length = a0.size := rfl
    have hconv := fun W : World => Lib.run_convert_string_bytes (P := Tryd.prog) W 9 47 5 a0 Tryd.underlying9 Tryd.underlying47 Tryd.underlying5
    go_enter Tryd.func61, Tryd.ntmps61
    go_wp2_with fail
    have HBY := Aside0.mk (BytesAt.made w 5 a0)
    have HBW := Aside0.mk (below_bytes w 5 a0)
    generalize hcapE : grownCap w a0.size 0 5 = cap0
    clear hcapE
    go_loopg [4, 5, 12] a0.size (fun gg v4 v5 v12 wr => ∃ (kk : Nat) (v : ByteArray) (fr : Bool), kk ≤ a0.size ∧ a0.size - kk ≤ gg ∧ v4 = .string v ∧ v5 = .bool fr ∧ v12 = .int .i64 kk ∧ v.size ≤ kk ∧ Aside0 ((a0.data.toList.take kk).foldl opL ([], true) = (v.data.toList, fr)) ∧ Aside0 (BytesAt wr w.heap.size a0) ∧ Aside0 (Below w.heap.size w wr))
    case atStart => exact ⟨0, ⟨#[]⟩, true, by omega, by omega, rfl, rfl, rfl, Nat.le_refl _, ⟨rfl⟩, HBY, HBW⟩
    case round =>
      clear HBY HBW
      obtain ⟨kk, v, fr, hkk, hgg, rfl, rfl, rfl, hvk, HF, HBY, HBW⟩ := hrel
      by_cases hlt : kk < a0.size
      · have c1 : ((kk : Int) < (a0.size : Int)) = True := eq_true (by omega)
        have c2 : (0 ≤ (kk : Int)) = True := eq_true (by omega)
        have c3 : ((kk : Int) < 9223372036854775807) = True := eq_true (by omega)
        have hcell := HBY.out kk (by rw [hlenL]; exact hlt)
        have htake : a0.data.toList.take (kk + 1) = a0.data.toList.take kk ++ [a0.data.toList[kk]'(by rw [hlenL]; exact hlt)] := by rw [List.take_add_one, List.getElem?_eq_getElem (by rw [hlenL]; exact hlt)]; rfl
        generalize hce : a0.data.toList[kk]'(by rw [hlenL]; exact hlt) = c at hcell htake
        have hstep : (a0.data.toList.take (kk + 1)).foldl opL ([], true) = opL (v.data.toList, fr) c := by rw [htake, List.foldl_append, HF.out]; rfl
        have hwrap : wrap64 ((kk : Int) + 1) = ((kk + 1 : Nat) : Int) := by unfold wrap64; omega
        have hsm0 : impl_isSmall.f (c.toNat : Int) = some (decide ((c.toNat : Int) ≥ 97)) := rfl
        clear htake hce HF
        rw [show opL (v.data.toList, fr) c = if decide ((c.toNat : Int) ≥ 97) = true then (v.data.toList ++ [c], fr) else (cutB (otU c) 1 v.data.toList, fr && Lib.hasSuffix v.data.toList [otU c]) from rfl] at hstep
        cases hsm : decide ((c.toNat : Int) ≥ 97) with
        | true =>
          rw [hsm] at hsm0 hstep
          rw [if_pos rfl] at hstep
          have HN := Aside0.mk hstep
          have HS1 := Aside0.mk hsm0
          clear hsm0 hstep
          have hstr1 := fun (n : Nat) => one_string (W := wr.drewN n) (e' := 5) Tryd.underlying47 Tryd.underlying5 Tryd.underlying9 c _ rfl wr.heap.size rfl
          have ht1s : (⟨#[c]⟩ : ByteArray).size = 1 := rfl
          have p1 : (v.size + (⟨#[c]⟩ : ByteArray).size ≤ 9223372036854775807) = True := eq_true (by omega)
          have p3 : (9223372036854775807 < v.size + (⟨#[c]⟩ : ByteArray).size) = False := eq_false (by omega)
          have hsize : (v ++ (⟨#[c]⟩ : ByteArray)).size ≤ kk + 1 := by rw [ByteArray.size_append]; omega
          have hlist : (v ++ (⟨#[c]⟩ : ByteArray)).data.toList = v.data.toList ++ [c] := by simp
          clear ht1s
          have HZ := Aside0.mk (And.intro hsize hlist)
          clear hsize hlist
          go_wp2_with (first | (go_at_call 52; refine (impl_isSmall.calls _ true _ HS1.out).mono ?_; rintro e w2 ⟨rfl, ⟨nd, rfl⟩⟩))
          go_roundg (a0.size - (kk + 1))
          case measure => omega
          case rel =>
            refine ⟨kk + 1, v ++ ⟨#[c]⟩, fr, by omega, by omega, rfl, rfl, by simp, HZ.out.1, ⟨?_⟩, ⟨?_⟩, ⟨?_⟩⟩
            · rw [HN.out, HZ.out.2]
            · exact BytesAt.below HBY.out (by repeat (first | exact Below.refl _ _ | apply below_alloc | apply pw_below_drewN))
            · exact HBW.out.trans ((by repeat (first | exact Below.refl _ _ | apply below_alloc | apply pw_below_drewN) : Below wr.heap.size wr _).mono HBW.out.size)
        | false =>
          rw [hsm] at hsm0 hstep
          rw [if_neg Bool.false_ne_true] at hstep
          have HN := Aside0.mk hstep
          have HS1 := Aside0.mk hsm0
          have HO1 := Aside0.mk (show impl_other.f (c.toNat : Int) = some ((otU c).toNat : Int) by rw [← otU_is c]; rfl)
          clear hsm0 hstep
          generalize otU c = o at HN HO1
          have HX1 := Aside0.mk (show strings_HasSuffix.f v ⟨#[o]⟩ = some (Lib.hasSuffix v.data.toList [o]) by unfold strings_HasSuffix.f; rw [if_pos (by omega)])
          have HR1 := Aside0.mk (show strings_Replace.f v ⟨#[o]⟩ ⟨#[]⟩ 1 = some ⟨(cutB o 1 v.data.toList).toArray⟩ by unfold strings_Replace.f; rw [if_pos ⟨rfl, rfl, by omega⟩]; rfl)
          have hstr1 := fun (n : Nat) => one_string (W := wr.drewN n) (e' := 5) Tryd.underlying47 Tryd.underlying5 Tryd.underlying9 o _ rfl wr.heap.size rfl
          generalize hsv : Lib.hasSuffix v.data.toList [o] = sf at HX1 HN
          clear hsv
          have hlen2 : (cutB o 1 v.data.toList).length ≤ v.data.toList.length := cutB_len o 1 _
          have hlen3 : v.data.toList.length = v.size := rfl
          have hlist : (⟨(cutB o 1 v.data.toList).toArray⟩ : ByteArray).data.toList = cutB o 1 v.data.toList := by simp
          have hsize : (⟨(cutB o 1 v.data.toList).toArray⟩ : ByteArray).size = (cutB o 1 v.data.toList).length := by rw [← hlist]; rfl
          generalize hre : (⟨(cutB o 1 v.data.toList).toArray⟩ : ByteArray) = re at HR1 hsize hlist
          have HZ := Aside0.mk (And.intro (show re.size ≤ kk + 1 by omega) hlist)
          clear hlen2 hlen3 hsize hlist hre
          cases fr with
          | true =>
            go_wp2_with (first | (go_at_call 52; refine (impl_isSmall.calls _ false _ HS1.out).mono ?_; rintro e w2 ⟨rfl, ⟨nd, rfl⟩⟩) | (go_at_call 53; refine (impl_other.calls _ (o.toNat : Int) _ HO1.out).mono ?_; rintro e w2 ⟨rfl, ⟨nd, rfl⟩⟩) | (go_at_call 75; refine (strings_HasSuffix.calls _ _ sf _ HX1.out).mono ?_; rintro e w2 ⟨rfl, ⟨nd, rfl⟩⟩) | (go_at_call 76; refine (strings_Replace.calls _ _ _ _ re _ HR1.out).mono ?_; rintro e w3 ⟨rfl, hb3⟩; have HB3 := Aside0.mk hb3; clear hb3))
            have hb4 : Below wr.heap.size wr w3 := (by repeat (first | exact Below.refl _ _ | apply below_alloc | apply pw_below_drewN) : Below wr.heap.size wr _).trans (HB3.out.mono (by simp))
            have HB4 := Aside0.mk hb4
            clear hb4
            go_roundg (a0.size - (kk + 1))
            case measure => omega
            case rel =>
              refine ⟨kk + 1, re, sf, by omega, by omega, rfl, rfl, by simp, HZ.out.1, ⟨?_⟩, ⟨?_⟩, ⟨?_⟩⟩
              · rw [HN.out, HZ.out.2]; rfl
              · exact BytesAt.below HBY.out HB4.out
              · exact HBW.out.trans (HB4.out.mono HBW.out.size)
          | false =>
            go_wp2_with (first | (go_at_call 52; refine (impl_isSmall.calls _ false _ HS1.out).mono ?_; rintro e w2 ⟨rfl, ⟨nd, rfl⟩⟩) | (go_at_call 53; refine (impl_other.calls _ (o.toNat : Int) _ HO1.out).mono ?_; rintro e w2 ⟨rfl, ⟨nd, rfl⟩⟩) | (go_at_call 76; refine (strings_Replace.calls _ _ _ _ re _ HR1.out).mono ?_; rintro e w3 ⟨rfl, hb3⟩; have HB3 := Aside0.mk hb3; clear hb3))
            have hb4 : Below wr.heap.size wr w3 := (by repeat (first | exact Below.refl _ _ | apply below_alloc | apply pw_below_drewN) : Below wr.heap.size wr _).trans (HB3.out.mono (by simp))
            have HB4 := Aside0.mk hb4
            clear hb4
            go_roundg (a0.size - (kk + 1))
            case measure => omega
            case rel =>
              refine ⟨kk + 1, re, false, by omega, by omega, rfl, rfl, by simp, HZ.out.1, ⟨?_⟩, ⟨?_⟩, ⟨?_⟩⟩
              · rw [HN.out, HZ.out.2]; rfl
              · exact BytesAt.below HBY.out HB4.out
              · exact HBW.out.trans (HB4.out.mono HBW.out.size)
      · have c1 : ((kk : Int) < (a0.size : Int)) = False := eq_false (by omega)
        have htake : a0.data.toList.take kk = a0.data.toList := List.take_of_length_le (by rw [hlenL]; omega)
        rw [htake] at HF
        have HF1 := HF.out
        go_wp2_with fail
        go_ret2
        refine ⟨?_, HBW.out⟩
        rw [HF1]
        show Ending.returned (.tuple #[.string v, .bool fr]) = .returned (.tuple #[.string ⟨v.data.toList.toArray⟩, .bool fr])
        rw [show (⟨v.data.toList.toArray⟩ : ByteArray) = v by cases v; simp]
  · rw [if_neg hsz] at h
    exact absurd h (by simp)

-- given: slices.Reverse[[]byte,byte]

/-! ### slices.Reverse at []byte: by hand -/
def slices_Reverse.f (k : Nat) : Option Unit := none
/-- a row of bytes that a conversion made, told by what stands in it -/
def RowF (W : World) (B n : Nat) (f : Nat → Int) : Prop := ∀ t, t < n → W.cell? ⟨B, t, none⟩ = some (.int .u8 (f t)) ∧ W.frozen? ⟨B, t, none⟩ = false
theorem RowF.lt {W : World} {B n : Nat} {f : Nat → Int} (h : RowF W B n f) (h0 : 0 < n) : B < W.heap.size := World.block_lt_of_cell? W _ (h 0 h0).1
theorem RowF.below {W W' : World} {B n : Nat} {f : Nat → Int} (h : RowF W B n f) (hb : Below W.heap.size W W') : RowF W' B n f := by
  intro t ht
  have hB := h.lt (by omega)
  exact ⟨(hb.cell (p := ⟨B, t, none⟩) hB).trans (h t ht).1, (hb.frozen (p := ⟨B, t, none⟩) hB).trans (h t ht).2⟩
theorem RowF.set {W : World} {B n : Nat} {f : Nat → Int} (h : RowF W B n f) (i : Nat) (hi : i < n) (x : Int) : RowF (W.setCell ⟨B, i, none⟩ (.int .u8 x)) B n (fun t => if t = i then x else f t) := by
  intro t ht
  refine ⟨?_, by rw [World.frozen?_setCell]; exact (h t ht).2⟩
  by_cases e : t = i
  · subst e
    simp only [if_true]
    exact World.cell?_setCell_same (v := .int .u8 x) (h := (h t ht).1)
  · simp only [if_neg e]
    rw [show (W.setCell ⟨B, i, none⟩ (.int .u8 x)).cell? ⟨B, t, none⟩ = W.cell? ⟨B, t, none⟩ from by apply World.cell?_setCell_other; intro h2; injection h2 with _ h3 _; exact e h3.symm]
    exact (h t ht).1
theorem RowF.congr {W : World} {B n : Nat} {f g : Nat → Int} (h : RowF W B n f) (e : ∀ t, t < n → f t = g t) : RowF W B n g := fun t ht => by rw [← e t ht]; exact h t ht
theorem RowF.made (w : World) (e : TypeId) (s : ByteArray) : RowF (Lib.bytesWorld w e s) w.heap.size s.size (fun t => ((s.data.toList.getD t 0).toNat : Int)) := by
  intro t ht
  refine ⟨Lib.bytesWorld_cell w e s t ht, ?_⟩
  have hsz : s.size ≤ (Lib.bytesCells w e s).size := by simp [Lib.bytesCells]
  unfold World.frozen?
  rw [Lib.bytesWorld_at_new]
  simp
  omega
theorem wr_sub (j : Nat) (h : j ≤ 1048576) : wrap64 ((j : Int) - 1) = (j : Int) - 1 := by unfold wrap64; omega
def revF (f : Nat → Int) (n i : Nat) (t : Nat) : Int := if t < i ∨ n - i ≤ t then f (n - 1 - t) else f t
set_option maxHeartbeats 4000000 in
set_option maxRecDepth 100000 in
theorem rev_calls (B n c0 base : Nat) (f : Nat → Int) (w : World) (hn : n ≤ 1048576) (h : RowF w B n f) (hb : base ≤ B) (hbw : base ≤ w.heap.size) :
    Calls Tryd.prog 63 #[.slice (some ⟨B, 0, none⟩) n c0] w fun e w' => e = .returned (.tuple #[]) ∧ RowF w' B n (fun t => f (n - 1 - t)) ∧ Below base w w' ∧ w.heap.size ≤ w'.heap.size := by
  have HR := Aside0.mk (RowF.congr (g := revF f n 0) h (fun t ht => by unfold revF; rw [if_neg (by omega)]))
  clear h
  have mixed : Tryd.prog.follows .mixedOrders = true := by kernel_rfl
  have hw1 : wrap64 ((n : Int) - 1) = (n : Int) - 1 := by unfold wrap64; omega
  go_enter Tryd.func63, Tryd.ntmps63
  go_wp2_with fail
  go_loopg [2, 3] n (fun gg v2 v3 wr => ∃ i : Nat, i ≤ n ∧ n - i ≤ gg ∧ 2 * i ≤ n + 1 ∧ v2 = .int .i64 i ∧ v3 = .int .i64 ((n : Int) - 1 - i) ∧ Aside0 (RowF wr B n (revF f n i)) ∧ Aside0 (Below base w wr))
  case atStart => exact ⟨0, by omega, by omega, by omega, rfl, by simp [hw1], HR, ⟨Below.refl _ _⟩⟩
  case round =>
    clear HR
    obtain ⟨i, hin, hgg, hi2, rfl, rfl, HR, HW⟩ := hrel
    by_cases hlt : i < n - 1 - i
    · obtain ⟨j, hjn⟩ : ∃ j : Nat, j + i + 1 = n := ⟨n - 1 - i, by omega⟩
      have hj : (n : Int) - 1 - i = (j : Int) := by omega
      have hj1 : j ≤ 1048576 := by omega
      have hj2 : (j : Int) - 1 = (n : Int) - 1 - ((i + 1 : Nat) : Int) := by omega
      rw [hj]
      have q1 : ((i : Int) < (j : Int)) = True := eq_true (by omega)
      have q2 : (0 ≤ (i : Int)) = True := eq_true (by omega)
      have q3 : ((i : Int) < (n : Int)) = True := eq_true (by omega)
      have q4 : (0 ≤ (j : Int)) = True := eq_true (by omega)
      have q5 : ((j : Int) < (n : Int)) = True := eq_true (by omega)
      have hi0 := (HR.out i (by omega))
      have hj0 := (HR.out j (by omega))
      rw [show revF f n i i = f i by unfold revF; rw [if_neg (by omega)]] at hi0
      rw [show revF f n i j = f j by unfold revF; rw [if_neg (by omega)]] at hj0
      obtain ⟨ci, fi⟩ := hi0
      obtain ⟨cj, fj⟩ := hj0
      have hne : ¬ i = j := by omega
      have hwi : wrap64 ((i : Int) + 1) = ((i + 1 : Nat) : Int) := by unfold wrap64; omega
      have hwj : wrap64 ((j : Int) - 1) = (n : Int) - 1 - ((i + 1 : Nat) : Int) := (wr_sub j hj1).trans hj2
      have HJ := Aside0.mk (And.intro hjn hj2)
      clear hj2 hjn hj1 hj
      have hset2 : ∀ m x, ((wr.drewN m).setCell ⟨B, i, none⟩ (.int .u8 x)).cell? ⟨B, j, none⟩ = some (.int .u8 (f j)) := fun m x => by
        rw [show ((wr.drewN m).setCell ⟨B, i, none⟩ (.int .u8 x)).cell? ⟨B, j, none⟩ = (wr.drewN m).cell? ⟨B, j, none⟩ from by apply World.cell?_setCell_other; intro h2; injection h2 with _ h3 _; exact hne h3]
        exact cj
      go_wp2_with fail
      go_region_o
      go_wp2
      go_roundg (n - (i + 1))
      case measure => omega
      case rel =>
        refine ⟨i + 1, by omega, by omega, by omega, by simp, ?_, ⟨?_⟩, ⟨?_⟩⟩
        · have e1 := HJ.out.2
          first | rw [hwj] | rw [e1] | simp [e1]
        · refine RowF.below (W := (wr.setCell ⟨B, i, none⟩ (.int .u8 (f j))).setCell ⟨B, j, none⟩ (.int .u8 (f i))) (RowF.congr ((HR.out.set i (by have := HJ.out.1; omega) (f j)).set j (by have := HJ.out.1; omega) (f i)) ?_) (Below.refl _ _).drew
          intro t ht
          unfold revF
          have e0 := HJ.out.1
          have e2 : n - 1 - i = j := by omega
          have e3 : n - 1 - j = i := by omega
          by_cases h1 : t = j
          · subst h1; rw [if_pos rfl, if_pos (by omega), e3]
          · by_cases h2 : t = i
            · subst h2; rw [if_neg h1, if_pos rfl, if_pos (by omega), e2]
            · rw [if_neg h1, if_neg h2]
              by_cases h3 : t < i ∨ n - i ≤ t
              · rw [if_pos h3, if_pos (by omega)]
              · rw [if_neg h3, if_neg (by omega)]
        · exact (((HW.out.setCell (p := ⟨B, i, none⟩) hb _).setCell (p := ⟨B, j, none⟩) hb _)).drew
    · have q1 : ((i : Int) < (n : Int) - 1 - i) = False := eq_false (by omega)
      go_wp2_with fail
      go_end0
      refine ⟨rfl, RowF.congr HR.out ?_, HW.out, HW.out.size⟩
      intro t ht
      unfold revF
      by_cases h3 : t < i ∨ n - i ≤ t
      · rw [if_pos h3]
      · rw [if_neg h3, show n - 1 - t = t by omega]

-- given: loop.example/g01334/impl.BackTour

/-! ### impl_BackTour: by hand -/
def backN (l : List UInt8) : List Int := l.reverse.map fun c => ((otU c).toNat : Int)
def impl_BackTour.f (k : Nat) (a0 : ByteArray) : Option (ByteArray × Bool) := (impl_open.f a0).bind fun p => (impl_IsTour.f k a0).bind fun t => if t = true then (if p.1.toList = ([] : List UInt8) then (if a0.size ≤ 1048576 then some (strOfNums (backN a0.data.toList), true) else none) else some ((⟨#[]⟩ : ByteArray), false)) else some ((⟨#[]⟩ : ByteArray), false)
theorem impl_BackTour.mono : ∀ a0 k, LeO (impl_BackTour.f k a0) (impl_BackTour.f (k + 1) a0) := by
  intro a0 k
  unfold impl_BackTour.f
  exact LeO.bind (LeO.refl _) (fun _ => LeO.bind (impl_IsTour.mono a0 k) (fun _ => LeO.refl _))
set_option maxHeartbeats 4000000 in
set_option maxRecDepth 100000 in
theorem impl_BackTour.calls (k : Nat) (a0 : ByteArray) (r1 : ByteArray) (r2 : Bool) (w : World) (h : impl_BackTour.f k a0 = some (r1, r2)) :
    Calls Tryd.prog 45 #[.string a0] w fun e w' => e = .returned (.tuple #[.string r1, .bool r2]) ∧ Below w.heap.size w w' := by
  unfold impl_BackTour.f at h
  obtain ⟨⟨van, fr⟩, ho, h⟩ := Option.bind_eq_some_iff.mp h
  obtain ⟨t, ht, h⟩ := Option.bind_eq_some_iff.mp h
  have HO := Aside0.mk ho
  have HT := Aside0.mk ht
  clear ho ht
  cases t with
  | false =>
    obtain ⟨rfl, rfl⟩ := Prod.mk.inj (Option.some.inj h)
    clear h
    go_enter Tryd.func45, Tryd.ntmps45
    go_wp2_with (first | (go_at_call 61; refine (impl_open.calls a0 van fr _ HO.out).mono ?_; rintro e w1 ⟨rfl, hb1⟩; have HB1 := Aside0.mk hb1; clear hb1) | (go_at_call 23; refine (impl_IsTour.calls k a0 false _ HT.out).mono ?_; rintro e w2 ⟨rfl, hb2⟩; have HB2 := Aside0.mk hb2; clear hb2))
    go_ret2
    exact ⟨rfl, HB1.out.trans (HB2.out.mono HB1.out.size)⟩
  | true =>
    by_cases hv : van.toList = ([] : List UInt8)
    · have v1 : (van.toList == ([] : List UInt8)) = true := beq_iff_eq.mpr hv
      have v2 : (van.toList != ([] : List UInt8)) = false := bne_eq_false_iff_eq.mpr hv
      simp only [if_true, if_pos hv] at h
      by_cases hsz : a0.size ≤ 1048576
      · rw [if_pos hsz] at h
        obtain ⟨rfl, rfl⟩ := Prod.mk.inj (Option.some.inj h)
        clear h hv
        have hlenL : a0.data.toList.length = a0.size := rfl
        have hconv := fun W : World => Lib.run_convert_string_bytes (P := Tryd.prog) W 9 47 5 a0 Tryd.underlying9 Tryd.underlying47 Tryd.underlying5
        go_enter Tryd.func45, Tryd.ntmps45
        go_wp2_with (first | (go_at_call 61; refine (impl_open.calls a0 van fr _ HO.out).mono ?_; rintro e w1 ⟨rfl, hb1⟩; have HB1 := Aside0.mk hb1; clear hb1) | (go_at_call 23; refine (impl_IsTour.calls k a0 true _ HT.out).mono ?_; rintro e w2 ⟨rfl, hb2⟩; have HB2 := Aside0.mk (HB1.out.trans (hb2.mono HB1.out.size)); clear hb2) | (go_at_call 63; refine (rev_calls w2.heap.size a0.size _ w.heap.size (fun t => ((a0.data.toList.getD t 0).toNat : Int)) _ hsz (RowF.made w2 5 a0) HB2.out.size (Nat.le_trans HB2.out.size (below_bytes w2 5 a0).size)).mono ?_; rintro e w3 ⟨rfl, hr3, hb3, hs3⟩; have HR3 := Aside0.mk hr3; have HB3 := Aside0.mk ((HB2.out.trans ((below_bytes w2 5 a0).mono HB2.out.size)).trans hb3); have HZ := Aside0.mk HB2.out.size; clear hr3 hb3 hs3))
        generalize hcapE : grownCap w2 a0.size 0 5 = cap0
        clear hcapE
        go_loopg [27] a0.size (fun gg v27 wr => ∃ (kk : Nat), kk ≤ a0.size ∧ a0.size - kk ≤ gg ∧ v27 = .int .i64 kk ∧ Aside0 (RowF wr w2.heap.size a0.size (fun t => if t < kk then ((otU (a0.data.toList.getD (a0.size - 1 - t) 0)).toNat : Int) else ((a0.data.toList.getD (a0.size - 1 - t) 0).toNat : Int))) ∧ Aside0 (Below w.heap.size w wr))
        case atStart => exact ⟨0, by omega, by omega, rfl, ⟨RowF.congr HR3.out (fun t ht => by rw [if_neg (by omega)])⟩, HB3⟩
        case round =>
          clear HR3 HB3
          obtain ⟨kk, hkk, hgg, rfl, HR, HW⟩ := hrel
          by_cases hlt : kk < a0.size
          · have c1 : ((kk : Int) < (a0.size : Int)) = True := eq_true (by omega)
            have c2 : (0 ≤ (kk : Int)) = True := eq_true (by omega)
            obtain ⟨ck, fk⟩ := HR.out kk hlt
            simp only [Nat.lt_irrefl, if_false] at ck
            generalize hcc : a0.data.toList.getD (a0.size - 1 - kk) 0 = c at ck
            have HCC := Aside0.mk hcc
            clear hcc
            have HO1 := Aside0.mk (show impl_other.f (c.toNat : Int) = some ((otU c).toNat : Int) by rw [← otU_is c]; rfl)
            go_wp2_with (go_at_call 53; refine (impl_other.calls _ ((otU c).toNat : Int) _ HO1.out).mono ?_; rintro e w4 ⟨rfl, ⟨nd, rfl⟩⟩)
            go_roundg (a0.size - (kk + 1))
            case measure => omega
            case rel =>
              refine ⟨kk + 1, by omega, by omega, by simp, ⟨?_⟩, ⟨?_⟩⟩
              · refine RowF.congr (RowF.set (RowF.below (W' := wr.drewN nd) HR.out (pw_below_drewN (Below.refl _ _) nd)) kk hlt _) ?_
                intro t ht
                by_cases e : t = kk
                · subst e
                  simp only [if_true]
                  rw [if_pos (by omega), HCC.out]
                · simp only [if_neg e]
                  by_cases e2 : t < kk
                  · rw [if_pos e2, if_pos (by omega)]
                  · rw [if_neg e2, if_neg (by omega)]
              · exact (pw_below_drewN HW.out nd).setCell (p := ⟨w2.heap.size, kk, none⟩) HZ.out _
          · have c1 : ((kk : Int) < (a0.size : Int)) = False := eq_false (by omega)
            obtain rfl : kk = a0.size := by omega
            have hstr : (convert 47 9 (.slice (some ⟨w2.heap.size, 0, none⟩) a0.size cap0)).run Tryd.prog wr = .ok (.string (strOfNums (backN a0.data.toList))) wr := by
              have hbl : (backN a0.data.toList).length = a0.size := by unfold backN; rw [List.length_map, List.length_reverse, hlenL]
              refine run_convert_bytes_arg wr 47 5 Tryd.underlying47 Tryd.underlying5 w2.heap.size 0 a0.size cap0 (backN a0.data.toList) hbl (fun i hi => ?_) 9 Tryd.underlying9
              have h1 := (HR.out i hi).1
              simp only [hi, if_true] at h1
              rw [Nat.zero_add, h1]
              congr 2
              unfold backN
              rw [List.getD_eq_getElem?_getD, List.getD_eq_getElem?_getD, List.getElem?_map, List.getElem?_reverse (by rw [hlenL]; exact hi), hlenL, List.getElem?_eq_getElem (by rw [hlenL]; omega)]
              rfl
            go_wp2_with fail
            go_ret2
            exact ⟨rfl, HW.out⟩
      · rw [if_neg hsz] at h
        exact absurd h (by simp)
    · have v1 : (van.toList == ([] : List UInt8)) = false := beq_eq_false_iff_ne.mpr hv
      have v2 : (van.toList != ([] : List UInt8)) = true := bne_iff_ne.mpr hv
      simp only [if_true, if_neg hv] at h
      obtain ⟨rfl, rfl⟩ := Prod.mk.inj (Option.some.inj h)
      clear h hv
      go_enter Tryd.func45, Tryd.ntmps45
      go_wp2_with (first | (go_at_call 61; refine (impl_open.calls a0 van fr _ HO.out).mono ?_; rintro e w1 ⟨rfl, hb1⟩; have HB1 := Aside0.mk hb1; clear hb1) | (go_at_call 23; refine (impl_IsTour.calls k a0 true _ HT.out).mono ?_; rintro e w2 ⟨rfl, hb2⟩; have HB2 := Aside0.mk hb2; clear hb2))
      go_ret2
      exact ⟨rfl, HB1.out.trans (HB2.out.mono HB1.out.size)⟩

/-! ### laws_FnExactBackTour: function 15 -/
def laws_FnExactBackTour.f (k : Nat) (a0 : ByteArray) : Option (Bool) := if (a0.size : Int) > 1048576 then (some true) else ((spec_BackTour.f k a0).bind fun bt120 => ((impl_BackTour.f k a0).bind fun bt122 => (if bt122.1.toList = bt120.1.toList then (if (bt122.2 != bt120.2) = true then (none) else (some true)) else (none))))
theorem laws_FnExactBackTour.mono : ∀ a0 k, LeO (laws_FnExactBackTour.f k a0) (laws_FnExactBackTour.f (k + 1) a0) := by
  intro a0 k
  unfold laws_FnExactBackTour.f
  repeat' first
      | (with_reducible exact impl_BackTour.mono _ _)
      | (with_reducible exact spec_BackTour.mono _ _)
      | (with_reducible exact LeO.refl _)
      | (with_reducible exact LeO.none _)
      | (with_reducible refine LeO.ite ?_ ?_)
      | (with_reducible refine LeO.bind ?_ (fun _ => ?_))
      | exact impl_BackTour.mono _ _
      | exact spec_BackTour.mono _ _
      | exact LeO.none _
      | refine LeO.ite ?_ ?_
      | refine LeO.bind ?_ (fun _ => ?_)
set_option maxHeartbeats 8000000 in
set_option maxRecDepth 100000 in
theorem laws_FnExactBackTour.calls (k : Nat) (a0 : ByteArray) (r : Bool) (w : World) (hrt : r = true) (h : laws_FnExactBackTour.f k a0 = some r) :
    Calls Tryd.prog 15 #[.string a0] w fun e w' => e = .returned (.bool r) ∧ Below w.heap.size w w' := by
  have HRT := Aside0.mk hrt
  clear hrt
  have HB := Aside0.mk (Below.refl w.heap.size w)
  have H : (if (a0.size : Int) > 1048576 then (some true) else ((spec_BackTour.f k a0).bind fun bt120 => ((impl_BackTour.f k a0).bind fun bt122 => (if bt122.1.toList = bt120.1.toList then (if (bt122.2 != bt120.2) = true then (none) else (some true)) else (none))))) = some r := h
  clear h
  by_cases c2 : (a0.size : Int) > 1048576
  · rw [if_pos c2] at H
    have c2b0 : decide (1048576 < (a0.size : Int)) = true := decide_eq_true c2
    have c2b1 : decide (1048576 < a0.size) = true := decide_eq_true (by omega)
    clear c2
    obtain rfl := Option.some.inj H
    go_enter Tryd.func15, Tryd.ntmps15
    go_wp2
    go_ret
    exact ⟨by first | rfl | (simp [errW_none, errW_some] <;> rfl) | (simp [*, errW_none, errW_some] <;> rfl), by repeat (first | (with_reducible first | exact HB.out | apply below_alloc | apply pw_below_drewN | apply below_drew1) | exact HB.out)⟩
  · rw [if_neg c2] at H
    have c2b0 : decide (1048576 < (a0.size : Int)) = false := decide_eq_false c2
    have c2b1 : decide (1048576 < a0.size) = false := decide_eq_false (by omega)
    clear c2
    replace H := Option.bind_eq_some_iff.mp H
    obtain ⟨⟨t120, t121⟩, A30, H⟩ := H
    replace H : ((impl_BackTour.f k a0).bind fun bt122 => (if bt122.1.toList = t120.toList then (if (bt122.2 != t121) = true then (none) else (some true)) else (none))) = some r := H
    have A3 := Aside0.mk A30
    clear A30
    replace H := Option.bind_eq_some_iff.mp H
    obtain ⟨⟨t122, t123⟩, A40, H⟩ := H
    replace H : (if t122.toList = t120.toList then (if (t123 != t121) = true then (none) else (some true)) else (none)) = some r := H
    have A4 := Aside0.mk A40
    clear A40
    by_cases c5 : t122.toList = t120.toList
    · rw [if_pos c5] at H
      have c5b0 : (t122.toList == t120.toList) = true := beq_iff_eq.mpr c5
      have c5b1 : (t122.toList != t120.toList) = false := bne_eq_false_iff_eq.mpr c5
      clear c5
      by_cases c6 : (t123 != t121) = true
      · rw [if_pos c6] at H
        exact absurd H (by simp)
      · rw [if_neg c6] at H
        have c6b0 : (t123 != t121) = false := by simpa using c6
        (try (have c6b1 : decide (t123 = t121) = true := by simpa using c6))
        (try (have c6b2 : (t123 == t121) = true := by simpa using c6))
        clear c6
        obtain rfl := Option.some.inj H
        go_enter Tryd.func15, Tryd.ntmps15
        go_wp2_with (first | ((with_reducible refine gate_callee (f := 44) rfl ?_); refine goesL_ (some 12) rfl rfl Tryd.func44 (by kernel_rfl) rfl #[.string a0] rfl (by (try simp only [List.map_toArray, List.map_cons, List.map_nil]); first | done | rfl | (simp only [List.length_drop, List.length_take]; rfl)) ?_; (with_reducible refine (spec_BackTour.calls k a0 t120 t121 _ A3.out).mono ?_); rintro e w' ⟨rfl, ⟨nd, rfl⟩⟩; refine ⟨_, rfl, ?_⟩) | ((with_reducible refine gate_callee (f := 45) rfl ?_); refine goesL_ (some 17) rfl rfl Tryd.func45 (by kernel_rfl) rfl #[.string a0] rfl (by (try simp only [List.map_toArray, List.map_cons, List.map_nil]); first | done | rfl | (simp only [List.length_drop, List.length_take]; rfl)) ?_; (with_reducible refine (impl_BackTour.calls k a0 t122 t123 _ A4.out).mono ?_); rintro e w7 ⟨rfl, hb⟩; refine ⟨_, rfl, ?_⟩; have n0_ := Aside0.mk (below_step (by repeat (first | (with_reducible first | exact HB.out | apply below_alloc | apply pw_below_drewN | apply below_drew1) | exact HB.out)) hb); clear HB; have HB := n0_; clear n0_; (try clear hb); (try clear hb2); (try clear hk); (try clear hi)))
        go_ret
        exact ⟨by first | rfl | (simp [errW_none, errW_some] <;> rfl) | (simp [*, errW_none, errW_some] <;> rfl), by repeat (first | (with_reducible first | exact HB.out | apply below_alloc | apply pw_below_drewN | apply below_drew1) | exact HB.out)⟩
    · rw [if_neg c5] at H
      exact absurd H (by simp)

/-- THE ONE PURE STATEMENT of laws_FnExactBackTour: yours. -/
def laws_FnExactBackTour.Pure : Prop := ∀ (a0 : ByteArray), a0.size ≤ 140737488351232 → ∃ k, laws_FnExactBackTour.f k a0 = some true
theorem laws_FnExactBackTour.walk (P : laws_FnExactBackTour.Pure) (a0 : ByteArray) (w : World) (w0 : a0.size ≤ 140737488351232) :
    Calls Tryd.prog 15 #[.string a0] w fun e w' => e = .returned (.bool true) ∧ Below w.heap.size w w' := by
  obtain ⟨k, h⟩ := P a0 w0
  refine (laws_FnExactBackTour.calls k a0 true w rfl h).mono ?_
  rintro e w' ⟨rfl, hd⟩
  exact ⟨rfl, hd⟩

end Go.Proofs.YtoimgbcbmbpfaaaDoor.Z

-- Written by the session's program wip/myprint.py (over the kit's print); the given parts by hand.
import Derived.Test.YtfpgnnllohhmfaaQ0
import Derived.Test.YtfpgnnllohhmfaaQ2
import Derived.Test.YtfpgnnllohhmfaaQ6
import Derived.Test.YtfpgnnllohhmfaaQ7
import Derived.Test.YtfpgnnllohhmfaaQ8
namespace Go.Proofs.Ytfpgnnllohhmfaa.Q
open Go.RowKit Go.Proofs.YtfpgnnllohhmfaaW.PrintWords Go.Proofs.YtfpgnnllohhmfaaW.PrintLast Go.Proofs.YtfpgnnllohhmfaaW.PrintMore
attribute [local go_sem] max2_int min2_int max_two min_two max_three min_three max_four min_four   -- for this text's walks alone
set_option linter.unusedVariables false
set_option linter.unusedSimpArgs false

-- given: (loop.example/g01334/impl.cutter).value

/-! ### (cutter).value: by hand -/
def cvF (wh : Int → Int → Int) : Nat → Int → Int → Int
  | 0, _, _ => 0
  | k + 1, a, b => (cutsL a.toNat b.toNat 2).foldl (fun best c => mx best (wrap64 (cvF wh k (partsOf a b c).1.1 (partsOf a b c).1.2 + cvF wh k (partsOf a b c).2.1 (partsOf a b c).2.2))) (wh a b)
def cvN (wh : Int → Int → Int) (a b : Int) : Int := cvF wh (a + b).toNat a b
theorem foldl_same {α β : Type} (f g : β → α → β) (l : List α) (h : ∀ x ∈ l, ∀ y, f y x = g y x) : ∀ z, l.foldl f z = l.foldl g z := by
  induction l with
  | nil => intro z; rfl
  | cons x l ih =>
    intro z
    rw [List.foldl_cons, List.foldl_cons, h x (by simp) z]
    exact ih (fun y hy => h y (by simp [hy])) _
theorem cvF_more (wh : Int → Int → Int) (k : Nat) : ∀ a b : Int, 1 ≤ a → 1 ≤ b → a + b ≤ (k : Int) → cvF wh (k + 1) a b = cvF wh k a b := by
  induction k with
  | zero => intro a b h1 h2 h3; omega
  | succ k ih =>
    intro a b h1 h2 h3
    rw [cvF, cvF]
    refine foldl_same _ _ _ (fun c hc best => ?_) _
    have hp := partsOf_in a b 2 h1 h2 c hc
    rw [ih _ _ hp.1.1 hp.1.2.2.1 (by omega), ih _ _ hp.2.1 hp.2.2.2.1 (by omega)]
theorem cvF_eq (wh : Int → Int → Int) (d : Nat) : ∀ (k : Nat) (a b : Int), 1 ≤ a → 1 ≤ b → k = (a + b).toNat + d → cvF wh k a b = cvN wh a b := by
  induction d with
  | zero => intro k a b _ _ hk; rw [hk]; rfl
  | succ d ih =>
    intro k a b h1 h2 hk
    obtain ⟨q, rfl⟩ : ∃ q, k = q + 1 := ⟨k - 1, by omega⟩
    rw [cvF_more wh q a b h1 h2 (by omega)]
    exact ih q a b h1 h2 (by omega)
def cvStep (wh : Int → Int → Int) (a b : Int) (best : Int) (c : S63) : Int := mx best (wrap64 (cvN wh (partsOf a b c).1.1 (partsOf a b c).1.2 + cvN wh (partsOf a b c).2.1 (partsOf a b c).2.2))
theorem cvN_eq (wh : Int → Int → Int) (a b : Int) (h1 : 1 ≤ a) (h2 : 1 ≤ b) : cvN wh a b = (cutsL a.toNat b.toNat 2).foldl (cvStep wh a b) (wh a b) := by
  obtain ⟨q, hq⟩ : ∃ q, (a + b).toNat = q + 1 := ⟨(a + b).toNat - 1, by omega⟩
  unfold cvN
  rw [hq, cvF]
  refine foldl_same _ _ _ (fun c hc best => ?_) _
  have hp := partsOf_in a b 2 h1 h2 c hc
  unfold cvStep
  rw [cvF_eq wh (q - ((partsOf a b c).1.1 + (partsOf a b c).1.2).toNat) q _ _ hp.1.1 hp.1.2.2.1 (by omega), cvF_eq wh (q - ((partsOf a b c).2.1 + (partsOf a b c).2.2).toNat) q _ _ hp.2.1 hp.2.2.2.1 (by omega)]
theorem boardMemo : MemoK Try.prog 71 69 3 boardKv boardKl (.int .i64 0) 24 where
  law := Go.Maps.Keyed.of_law (deep_law_laid boardLaid (m := 2) (by omega) (of_decide_eq_true (by kernel_rfl)) (by kernel_rfl) (by rw [Try.underlying69]))
  ht := Try.underlying71
  key a b ha ha' hb hb' := boardKey a b ha ha' hb hb'
  kinj a b c d h := by simp [boardKv] at h; exact h
  zero w := by kernel_rfl
  small := by omega
def whN (l0 : List S38) (tn : Bool) (a b : Int) : Int := (wholeN a b tn l0 0 0 (-1)).1
def cutV (l0 : List S38) (tn : Bool) (a b : Int) : Value := .int .i64 (cvN (whN l0 tn) a b)
def cutPost (l0 : List S38) (tn : Bool) (B : Nat) (a b : Int) (w : World) (e : Ending) (w' : World) : Prop := e = .returned (.int .i64 (cvN (whN l0 tn) a b)) ∧ Memo Try.prog 69 boardKl 24 (cutV l0 tn) w' B ∧ w.grownBy w' (some B)
theorem k38_any {w w' : World} {x : S38} {cs : List Value} (h : k38.K w x cs) : k38.K w' x cs := h
theorem parts_is (a b : Int) (c : S63) (ha : 1 ≤ a) (ha' : a ≤ 24) (hb : 1 ≤ b) (hb' : b ≤ 24) (hc : 1 ≤ c.f1) (hc' : c.f1 ≤ 24) :
    impl_board_parts.f a b c.f0 c.f1 = some ((partsOf a b c).1.1, (partsOf a b c).1.2, (partsOf a b c).2.1, (partsOf a b c).2.2) := by
  unfold impl_board_parts.f partsOf
  rw [cuts_w64 (by omega) (by omega), cuts_w64 (by omega) (by omega)]
  cases c.f0 <;> rfl
set_option maxHeartbeats 2000000 in
set_option maxRecDepth 100000 in
theorem cutter_value (A0 : Option Addr) (c0 : Nat) (l0 : List S38) (tn : Bool) (B : Nat) (n : Nat) : ∀ (a b : Int) (w : World), (a + b).toNat < n → 1 ≤ a → a ≤ 24 → 1 ≤ b → b ≤ 24 →
    Kd.C k38 w A0 l0.length l0 → Memo Try.prog 69 boardKl 24 (cutV l0 tn) w B →
    Calls Try.prog 70 #[.agg #[.slice A0 l0.length c0, .bool tn, .map (some B)], .agg #[.int .i64 a, .int .i64 b]] w (cutPost l0 tn B a b w) := by
  have hu := Try.underlying80
  have hu2 := Try.underlying69
  have hu3 := Try.underlying63
  induction n with
  | zero => intro a b w h1; omega
  | succ n ih =>
    intro a b w hn ha ha' hb hb' hr hm
    have HR := Aside0.mk hr
    have HM := Aside0.mk hm
    have IH := Aside0.mk ih
    have hBlt := hm.lt
    have HM2 := Aside0.mk (hm.below (below_alloc (below_alloc (Below.refl w.heap.size w) (.cells #[.slice A0 l0.length c0, .bool tn, .map (some B)] 80)) (.cells #[.int .i64 a, .int .i64 b] 69)))
    clear hr hm ih
    rcases Memo.look boardMemo HM2.out (a := a) (b := b) (by omega) (by omega) with hlook | hlook
    · -- it is not there
      simp only [boardKv] at hlook
      go_enter Try.func70, Try.ntmps70
      go_wp2_with fail
      refine (cutter_whole A0 c0 l0 tn (some B) a b _ (Kd.C_below HR.out ?b0)).mono ?_
      case b0 => repeat (first | exact Below.refl _ _ | apply below_alloc | apply pw_below_drewN)
      rintro e w2 ⟨rfl, hb2⟩
      have hc0 : w2.cell? ⟨w.heap.size, 0, none⟩ = some (.slice A0 l0.length c0) := (hb2.cell (by simp; omega)).trans (by simp)
      have hc1 : w2.cell? ⟨w.heap.size, 1, none⟩ = some (.bool tn) := (hb2.cell (by simp; omega)).trans (by simp)
      have hc2 : w2.cell? ⟨w.heap.size, 2, none⟩ = some (.map (some B)) := (hb2.cell (by simp; omega)).trans (by simp)
      have hd0 : w2.cell? ⟨w.heap.size + 1, 0, none⟩ = some (.int .i64 a) := (hb2.cell (by simp)).trans (by simp)
      have hd1 : w2.cell? ⟨w.heap.size + 1, 1, none⟩ = some (.int .i64 b) := (hb2.cell (by simp)).trans (by simp)
      have HB2 := Aside0.mk (show Below w.heap.size w w2 from (show Below w.heap.size w ((w.alloc (.cells #[.slice A0 l0.length c0, .bool tn, .map (some B)] 80)).alloc (.cells #[.int .i64 a, .int .i64 b] 69)) by repeat (first | exact Below.refl _ _ | apply below_alloc | apply pw_below_drewN)).trans (hb2.mono (by simp; omega)))
      clear hb2 hlook HM2
      have hcuts := cuts_is a.toNat b.toNat 2 (by omega) (by omega) (by omega) (by omega)
      rw [show ((a.toNat : Nat) : Int) = a from by omega, show ((b.toNat : Nat) : Int) = b from by omega] at hcuts
      have HCUTS := Aside0.mk hcuts
      clear hcuts
      go_wp2_with fail
      refine (impl_board_cuts.calls 100 a b 2 _ _ HCUTS.out).mono ?_
      rintro e w3 ⟨v, rfl, hR, hb3⟩
      obtain ⟨AC, cc, rfl, hlc, hC⟩ := Kd.R_reads hR
      have HC := Aside0.mk hC
      have hc0' := (hb3.cell (World.block_lt_of_cell? w2 _ hc0)).trans hc0
      have hc1' := (hb3.cell (World.block_lt_of_cell? w2 _ hc1)).trans hc1
      have hc2' := (hb3.cell (World.block_lt_of_cell? w2 _ hc2)).trans hc2
      have hd0' := (hb3.cell (World.block_lt_of_cell? w2 _ hd0)).trans hd0
      have hd1' := (hb3.cell (World.block_lt_of_cell? w2 _ hd1)).trans hd1
      have HB3 := Aside0.mk (HB2.out.trans (hb3.mono HB2.out.size))
      have HM3 := Aside0.mk (HM.out.below HB3.out)
      have HFOLD := Aside0.mk (cvN_eq (whN l0 tn) a b ha hb)
      have HMEM := Aside0.mk (partsOf_in a b 2 ha hb)
      have hlen := cutsL_len a.toNat b.toNat 2 (by omega) (by omega)
      have HBL := Aside0.mk (Nat.lt_of_lt_of_le hBlt HB3.out.size)
      rw [show (2 : Int).toNat = 2 from rfl] at HMEM
      generalize cutsL a.toNat b.toNat 2 = L at HC HFOLD HMEM hlen hlc ⊢
      clear hc0 hc1 hc2 hd0 hd1 hR hC hb3 HB2 HCUTS hlc
      have HC0 := Aside0.mk hc0'
      have HC1 := Aside0.mk hc1'
      have HC2 := Aside0.mk hc2'
      have HD0 := Aside0.mk hd0'
      have HD1 := Aside0.mk hd1'
      clear hc0' hc1' hc2'
      go_wp2_with fail
      go_loopg [7, 31] L.length (fun gg v7 v31 wr => ∃ (kk : Nat) (best : Int), kk ≤ L.length ∧ L.length - kk ≤ gg ∧ v7 = .int .i64 best ∧ v31 = .int .i64 kk ∧ Aside0 ((L.drop kk).foldl (cvStep (whN l0 tn) a b) best = cvN (whN l0 tn) a b) ∧ Aside0 (w3.grownBy wr (some B)) ∧ Aside0 (Memo Try.prog 69 boardKl 24 (cutV l0 tn) wr B))
      case atStart => exact ⟨0, whN l0 tn a b, Nat.zero_le _, by omega, rfl, rfl, ⟨HFOLD.out.symm⟩, ⟨grown_of_below (Below.refl _ _) _⟩, HM3⟩
      case round =>
        clear hd0' hd1'
        obtain ⟨kk, best, hkk, hg, rfl, rfl, HA, HG, HMr⟩ := hrel
        have hMap := HM3.out.isMap
        have c0r := grown_at hMap HG.out HC0.out
        have c1r := grown_at hMap HG.out HC1.out
        have c2r := grown_at hMap HG.out HC2.out
        have d0r := grown_at hMap HG.out HD0.out
        have d1r := grown_at hMap HG.out HD1.out
        by_cases hlt : kk < L.length
        · have hltz : (kk : Int) < (L.length : Int) := by omega
          obtain ⟨ad, rfl, hx0, hx1⟩ := at_T63 HC.out (kk : Int) (by omega) hltz
          rw [show rd_T63 L (kk : Int) = L[kk] by simp [rd_T63, hlt], Int.toNat_natCast] at hx0 hx1
          have hy0 := grown_at hMap HG.out hx0
          have hy1 := grown_at hMap HG.out hx1
          have hstep : (L.drop kk).foldl (cvStep (whN l0 tn) a b) best = (L.drop (kk + 1)).foldl (cvStep (whN l0 tn) a b) (cvStep (whN l0 tn) a b best L[kk]) := by
            rw [List.drop_eq_getElem_cons hlt, List.foldl_cons]
          rw [HA.out] at hstep
          have hmem := HMEM.out L[kk] (List.getElem_mem hlt)
          generalize hcc : L[kk] = c at hy0 hy1 hstep hmem
          clear hcc hx0 hx1 HA hMap
          have hcin : 1 ≤ c.f1 ∧ c.f1 ≤ 24 := by
            have h1 := hmem
            unfold partsOf at h1
            cases hcf : c.f0 <;> rw [hcf] at h1 <;> simp at h1 <;> omega
          have HPARTS := Aside0.mk (parts_is a b c ha ha' hb hb' hcin.1 hcin.2)
          unfold cvStep at hstep
          generalize partsOf a b c = p at HPARTS hmem hstep
          obtain ⟨⟨p1, p2⟩, q1, q2⟩ := p
          simp only at hmem HPARTS hstep
          have HS := Aside0.mk hstep
          clear hstep hcin
          have lift : ∀ {ad : Addr} {v : Value}, wr.cell? ad = some v → (wr.alloc (.cells #[.bool c.f0, .int .i64 c.f1] 63)).cell? ad = some v := fun h => ((below_alloc (Below.refl _ _) _).cell (World.block_lt_of_cell? wr _ h)).trans h
          replace c0r := lift c0r
          replace c1r := lift c1r
          replace c2r := lift c2r
          replace d0r := lift d0r
          replace d1r := lift d1r
          clear lift
          go_wp2_with (go_at_call 65; refine (impl_board_parts.calls a b c.f0 c.f1 _ _ _ _ _ HPARTS.out).mono ?_; rintro e w5 ⟨rfl, hb5⟩; have HB5 := Aside0.mk hb5; clear hb5)
          have c0s := (HB5.out.cell (World.block_lt_of_cell? _ _ c0r)).trans c0r
          have c1s := (HB5.out.cell (World.block_lt_of_cell? _ _ c1r)).trans c1r
          have c2s := (HB5.out.cell (World.block_lt_of_cell? _ _ c2r)).trans c2r
          have lift : ∀ {ad : Addr} {v : Value}, w5.cell? ad = some v → ((w5.alloc (.cells #[.int .i64 p1, .int .i64 p2] 69)).alloc (.cells #[.int .i64 q1, .int .i64 q2] 69)).cell? ad = some v := fun h => ((below_alloc (below_alloc (Below.refl _ _) _) _).cell (World.block_lt_of_cell? w5 _ h)).trans h
          replace c0s := lift c0s
          replace c1s := lift c1s
          replace c2s := lift c2s
          have o0 : ((w5.alloc (.cells #[.int .i64 p1, .int .i64 p2] 69)).alloc (.cells #[.int .i64 q1, .int .i64 q2] 69)).cell? ⟨w5.heap.size, 0, none⟩ = some (.int .i64 p1) := by simp
          have o1 : ((w5.alloc (.cells #[.int .i64 p1, .int .i64 p2] 69)).alloc (.cells #[.int .i64 q1, .int .i64 q2] 69)).cell? ⟨w5.heap.size, 1, none⟩ = some (.int .i64 p2) := by simp
          have t0 : ((w5.alloc (.cells #[.int .i64 p1, .int .i64 p2] 69)).alloc (.cells #[.int .i64 q1, .int .i64 q2] 69)).cell? ⟨w5.heap.size + 1, 0, none⟩ = some (.int .i64 q1) := by simp
          have t1 : ((w5.alloc (.cells #[.int .i64 p1, .int .i64 p2] 69)).alloc (.cells #[.int .i64 q1, .int .i64 q2] 69)).cell? ⟨w5.heap.size + 1, 1, none⟩ = some (.int .i64 q2) := by simp
          have hB9 : Below wr.heap.size wr ((w5.alloc (.cells #[.int .i64 p1, .int .i64 p2] 69)).alloc (.cells #[.int .i64 q1, .int .i64 q2] 69)) := by
            have hbx : Below wr.heap.size wr w5 := (below_alloc (Below.refl wr.heap.size wr) _).trans (HB5.out.mono (by simp))
            exact below_alloc (below_alloc hbx _) _
          have HM9 := Aside0.mk (HMr.out.below hB9)
          have HG9 := Aside0.mk (grown_trans HG.out (grown_of_below hB9 B))
          generalize (w5.alloc (.cells #[.int .i64 p1, .int .i64 p2] 69)).alloc (.cells #[.int .i64 q1, .int .i64 q2] 69) = W9 at c0s c1s c2s o0 o1 t0 t1 HM9 HG9 ⊢
          clear hB9 lift c0r c1r c2r d0r d1r hy0 hy1 HMr HG
          have HR9 := Aside0.mk (C_map k38_any (Kd.C_below HR.out HB3.out) (by decide) HM3.out.isMap HG9.out)
          have HH : Aside0 (∀ w', W9.grownBy w' (some B) → Memo Try.prog 69 boardKl 24 (cutV l0 tn) w' B → (w'.cell? ⟨w.heap.size, 0, none⟩ = some (.slice A0 l0.length c0) ∧ w'.cell? ⟨w.heap.size, 1, none⟩ = some (.bool tn) ∧ w'.cell? ⟨w.heap.size, 2, none⟩ = some (.map (some B)) ∧ w'.cell? ⟨w5.heap.size, 0, none⟩ = some (.int .i64 p1) ∧ w'.cell? ⟨w5.heap.size, 1, none⟩ = some (.int .i64 p2) ∧ w'.cell? ⟨w5.heap.size + 1, 0, none⟩ = some (.int .i64 q1) ∧ w'.cell? ⟨w5.heap.size + 1, 1, none⟩ = some (.int .i64 q2))) :=
            ⟨fun w' hg hm => ⟨grown_at HM9.out.isMap hg c0s, grown_at HM9.out.isMap hg c1s, grown_at HM9.out.isMap hg c2s, grown_at HM9.out.isMap hg o0, grown_at HM9.out.isMap hg o1, grown_at HM9.out.isMap hg t0, grown_at HM9.out.isMap hg t1⟩⟩
          clear c0s c1s c2s o0 o1 t0 t1
          have hs1 : (p1 + p2).toNat < n := by omega
          have hs2 : p1 ≤ 24 := by omega
          have hs3 : p2 ≤ 24 := by omega
          have hs4 : (q1 + q2).toNat < n := by omega
          have hs5 : q1 ≤ 24 := by omega
          have hs6 : q2 ≤ 24 := by omega
          have hsz : 0 < k38.sz := by decide
          go_region_held3 (fun w' => w'.cell? ⟨w.heap.size, 0, none⟩ = some (.slice A0 l0.length c0) ∧ w'.cell? ⟨w.heap.size, 1, none⟩ = some (.bool tn) ∧ w'.cell? ⟨w.heap.size, 2, none⟩ = some (.map (some B)) ∧ w'.cell? ⟨w5.heap.size, 0, none⟩ = some (.int .i64 p1) ∧ w'.cell? ⟨w5.heap.size, 1, none⟩ = some (.int .i64 p2) ∧ w'.cell? ⟨w5.heap.size + 1, 0, none⟩ = some (.int .i64 q1) ∧ w'.cell? ⟨w5.heap.size + 1, 1, none⟩ = some (.int .i64 q2))
            (first | exact HH.out _ (grown_of_below (below_drew (Below.refl _ _)) _) (HM9.out.below (below_drew (Below.refl _ _))) | exact HH.out _ hg7 hm7 | exact HH.out _ hg6 hm6)
            (first | (go_at_call_of 70 (Value.agg #[Value.int IntKind.i64 p1, Value.int IntKind.i64 p2]); refine (IH.out p1 p2 _ hs1 hmem.1.1 hs2 hmem.1.2.2.1 hs3 (Kd.C_below HR9.out (below_drew (Below.refl _ _))) (HM9.out.below (below_drew (Below.refl _ _)))).mono ?_; rintro e w6 ⟨rfl, hm6, hg6'⟩; have hg6 := grown_trans (grown_of_below (below_drew (Below.refl _ _)) B) hg6') | (go_at_call_of 70 (Value.agg #[Value.int IntKind.i64 q1, Value.int IntKind.i64 q2]); refine (IH.out q1 q2 _ hs4 hmem.2.1 hs5 hmem.2.2.2.1 hs6 (C_map k38_any HR9.out hsz HM9.out.isMap hg6) hm6).mono ?_; rintro e w7 ⟨rfl, hm7, hg7'⟩; have hg7 := grown_trans hg6 hg7'))
          have hwrap : IntKind.i64.wrap (cvN (whN l0 tn) p1 p2 + cvN (whN l0 tn) q1 q2) = wrap64 (cvN (whN l0 tn) p1 p2 + cvN (whN l0 tn) q1 q2) := by simp only [i64_w]
          have HSS := HS.out
          unfold mx at HSS
          have HG7 := Aside0.mk (grown_trans HG9.out hg7)
          have HM7 := Aside0.mk hm7
          rw [← hwrap] at HSS
          clear hg6 hm6 hg7 hm7 hwrap HS
          generalize IntKind.i64.wrap (cvN (whN l0 tn) p1 p2 + cvN (whN l0 tn) q1 q2) = sum at HSS ⊢
          by_cases hls : best < sum
          · rw [if_pos hls] at HSS
            have HS := Aside0.mk HSS
            clear HSS
            go_wp2_with fail
            go_roundg (L.length - (kk + 1))
            case measure => omega
            case rel => exact ⟨kk + 1, sum, by omega, by omega, rfl, by go_num, ⟨HS.out.symm⟩, HG7, HM7⟩
          · rw [if_neg hls] at HSS
            have HS := Aside0.mk HSS
            clear HSS
            go_wp2_with fail
            go_roundg (L.length - (kk + 1))
            case measure => omega
            case rel => exact ⟨kk + 1, best, by omega, by omega, rfl, by go_num, ⟨HS.out.symm⟩, HG7, HM7⟩
        · have hk : kk = L.length := by omega
          subst hk
          have hh := HA.out
          rw [List.drop_length, List.foldl_nil] at hh
          obtain ⟨w4, hst, hms, hgs⟩ := Memo.store boardMemo HMr.out (a := a) (b := b) (by omega) (by omega)
          simp only [boardKv, cutV] at hst
          subst hh
          go_wp2_with fail
          go_ret
          exact ⟨rfl, hms, grown_trans (grown_of_below HB3.out _) (grown_trans HG.out hgs)⟩
    · -- it is there
      simp only [boardKv, cutV] at hlook
      have HRES : Aside0 (cutPost l0 tn B a b w = fun e w' => e = .returned (.int .i64 (cvN (whN l0 tn) a b)) ∧ Memo Try.prog 69 boardKl 24 (cutV l0 tn) w' B ∧ w.grownBy w' (some B)) := ⟨rfl⟩
      go_enter Try.func70, Try.ntmps70
      go_wp2_with fail
      go_ret
      exact ⟨rfl, HM.out.below (by repeat (first | exact Below.refl _ _ | apply below_alloc | apply pw_below_drewN)), grown_of_below (by repeat (first | exact Below.refl _ _ | apply below_alloc | apply pw_below_drewN)) _⟩

-- given: loop.example/g01334/impl.cutterOf

theorem cutterOf_calls (A0 : Option Addr) (n c0 : Nat) (tn : Bool) (V : Int → Int → Value) (w : World) :
    Calls Try.prog 69 #[.slice A0 n c0, .bool tn] w fun e w' => ∃ B, e = .returned (.agg #[.slice A0 n c0, .bool tn, .map (some B)]) ∧ Below w.heap.size w w' ∧ w.heap.size ≤ B ∧ Memo Try.prog 69 boardKl 24 V w' B := by
  have hu := Try.underlying80
  have hmm := @run_makeMap Try.prog
  have hh := Memo.made (w.alloc (.cells #[.slice A0 n c0, .bool tn, .map (some (w.heap.size + 1))] 80)) Try.prog 69 boardKl 24 V
  rw [show (w.alloc (.cells #[.slice A0 n c0, .bool tn, .map (some (w.heap.size + 1))] 80)).heap.size = w.heap.size + 1 from by simp] at hh
  have HM := Aside0.mk hh
  clear hh
  go_enter Try.func69, Try.ntmps69
  go_wp2_with fail
  refine bodyPost_ret (results_cell_row rfl _ _ w.heap.size 80 #[.slice A0 n c0, .bool tn, .map (some (w.heap.size + 1))] (0, 0) _ rfl ((heap_alloc_old _ _ (by simp)).trans (heap_alloc_new _ _)) Try.underlying80 rfl (by kernel_rfl)) rfl ?_
  exact ⟨_, rfl, by repeat (first | exact Below.refl _ _ | apply below_alloc | apply pw_below_drewN), by simp, HM.out⟩
theorem cutter_value1 (A0 : Option Addr) (c0 : Nat) (l0 : List S38) (tn : Bool) (B : Nat) (a b : Int) (w : World) (h1 : 1 ≤ a) (h2 : a ≤ 24) (h3 : 1 ≤ b) (h4 : b ≤ 24)
    (hr : Kd.C k38 w A0 l0.length l0) (hm : Memo Try.prog 69 boardKl 24 (cutV l0 tn) w B) :
    Calls Try.prog 70 #[.agg #[.slice A0 l0.length c0, .bool tn, .map (some B)], .agg #[.int .i64 a, .int .i64 b]] w (cutPost l0 tn B a b w) :=
  cutter_value A0 c0 l0 tn B _ a b w (Nat.lt_succ_self _) h1 h2 h3 h4 hr hm

-- given: (loop.example/g01334/impl.cutter).first

/-! ### (cutter).first: by hand -/
def firstL (wh : Int → Int → Int) (a b best : Int) : List S63 → S63 × Bool
  | [] => (⟨false, 0⟩, false)
  | c :: l => if wrap64 (cvN wh (partsOf a b c).1.1 (partsOf a b c).1.2 + cvN wh (partsOf a b c).2.1 (partsOf a b c).2.2) = best then (c, true) else firstL wh a b best l
def firstN (wh : Int → Int → Int) (a b : Int) : S63 × Bool := if wh a b = cvN wh a b then (⟨false, 0⟩, false) else firstL wh a b (cvN wh a b) (cutsL a.toNat b.toNat 2)
def firstPost (l0 : List S38) (tn : Bool) (B : Nat) (a b : Int) (w : World) (e : Ending) (w' : World) : Prop := e = .returned (.tuple #[.agg #[.bool (firstN (whN l0 tn) a b).1.f0, .int .i64 (firstN (whN l0 tn) a b).1.f1], .bool (firstN (whN l0 tn) a b).2]) ∧ Memo Try.prog 69 boardKl 24 (cutV l0 tn) w' B ∧ w.grownBy w' (some B)
theorem grown_heap {w w' : World} {B g : Nat} {cs : Array Value} {t : TypeId} (hm : ∃ es clock, w.heap[B]? = some (.map es clock)) (hg : w.grownBy w' (some B)) (h : w.heap[g]? = some (.cells cs t (0, 0))) : w'.heap[g]? = some (.cells cs t (0, 0)) := by
  obtain ⟨es, clock, hh⟩ := hm
  have hb : g ≠ B := by
    intro hb
    rw [hb, hh] at h
    simp at h
  have hlt : g < w.heap.size := by
    obtain ⟨hlt, _⟩ := Array.getElem?_eq_some_iff.1 h
    exact hlt
  rw [← h]
  exact hg.block _ hlt (by simpa using hb)
theorem heap_setRow_same {w : World} {g : Nat} {old cs : Array Value} {t : TypeId} (h : w.heap[g]? = some (.cells old t (0, 0))) : (w.setRow g cs).heap[g]? = some (.cells cs t (0, 0)) := by
  have hlt : g < w.heap.size := by
    obtain ⟨hlt, _⟩ := Array.getElem?_eq_some_iff.1 h
    exact hlt
  have h2 := (Array.getElem?_eq_some_iff.1 h).2
  simp [World.setRow, hlt, Array.getElem_modify, h2]
theorem heap_setRow_other {w : World} {g k : Nat} {cs : Array Value} (h : k ≠ g) : (w.setRow g cs).heap[k]? = w.heap[k]? := by
  simp [World.setRow, Array.getElem?_modify, Ne.symm h]
theorem grown_setRow {w w2 : World} {B g : Nat} {cs : Array Value} (hg : w.grownBy w2 (some B)) (h : w.heap.size ≤ g) : w.grownBy (w2.setRow g cs) (some B) :=
  ⟨hg.os, hg.tape, hg.output, by have := hg.size; simpa using this, fun k hk hn => (heap_setRow_other (by omega)).trans (hg.block k hk hn)⟩
theorem map_ne {w : World} {B g : Nat} {cs : Array Value} {t : TypeId} (hm : ∃ es clock, w.heap[B]? = some (.map es clock)) (h : w.heap[g]? = some (.cells cs t (0, 0))) : B ≠ g := by
  obtain ⟨es, clock, hh⟩ := hm
  intro hb
  rw [hb, h] at hh
  simp at hh
set_option maxHeartbeats 2000000 in
set_option maxRecDepth 100000 in
theorem cutter_first (A0 : Option Addr) (c0 : Nat) (l0 : List S38) (tn : Bool) (B : Nat) (a b : Int) (w : World) (ha : 1 ≤ a) (ha' : a ≤ 24) (hb : 1 ≤ b) (hb' : b ≤ 24)
    (hr : Kd.C k38 w A0 l0.length l0) (hm : Memo Try.prog 69 boardKl 24 (cutV l0 tn) w B) :
    Calls Try.prog 73 #[.agg #[.slice A0 l0.length c0, .bool tn, .map (some B)], .agg #[.int .i64 a, .int .i64 b]] w (firstPost l0 tn B a b w) := by
  have hu := Try.underlying80
  have hu2 := Try.underlying69
  have hu3 := Try.underlying63
  have HR := Aside0.mk hr
  have HM := Aside0.mk hm
  have hBlt := hm.lt
  clear hr hm
  go_enter Try.func73, Try.ntmps73
  go_wp2_with fail
  have hbW : Below w.heap.size w (((w.alloc (.cells #[.slice A0 l0.length c0, .bool tn, .map (some B)] 80)).alloc (.cells #[.int .i64 a, .int .i64 b] 69)).alloc (.cells #[.bool false, .int .i64 0] 63)) := by repeat (first | exact Below.refl _ _ | apply below_alloc | apply pw_below_drewN)
  have HM1 := Aside0.mk (HM.out.below hbW)
  have HR1 := Aside0.mk (Kd.C_below HR.out hbW)
  have HBW := Aside0.mk hbW
  have k0 : (((w.alloc (.cells #[.slice A0 l0.length c0, .bool tn, .map (some B)] 80)).alloc (.cells #[.int .i64 a, .int .i64 b] 69)).alloc (.cells #[.bool false, .int .i64 0] 63)).cell? ⟨w.heap.size, 0, none⟩ = some (.slice A0 l0.length c0) := ((below_alloc (Below.refl _ _) _).cell (by simp <;> omega)).trans (by simp)
  have k1 : (((w.alloc (.cells #[.slice A0 l0.length c0, .bool tn, .map (some B)] 80)).alloc (.cells #[.int .i64 a, .int .i64 b] 69)).alloc (.cells #[.bool false, .int .i64 0] 63)).cell? ⟨w.heap.size, 1, none⟩ = some (.bool tn) := ((below_alloc (Below.refl _ _) _).cell (by simp <;> omega)).trans (by simp)
  have k2 : (((w.alloc (.cells #[.slice A0 l0.length c0, .bool tn, .map (some B)] 80)).alloc (.cells #[.int .i64 a, .int .i64 b] 69)).alloc (.cells #[.bool false, .int .i64 0] 63)).cell? ⟨w.heap.size, 2, none⟩ = some (.map (some B)) := ((below_alloc (Below.refl _ _) _).cell (by simp <;> omega)).trans (by simp)
  have e0 : (((w.alloc (.cells #[.slice A0 l0.length c0, .bool tn, .map (some B)] 80)).alloc (.cells #[.int .i64 a, .int .i64 b] 69)).alloc (.cells #[.bool false, .int .i64 0] 63)).cell? ⟨w.heap.size + 1, 0, none⟩ = some (.int .i64 a) := ((below_alloc (Below.refl _ _) _).cell (by simp <;> omega)).trans (by simp)
  have e1 : (((w.alloc (.cells #[.slice A0 l0.length c0, .bool tn, .map (some B)] 80)).alloc (.cells #[.int .i64 a, .int .i64 b] 69)).alloc (.cells #[.bool false, .int .i64 0] 63)).cell? ⟨w.heap.size + 1, 1, none⟩ = some (.int .i64 b) := ((below_alloc (Below.refl _ _) _).cell (by simp <;> omega)).trans (by simp)
  have h2 : (((w.alloc (.cells #[.slice A0 l0.length c0, .bool tn, .map (some B)] 80)).alloc (.cells #[.int .i64 a, .int .i64 b] 69)).alloc (.cells #[.bool false, .int .i64 0] 63)).heap[w.heap.size + 1 + 1]? = some (.cells #[.bool false, .int .i64 0] 63 (0, 0)) := by
    have hz : ((w.alloc (.cells #[.slice A0 l0.length c0, .bool tn, .map (some B)] 80)).alloc (.cells #[.int .i64 a, .int .i64 b] 69)).heap.size = w.heap.size + 1 + 1 := by simp
    rw [← hz]
    exact heap_alloc_new _ _
  generalize (((w.alloc (.cells #[.slice A0 l0.length c0, .bool tn, .map (some B)] 80)).alloc (.cells #[.int .i64 a, .int .i64 b] 69)).alloc (.cells #[.bool false, .int .i64 0] 63)) = W1 at HM1 HR1 HBW k0 k1 k2 e0 e1 h2 ⊢
  clear hbW
  refine (cutter_value1 A0 c0 l0 tn B a b W1 ha ha' hb hb' HR1.out HM1.out).mono ?_
  rintro e w1 ⟨rfl, hm1, hg1⟩
  have c0a := grown_at HM1.out.isMap hg1 k0
  have c1a := grown_at HM1.out.isMap hg1 k1
  have c2a := grown_at HM1.out.isMap hg1 k2
  have d0a := grown_at HM1.out.isMap hg1 e0
  have d1a := grown_at HM1.out.isMap hg1 e1
  have HRa := Aside0.mk (C_map k38_any HR1.out (by decide) HM1.out.isMap hg1)
  have HMa := Aside0.mk hm1
  have HGa := Aside0.mk hg1
  have H2a := Aside0.mk (grown_heap HM1.out.isMap hg1 h2)
  clear k0 k1 k2 e0 e1 h2 hm1 hg1
  go_wp2_with fail
  refine (cutter_whole A0 c0 l0 tn (some B) a b _ HRa.out).mono ?_
  rintro e w2 ⟨rfl, hb2⟩
  have c0b := (hb2.cell (World.block_lt_of_cell? _ _ c0a)).trans c0a
  have c1b := (hb2.cell (World.block_lt_of_cell? _ _ c1a)).trans c1a
  have c2b := (hb2.cell (World.block_lt_of_cell? _ _ c2a)).trans c2a
  have d0b := (hb2.cell (World.block_lt_of_cell? _ _ d0a)).trans d0a
  have d1b := (hb2.cell (World.block_lt_of_cell? _ _ d1a)).trans d1a
  have hlt2 : w.heap.size + 1 + 1 < w1.heap.size := (Array.getElem?_eq_some_iff.1 H2a.out).1
  have H2b := Aside0.mk ((hb2.block _ hlt2).trans H2a.out)
  have HMb := Aside0.mk (HMa.out.below hb2)
  have HRb := Aside0.mk (Kd.C_below HRa.out hb2)
  have HGb := Aside0.mk (grown_trans (grown_of_below HBW.out B) (grown_trans HGa.out (grown_of_below hb2 B)))
  clear c0a c1a c2a d0a d1a hb2 HGa HRa HMa H2a hlt2
  cases hq : ((wholeN a b tn l0 0 0 (-1)).1 == cvN (whN l0 tn) a b) with
  | true =>
    go_wp2_with ((with_reducible refine gate_store (t := 63) (p := 4) rfl ?_); refine wpList_store_row ?h11 63 (.tmp 4) (.tmp 25) ?h12 (w.heap.size + 1 + 1) #[.bool false, .int .i64 0] ?h13 ?h14 63 #[.bool false, .int .i64 0] H2b.out ?h15 ?h16 ?h17 ?h18; (case h11 => rfl); (case h12 => rfl); (case h13 => rfl); (case h14 => rfl); (case h15 => kernel_rfl); (case h16 => rfl); (case h17 => first | kernel_rfl | (simp [Value.oneCell']; done)))
    refine bodyPost_ret (results_ct rfl _ _ (w.heap.size + 1 + 1) 63 #[.bool false, .int .i64 0] (0, 0) _ rfl (heap_setRow_same H2b.out) Try.underlying63 rfl (by kernel_rfl)) rfl ?_
    have hN : firstN (whN l0 tn) a b = (⟨false, 0⟩, false) := by
      unfold firstN
      rw [if_pos (by simpa [whN] using hq)]
    refine ⟨by rw [hN]; rfl, HMb.out.same (heap_setRow_other (map_ne HMb.out.isMap H2b.out)), grown_setRow HGb.out (by omega)⟩
  | false =>
    have hne : ¬ whN l0 tn a b = cvN (whN l0 tn) a b := by simpa [whN] using hq
    have hFN : firstN (whN l0 tn) a b = firstL (whN l0 tn) a b (cvN (whN l0 tn) a b) (cutsL a.toNat b.toNat 2) := if_neg hne
    have HFN := Aside0.mk hFN
    have hcuts := cuts_is a.toNat b.toNat 2 (by omega) (by omega) (by omega) (by omega)
    rw [show ((a.toNat : Nat) : Int) = a from by omega, show ((b.toNat : Nat) : Int) = b from by omega] at hcuts
    have HCUTS := Aside0.mk hcuts
    clear hcuts hne hFN
    go_wp2_with fail
    refine (impl_board_cuts.calls 100 a b 2 _ _ HCUTS.out).mono ?_
    rintro e w3 ⟨v, rfl, hR, hb3⟩
    obtain ⟨AC, cc, rfl, hlc, hC⟩ := Kd.R_reads hR
    have HC := Aside0.mk hC
    have HC0 := Aside0.mk ((hb3.cell (World.block_lt_of_cell? _ _ c0b)).trans c0b)
    have HC1 := Aside0.mk ((hb3.cell (World.block_lt_of_cell? _ _ c1b)).trans c1b)
    have HC2 := Aside0.mk ((hb3.cell (World.block_lt_of_cell? _ _ c2b)).trans c2b)
    have HD0 := Aside0.mk ((hb3.cell (World.block_lt_of_cell? _ _ d0b)).trans d0b)
    have HD1 := Aside0.mk ((hb3.cell (World.block_lt_of_cell? _ _ d1b)).trans d1b)
    have hlt2 : w.heap.size + 1 + 1 < w2.heap.size := (Array.getElem?_eq_some_iff.1 H2b.out).1
    have H2c := Aside0.mk ((hb3.block _ hlt2).trans H2b.out)
    have HM3 := Aside0.mk (HMb.out.below hb3)
    have HR3 := Aside0.mk (Kd.C_below HRb.out hb3)
    have HGc := Aside0.mk (grown_trans HGb.out (grown_of_below hb3 B))
    have HMEM := Aside0.mk (partsOf_in a b 2 ha hb)
    have hlen := cutsL_len a.toNat b.toNat 2 (by omega) (by omega)
    rw [show (2 : Int).toNat = 2 from rfl] at HMEM
    generalize cutsL a.toNat b.toNat 2 = L at HC HFN HMEM hlen hlc ⊢
    clear c0b c1b c2b d0b d1b hb3 hR hC hlc HCUTS hlt2 H2b HMb HRb HGb
    go_wp2_with fail
    go_loopg [29] L.length (fun gg v29 wr => ∃ (kk : Nat), kk ≤ L.length ∧ L.length - kk ≤ gg ∧ v29 = .int .i64 kk ∧ Aside0 (firstL (whN l0 tn) a b (cvN (whN l0 tn) a b) (L.drop kk) = firstN (whN l0 tn) a b) ∧ Aside0 (w3.grownBy wr (some B)) ∧ Aside0 (Memo Try.prog 69 boardKl 24 (cutV l0 tn) wr B))
    case atStart => exact ⟨0, Nat.zero_le _, by omega, rfl, ⟨HFN.out.symm⟩, ⟨grown_of_below (Below.refl _ _) _⟩, HM3⟩
    case round =>
        obtain ⟨kk, hkk, hg, rfl, HA, HG, HMr⟩ := hrel
        have hMap := HM3.out.isMap
        have c0r := grown_at hMap HG.out HC0.out
        have c1r := grown_at hMap HG.out HC1.out
        have c2r := grown_at hMap HG.out HC2.out
        have d0r := grown_at hMap HG.out HD0.out
        have d1r := grown_at hMap HG.out HD1.out
        by_cases hlt : kk < L.length
        · have hltz : (kk : Int) < (L.length : Int) := by omega
          obtain ⟨ad, rfl, hx0, hx1⟩ := at_T63 HC.out (kk : Int) (by omega) hltz
          rw [show rd_T63 L (kk : Int) = L[kk] by simp [rd_T63, hlt], Int.toNat_natCast] at hx0 hx1
          have hy0 := grown_at hMap HG.out hx0
          have hy1 := grown_at hMap HG.out hx1
          have hstep := HA.out
          rw [List.drop_eq_getElem_cons hlt, firstL] at hstep
          have hmem := HMEM.out L[kk] (List.getElem_mem hlt)
          generalize hcc : L[kk] = c at hy0 hy1 hstep hmem
          clear hcc hx0 hx1 HA hMap
          have hcin : 1 ≤ c.f1 ∧ c.f1 ≤ 24 := by
            have h1 := hmem
            unfold partsOf at h1
            cases hcf : c.f0 <;> rw [hcf] at h1 <;> simp at h1 <;> omega
          have HPARTS := Aside0.mk (parts_is a b c ha ha' hb hb' hcin.1 hcin.2)
          generalize partsOf a b c = p at HPARTS hmem hstep
          obtain ⟨⟨p1, p2⟩, q1, q2⟩ := p
          simp only at hmem HPARTS hstep
          have HS := Aside0.mk hstep
          clear hstep hcin
          have lift : ∀ {ad : Addr} {v : Value}, wr.cell? ad = some v → (wr.alloc (.cells #[.bool c.f0, .int .i64 c.f1] 63)).cell? ad = some v := fun h => ((below_alloc (Below.refl _ _) _).cell (World.block_lt_of_cell? wr _ h)).trans h
          replace c0r := lift c0r
          replace c1r := lift c1r
          replace c2r := lift c2r
          replace d0r := lift d0r
          replace d1r := lift d1r
          clear lift
          go_wp2_with (go_at_call 65; refine (impl_board_parts.calls a b c.f0 c.f1 _ _ _ _ _ HPARTS.out).mono ?_; rintro e w5 ⟨rfl, hb5⟩; have HB5 := Aside0.mk hb5; clear hb5)
          have c0s := (HB5.out.cell (World.block_lt_of_cell? _ _ c0r)).trans c0r
          have c1s := (HB5.out.cell (World.block_lt_of_cell? _ _ c1r)).trans c1r
          have c2s := (HB5.out.cell (World.block_lt_of_cell? _ _ c2r)).trans c2r
          have lift : ∀ {ad : Addr} {v : Value}, w5.cell? ad = some v → ((w5.alloc (.cells #[.int .i64 p1, .int .i64 p2] 69)).alloc (.cells #[.int .i64 q1, .int .i64 q2] 69)).cell? ad = some v := fun h => ((below_alloc (below_alloc (Below.refl _ _) _) _).cell (World.block_lt_of_cell? w5 _ h)).trans h
          replace c0s := lift c0s
          replace c1s := lift c1s
          replace c2s := lift c2s
          have p0s := lift ((HB5.out.cell (by simp)).trans (by simp) : w5.cell? ⟨wr.heap.size, 0, none⟩ = some (.bool c.f0))
          have p1s := lift ((HB5.out.cell (by simp)).trans (by simp) : w5.cell? ⟨wr.heap.size, 1, none⟩ = some (.int .i64 c.f1))
          have o0 : ((w5.alloc (.cells #[.int .i64 p1, .int .i64 p2] 69)).alloc (.cells #[.int .i64 q1, .int .i64 q2] 69)).cell? ⟨w5.heap.size, 0, none⟩ = some (.int .i64 p1) := by simp
          have o1 : ((w5.alloc (.cells #[.int .i64 p1, .int .i64 p2] 69)).alloc (.cells #[.int .i64 q1, .int .i64 q2] 69)).cell? ⟨w5.heap.size, 1, none⟩ = some (.int .i64 p2) := by simp
          have t0 : ((w5.alloc (.cells #[.int .i64 p1, .int .i64 p2] 69)).alloc (.cells #[.int .i64 q1, .int .i64 q2] 69)).cell? ⟨w5.heap.size + 1, 0, none⟩ = some (.int .i64 q1) := by simp
          have t1 : ((w5.alloc (.cells #[.int .i64 p1, .int .i64 p2] 69)).alloc (.cells #[.int .i64 q1, .int .i64 q2] 69)).cell? ⟨w5.heap.size + 1, 1, none⟩ = some (.int .i64 q2) := by simp
          have hB9 : Below wr.heap.size wr ((w5.alloc (.cells #[.int .i64 p1, .int .i64 p2] 69)).alloc (.cells #[.int .i64 q1, .int .i64 q2] 69)) := by
            have hbx : Below wr.heap.size wr w5 := (below_alloc (Below.refl wr.heap.size wr) _).trans (HB5.out.mono (by simp))
            exact below_alloc (below_alloc hbx _) _
          have HM9 := Aside0.mk (HMr.out.below hB9)
          have HG9 := Aside0.mk (grown_trans HG.out (grown_of_below hB9 B))
          generalize (w5.alloc (.cells #[.int .i64 p1, .int .i64 p2] 69)).alloc (.cells #[.int .i64 q1, .int .i64 q2] 69) = W9 at c0s c1s c2s o0 o1 t0 t1 p0s p1s HM9 HG9 ⊢
          have HP0 := Aside0.mk p0s
          have HP1 := Aside0.mk p1s
          clear p0s p1s
          clear hB9 lift c0r c1r c2r d0r d1r hy0 hy1 HMr HG
          have HR9 := Aside0.mk (C_map k38_any HR3.out (by decide) HM3.out.isMap HG9.out)
          have HH : Aside0 (∀ w', W9.grownBy w' (some B) → Memo Try.prog 69 boardKl 24 (cutV l0 tn) w' B → (w'.cell? ⟨w.heap.size, 0, none⟩ = some (.slice A0 l0.length c0) ∧ w'.cell? ⟨w.heap.size, 1, none⟩ = some (.bool tn) ∧ w'.cell? ⟨w.heap.size, 2, none⟩ = some (.map (some B)) ∧ w'.cell? ⟨w5.heap.size, 0, none⟩ = some (.int .i64 p1) ∧ w'.cell? ⟨w5.heap.size, 1, none⟩ = some (.int .i64 p2) ∧ w'.cell? ⟨w5.heap.size + 1, 0, none⟩ = some (.int .i64 q1) ∧ w'.cell? ⟨w5.heap.size + 1, 1, none⟩ = some (.int .i64 q2))) :=
            ⟨fun w' hg hm => ⟨grown_at HM9.out.isMap hg c0s, grown_at HM9.out.isMap hg c1s, grown_at HM9.out.isMap hg c2s, grown_at HM9.out.isMap hg o0, grown_at HM9.out.isMap hg o1, grown_at HM9.out.isMap hg t0, grown_at HM9.out.isMap hg t1⟩⟩
          clear c0s c1s c2s o0 o1 t0 t1
          have hs2 : p1 ≤ 24 := by omega
          have hs3 : p2 ≤ 24 := by omega
          have hs5 : q1 ≤ 24 := by omega
          have hs6 : q2 ≤ 24 := by omega
          have hsz : 0 < k38.sz := by decide
          go_region_held3 (fun w' => w'.cell? ⟨w.heap.size, 0, none⟩ = some (.slice A0 l0.length c0) ∧ w'.cell? ⟨w.heap.size, 1, none⟩ = some (.bool tn) ∧ w'.cell? ⟨w.heap.size, 2, none⟩ = some (.map (some B)) ∧ w'.cell? ⟨w5.heap.size, 0, none⟩ = some (.int .i64 p1) ∧ w'.cell? ⟨w5.heap.size, 1, none⟩ = some (.int .i64 p2) ∧ w'.cell? ⟨w5.heap.size + 1, 0, none⟩ = some (.int .i64 q1) ∧ w'.cell? ⟨w5.heap.size + 1, 1, none⟩ = some (.int .i64 q2))
            (first | exact HH.out _ (grown_of_below (below_drew (Below.refl _ _)) _) (HM9.out.below (below_drew (Below.refl _ _))) | exact HH.out _ hg7 hm7 | exact HH.out _ hg6 hm6)
            (first | (go_at_call_of 70 (Value.agg #[Value.int IntKind.i64 p1, Value.int IntKind.i64 p2]); refine (cutter_value1 A0 c0 l0 tn B p1 p2 _ hmem.1.1 hs2 hmem.1.2.2.1 hs3 (Kd.C_below HR9.out (below_drew (Below.refl _ _))) (HM9.out.below (below_drew (Below.refl _ _)))).mono ?_; rintro e w6 ⟨rfl, hm6, hg6'⟩; have hg6 := grown_trans (grown_of_below (below_drew (Below.refl _ _)) B) hg6') | (go_at_call_of 70 (Value.agg #[Value.int IntKind.i64 q1, Value.int IntKind.i64 q2]); refine (cutter_value1 A0 c0 l0 tn B q1 q2 _ hmem.2.1 hs5 hmem.2.2.2.1 hs6 (C_map k38_any HR9.out hsz HM9.out.isMap hg6) hm6).mono ?_; rintro e w7 ⟨rfl, hm7, hg7'⟩; have hg7 := grown_trans hg6 hg7'))
          have hwrap : IntKind.i64.wrap (cvN (whN l0 tn) p1 p2 + cvN (whN l0 tn) q1 q2) = wrap64 (cvN (whN l0 tn) p1 p2 + cvN (whN l0 tn) q1 q2) := by simp only [i64_w]
          have HSS := HS.out
          have HG7 := Aside0.mk (grown_trans HG9.out hg7)
          have HM7 := Aside0.mk hm7
          have z0 := grown_at HM9.out.isMap hg7 HP0.out
          have z1 := grown_at HM9.out.isMap hg7 HP1.out
          have H27 := Aside0.mk (grown_heap HM3.out.isMap HG7.out H2c.out)
          rw [← hwrap] at HSS
          clear hg6 hm6 hg7 hm7 hwrap HS
          generalize IntKind.i64.wrap (cvN (whN l0 tn) p1 p2 + cvN (whN l0 tn) q1 q2) = sum at HSS ⊢
          cases hsm : (sum == cvN (whN l0 tn) a b) with
          | true =>
            rw [if_pos (beq_iff_eq.mp hsm)] at HSS
            have HS := Aside0.mk HSS
            clear HSS
            go_wp2_with ((with_reducible refine gate_store (t := 63) (p := 4) rfl ?_); refine wpList_store_row ?h21 63 (.tmp 4) (.tmp 48) ?h22 (w.heap.size + 1 + 1) #[.bool c.f0, .int .i64 c.f1] ?h23 ?h24 63 #[.bool false, .int .i64 0] H27.out ?h25 ?h26 ?h27 ?h28; (case h21 => rfl); (case h22 => rfl); (case h23 => rfl); (case h24 => rfl); (case h25 => kernel_rfl); (case h26 => rfl); (case h27 => first | kernel_rfl | (simp [Value.oneCell']; done)))
            (try simp only [Exit.inBlock, Exit.then])
            refine bodyPost_ret (results_ct rfl _ _ (w.heap.size + 1 + 1) 63 #[.bool c.f0, .int .i64 c.f1] (0, 0) _ rfl (heap_setRow_same H27.out) Try.underlying63 rfl (by kernel_rfl)) rfl ?_
            refine ⟨by rw [← HS.out]; rfl, HM7.out.same (heap_setRow_other (map_ne HM7.out.isMap H27.out)), grown_setRow (grown_trans HGc.out HG7.out) (by omega)⟩
          | false =>
            rw [if_neg (beq_eq_false_iff_ne.mp hsm)] at HSS
            have HS := Aside0.mk HSS
            clear HSS
            go_wp2_with fail
            go_roundg (L.length - (kk + 1))
            case measure => omega
            case rel => exact ⟨kk + 1, by omega, by omega, by go_num, HS, HG7, HM7⟩
        · have hk : kk = L.length := by omega
          subst hk
          have hh := HA.out
          rw [List.drop_length, firstL] at hh
          have HH0 := Aside0.mk hh
          have H2r := Aside0.mk (grown_heap HM3.out.isMap HG.out H2c.out)
          clear hh
          go_wp2_with ((with_reducible refine gate_store (t := 63) (p := 4) rfl ?_); refine wpList_store_row ?h31 63 (.tmp 4) (.tmp 50) ?h32 (w.heap.size + 1 + 1) #[.bool false, .int .i64 0] ?h33 ?h34 63 #[.bool false, .int .i64 0] H2r.out ?h35 ?h36 ?h37 ?h38; (case h31 => rfl); (case h32 => rfl); (case h33 => rfl); (case h34 => rfl); (case h35 => kernel_rfl); (case h36 => rfl); (case h37 => first | kernel_rfl | (simp [Value.oneCell']; done)))
          (try simp only [Exit.inBlock, Exit.then])
          refine bodyPost_ret (results_ct rfl _ _ (w.heap.size + 1 + 1) 63 #[.bool false, .int .i64 0] (0, 0) _ rfl (heap_setRow_same H2r.out) Try.underlying63 rfl (by kernel_rfl)) rfl ?_
          refine ⟨by rw [← HH0.out]; rfl, HMr.out.same (heap_setRow_other (map_ne HMr.out.isMap H2r.out)), grown_setRow (grown_trans HGc.out HG.out) (by omega)⟩

-- given: loop.example/g01334/impl.FirstCut

/-! ### impl_FirstCut: by hand -/
def impl_FirstCut.f (a0 : Int) (a1 : Int) (l2 : List S38) (a3 : Bool) : Option (Bool × Int × Bool) :=
  (impl_areCut.f a0 a1 l2).bind fun p => if p = true then some ((firstN (whN l2 a3) a0 a1).1.f0, (firstN (whN l2 a3) a0 a1).1.f1, (firstN (whN l2 a3) a0 a1).2) else some (false, 0, false)
set_option maxHeartbeats 1000000 in
set_option maxRecDepth 100000 in
theorem impl_FirstCut.calls (a0 : Int) (a1 : Int) (A2 : Option Addr) (c2 : Nat) (l2 : List S38) (a3 : Bool) (r1 : Bool) (r2 : Int) (r3 : Bool) (w : World) (hr2 : Kd.C k38 w A2 l2.length l2) (hc2 : l2.length ≤ c2) (h : impl_FirstCut.f a0 a1 l2 a3 = some (r1, r2, r3)) :
    Calls Try.prog 39 #[.int .i64 a0, .int .i64 a1, .slice A2 l2.length c2, .bool a3] w fun e w' => e = .returned (.tuple #[.bool r1, .int .i64 r2, .bool r3]) ∧ Below w.heap.size w w' := by
  have hu := Try.underlying63
  have HR0 := Aside0.mk hr2
  have HC0 := Aside0.mk hc2
  clear hr2 hc2
  cases hp : impl_areCut.f a0 a1 l2 with
  | none => simp [impl_FirstCut.f, hp] at h
  | some p =>
    have HP := Aside0.mk hp
    cases p with
    | false =>
      simp [impl_FirstCut.f, hp] at h
      obtain ⟨rfl, rfl, rfl⟩ := h
      clear hp
      go_enter Try.func39, Try.ntmps39
      go_wp2_with (go_at_call 68; refine (impl_areCut.calls a0 a1 A2 c2 l2 false _ HR0.out HC0.out HP.out).mono ?_; rintro e w1 ⟨rfl, hb1⟩; have HB1 := Aside0.mk hb1; clear hb1)
      go_ret3
      exact ⟨rfl, HB1.out⟩
    | true =>
      simp only [impl_FirstCut.f, hp, Option.bind_some, if_true, Option.some.injEq, Prod.mk.injEq] at h
      obtain ⟨rfl, rfl, rfl⟩ := h
      clear hp
      have hin := areCut_in HP.out
      have i1 := hin.1.1
      have i2 := hin.1.2
      have i3 := hin.2.1
      have i4 := hin.2.2
      clear hin
      go_enter Try.func39, Try.ntmps39
      go_wp2_with (first | (go_at_call 68; refine (impl_areCut.calls a0 a1 A2 c2 l2 true _ HR0.out HC0.out HP.out).mono ?_; rintro e w1 ⟨rfl, hb1⟩; have HB1 := Aside0.mk hb1; clear hb1) | (go_at_call 69; refine (cutterOf_calls A2 l2.length c2 a3 (cutV l2 a3) _).mono ?_; rintro e w2 ⟨B, rfl, hb2, hB, hm⟩; have HB2 := Aside0.mk (HB1.out.trans (hb2.mono HB1.out.size)); have HBB := Aside0.mk (Nat.le_trans HB1.out.size hB); have HM := Aside0.mk hm; clear hb2 hB hm) | (go_at_call 73; refine (cutter_first A2 c2 l2 a3 B a0 a1 _ i1 i2 i3 i4 (Kd.C_below HR0.out HB2.out) HM.out).mono ?_; rintro e w3 ⟨rfl, hm3, hg3⟩; have HG3 := Aside0.mk hg3; clear hm3 hg3; generalize hfr : firstN (whN l2 a3) a0 a1 = fr; have HFR := Aside0.mk hfr; clear hfr))
      go_quiet (fail)
      go_wp2_with fail
      go_ret3
      have hB3 := below_of_grown HB2.out HB2.out.size HBB.out HG3.out
      exact ⟨by simp [HFR.out], hB3.trans ((by repeat (first | exact Below.refl _ _ | apply below_alloc | apply pw_below_drewN | apply below_drew) : Below w3.heap.size w3 _).mono hB3.size)⟩

/-! ### laws_FnExactFirstCut: function 11 -/
def laws_FnExactFirstCut.f (k : Nat) (a0 : Int) (a1 : Int) (l2 : List (S36)) (a3 : Bool) : Option (Bool) := (laws_szPieceS.f l2 1048576).bind fun t200 => (if t200 < 0 then (some true) else ((laws_toPieceS.f k l2).bind fun t201 => ((spec_FirstCut.f k a0 a1 t201 a3).bind fun bt204 => ((laws_toPieceS.f k l2).bind fun t207 => ((impl_FirstCut.f a0 a1 t207 a3).bind fun bt210 => (if (bt210.1 != bt204.1) = true then (none) else (if bt210.2.1 = bt204.2.1 then (if (bt210.2.2 != bt204.2.2) = true then (none) else ((laws_toPieceS.f k l2).bind fun t213 => ((laws_eqPieceS.f k t207 t213).bind fun t216 => (if t216 = true then (some true) else (none))))) else (none))))))))
theorem laws_FnExactFirstCut.mono : ∀ a0 a1 a2 a3 k, LeO (laws_FnExactFirstCut.f k a0 a1 a2 a3) (laws_FnExactFirstCut.f (k + 1) a0 a1 a2 a3) := by
  intro a0 a1 a2 a3 k
  unfold laws_FnExactFirstCut.f
  repeat' first
      | (with_reducible exact laws_eqPieceS.mono _ _ _)
      | (with_reducible exact laws_toPieceS.mono _ _)
      | (with_reducible exact spec_FirstCut.mono _ _ _ _ _)
      | (with_reducible exact LeO.refl _)
      | (with_reducible exact LeO.none _)
      | (with_reducible refine LeO.ite ?_ ?_)
      | (with_reducible refine LeO.bind ?_ (fun _ => ?_))
      | exact laws_eqPieceS.mono _ _ _
      | exact laws_toPieceS.mono _ _
      | exact spec_FirstCut.mono _ _ _ _ _
      | exact LeO.none _
      | refine LeO.ite ?_ ?_
      | refine LeO.bind ?_ (fun _ => ?_)
set_option maxHeartbeats 8000000 in
set_option maxRecDepth 100000 in
theorem laws_FnExactFirstCut.calls (k : Nat) (a0 : Int) (a1 : Int) (A2 : Option Addr) (c2 : Nat) (l2 : List (S36)) (a3 : Bool) (r : Bool) (w : World) (hr2 : Kd.C k36 w A2 l2.length l2) (hc2 : l2.length ≤ c2) (hrt : r = true) (h : laws_FnExactFirstCut.f k a0 a1 l2 a3 = some r) :
    Calls Try.prog 11 #[.int .i64 a0, .int .i64 a1, .slice A2 l2.length c2, .bool a3] w fun e w' => e = .returned (.bool r) ∧ Below w.heap.size w w' := by
  have HRT := Aside0.mk hrt
  clear hrt
  have HR2 := Aside0.mk hr2
  have HC2 := Aside0.mk hc2
  clear hr2 hc2
  have HB := Aside0.mk (Below.refl w.heap.size w)
  have H : ((laws_szPieceS.f l2 1048576).bind fun t200 => (if t200 < 0 then (some true) else ((laws_toPieceS.f k l2).bind fun t201 => ((spec_FirstCut.f k a0 a1 t201 a3).bind fun bt204 => ((laws_toPieceS.f k l2).bind fun t207 => ((impl_FirstCut.f a0 a1 t207 a3).bind fun bt210 => (if (bt210.1 != bt204.1) = true then (none) else (if bt210.2.1 = bt204.2.1 then (if (bt210.2.2 != bt204.2.2) = true then (none) else ((laws_toPieceS.f k l2).bind fun t213 => ((laws_eqPieceS.f k t207 t213).bind fun t216 => (if t216 = true then (some true) else (none))))) else (none))))))))) = some r := h
  clear h
  replace H := Option.bind_eq_some_iff.mp H
  obtain ⟨t200, A50, H⟩ := H
  replace H : (if t200 < 0 then (some true) else ((laws_toPieceS.f k l2).bind fun t201 => ((spec_FirstCut.f k a0 a1 t201 a3).bind fun bt204 => ((laws_toPieceS.f k l2).bind fun t207 => ((impl_FirstCut.f a0 a1 t207 a3).bind fun bt210 => (if (bt210.1 != bt204.1) = true then (none) else (if bt210.2.1 = bt204.2.1 then (if (bt210.2.2 != bt204.2.2) = true then (none) else ((laws_toPieceS.f k l2).bind fun t213 => ((laws_eqPieceS.f k t207 t213).bind fun t216 => (if t216 = true then (some true) else (none))))) else (none)))))))) = some r := H
  have A5 := Aside0.mk A50
  clear A50
  by_cases c6 : t200 < 0
  · rw [if_pos c6] at H
    have c6b0 : decide (t200 < 0) = true := decide_eq_true c6
    clear c6
    obtain rfl := Option.some.inj H
    go_enter Try.func11, Try.ntmps11
    go_wp2_with (first | ((with_reducible refine gate_callee (f := 16) rfl ?_); refine goesL_ (some 19) rfl rfl Try.func16 (by kernel_rfl) rfl #[.slice A2 l2.length c2, .int .i64 1048576] rfl (by (try simp only [List.map_toArray, List.map_cons, List.map_nil]); first | done | rfl | (simp only [List.length_drop, List.length_take]; rfl)) ?_; (with_reducible refine (laws_szPieceS.calls _ _ l2 1048576 t200 _ ?side1 ?side2 A5.out).mono ?_); (case side1 => repeat (first | exact HR2.out | (with_reducible refine Kd.C_alloc ?_ _) | (with_reducible refine Kd.C_drewN ?_ _) | (with_reducible refine Kd.C_drew ?_))); (case side2 => exact HC2.out); rintro e w' ⟨rfl, ⟨nd, rfl⟩⟩; refine ⟨_, rfl, ?_⟩))
    go_ret
    exact ⟨by first | rfl | (simp [errW_none, errW_some] <;> rfl) | (simp [*, errW_none, errW_some] <;> rfl), by repeat (first | (with_reducible first | exact HB.out | apply below_alloc | apply pw_below_drewN | apply below_drew1) | exact HB.out)⟩
  · rw [if_neg c6] at H
    have c6b0 : decide (t200 < 0) = false := decide_eq_false c6
    clear c6
    replace H := Option.bind_eq_some_iff.mp H
    obtain ⟨t201, A70, H⟩ := H
    replace H : ((spec_FirstCut.f k a0 a1 t201 a3).bind fun bt204 => ((laws_toPieceS.f k l2).bind fun t207 => ((impl_FirstCut.f a0 a1 t207 a3).bind fun bt210 => (if (bt210.1 != bt204.1) = true then (none) else (if bt210.2.1 = bt204.2.1 then (if (bt210.2.2 != bt204.2.2) = true then (none) else ((laws_toPieceS.f k l2).bind fun t213 => ((laws_eqPieceS.f k t207 t213).bind fun t216 => (if t216 = true then (some true) else (none))))) else (none)))))) = some r := H
    have A7 := Aside0.mk A70
    clear A70
    replace H := Option.bind_eq_some_iff.mp H
    obtain ⟨⟨t204, t205, t206⟩, A80, H⟩ := H
    replace H : ((laws_toPieceS.f k l2).bind fun t207 => ((impl_FirstCut.f a0 a1 t207 a3).bind fun bt210 => (if (bt210.1 != t204) = true then (none) else (if bt210.2.1 = t205 then (if (bt210.2.2 != t206) = true then (none) else ((laws_toPieceS.f k l2).bind fun t213 => ((laws_eqPieceS.f k t207 t213).bind fun t216 => (if t216 = true then (some true) else (none))))) else (none))))) = some r := H
    have A8 := Aside0.mk A80
    clear A80
    replace H := Option.bind_eq_some_iff.mp H
    obtain ⟨t207, A90, H⟩ := H
    replace H : ((impl_FirstCut.f a0 a1 t207 a3).bind fun bt210 => (if (bt210.1 != t204) = true then (none) else (if bt210.2.1 = t205 then (if (bt210.2.2 != t206) = true then (none) else ((laws_toPieceS.f k l2).bind fun t213 => ((laws_eqPieceS.f k t207 t213).bind fun t216 => (if t216 = true then (some true) else (none))))) else (none)))) = some r := H
    have A9 := Aside0.mk A90
    clear A90
    replace H := Option.bind_eq_some_iff.mp H
    obtain ⟨⟨t210, t211, t212⟩, A100, H⟩ := H
    replace H : (if (t210 != t204) = true then (none) else (if t211 = t205 then (if (t212 != t206) = true then (none) else ((laws_toPieceS.f k l2).bind fun t213 => ((laws_eqPieceS.f k t207 t213).bind fun t216 => (if t216 = true then (some true) else (none))))) else (none))) = some r := H
    have A10 := Aside0.mk A100
    clear A100
    by_cases c11 : (t210 != t204) = true
    · rw [if_pos c11] at H
      exact absurd H (by simp)
    · rw [if_neg c11] at H
      have c11b0 : (t210 != t204) = false := by simpa using c11
      (try (have c11b1 : decide (t210 = t204) = true := by simpa using c11))
      (try (have c11b2 : (t210 == t204) = true := by simpa using c11))
      clear c11
      by_cases c12 : t211 = t205
      · rw [if_pos c12] at H
        have c12b0 : (t211 == t205) = true := beq_iff_eq.mpr c12
        have c12b1 : (t211 != t205) = false := bne_eq_false_iff_eq.mpr c12
        clear c12
        by_cases c13 : (t212 != t206) = true
        · rw [if_pos c13] at H
          exact absurd H (by simp)
        · rw [if_neg c13] at H
          have c13b0 : (t212 != t206) = false := by simpa using c13
          (try (have c13b1 : decide (t212 = t206) = true := by simpa using c13))
          (try (have c13b2 : (t212 == t206) = true := by simpa using c13))
          clear c13
          replace H := Option.bind_eq_some_iff.mp H
          obtain ⟨t213, A140, H⟩ := H
          replace H : ((laws_eqPieceS.f k t207 t213).bind fun t216 => (if t216 = true then (some true) else (none))) = some r := H
          have A14 := Aside0.mk A140
          clear A140
          replace H := Option.bind_eq_some_iff.mp H
          obtain ⟨t216, A150, H⟩ := H
          replace H : (if t216 = true then (some true) else (none)) = some r := H
          have A15 := Aside0.mk A150
          clear A150
          by_cases c16 : t216 = true
          · subst c16
            have H1 : (some true) = some r := by rw [if_pos rfl] at H; exact H
            clear H
            have H := H1
            clear H1
            obtain rfl := Option.some.inj H
            go_enter Try.func11, Try.ntmps11
            go_wp2_with (first | ((with_reducible refine gate_callee (f := 16) rfl ?_); refine goesL_ (some 19) rfl rfl Try.func16 (by kernel_rfl) rfl #[.slice A2 l2.length c2, .int .i64 1048576] rfl (by (try simp only [List.map_toArray, List.map_cons, List.map_nil]); first | done | rfl | (simp only [List.length_drop, List.length_take]; rfl)) ?_; (with_reducible refine (laws_szPieceS.calls _ _ l2 1048576 t200 _ ?side1 ?side2 A5.out).mono ?_); (case side1 => repeat (first | exact HR2.out | (with_reducible refine Kd.C_alloc ?_ _) | (with_reducible refine Kd.C_drewN ?_ _) | (with_reducible refine Kd.C_drew ?_))); (case side2 => exact HC2.out); rintro e w' ⟨rfl, ⟨nd, rfl⟩⟩; refine ⟨_, rfl, ?_⟩) | ((with_reducible refine gate_callee (f := 18) rfl ?_); refine goesL_ (some 26) rfl rfl Try.func18 (by kernel_rfl) rfl #[.slice A2 l2.length c2] rfl (by (try simp only [List.map_toArray, List.map_cons, List.map_nil]); first | done | rfl | (simp only [List.length_drop, List.length_take]; rfl)) ?_; (with_reducible refine (laws_toPieceS.calls k _ _ l2 t201 _ ?side1 ?side2 A7.out).mono ?_); (case side1 => repeat (first | exact HR2.out | (with_reducible refine Kd.C_alloc ?_ _) | (with_reducible refine Kd.C_drewN ?_ _) | (with_reducible refine Kd.C_drew ?_))); (case side2 => exact HC2.out); rintro e w17 ⟨v202, rfl, ho0, hb⟩; refine ⟨_, rfl, ?_⟩; have n0_ := Aside0.mk (Kd.R_lower ho0 (below_size (by repeat (first | (with_reducible first | exact HB.out | apply below_alloc | apply pw_below_drewN | apply below_drew1) | exact HB.out)))); have n1_ := Aside0.mk (below_step (by repeat (first | (with_reducible first | exact HB.out | apply below_alloc | apply pw_below_drewN | apply below_drew1) | exact HB.out)) hb); clear HB; have HO203 := n0_; have HB := n1_; clear n0_ n1_; (try clear hb); (try clear hb2); (try clear hk); (try clear hi); (try clear ho0); obtain ⟨Ao18, co18, eo18⟩ := Kd.R_slice HO203.out; subst eo18) | ((with_reducible refine gate_callee (f := 38) rfl ?_); refine goesL_ (some 28) rfl rfl Try.func38 (by kernel_rfl) rfl #[.int .i64 a0, .int .i64 a1, .slice Ao18 t201.length co18, .bool a3] rfl (by (try simp only [List.map_toArray, List.map_cons, List.map_nil]); first | done | rfl | (simp only [List.length_drop, List.length_take]; rfl)) ?_; (with_reducible refine (spec_FirstCut.calls k a0 a1 _ _ t201 a3 t204 t205 t206 _ ?side1 ?side2 A8.out).mono ?_); (case side1 => repeat (first | exact (Kd.R_reads' HO203.out).2.2 | (with_reducible refine Kd.C_alloc ?_ _) | (with_reducible refine Kd.C_drewN ?_ _) | (with_reducible refine Kd.C_drew ?_))); (case side2 => exact (Kd.R_reads' HO203.out).2.1); rintro e w19 ⟨rfl, hb⟩; refine ⟨_, rfl, ?_⟩; have n0_ := Aside0.mk (Kd.R_below (by (with_reducible repeat (first | apply Kd.R_alloc | apply Kd.R_drewN | apply Kd.R_drew)); exact HO203.out) hb); have n1_ := Aside0.mk (below_step (by repeat (first | (with_reducible first | exact HB.out | apply below_alloc | apply pw_below_drewN | apply below_drew1) | exact HB.out)) hb); clear HO203; clear HB; have HO203 := n0_; have HB := n1_; clear n0_ n1_; (try clear hb); (try clear hb2); (try clear hk); (try clear hi)) | ((with_reducible refine gate_callee (f := 18) rfl ?_); refine goesL_ (some 33) rfl rfl Try.func18 (by kernel_rfl) rfl #[.slice A2 l2.length c2] rfl (by (try simp only [List.map_toArray, List.map_cons, List.map_nil]); first | done | rfl | (simp only [List.length_drop, List.length_take]; rfl)) ?_; (with_reducible refine (laws_toPieceS.calls k _ _ l2 t207 _ ?side1 ?side2 A9.out).mono ?_); (case side1 => repeat (first | exact (Kd.C_below HR2.out HB.out) | (with_reducible refine Kd.C_alloc ?_ _) | (with_reducible refine Kd.C_drewN ?_ _) | (with_reducible refine Kd.C_drew ?_))); (case side2 => exact HC2.out); rintro e w20 ⟨v208, rfl, ho0, hb⟩; refine ⟨_, rfl, ?_⟩; have n0_ := Aside0.mk (Kd.R_elder' (by (with_reducible repeat (first | apply Kd.R_alloc | apply Kd.R_drewN | apply Kd.R_drew)); exact HO203.out) (Kd.R_base ho0) hb); have n1_ := Aside0.mk (Kd.R_lower (Kd.R_new' ho0 (Kd.R_lt (by (with_reducible repeat (first | apply Kd.R_alloc | apply Kd.R_drewN | apply Kd.R_drew)); exact HO203.out))) (below_size (by repeat (first | (with_reducible first | exact HB.out | apply below_alloc | apply pw_below_drewN | apply below_drew1) | exact HB.out)))); have n2_ := Aside0.mk (below_step (by repeat (first | (with_reducible first | exact HB.out | apply below_alloc | apply pw_below_drewN | apply below_drew1) | exact HB.out)) hb); clear HO203; clear HB; have HO203 := n0_; have HO209 := n1_; have HB := n2_; clear n0_ n1_ n2_; (try clear hb); (try clear hb2); (try clear hk); (try clear hi); (try clear ho0); obtain ⟨Ao21, co21, eo21⟩ := Kd.R_slice HO209.out; subst eo21) | ((with_reducible refine gate_callee (f := 39) rfl ?_); refine goesL_ (some 39) rfl rfl Try.func39 (by kernel_rfl) rfl #[.int .i64 a0, .int .i64 a1, .slice Ao21 t207.length co21, .bool a3] rfl (by (try simp only [List.map_toArray, List.map_cons, List.map_nil]); first | done | rfl | (simp only [List.length_drop, List.length_take]; rfl)) ?_; (with_reducible refine (impl_FirstCut.calls a0 a1 _ _ t207 a3 t210 t211 t212 _ ?side1 ?side2 A10.out).mono ?_); (case side1 => repeat (first | exact (Kd.R_reads' HO209.out).2.2 | (with_reducible refine Kd.C_alloc ?_ _) | (with_reducible refine Kd.C_drewN ?_ _) | (with_reducible refine Kd.C_drew ?_))); (case side2 => exact (Kd.R_reads' HO209.out).2.1); rintro e w22 ⟨rfl, hb⟩; refine ⟨_, rfl, ?_⟩; have n0_ := Aside0.mk (Kd.R_below (by (with_reducible repeat (first | apply Kd.R_alloc | apply Kd.R_drewN | apply Kd.R_drew)); exact HO203.out) hb); have n1_ := Aside0.mk (Kd.R_below (by (with_reducible repeat (first | apply Kd.R_alloc | apply Kd.R_drewN | apply Kd.R_drew)); exact HO209.out) hb); have n2_ := Aside0.mk (below_step (by repeat (first | (with_reducible first | exact HB.out | apply below_alloc | apply pw_below_drewN | apply below_drew1) | exact HB.out)) hb); clear HO203; clear HO209; clear HB; have HO203 := n0_; have HO209 := n1_; have HB := n2_; clear n0_ n1_ n2_; (try clear hb); (try clear hb2); (try clear hk); (try clear hi)) | ((with_reducible refine gate_callee (f := 18) rfl ?_); refine goesL_ (some 58) rfl rfl Try.func18 (by kernel_rfl) rfl #[.slice A2 l2.length c2] rfl (by (try simp only [List.map_toArray, List.map_cons, List.map_nil]); first | done | rfl | (simp only [List.length_drop, List.length_take]; rfl)) ?_; (with_reducible refine (laws_toPieceS.calls k _ _ l2 t213 _ ?side1 ?side2 A14.out).mono ?_); (case side1 => repeat (first | exact (Kd.C_below HR2.out HB.out) | (with_reducible refine Kd.C_alloc ?_ _) | (with_reducible refine Kd.C_drewN ?_ _) | (with_reducible refine Kd.C_drew ?_))); (case side2 => exact HC2.out); rintro e w23 ⟨v214, rfl, ho0, hb⟩; refine ⟨_, rfl, ?_⟩; have n0_ := Aside0.mk (Kd.R_elder' (by (with_reducible repeat (first | apply Kd.R_alloc | apply Kd.R_drewN | apply Kd.R_drew)); exact HO203.out) (Kd.R_base ho0) hb); have n1_ := Aside0.mk (Kd.R_elder' (by (with_reducible repeat (first | apply Kd.R_alloc | apply Kd.R_drewN | apply Kd.R_drew)); exact HO209.out) (Kd.R_base ho0) hb); have n2_ := Aside0.mk (Kd.R_lower (Kd.R_new' (Kd.R_new' ho0 (Kd.R_lt (by (with_reducible repeat (first | apply Kd.R_alloc | apply Kd.R_drewN | apply Kd.R_drew)); exact HO203.out))) (Kd.R_lt (by (with_reducible repeat (first | apply Kd.R_alloc | apply Kd.R_drewN | apply Kd.R_drew)); exact HO209.out))) (below_size (by repeat (first | (with_reducible first | exact HB.out | apply below_alloc | apply pw_below_drewN | apply below_drew1) | exact HB.out)))); have n3_ := Aside0.mk (below_step (by repeat (first | (with_reducible first | exact HB.out | apply below_alloc | apply pw_below_drewN | apply below_drew1) | exact HB.out)) hb); clear HO203; clear HO209; clear HB; have HO203 := n0_; have HO209 := n1_; have HO215 := n2_; have HB := n3_; clear n0_ n1_ n2_ n3_; (try clear hb); (try clear hb2); (try clear hk); (try clear hi); (try clear ho0); obtain ⟨Ao24, co24, eo24⟩ := Kd.R_slice HO215.out; subst eo24) | ((with_reducible refine gate_callee (f := 20) rfl ?_); refine goesL_ (some 59) rfl rfl Try.func20 (by kernel_rfl) rfl #[.slice Ao21 t207.length co21, .slice Ao24 t213.length co24] rfl (by (try simp only [List.map_toArray, List.map_cons, List.map_nil]); first | done | rfl | (simp only [List.length_drop, List.length_take]; rfl)) ?_; (with_reducible refine (laws_eqPieceS.calls k _ _ t207 _ _ t213 true _ ?side1 ?side2 ?side3 ?side4 A15.out).mono ?_); (case side1 => repeat (first | exact (Kd.R_reads' HO209.out).2.2 | (with_reducible refine Kd.C_alloc ?_ _) | (with_reducible refine Kd.C_drewN ?_ _) | (with_reducible refine Kd.C_drew ?_))); (case side2 => exact (Kd.R_reads' HO209.out).2.1); (case side3 => repeat (first | exact (Kd.R_reads' HO215.out).2.2 | (with_reducible refine Kd.C_alloc ?_ _) | (with_reducible refine Kd.C_drewN ?_ _) | (with_reducible refine Kd.C_drew ?_))); (case side4 => exact (Kd.R_reads' HO215.out).2.1); rintro e w25 ⟨rfl, hb⟩; refine ⟨_, rfl, ?_⟩; have n0_ := Aside0.mk (Kd.R_below (by (with_reducible repeat (first | apply Kd.R_alloc | apply Kd.R_drewN | apply Kd.R_drew)); exact HO203.out) hb); have n1_ := Aside0.mk (Kd.R_below (by (with_reducible repeat (first | apply Kd.R_alloc | apply Kd.R_drewN | apply Kd.R_drew)); exact HO209.out) hb); have n2_ := Aside0.mk (Kd.R_below (by (with_reducible repeat (first | apply Kd.R_alloc | apply Kd.R_drewN | apply Kd.R_drew)); exact HO215.out) hb); have n3_ := Aside0.mk (below_step (by repeat (first | (with_reducible first | exact HB.out | apply below_alloc | apply pw_below_drewN | apply below_drew1) | exact HB.out)) hb); clear HO203; clear HO209; clear HO215; clear HB; have HO203 := n0_; have HO209 := n1_; have HO215 := n2_; have HB := n3_; clear n0_ n1_ n2_ n3_; (try clear hb); (try clear hb2); (try clear hk); (try clear hi)))
            go_ret
            exact ⟨by first | rfl | (simp [errW_none, errW_some] <;> rfl) | (simp [*, errW_none, errW_some] <;> rfl), by repeat (first | (with_reducible first | exact HB.out | apply below_alloc | apply pw_below_drewN | apply below_drew1) | exact HB.out)⟩
          · replace c16 := Bool.eq_false_iff.mpr c16
            subst c16
            have H1 : (none) = some r := by rw [if_neg (show ¬ (false = true) by decide)] at H; exact H
            clear H
            have H := H1
            clear H1
            exact absurd H (by simp)
      · rw [if_neg c12] at H
        exact absurd H (by simp)

end Go.Proofs.Ytfpgnnllohhmfaa.Q

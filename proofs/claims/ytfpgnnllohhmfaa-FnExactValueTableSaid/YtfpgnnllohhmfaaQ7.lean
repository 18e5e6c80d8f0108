-- Written by the session's program wip/myprint.py (over the kit's print); the given parts by hand.
import Derived.Test.YtfpgnnllohhmfaaQ0
import Derived.Test.YtfpgnnllohhmfaaQ5
import Derived.Test.YtfpgnnllohhmfaaQ6
namespace Go.Proofs.Ytfpgnnllohhmfaa.Q
open Go.RowKit Go.Proofs.YtfpgnnllohhmfaaW.PrintWords Go.Proofs.YtfpgnnllohhmfaaW.PrintLast Go.Proofs.YtfpgnnllohhmfaaW.PrintMore
attribute [local go_sem] max2_int min2_int max_two min_two max_three min_three max_four min_four   -- for this text's walks alone
set_option linter.unusedVariables false
set_option linter.unusedSimpArgs false

-- given: (loop.example/g01334/impl.cutter).value

/-! ### (cutter).value: by hand -/
def cvF (wh : Int → Int → Int) : Nat → Int → Int → Int
  | 0, _, _ => 0
  | k + 1, a, b => (cutsL a.toNat b.toNat 2).foldl (fun best c => mx best (wrap64 (cvF wh k (partsOf a b c).1.1 (partsOf a b c).1.2 + cvF wh k (partsOf a b c).2.1 (partsOf a b c).2.2))) (wh a b)
def cvN (wh : Int → Int → Int) (a b : Int) : Int := cvF wh (a + b).toNat a b
theorem foldl_same {α β : Type} (f g : β → α → β) (l : List α) (h : ∀ x ∈ l, ∀ y, f y x = g y x) : ∀ z, l.foldl f z = l.foldl g z := by
  induction l with
  | nil => intro z; rfl
  | cons x l ih =>
    intro z
    rw [List.foldl_cons, List.foldl_cons, h x (by simp) z]
    exact ih (fun y hy => h y (by simp [hy])) _
theorem cvF_more (wh : Int → Int → Int) (k : Nat) : ∀ a b : Int, 1 ≤ a → 1 ≤ b → a + b ≤ (k : Int) → cvF wh (k + 1) a b = cvF wh k a b := by
  induction k with
  | zero => intro a b h1 h2 h3; omega
  | succ k ih =>
    intro a b h1 h2 h3
    rw [cvF, cvF]
    refine foldl_same _ _ _ (fun c hc best => ?_) _
    have hp := partsOf_in a b 2 h1 h2 c hc
    rw [ih _ _ hp.1.1 hp.1.2.2.1 (by omega), ih _ _ hp.2.1 hp.2.2.2.1 (by omega)]
theorem cvF_eq (wh : Int → Int → Int) (d : Nat) : ∀ (k : Nat) (a b : Int), 1 ≤ a → 1 ≤ b → k = (a + b).toNat + d → cvF wh k a b = cvN wh a b := by
  induction d with
  | zero => intro k a b _ _ hk; rw [hk]; rfl
  | succ d ih =>
    intro k a b h1 h2 hk
    obtain ⟨q, rfl⟩ : ∃ q, k = q + 1 := ⟨k - 1, by omega⟩
    rw [cvF_more wh q a b h1 h2 (by omega)]
    exact ih q a b h1 h2 (by omega)
def cvStep (wh : Int → Int → Int) (a b : Int) (best : Int) (c : S63) : Int := mx best (wrap64 (cvN wh (partsOf a b c).1.1 (partsOf a b c).1.2 + cvN wh (partsOf a b c).2.1 (partsOf a b c).2.2))
theorem cvN_eq (wh : Int → Int → Int) (a b : Int) (h1 : 1 ≤ a) (h2 : 1 ≤ b) : cvN wh a b = (cutsL a.toNat b.toNat 2).foldl (cvStep wh a b) (wh a b) := by
  obtain ⟨q, hq⟩ : ∃ q, (a + b).toNat = q + 1 := ⟨(a + b).toNat - 1, by omega⟩
  unfold cvN
  rw [hq, cvF]
  refine foldl_same _ _ _ (fun c hc best => ?_) _
  have hp := partsOf_in a b 2 h1 h2 c hc
  unfold cvStep
  rw [cvF_eq wh (q - ((partsOf a b c).1.1 + (partsOf a b c).1.2).toNat) q _ _ hp.1.1 hp.1.2.2.1 (by omega), cvF_eq wh (q - ((partsOf a b c).2.1 + (partsOf a b c).2.2).toNat) q _ _ hp.2.1 hp.2.2.2.1 (by omega)]
theorem boardMemo : MemoK Try.prog 71 69 3 boardKv boardKl (.int .i64 0) 24 where
  law := Go.Maps.Keyed.of_law (deep_law_laid boardLaid (m := 2) (by omega) (of_decide_eq_true (by kernel_rfl)) (by kernel_rfl) (by rw [Try.underlying69]))
  ht := Try.underlying71
  key a b ha ha' hb hb' := boardKey a b ha ha' hb hb'
  kinj a b c d h := by simp [boardKv] at h; exact h
  zero w := by kernel_rfl
  small := by omega
def whN (l0 : List S38) (tn : Bool) (a b : Int) : Int := (wholeN a b tn l0 0 0 (-1)).1
def cutV (l0 : List S38) (tn : Bool) (a b : Int) : Value := .int .i64 (cvN (whN l0 tn) a b)
def cutPost (l0 : List S38) (tn : Bool) (B : Nat) (a b : Int) (w : World) (e : Ending) (w' : World) : Prop := e = .returned (.int .i64 (cvN (whN l0 tn) a b)) ∧ Memo Try.prog 69 boardKl 24 (cutV l0 tn) w' B ∧ w.grownBy w' (some B)
theorem k38_any {w w' : World} {x : S38} {cs : List Value} (h : k38.K w x cs) : k38.K w' x cs := h
theorem parts_is (a b : Int) (c : S63) (ha : 1 ≤ a) (ha' : a ≤ 24) (hb : 1 ≤ b) (hb' : b ≤ 24) (hc : 1 ≤ c.f1) (hc' : c.f1 ≤ 24) :
    impl_board_parts.f a b c.f0 c.f1 = some ((partsOf a b c).1.1, (partsOf a b c).1.2, (partsOf a b c).2.1, (partsOf a b c).2.2) := by
  unfold impl_board_parts.f partsOf
  rw [cuts_w64 (by omega) (by omega), cuts_w64 (by omega) (by omega)]
  cases c.f0 <;> rfl
set_option maxHeartbeats 2000000 in
set_option maxRecDepth 100000 in
theorem cutter_value (A0 : Option Addr) (c0 : Nat) (l0 : List S38) (tn : Bool) (B : Nat) (n : Nat) : ∀ (a b : Int) (w : World), (a + b).toNat < n → 1 ≤ a → a ≤ 24 → 1 ≤ b → b ≤ 24 →
    Kd.C k38 w A0 l0.length l0 → Memo Try.prog 69 boardKl 24 (cutV l0 tn) w B →
    Calls Try.prog 70 #[.agg #[.slice A0 l0.length c0, .bool tn, .map (some B)], .agg #[.int .i64 a, .int .i64 b]] w (cutPost l0 tn B a b w) := by
  have hu := Try.underlying80
  have hu2 := Try.underlying69
  have hu3 := Try.underlying63
  induction n with
  | zero => intro a b w h1; omega
  | succ n ih =>
    intro a b w hn ha ha' hb hb' hr hm
    have HR := Aside0.mk hr
    have HM := Aside0.mk hm
    have IH := Aside0.mk ih
    have hBlt := hm.lt
    have HM2 := Aside0.mk (hm.below (below_alloc (below_alloc (Below.refl w.heap.size w) (.cells #[.slice A0 l0.length c0, .bool tn, .map (some B)] 80)) (.cells #[.int .i64 a, .int .i64 b] 69)))
    clear hr hm ih
    rcases Memo.look boardMemo HM2.out (a := a) (b := b) (by omega) (by omega) with hlook | hlook
    · -- it is not there
      simp only [boardKv] at hlook
      go_enter Try.func70, Try.ntmps70
      go_wp2_with fail
      refine (cutter_whole A0 c0 l0 tn (some B) a b _ (Kd.C_below HR.out ?b0)).mono ?_
      case b0 => repeat (first | exact Below.refl _ _ | apply below_alloc | apply pw_below_drewN)
      rintro e w2 ⟨rfl, hb2⟩
      have hc0 : w2.cell? ⟨w.heap.size, 0, none⟩ = some (.slice A0 l0.length c0) := (hb2.cell (by simp; omega)).trans (by simp)
      have hc1 : w2.cell? ⟨w.heap.size, 1, none⟩ = some (.bool tn) := (hb2.cell (by simp; omega)).trans (by simp)
      have hc2 : w2.cell? ⟨w.heap.size, 2, none⟩ = some (.map (some B)) := (hb2.cell (by simp; omega)).trans (by simp)
      have hd0 : w2.cell? ⟨w.heap.size + 1, 0, none⟩ = some (.int .i64 a) := (hb2.cell (by simp)).trans (by simp)
      have hd1 : w2.cell? ⟨w.heap.size + 1, 1, none⟩ = some (.int .i64 b) := (hb2.cell (by simp)).trans (by simp)
      have HB2 := Aside0.mk (show Below w.heap.size w w2 from (show Below w.heap.size w ((w.alloc (.cells #[.slice A0 l0.length c0, .bool tn, .map (some B)] 80)).alloc (.cells #[.int .i64 a, .int .i64 b] 69)) by repeat (first | exact Below.refl _ _ | apply below_alloc | apply pw_below_drewN)).trans (hb2.mono (by simp; omega)))
      clear hb2 hlook HM2
      have hcuts := cuts_is a.toNat b.toNat 2 (by omega) (by omega) (by omega) (by omega)
      rw [show ((a.toNat : Nat) : Int) = a from by omega, show ((b.toNat : Nat) : Int) = b from by omega] at hcuts
      have HCUTS := Aside0.mk hcuts
      clear hcuts
      go_wp2_with fail
      refine (impl_board_cuts.calls 100 a b 2 _ _ HCUTS.out).mono ?_
      rintro e w3 ⟨v, rfl, hR, hb3⟩
      obtain ⟨AC, cc, rfl, hlc, hC⟩ := Kd.R_reads hR
      have HC := Aside0.mk hC
      have hc0' := (hb3.cell (World.block_lt_of_cell? w2 _ hc0)).trans hc0
      have hc1' := (hb3.cell (World.block_lt_of_cell? w2 _ hc1)).trans hc1
      have hc2' := (hb3.cell (World.block_lt_of_cell? w2 _ hc2)).trans hc2
      have hd0' := (hb3.cell (World.block_lt_of_cell? w2 _ hd0)).trans hd0
      have hd1' := (hb3.cell (World.block_lt_of_cell? w2 _ hd1)).trans hd1
      have HB3 := Aside0.mk (HB2.out.trans (hb3.mono HB2.out.size))
      have HM3 := Aside0.mk (HM.out.below HB3.out)
      have HFOLD := Aside0.mk (cvN_eq (whN l0 tn) a b ha hb)
      have HMEM := Aside0.mk (partsOf_in a b 2 ha hb)
      have hlen := cutsL_len a.toNat b.toNat 2 (by omega) (by omega)
      have HBL := Aside0.mk (Nat.lt_of_lt_of_le hBlt HB3.out.size)
      rw [show (2 : Int).toNat = 2 from rfl] at HMEM
      generalize cutsL a.toNat b.toNat 2 = L at HC HFOLD HMEM hlen hlc ⊢
      clear hc0 hc1 hc2 hd0 hd1 hR hC hb3 HB2 HCUTS hlc
      have HC0 := Aside0.mk hc0'
      have HC1 := Aside0.mk hc1'
      have HC2 := Aside0.mk hc2'
      have HD0 := Aside0.mk hd0'
      have HD1 := Aside0.mk hd1'
      clear hc0' hc1' hc2'
      go_wp2_with fail
      go_loopg [7, 31] L.length (fun gg v7 v31 wr => ∃ (kk : Nat) (best : Int), kk ≤ L.length ∧ L.length - kk ≤ gg ∧ v7 = .int .i64 best ∧ v31 = .int .i64 kk ∧ Aside0 ((L.drop kk).foldl (cvStep (whN l0 tn) a b) best = cvN (whN l0 tn) a b) ∧ Aside0 (w3.grownBy wr (some B)) ∧ Aside0 (Memo Try.prog 69 boardKl 24 (cutV l0 tn) wr B))
      case atStart => exact ⟨0, whN l0 tn a b, Nat.zero_le _, by omega, rfl, rfl, ⟨HFOLD.out.symm⟩, ⟨grown_of_below (Below.refl _ _) _⟩, HM3⟩
      case round =>
        clear hd0' hd1'
        obtain ⟨kk, best, hkk, hg, rfl, rfl, HA, HG, HMr⟩ := hrel
        have hMap := HM3.out.isMap
        have c0r := grown_at hMap HG.out HC0.out
        have c1r := grown_at hMap HG.out HC1.out
        have c2r := grown_at hMap HG.out HC2.out
        have d0r := grown_at hMap HG.out HD0.out
        have d1r := grown_at hMap HG.out HD1.out
        by_cases hlt : kk < L.length
        · have hltz : (kk : Int) < (L.length : Int) := by omega
          obtain ⟨ad, rfl, hx0, hx1⟩ := at_T63 HC.out (kk : Int) (by omega) hltz
          rw [show rd_T63 L (kk : Int) = L[kk] by simp [rd_T63, hlt], Int.toNat_natCast] at hx0 hx1
          have hy0 := grown_at hMap HG.out hx0
          have hy1 := grown_at hMap HG.out hx1
          have hstep : (L.drop kk).foldl (cvStep (whN l0 tn) a b) best = (L.drop (kk + 1)).foldl (cvStep (whN l0 tn) a b) (cvStep (whN l0 tn) a b best L[kk]) := by
            rw [List.drop_eq_getElem_cons hlt, List.foldl_cons]
          rw [HA.out] at hstep
          have hmem := HMEM.out L[kk] (List.getElem_mem hlt)
          generalize hcc : L[kk] = c at hy0 hy1 hstep hmem
          clear hcc hx0 hx1 HA hMap
          have hcin : 1 ≤ c.f1 ∧ c.f1 ≤ 24 := by
            have h1 := hmem
            unfold partsOf at h1
            cases hcf : c.f0 <;> rw [hcf] at h1 <;> simp at h1 <;> omega
          have HPARTS := Aside0.mk (parts_is a b c ha ha' hb hb' hcin.1 hcin.2)
          unfold cvStep at hstep
          generalize partsOf a b c = p at HPARTS hmem hstep
          obtain ⟨⟨p1, p2⟩, q1, q2⟩ := p
          simp only at hmem HPARTS hstep
          have HS := Aside0.mk hstep
          clear hstep hcin
          have lift : ∀ {ad : Addr} {v : Value}, wr.cell? ad = some v → (wr.alloc (.cells #[.bool c.f0, .int .i64 c.f1] 63)).cell? ad = some v := fun h => ((below_alloc (Below.refl _ _) _).cell (World.block_lt_of_cell? wr _ h)).trans h
          replace c0r := lift c0r
          replace c1r := lift c1r
          replace c2r := lift c2r
          replace d0r := lift d0r
          replace d1r := lift d1r
          clear lift
          go_wp2_with (go_at_call 65; refine (impl_board_parts.calls a b c.f0 c.f1 _ _ _ _ _ HPARTS.out).mono ?_; rintro e w5 ⟨rfl, hb5⟩; have HB5 := Aside0.mk hb5; clear hb5)
          have c0s := (HB5.out.cell (World.block_lt_of_cell? _ _ c0r)).trans c0r
          have c1s := (HB5.out.cell (World.block_lt_of_cell? _ _ c1r)).trans c1r
          have c2s := (HB5.out.cell (World.block_lt_of_cell? _ _ c2r)).trans c2r
          have lift : ∀ {ad : Addr} {v : Value}, w5.cell? ad = some v → ((w5.alloc (.cells #[.int .i64 p1, .int .i64 p2] 69)).alloc (.cells #[.int .i64 q1, .int .i64 q2] 69)).cell? ad = some v := fun h => ((below_alloc (below_alloc (Below.refl _ _) _) _).cell (World.block_lt_of_cell? w5 _ h)).trans h
          replace c0s := lift c0s
          replace c1s := lift c1s
          replace c2s := lift c2s
          have o0 : ((w5.alloc (.cells #[.int .i64 p1, .int .i64 p2] 69)).alloc (.cells #[.int .i64 q1, .int .i64 q2] 69)).cell? ⟨w5.heap.size, 0, none⟩ = some (.int .i64 p1) := by simp
          have o1 : ((w5.alloc (.cells #[.int .i64 p1, .int .i64 p2] 69)).alloc (.cells #[.int .i64 q1, .int .i64 q2] 69)).cell? ⟨w5.heap.size, 1, none⟩ = some (.int .i64 p2) := by simp
          have t0 : ((w5.alloc (.cells #[.int .i64 p1, .int .i64 p2] 69)).alloc (.cells #[.int .i64 q1, .int .i64 q2] 69)).cell? ⟨w5.heap.size + 1, 0, none⟩ = some (.int .i64 q1) := by simp
          have t1 : ((w5.alloc (.cells #[.int .i64 p1, .int .i64 p2] 69)).alloc (.cells #[.int .i64 q1, .int .i64 q2] 69)).cell? ⟨w5.heap.size + 1, 1, none⟩ = some (.int .i64 q2) := by simp
          have hB9 : Below wr.heap.size wr ((w5.alloc (.cells #[.int .i64 p1, .int .i64 p2] 69)).alloc (.cells #[.int .i64 q1, .int .i64 q2] 69)) := by
            have hbx : Below wr.heap.size wr w5 := (below_alloc (Below.refl wr.heap.size wr) _).trans (HB5.out.mono (by simp))
            exact below_alloc (below_alloc hbx _) _
          have HM9 := Aside0.mk (HMr.out.below hB9)
          have HG9 := Aside0.mk (grown_trans HG.out (grown_of_below hB9 B))
          generalize (w5.alloc (.cells #[.int .i64 p1, .int .i64 p2] 69)).alloc (.cells #[.int .i64 q1, .int .i64 q2] 69) = W9 at c0s c1s c2s o0 o1 t0 t1 HM9 HG9 ⊢
          clear hB9 lift c0r c1r c2r d0r d1r hy0 hy1 HMr HG
          have HR9 := Aside0.mk (C_map k38_any (Kd.C_below HR.out HB3.out) (by decide) HM3.out.isMap HG9.out)
          have HH : Aside0 (∀ w', W9.grownBy w' (some B) → Memo Try.prog 69 boardKl 24 (cutV l0 tn) w' B → (w'.cell? ⟨w.heap.size, 0, none⟩ = some (.slice A0 l0.length c0) ∧ w'.cell? ⟨w.heap.size, 1, none⟩ = some (.bool tn) ∧ w'.cell? ⟨w.heap.size, 2, none⟩ = some (.map (some B)) ∧ w'.cell? ⟨w5.heap.size, 0, none⟩ = some (.int .i64 p1) ∧ w'.cell? ⟨w5.heap.size, 1, none⟩ = some (.int .i64 p2) ∧ w'.cell? ⟨w5.heap.size + 1, 0, none⟩ = some (.int .i64 q1) ∧ w'.cell? ⟨w5.heap.size + 1, 1, none⟩ = some (.int .i64 q2))) :=
            ⟨fun w' hg hm => ⟨grown_at HM9.out.isMap hg c0s, grown_at HM9.out.isMap hg c1s, grown_at HM9.out.isMap hg c2s, grown_at HM9.out.isMap hg o0, grown_at HM9.out.isMap hg o1, grown_at HM9.out.isMap hg t0, grown_at HM9.out.isMap hg t1⟩⟩
          clear c0s c1s c2s o0 o1 t0 t1
          have hs1 : (p1 + p2).toNat < n := by omega
          have hs2 : p1 ≤ 24 := by omega
          have hs3 : p2 ≤ 24 := by omega
          have hs4 : (q1 + q2).toNat < n := by omega
          have hs5 : q1 ≤ 24 := by omega
          have hs6 : q2 ≤ 24 := by omega
          have hsz : 0 < k38.sz := by decide
          go_region_held3 (fun w' => w'.cell? ⟨w.heap.size, 0, none⟩ = some (.slice A0 l0.length c0) ∧ w'.cell? ⟨w.heap.size, 1, none⟩ = some (.bool tn) ∧ w'.cell? ⟨w.heap.size, 2, none⟩ = some (.map (some B)) ∧ w'.cell? ⟨w5.heap.size, 0, none⟩ = some (.int .i64 p1) ∧ w'.cell? ⟨w5.heap.size, 1, none⟩ = some (.int .i64 p2) ∧ w'.cell? ⟨w5.heap.size + 1, 0, none⟩ = some (.int .i64 q1) ∧ w'.cell? ⟨w5.heap.size + 1, 1, none⟩ = some (.int .i64 q2))
            (first | exact HH.out _ (grown_of_below (below_drew (Below.refl _ _)) _) (HM9.out.below (below_drew (Below.refl _ _))) | exact HH.out _ hg7 hm7 | exact HH.out _ hg6 hm6)
            (first | (go_at_call_of 70 (Value.agg #[Value.int IntKind.i64 p1, Value.int IntKind.i64 p2]); refine (IH.out p1 p2 _ hs1 hmem.1.1 hs2 hmem.1.2.2.1 hs3 (Kd.C_below HR9.out (below_drew (Below.refl _ _))) (HM9.out.below (below_drew (Below.refl _ _)))).mono ?_; rintro e w6 ⟨rfl, hm6, hg6'⟩; have hg6 := grown_trans (grown_of_below (below_drew (Below.refl _ _)) B) hg6') | (go_at_call_of 70 (Value.agg #[Value.int IntKind.i64 q1, Value.int IntKind.i64 q2]); refine (IH.out q1 q2 _ hs4 hmem.2.1 hs5 hmem.2.2.2.1 hs6 (C_map k38_any HR9.out hsz HM9.out.isMap hg6) hm6).mono ?_; rintro e w7 ⟨rfl, hm7, hg7'⟩; have hg7 := grown_trans hg6 hg7'))
          have hwrap : IntKind.i64.wrap (cvN (whN l0 tn) p1 p2 + cvN (whN l0 tn) q1 q2) = wrap64 (cvN (whN l0 tn) p1 p2 + cvN (whN l0 tn) q1 q2) := by simp only [i64_w]
          have HSS := HS.out
          unfold mx at HSS
          have HG7 := Aside0.mk (grown_trans HG9.out hg7)
          have HM7 := Aside0.mk hm7
          rw [← hwrap] at HSS
          clear hg6 hm6 hg7 hm7 hwrap HS
          generalize IntKind.i64.wrap (cvN (whN l0 tn) p1 p2 + cvN (whN l0 tn) q1 q2) = sum at HSS ⊢
          by_cases hls : best < sum
          · rw [if_pos hls] at HSS
            have HS := Aside0.mk HSS
            clear HSS
            go_wp2_with fail
            go_roundg (L.length - (kk + 1))
            case measure => omega
            case rel => exact ⟨kk + 1, sum, by omega, by omega, rfl, by go_num, ⟨HS.out.symm⟩, HG7, HM7⟩
          · rw [if_neg hls] at HSS
            have HS := Aside0.mk HSS
            clear HSS
            go_wp2_with fail
            go_roundg (L.length - (kk + 1))
            case measure => omega
            case rel => exact ⟨kk + 1, best, by omega, by omega, rfl, by go_num, ⟨HS.out.symm⟩, HG7, HM7⟩
        · have hk : kk = L.length := by omega
          subst hk
          have hh := HA.out
          rw [List.drop_length, List.foldl_nil] at hh
          obtain ⟨w4, hst, hms, hgs⟩ := Memo.store boardMemo HMr.out (a := a) (b := b) (by omega) (by omega)
          simp only [boardKv, cutV] at hst
          subst hh
          go_wp2_with fail
          go_ret
          exact ⟨rfl, hms, grown_trans (grown_of_below HB3.out _) (grown_trans HG.out hgs)⟩
    · -- it is there
      simp only [boardKv, cutV] at hlook
      have HRES : Aside0 (cutPost l0 tn B a b w = fun e w' => e = .returned (.int .i64 (cvN (whN l0 tn) a b)) ∧ Memo Try.prog 69 boardKl 24 (cutV l0 tn) w' B ∧ w.grownBy w' (some B)) := ⟨rfl⟩
      go_enter Try.func70, Try.ntmps70
      go_wp2_with fail
      go_ret
      exact ⟨rfl, HM.out.below (by repeat (first | exact Below.refl _ _ | apply below_alloc | apply pw_below_drewN)), grown_of_below (by repeat (first | exact Below.refl _ _ | apply below_alloc | apply pw_below_drewN)) _⟩

-- given: loop.example/g01334/impl.cutterOf

theorem cutterOf_calls (A0 : Option Addr) (n c0 : Nat) (tn : Bool) (V : Int → Int → Value) (w : World) :
    Calls Try.prog 69 #[.slice A0 n c0, .bool tn] w fun e w' => ∃ B, e = .returned (.agg #[.slice A0 n c0, .bool tn, .map (some B)]) ∧ Below w.heap.size w w' ∧ w.heap.size ≤ B ∧ Memo Try.prog 69 boardKl 24 V w' B := by
  have hu := Try.underlying80
  have hmm := @run_makeMap Try.prog
  have hh := Memo.made (w.alloc (.cells #[.slice A0 n c0, .bool tn, .map (some (w.heap.size + 1))] 80)) Try.prog 69 boardKl 24 V
  rw [show (w.alloc (.cells #[.slice A0 n c0, .bool tn, .map (some (w.heap.size + 1))] 80)).heap.size = w.heap.size + 1 from by simp] at hh
  have HM := Aside0.mk hh
  clear hh
  go_enter Try.func69, Try.ntmps69
  go_wp2_with fail
  refine bodyPost_ret (results_cell_row rfl _ _ w.heap.size 80 #[.slice A0 n c0, .bool tn, .map (some (w.heap.size + 1))] (0, 0) _ rfl ((heap_alloc_old _ _ (by simp)).trans (heap_alloc_new _ _)) Try.underlying80 rfl (by kernel_rfl)) rfl ?_
  exact ⟨_, rfl, by repeat (first | exact Below.refl _ _ | apply below_alloc | apply pw_below_drewN), by simp, HM.out⟩
theorem cutter_value1 (A0 : Option Addr) (c0 : Nat) (l0 : List S38) (tn : Bool) (B : Nat) (a b : Int) (w : World) (h1 : 1 ≤ a) (h2 : a ≤ 24) (h3 : 1 ≤ b) (h4 : b ≤ 24)
    (hr : Kd.C k38 w A0 l0.length l0) (hm : Memo Try.prog 69 boardKl 24 (cutV l0 tn) w B) :
    Calls Try.prog 70 #[.agg #[.slice A0 l0.length c0, .bool tn, .map (some B)], .agg #[.int .i64 a, .int .i64 b]] w (cutPost l0 tn B a b w) :=
  cutter_value A0 c0 l0 tn B _ a b w (Nat.lt_succ_self _) h1 h2 h3 h4 hr hm

-- given: loop.example/g01334/impl.ValueTable

/-! ### impl_ValueTable: by hand -/
def tabN (l1 : List S38) (a2 : Bool) (a0 : Int) : List Int := (List.range' 1 24).map fun (h : Nat) => cvN (whN l1 a2) a0 (h : Int)
def impl_ValueTable.f (a0 : Int) (l1 : List S38) (a2 : Bool) : Option (List Int × Bool) :=
  (impl_areCut.f a0 1 l1).bind fun p => if p = true then some (tabN l1 a2 a0, true) else some ([], false)
set_option maxHeartbeats 2000000 in
set_option maxRecDepth 100000 in
theorem impl_ValueTable.calls (a0 : Int) (A1 : Option Addr) (c1 : Nat) (l1 : List S38) (a2 : Bool) (r1 : List Int) (r2 : Bool) (w : World) (hr1 : Kd.C k38 w A1 l1.length l1) (hc1 : l1.length ≤ c1) (h : impl_ValueTable.f a0 l1 a2 = some (r1, r2)) :
    Calls Try.prog 41 #[.int .i64 a0, .slice A1 l1.length c1, .bool a2] w fun e w' => ∃ v0_ : Value, e = .returned (.tuple #[v0_, .bool r2]) ∧ Kd.R (Kd.int .i64) 3 w' w.heap.size (fun _ => True) v0_ r1 ∧ Below w.heap.size w w' := by
  have hu := Try.underlying80
  have hu2 := Try.underlying69
  have HR0 := Aside0.mk hr1
  have HC0 := Aside0.mk hc1
  clear hr1 hc1
  cases hp : impl_areCut.f a0 1 l1 with
  | none => simp [impl_ValueTable.f, hp] at h
  | some p =>
    have HP := Aside0.mk hp
    cases p with
    | false =>
      simp [impl_ValueTable.f, hp] at h
      obtain ⟨rfl, rfl⟩ := h
      clear hp
      go_enter Try.func41, Try.ntmps41
      go_wp2_with (go_at_call 68; refine (impl_areCut.calls a0 1 A1 c1 l1 false _ HR0.out HC0.out HP.out).mono ?_; rintro e w1 ⟨rfl, hb1⟩; have HB1 := Aside0.mk hb1; clear hb1)
      go_ret2
      exact ⟨_, rfl, Kd.R_nil _ _ _ _ _, HB1.out⟩
    | true =>
      simp only [impl_ValueTable.f, hp, Option.bind_some, if_true, Option.some.injEq, Prod.mk.injEq] at h
      obtain ⟨rfl, rfl⟩ := h
      clear hp
      have hin := areCut_in HP.out
      have i1 := hin.1.1
      have i2 := hin.1.2
      clear hin
      go_enter Try.func41, Try.ntmps41
      go_wp2_with (first | (go_at_call 68; refine (impl_areCut.calls a0 1 A1 c1 l1 true _ HR0.out HC0.out HP.out).mono ?_; rintro e w1 ⟨rfl, hb1⟩; have HB1 := Aside0.mk hb1; clear hb1) | (go_at_call 69; refine (cutterOf_calls A1 l1.length c1 a2 (cutV l1 a2) _).mono ?_; rintro e w2 ⟨B, rfl, hb2, hB, hm⟩; have HB2 := Aside0.mk (HB1.out.trans (hb2.mono HB1.out.size)); have HBB := Aside0.mk (Nat.le_trans HB1.out.size hB); have HM := Aside0.mk hm; clear hb2 hB hm))
      have HO := Aside0.mk (show Kd.R (Kd.int .i64) 3 ((w2.alloc (.cells #[] 3)).alloc (.cells #[.slice A1 l1.length c1, .bool a2, .map (some B)] 80)) w.heap.size (fun _ => True) (.slice (some ⟨w2.heap.size, 0, none⟩) 0 0) [] from
        ⟨fun _ _ => trivial, [], ⟨rfl, .inr ⟨w2.heap.size, 0, #[], rfl, HB2.out.size, (heap_alloc_old _ _ (by simp)).trans (heap_alloc_new _ _), Nat.le_refl _, Nat.zero_le _, rfl, rfl⟩⟩, Reps.none _ _⟩)
      have hcb : ((w2.alloc (.cells #[] 3)).alloc (.cells #[.slice A1 l1.length c1, .bool a2, .map (some B)] 80)).heap[w2.heap.size + 1]? = some (.cells #[.slice A1 l1.length c1, .bool a2, .map (some B)] 80 (0, 0)) := by
        have hz : (w2.alloc (.cells #[] 3)).heap.size = w2.heap.size + 1 := by simp
        rw [← hz]
        exact heap_alloc_new _ _
      go_loopg [9, 10] 24 (fun gg v9 v10 w' => ∃ (hh : Nat) (out : List Int), v10 = .int .i64 hh ∧ 1 ≤ hh ∧ 25 - hh ≤ gg ∧ Aside0 (out.length + 1 = hh) ∧ hh ≤ 25 ∧ Aside0 (out ++ (List.range' hh (25 - hh)).map (fun (h : Nat) => cvN (whN l1 a2) a0 (h : Int)) = tabN l1 a2 a0)
        ∧ Aside0 (Kd.R (Kd.int .i64) 3 w' w.heap.size (fun _ => True) v9 out) ∧ Aside0 (Below w.heap.size w w') ∧ w'.heap[w2.heap.size + 1]? = some (.cells #[.slice A1 l1.length c1, .bool a2, .map (some B)] 80 (0, 0)) ∧ Aside0 (Memo Try.prog 69 boardKl 24 (cutV l1 a2) w' B) ∧ Aside0 (w2.heap.size + 2 ≤ w'.heap.size))
      case atStart =>
        exact ⟨1, [], rfl, by omega, by omega, ⟨rfl⟩, by omega, ⟨rfl⟩, HO, ⟨HB2.out.trans ((by repeat (first | exact Below.refl _ _ | apply below_alloc | apply pw_below_drewN) : Below w2.heap.size w2 _).mono HB2.out.size)⟩, hcb, ⟨HM.out.below (by repeat (first | exact Below.refl _ _ | apply below_alloc | apply pw_below_drewN))⟩, ⟨by simp⟩⟩
      case round =>
        clear hcb
        obtain ⟨hh, out, rfl, h1, hg, HS, h25, HT, HO, HB, hcb, HM, HZ⟩ := hrel
        by_cases hlt : hh ≤ 24
        · have hltz : (hh : Int) ≤ 24 := by omega
          have HCB := Aside0.mk hcb
          have hneB : w2.heap.size + 1 ≠ B := by
            intro he
            obtain ⟨es, clock, hmm⟩ := HM.out.isMap
            rw [he, hmm] at hcb
            simp at hcb
          clear hcb
          have hstep : out ++ (List.range' hh (25 - hh)).map (fun (h : Nat) => cvN (whN l1 a2) a0 (h : Int)) = (out ++ [cvN (whN l1 a2) a0 (hh : Int)]) ++ (List.range' (hh + 1) (25 - (hh + 1))).map (fun (h : Nat) => cvN (whN l1 a2) a0 (h : Int)) := by
            rw [show 25 - hh = (25 - (hh + 1)) + 1 from by omega, List.range'_succ]
            simp
          rw [HT.out] at hstep
          have HT2 := Aside0.mk hstep.symm
          clear hstep HT
          have j1 : (1 : Int) ≤ (hh : Int) := by omega
          go_wp2_with (first | ((with_reducible refine gate_dst (N := 24) rfl ?_); refine wpList_load_row rfl 80 (.tmp 8) rfl (w2.heap.size + 1) rfl _ _ _ _ HCB.out hu rfl (by kernel_rfl) ?_) | (go_at_call 70; refine (cutter_value1 A1 c1 l1 a2 B a0 (hh : Int) _ i1 i2 j1 hltz (Kd.C_below HR0.out HB.out) HM.out).mono ?_; rintro e w3 ⟨rfl, hm3, hg3⟩; have HCB3 := Aside0.mk ((hg3.block (w2.heap.size + 1) (by have := HZ.out; omega) (by simpa using hneB)).trans HCB.out); have HO3 := Aside0.mk (R_memo HM.out HO.out hg3); have HB3 := Aside0.mk (below_of_grown HB.out HB.out.size HBB.out hg3); have HZ3 := Aside0.mk (Nat.le_trans HZ.out hg3.size); have HM3 := Aside0.mk hm3; clear hm3 hg3) | ((with_reducible refine gate_builtin (b := .append) (xs := #[.tmp 23, .tmp 29]) rfl ?_); at_builtin; refine Kd.R_append (Kd.int .i64) (w0 := w) w.heap.size rfl (.tmp 23) (.tmp 29) 47 3 (.int .i64 0) 8 rfl Try.underlying47 (by kernel_rfl) rfl (by decide) (by omega) u9 out (cvN (whN l1 a2) a0 (hh : Int)) [.int .i64 (cvN (whN l1 a2) a0 (hh : Int))] (fun _ => True) (fun _ => False) rfl rfl rfl (fun _ hk => hk.elim) (fun _ _ => trivial) HO3.out HB3.out HB3.out.size (by have := HS.out; omega) ?_; intro v5 w5 ho hb hg hat; have HO5 := Aside0.mk ho; have HB5 := Aside0.mk hb; have HG5 := Aside0.mk hg; clear ho hb hg hat))
          have hHCB5 := (HG5.out.block (w2.heap.size + 1) (by have := HZ3.out; omega) (Kd.R_ne HO3.out HCB3.out (by decide))).trans HCB3.out
          have HM5 := Aside0.mk (HM3.out.same (HG5.out.block B HM3.out.lt (memo_ne HM3.out HO3.out)))
          have HZ5 := Aside0.mk (Nat.le_trans HZ3.out HG5.out.size)
          go_roundg (24 - hh)
          case measure => omega
          case rel => exact ⟨hh + 1, out ++ [cvN (whN l1 a2) a0 (hh : Int)], by go_num, by omega, by omega, ⟨by have := HS.out; simp; omega⟩, by omega, HT2, HO5, HB5, hHCB5, HM5, HZ5⟩
        · go_wp2_with fail
          go_ret2
          have hend := HT.out
          rw [show 25 - hh = 0 from by omega, List.range'_zero, List.map_nil, List.append_nil] at hend
          rw [← hend]
          exact ⟨_, rfl, HO.out, HB.out⟩

/-! ### laws_eqIntS: function 42 -/
def laws_eqIntS.l0 : Nat → List Int → List Int → Int → Option (Bool)
  | 0, _, _, _ => none
  | k + 1, x0, x1, x5 => if x5 < (x0.length : Int) then (if 0 ≤ x5 then (if x5 < (x1.length : Int) then (if (rd x0 x5) = (rd x1 x5) then (laws_eqIntS.l0 k x0 x1 (wrap64 (x5 + 1))) else (some false)) else (none)) else (none)) else (some true)
def laws_eqIntS.f (k : Nat) (l0 : List Int) (l1 : List Int) : Option (Bool) := if (l0.length : Int) = (l1.length : Int) then (laws_eqIntS.l0 k l0 l1 0) else (some false)
theorem laws_eqIntS.mono_l : ∀ k, (∀ y0 y1 y2, LeO (laws_eqIntS.l0 k y0 y1 y2) (laws_eqIntS.l0 (k + 1) y0 y1 y2))
  | 0 => fun _ _ _ r h => by simp [laws_eqIntS.l0] at h
  | k + 1 => by
    have ih0 := laws_eqIntS.mono_l k
    · intro y0 y1 y2
      unfold laws_eqIntS.l0
      repeat' first
      | (with_reducible exact ih0 _ _ _)
      | (with_reducible exact LeO.refl _)
      | (with_reducible exact LeO.none _)
      | (with_reducible refine LeO.ite ?_ ?_)
      | (with_reducible refine LeO.bind ?_ (fun _ => ?_))
      | exact ih0 _ _ _
      | exact LeO.none _
      | refine LeO.ite ?_ ?_
      | refine LeO.bind ?_ (fun _ => ?_)
theorem laws_eqIntS.mono : ∀ a0 a1 k, LeO (laws_eqIntS.f k a0 a1) (laws_eqIntS.f (k + 1) a0 a1) := by
  intro a0 a1 k
  have ih0 := laws_eqIntS.mono_l k
  unfold laws_eqIntS.f
  repeat' first
      | (with_reducible exact ih0 _ _ _)
      | (with_reducible exact LeO.refl _)
      | (with_reducible exact LeO.none _)
      | (with_reducible refine LeO.ite ?_ ?_)
      | (with_reducible refine LeO.bind ?_ (fun _ => ?_))
      | exact ih0 _ _ _
      | exact LeO.none _
      | refine LeO.ite ?_ ?_
      | refine LeO.bind ?_ (fun _ => ?_)
set_option maxHeartbeats 8000000 in
set_option maxRecDepth 100000 in
theorem laws_eqIntS.calls (k : Nat) (A0 : Option Addr) (c0 : Nat) (l0 : List Int) (A1 : Option Addr) (c1 : Nat) (l1 : List Int) (r : Bool) (w : World) (hr0 : Kd.C (Kd.int .i64) w A0 l0.length l0) (hc0 : l0.length ≤ c0) (hr1 : Kd.C (Kd.int .i64) w A1 l1.length l1) (hc1 : l1.length ≤ c1) (h : laws_eqIntS.f k l0 l1 = some r) :
    Calls Try.prog 42 #[.slice A0 l0.length c0, .slice A1 l1.length c1] w fun e w' => e = .returned (.bool r) ∧ Drawn0 w w' := by
  have HR0 := Aside0.mk hr0
  have HC0 := Aside0.mk hc0
  clear hr0 hc0
  have HR1 := Aside0.mk hr1
  have HC1 := Aside0.mk hc1
  clear hr1 hc1
  have H : (if (l0.length : Int) = (l1.length : Int) then (laws_eqIntS.l0 k l0 l1 0) else (some false)) = some r := h
  clear h
  by_cases c3 : (l0.length : Int) = (l1.length : Int)
  · rw [if_pos c3] at H
    have c3b0 : ((l0.length : Int) == (l1.length : Int)) = true := beq_iff_eq.mpr c3
    have c3b1 : ((l0.length : Int) != (l1.length : Int)) = false := bne_eq_false_iff_eq.mpr c3
    have c3b2 : (l0.length == l1.length) = true := by first | simpa using c3 | (simp at c3 ⊢; omega)
    clear c3
    have H' := Aside0.mk H
    clear H
    go_enter Try.func42, Try.ntmps42
    go_wp2
    repeat (go_quiet (fail); try go_wp2)
    go_loopg [5] k (fun kq v5 w' => ∃ (x5_1 : Int), v5 = .int .i64 x5_1 ∧ Aside0 (laws_eqIntS.l0 kq l0 l1 x5_1 = some r) ∧ Aside0 (kq ≤ k) ∧ Drawn0 w w')
    case atStart => exact ⟨(0), (by first | rfl | (simp; done) | (simp [*]; done)), H', ⟨Nat.le_refl _⟩, by repeat (first | exact Drawn0.refl _ | apply Drawn0.step)⟩
    case round =>
      clear H'
      try clear c1
      try clear p2
      try clear c3
      try clear c3b0
      try clear c3b1
      try clear c3b2
      obtain ⟨x5_1, rfl, HA, HK1, ⟨m1, rfl⟩⟩ := hrel
      cases gk with
      | zero => exact absurd HA.out (by simp [laws_eqIntS.l0])
      | succ k1 =>
        have H := HA.out
        clear HA
        simp only [laws_eqIntS.l0] at H
        by_cases c4 : x5_1 < (l0.length : Int)
        · rw [if_pos c4] at H
          have c4b0 : decide (x5_1 < (l0.length : Int)) = true := decide_eq_true c4
          clear c4
          by_cases c5 : 0 ≤ x5_1
          · rw [if_pos c5] at H
            have c5b0 : decide (0 ≤ x5_1) = true := decide_eq_true c5
            clear c5
            by_cases c6 : x5_1 < (l1.length : Int)
            · rw [if_pos c6] at H
              have c6b0 : decide (x5_1 < (l1.length : Int)) = true := decide_eq_true c6
              clear c6
              by_cases c7 : (rd l0 x5_1) = (rd l1 x5_1)
              · rw [if_pos c7] at H
                have c7b0 : ((rd l0 x5_1) == (rd l1 x5_1)) = true := beq_iff_eq.mpr c7
                have c7b1 : ((rd l0 x5_1) != (rd l1 x5_1)) = false := bne_eq_false_iff_eq.mpr c7
                clear c7
                have H' := Aside0.mk H
                clear H
                have p194 : 0 ≤ (x5_1 : Int) := of_decide_eq_true (by first | (with_reducible assumption) | assumption)
                have q194 : x5_1 < (l0.length : Int) := of_decide_eq_true (by first | (with_reducible assumption) | assumption)
                obtain ⟨ad194, e194, hx194_0⟩ := Kd.at_int HR0.out x5_1 p194 q194
                cases e194
                replace p194 := eq_true p194
                replace q194 := eq_true q194
                have p195 : 0 ≤ (x5_1 : Int) := of_decide_eq_true (by first | (with_reducible assumption) | assumption)
                have q195 : x5_1 < (l1.length : Int) := of_decide_eq_true (by first | (with_reducible assumption) | assumption)
                obtain ⟨ad195, e195, hx195_0⟩ := Kd.at_int HR1.out x5_1 p195 q195
                cases e195
                replace p195 := eq_true p195
                replace q195 := eq_true q195
                go_wp2
                repeat (go_quiet (fail); try go_wp2)
                go_roundg k1
                case measure => have := HK1.out; omega
                case rel => exact ⟨(wrap64 (x5_1 + 1)), (by first | rfl | (simp; done) | (simp [*]; done)), H', ⟨by have := HK1.out; omega⟩, by repeat (first | exact Drawn0.refl _ | apply Drawn0.step)⟩
              · rw [if_neg c7] at H
                have c7b0 : ((rd l0 x5_1) == (rd l1 x5_1)) = false := beq_eq_false_iff_ne.mpr c7
                have c7b1 : ((rd l0 x5_1) != (rd l1 x5_1)) = true := bne_iff_ne.mpr c7
                obtain rfl := Option.some.inj H
                have p194 : 0 ≤ (x5_1 : Int) := of_decide_eq_true (by first | (with_reducible assumption) | assumption)
                have q194 : x5_1 < (l0.length : Int) := of_decide_eq_true (by first | (with_reducible assumption) | assumption)
                obtain ⟨ad194, e194, hx194_0⟩ := Kd.at_int HR0.out x5_1 p194 q194
                cases e194
                replace p194 := eq_true p194
                replace q194 := eq_true q194
                have p195 : 0 ≤ (x5_1 : Int) := of_decide_eq_true (by first | (with_reducible assumption) | assumption)
                have q195 : x5_1 < (l1.length : Int) := of_decide_eq_true (by first | (with_reducible assumption) | assumption)
                obtain ⟨ad195, e195, hx195_0⟩ := Kd.at_int HR1.out x5_1 p195 q195
                cases e195
                replace p195 := eq_true p195
                replace q195 := eq_true q195
                go_wp2
                repeat (go_quiet (fail); try go_wp2)
                go_ret
                exact ⟨by first | rfl | (simp; done) | (simp [*]; done), by repeat (first | exact Drawn0.refl _ | apply Drawn0.step)⟩
            · rw [if_neg c6] at H
              exact absurd H (by simp)
          · rw [if_neg c5] at H
            exact absurd H (by simp)
        · rw [if_neg c4] at H
          have c4b0 : decide (x5_1 < (l0.length : Int)) = false := decide_eq_false c4
          clear c4
          obtain rfl := Option.some.inj H
          go_wp2
          repeat (go_quiet (fail); try go_wp2)
          go_ret
          exact ⟨by first | rfl | (simp; done) | (simp [*]; done), by repeat (first | exact Drawn0.refl _ | apply Drawn0.step)⟩
  · rw [if_neg c3] at H
    have c3b0 : ((l0.length : Int) == (l1.length : Int)) = false := beq_eq_false_iff_ne.mpr c3
    have c3b1 : ((l0.length : Int) != (l1.length : Int)) = true := bne_iff_ne.mpr c3
    have c3b2 : (l0.length == l1.length) = false := by first | simpa using c3 | (simp at c3 ⊢; omega)
    obtain rfl := Option.some.inj H
    go_enter Try.func42, Try.ntmps42
    go_wp2
    repeat (go_quiet (fail); try go_wp2)
    go_ret
    exact ⟨by first | rfl | (simp; done) | (simp [*]; done), by repeat (first | exact Drawn0.refl _ | apply Drawn0.step)⟩

/-! ### laws_markIntS: function 43 -/
def laws_markIntS.l0 : Nat → List Int → Int → Int → Option (Int × List Int)
  | 0, _, _, _ => none
  | k + 1, x0, x1, x5 => if x5 < (x0.length : Int) then (if 0 ≤ x5 then (laws_markIntS.l0 k (x0.set (x5 : Int).toNat x1) (wrap64 (x1 + 1)) (wrap64 (x5 + 1))) else (none)) else (some (x1, x0))
def laws_markIntS.f (k : Nat) (l0 : List Int) (a1 : Int) : Option (Int × List Int) := laws_markIntS.l0 k l0 a1 0
theorem laws_markIntS.mono_l : ∀ k, (∀ y0 y1 y2, LeO (laws_markIntS.l0 k y0 y1 y2) (laws_markIntS.l0 (k + 1) y0 y1 y2))
  | 0 => fun _ _ _ r h => by simp [laws_markIntS.l0] at h
  | k + 1 => by
    have ih0 := laws_markIntS.mono_l k
    · intro y0 y1 y2
      unfold laws_markIntS.l0
      repeat' first
      | (with_reducible exact ih0 _ _ _)
      | (with_reducible exact LeO.refl _)
      | (with_reducible exact LeO.none _)
      | (with_reducible refine LeO.ite ?_ ?_)
      | (with_reducible refine LeO.bind ?_ (fun _ => ?_))
      | exact ih0 _ _ _
      | exact LeO.none _
      | refine LeO.ite ?_ ?_
      | refine LeO.bind ?_ (fun _ => ?_)
theorem laws_markIntS.mono : ∀ a0 a1 k, LeO (laws_markIntS.f k a0 a1) (laws_markIntS.f (k + 1) a0 a1) := by
  intro a0 a1 k
  have ih0 := laws_markIntS.mono_l k
  unfold laws_markIntS.f
  repeat' first
      | (with_reducible exact ih0 _ _ _)
      | (with_reducible exact LeO.refl _)
      | (with_reducible exact LeO.none _)
      | (with_reducible refine LeO.ite ?_ ?_)
      | (with_reducible refine LeO.bind ?_ (fun _ => ?_))
      | exact ih0 _ _ _
      | exact LeO.none _
      | refine LeO.ite ?_ ?_
      | refine LeO.bind ?_ (fun _ => ?_)
set_option maxHeartbeats 8000000 in
set_option maxRecDepth 100000 in
theorem laws_markIntS.calls (k : Nat) (P0_ : Nat → Prop) (u9000_ : Value) (l0 : List Int) (a1 : Int) (r1 : Int) (r2 : List Int) (w0 w : World) (hB : Below w0.heap.size w0 w) (ho0 : Kd.R (Kd.int .i64) 3 w w0.heap.size P0_ u9000_ l0) (h : laws_markIntS.f k l0 a1 = some (r1, r2)) :
    Calls Try.prog 43 #[u9000_, .int .i64 a1] w fun e w' => e = .returned (.int .i64 r1) ∧ Kd.R (Kd.int .i64) 3 w' w0.heap.size (fun k_ => (P0_ k_ ∨ w.heap.size ≤ k_)) u9000_ r2 ∧ Below w0.heap.size w0 w' ∧ Kept w w' (fun k_ => P0_ k_) := by
  have HO0 := Aside0.mk (show Kd.R (Kd.int .i64) 3 w w0.heap.size (fun k_ => (P0_ k_ ∨ w.heap.size ≤ k_)) u9000_ l0 from Kd.R_mono ho0 (fun k_ hk => (.inl hk)))
  have HK := Aside0.mk (Kept.refl w (fun k_ => P0_ k_))
  have HW0 := Aside0.mk hB.size
  have HB := Aside0.mk hB
  clear hB
  have H : (laws_markIntS.l0 k l0 a1 0) = some (r1, r2) := h
  clear h
  have H' := Aside0.mk H
  clear H
  go_enter Try.func43, Try.ntmps43
  go_wp2
  go_loopg [1, 5] k (fun kq v1 v5 w' => ∃ (x0_1 : List Int) (x1_1 : Int) (x5_1 : Int), v1 = .int .i64 x1_1 ∧ v5 = .int .i64 x5_1 ∧ Aside0 (laws_markIntS.l0 kq x0_1 x1_1 x5_1 = some (r1, r2)) ∧ Aside0 (kq ≤ k) ∧ Aside0 (Kd.R (Kd.int .i64) 3 w' w0.heap.size (fun k_ => (P0_ k_ ∨ w.heap.size ≤ k_)) u9000_ x0_1) ∧ Aside0 (Kept w w' (fun k_ => P0_ k_)) ∧ Aside0 (Below w0.heap.size w0 w'))
  case atStart => exact ⟨(l0), (a1), (0), (by first | rfl | (simp; done) | (simp [*]; done)), (by first | rfl | (simp; done) | (simp [*]; done)), H', ⟨Nat.le_refl _⟩, ⟨by (with_reducible repeat (first | apply Kd.R_alloc | apply Kd.R_drewN | apply Kd.R_drew)); exact HO0.out⟩, ⟨by repeat (first | (with_reducible first | exact HK.out | apply Kept.alloc | apply Kept.drewN | apply Kept.drew) | exact HK.out)⟩, ⟨by repeat (first | (with_reducible first | exact HB.out | apply below_alloc | apply pw_below_drewN | apply below_drew1) | exact HB.out)⟩⟩
  case round =>
    clear H'
    try clear p2
    obtain ⟨x0_1, x1_1, x5_1, rfl, rfl, HA, HK1, HO_0, HK, HB⟩ := hrel
    cases gk with
    | zero => exact absurd HA.out (by simp [laws_markIntS.l0])
    | succ k1 =>
      have H := HA.out
      clear HA
      simp only [laws_markIntS.l0] at H
      by_cases c3 : x5_1 < (x0_1.length : Int)
      · rw [if_pos c3] at H
        have c3b0 : decide (x5_1 < (x0_1.length : Int)) = true := decide_eq_true c3
        clear c3
        by_cases c4 : 0 ≤ x5_1
        · rw [if_pos c4] at H
          have c4b0 : decide (0 ≤ x5_1) = true := decide_eq_true c4
          clear c4
          obtain ⟨y196, hy196⟩ : ∃ y_ : List Int, y_ = (x0_1.set (x5_1 : Int).toNat x1_1) := ⟨_, rfl⟩
          replace H : (laws_markIntS.l0 k1 y196 (wrap64 (x1_1 + 1)) (wrap64 (x5_1 + 1))) = some (r1, r2) := by first | (rw [hy196]; with_reducible exact H) | (have H2_ := (Option.bind_some _ _).symm.trans H; rw [hy196]; with_reducible exact H2_) | (have H2_ := (Option.bind_some _ _).symm.trans H; with_reducible exact H2_) | with_reducible exact H | (rw [hy196]; exact H) | exact H
          have Ny196 := Aside0.mk hy196
          clear hy196
          have H' := Aside0.mk H
          clear H
          obtain ⟨Ao6, co6, eo6⟩ := Kd.R_slice HO_0.out
          subst eo6
          have p5 : 0 ≤ (x5_1 : Int) := of_decide_eq_true (by first | (with_reducible assumption) | assumption)
          have q5 : (x5_1 : Int) < ((x0_1.length : Int) : Int) := of_decide_eq_true (by first | (with_reducible assumption) | assumption)
          obtain ⟨go5, co5, eo5, gb5, gl5, cl5, HG5⟩ := Kd.R_form HO_0.out (by omega)
          (first | cases eo5 | (injection eo5 with ea_ en_ ec_; (first | subst ea_ | (injection ea_ with ea_; subst ea_)); subst ec_; clear en_))
          have GB5 := Aside0.mk gb5
          have GG5 := Aside0.mk HG5
          clear gb5 gl5 HG5
          have HMgo5 := Aside0.mk (show (P0_ go5 ∨ w.heap.size ≤ go5) from (HO_0.out.1 _ rfl))
          obtain ⟨hx5_0, hf5_0⟩ := Kd.R_celln 0 HO_0.out (x5_1 : Int) p5 q5
          replace p5 := eq_true p5
          replace q5 := eq_true q5
          have HP7 := Kd.R_putg HO_0.out (x5_1 : Int) x1_1
          go_wp2_with (first | ((with_reducible refine gate_store (t := 3) (p := 15) rfl ?_); refine store_event (t := 3) (p := 15) (v := ?vo_w8) (w1 := (wr.setCell ⟨go5, (x5_1 : Int).toNat, none⟩ (.int .i64 x1_1))) ?hg ?ho ?hn ?hr ?_; (case ho => rfl); (case hg => rfl); (case hn => rfl); (case hr => first | (go_simp; done) | (go_simp; rfl)); intro w8 hw; have hg : wr.grownBy w8 (some go5) := (by rw [hw]; exact HP7.2); have hp_ : Kd.R (Kd.int .i64) 3 w8 w0.heap.size (fun k_ => (P0_ k_ ∨ w.heap.size ≤ k_)) (.slice (some ⟨go5, 0, none⟩) x0_1.length co6) y196 := (by rw [hw, Ny196.out]; exact HP7.1); clear HP7; have n0_ := Aside0.mk (hp_); have n1_ := Aside0.mk ((by rw [hw]; exact below_set (HB.out) GB5.out : Below w0.heap.size w0 w8)); have n2_ := Aside0.mk (Kept.of_grown (S := (fun k_ => P0_ k_)) hg (by repeat (first | (with_reducible first | exact HK.out | apply Kept.alloc | apply Kept.drewN | apply Kept.drew) | exact HK.out)) (fun k_ e_ => (HO_0.out.1 k_ e_))); clear HO_0; clear HB; clear HK; have HO_0 := n0_; have HB := n1_; have HK := n2_; clear n0_ n1_ n2_; clear hg hw hp_))
          go_roundg k1
          case measure => have := HK1.out; omega
          case rel => exact ⟨(y196), (wrap64 (x1_1 + 1)), (wrap64 (x5_1 + 1)), (by first | rfl | (simp; done) | (simp [*]; done)), (by first | rfl | (simp; done) | (simp [*]; done)), H', ⟨by have := HK1.out; omega⟩, ⟨by (with_reducible repeat (first | apply Kd.R_alloc | apply Kd.R_drewN | apply Kd.R_drew)); exact HO_0.out⟩, ⟨by repeat (first | (with_reducible first | exact HK.out | apply Kept.alloc | apply Kept.drewN | apply Kept.drew) | exact HK.out)⟩, ⟨by repeat (first | (with_reducible first | exact HB.out | apply below_alloc | apply pw_below_drewN | apply below_drew1) | exact HB.out)⟩⟩
        · rw [if_neg c4] at H
          exact absurd H (by simp)
      · rw [if_neg c3] at H
        have c3b0 : decide (x5_1 < (x0_1.length : Int)) = false := decide_eq_false c3
        clear c3
        simp only [Option.some.injEq, Prod.mk.injEq] at H
        obtain ⟨rfl, rfl⟩ := H
        obtain ⟨Ao9, co9, eo9⟩ := Kd.R_slice HO_0.out
        subst eo9
        go_wp2
        go_ret
        exact ⟨by first | rfl | (simp [errW_none, errW_some] <;> rfl) | (simp [*, errW_none, errW_some] <;> rfl), by (with_reducible repeat (first | apply Kd.R_alloc | apply Kd.R_drewN | apply Kd.R_drew)); exact HO_0.out, by repeat (first | (with_reducible first | exact HB.out | apply below_alloc | apply pw_below_drewN | apply below_drew1) | exact HB.out), by repeat (first | (with_reducible first | exact HK.out | apply Kept.alloc | apply Kept.drewN | apply Kept.drew) | exact HK.out)⟩

/-! ### laws_heldIntS: function 44 -/
def laws_heldIntS.l0 : Nat → List Int → Int → Int → Option (Int)
  | 0, _, _, _ => none
  | k + 1, x0, x1, x5 => if x5 < (x0.length : Int) then (if 0 ≤ x5 then (if (rd x0 x5) = x1 then (laws_heldIntS.l0 k x0 (wrap64 (x1 + 1)) (wrap64 (x5 + 1))) else (some (-1))) else (none)) else (some x1)
def laws_heldIntS.f (k : Nat) (l0 : List Int) (a1 : Int) : Option (Int) := laws_heldIntS.l0 k l0 a1 0
theorem laws_heldIntS.mono_l : ∀ k, (∀ y0 y1 y2, LeO (laws_heldIntS.l0 k y0 y1 y2) (laws_heldIntS.l0 (k + 1) y0 y1 y2))
  | 0 => fun _ _ _ r h => by simp [laws_heldIntS.l0] at h
  | k + 1 => by
    have ih0 := laws_heldIntS.mono_l k
    · intro y0 y1 y2
      unfold laws_heldIntS.l0
      repeat' first
      | (with_reducible exact ih0 _ _ _)
      | (with_reducible exact LeO.refl _)
      | (with_reducible exact LeO.none _)
      | (with_reducible refine LeO.ite ?_ ?_)
      | (with_reducible refine LeO.bind ?_ (fun _ => ?_))
      | exact ih0 _ _ _
      | exact LeO.none _
      | refine LeO.ite ?_ ?_
      | refine LeO.bind ?_ (fun _ => ?_)
theorem laws_heldIntS.mono : ∀ a0 a1 k, LeO (laws_heldIntS.f k a0 a1) (laws_heldIntS.f (k + 1) a0 a1) := by
  intro a0 a1 k
  have ih0 := laws_heldIntS.mono_l k
  unfold laws_heldIntS.f
  repeat' first
      | (with_reducible exact ih0 _ _ _)
      | (with_reducible exact LeO.refl _)
      | (with_reducible exact LeO.none _)
      | (with_reducible refine LeO.ite ?_ ?_)
      | (with_reducible refine LeO.bind ?_ (fun _ => ?_))
      | exact ih0 _ _ _
      | exact LeO.none _
      | refine LeO.ite ?_ ?_
      | refine LeO.bind ?_ (fun _ => ?_)
set_option maxHeartbeats 8000000 in
set_option maxRecDepth 100000 in
theorem laws_heldIntS.calls (k : Nat) (A0 : Option Addr) (c0 : Nat) (l0 : List Int) (a1 : Int) (r : Int) (w : World) (hr0 : Kd.C (Kd.int .i64) w A0 l0.length l0) (hc0 : l0.length ≤ c0) (h : laws_heldIntS.f k l0 a1 = some r) :
    Calls Try.prog 44 #[.slice A0 l0.length c0, .int .i64 a1] w fun e w' => e = .returned (.int .i64 r) ∧ Drawn0 w w' := by
  have HR0 := Aside0.mk hr0
  have HC0 := Aside0.mk hc0
  clear hr0 hc0
  have H : (laws_heldIntS.l0 k l0 a1 0) = some r := h
  clear h
  have H' := Aside0.mk H
  clear H
  go_enter Try.func44, Try.ntmps44
  go_wp2
  go_loopg [1, 5] k (fun kq v1 v5 w' => ∃ (x1_1 : Int) (x5_1 : Int), v1 = .int .i64 x1_1 ∧ v5 = .int .i64 x5_1 ∧ Aside0 (laws_heldIntS.l0 kq l0 x1_1 x5_1 = some r) ∧ Aside0 (kq ≤ k) ∧ Drawn0 w w')
  case atStart => exact ⟨(a1), (0), (by first | rfl | (simp; done) | (simp [*]; done)), (by first | rfl | (simp; done) | (simp [*]; done)), H', ⟨Nat.le_refl _⟩, by repeat (first | exact Drawn0.refl _ | apply Drawn0.step)⟩
  case round =>
    clear H'
    try clear p2
    obtain ⟨x1_1, x5_1, rfl, rfl, HA, HK1, ⟨m1, rfl⟩⟩ := hrel
    cases gk with
    | zero => exact absurd HA.out (by simp [laws_heldIntS.l0])
    | succ k1 =>
      have H := HA.out
      clear HA
      simp only [laws_heldIntS.l0] at H
      by_cases c3 : x5_1 < (l0.length : Int)
      · rw [if_pos c3] at H
        have c3b0 : decide (x5_1 < (l0.length : Int)) = true := decide_eq_true c3
        clear c3
        by_cases c4 : 0 ≤ x5_1
        · rw [if_pos c4] at H
          have c4b0 : decide (0 ≤ x5_1) = true := decide_eq_true c4
          clear c4
          by_cases c5 : (rd l0 x5_1) = x1_1
          · rw [if_pos c5] at H
            have c5b0 : ((rd l0 x5_1) == x1_1) = true := beq_iff_eq.mpr c5
            have c5b1 : ((rd l0 x5_1) != x1_1) = false := bne_eq_false_iff_eq.mpr c5
            clear c5
            have H' := Aside0.mk H
            clear H
            have p197 : 0 ≤ (x5_1 : Int) := of_decide_eq_true (by first | (with_reducible assumption) | assumption)
            have q197 : x5_1 < (l0.length : Int) := of_decide_eq_true (by first | (with_reducible assumption) | assumption)
            obtain ⟨ad197, e197, hx197_0⟩ := Kd.at_int HR0.out x5_1 p197 q197
            cases e197
            replace p197 := eq_true p197
            replace q197 := eq_true q197
            go_wp2
            go_roundg k1
            case measure => have := HK1.out; omega
            case rel => exact ⟨(wrap64 (x1_1 + 1)), (wrap64 (x5_1 + 1)), (by first | rfl | (simp; done) | (simp [*]; done)), (by first | rfl | (simp; done) | (simp [*]; done)), H', ⟨by have := HK1.out; omega⟩, by repeat (first | exact Drawn0.refl _ | apply Drawn0.step)⟩
          · rw [if_neg c5] at H
            have c5b0 : ((rd l0 x5_1) == x1_1) = false := beq_eq_false_iff_ne.mpr c5
            have c5b1 : ((rd l0 x5_1) != x1_1) = true := bne_iff_ne.mpr c5
            obtain rfl := Option.some.inj H
            have p197 : 0 ≤ (x5_1 : Int) := of_decide_eq_true (by first | (with_reducible assumption) | assumption)
            have q197 : x5_1 < (l0.length : Int) := of_decide_eq_true (by first | (with_reducible assumption) | assumption)
            obtain ⟨ad197, e197, hx197_0⟩ := Kd.at_int HR0.out x5_1 p197 q197
            cases e197
            replace p197 := eq_true p197
            replace q197 := eq_true q197
            go_wp2
            go_ret
            exact ⟨by first | rfl | (simp; done) | (simp [*]; done), by repeat (first | exact Drawn0.refl _ | apply Drawn0.step)⟩
        · rw [if_neg c4] at H
          exact absurd H (by simp)
      · rw [if_neg c3] at H
        have c3b0 : decide (x5_1 < (l0.length : Int)) = false := decide_eq_false c3
        clear c3
        obtain rfl := Option.some.inj H
        go_wp2
        go_ret
        exact ⟨by first | rfl | (simp; done) | (simp [*]; done), by repeat (first | exact Drawn0.refl _ | apply Drawn0.step)⟩

end Go.Proofs.Ytfpgnnllohhmfaa.Q

-- Written by the session's program wip/myprint.py (over the kit's print); the given parts by hand.
import Derived.Test.YtfpgnnllohhmfaaQ0
import Derived.Test.YtfpgnnllohhmfaaQ8
import Derived.Test.YtfpgnnllohhmfaaQ14
import Derived.Test.YtfpgnnllohhmfaaQ15
import Derived.Test.YtfpgnnllohhmfaaQ16
namespace Go.Proofs.Ytfpgnnllohhmfaa.Q
open Go.RowKit Go.Proofs.YtfpgnnllohhmfaaW.PrintWords Go.Proofs.YtfpgnnllohhmfaaW.PrintLast Go.Proofs.YtfpgnnllohhmfaaW.PrintMore
attribute [local go_sem] max2_int min2_int max_two min_two max_three min_three max_four min_four   -- for this text's walks alone
set_option linter.unusedVariables false
set_option linter.unusedSimpArgs false

-- given: (loop.example/g01334/impl.cutter).value

/-! ### (cutter).value: by hand -/
def cvF (wh : Int → Int → Int) : Nat → Int → Int → Int
  | 0, _, _ => 0
  | k + 1, a, b => (cutsL a.toNat b.toNat 2).foldl (fun best c => mx best (wrap64 (cvF wh k (partsOf a b c).1.1 (partsOf a b c).1.2 + cvF wh k (partsOf a b c).2.1 (partsOf a b c).2.2))) (wh a b)
def cvN (wh : Int → Int → Int) (a b : Int) : Int := cvF wh (a + b).toNat a b
theorem foldl_same {α β : Type} (f g : β → α → β) (l : List α) (h : ∀ x ∈ l, ∀ y, f y x = g y x) : ∀ z, l.foldl f z = l.foldl g z := by
  induction l with
  | nil => intro z; rfl
  | cons x l ih =>
    intro z
    rw [List.foldl_cons, List.foldl_cons, h x (by simp) z]
    exact ih (fun y hy => h y (by simp [hy])) _
theorem cvF_more (wh : Int → Int → Int) (k : Nat) : ∀ a b : Int, 1 ≤ a → 1 ≤ b → a + b ≤ (k : Int) → cvF wh (k + 1) a b = cvF wh k a b := by
  induction k with
  | zero => intro a b h1 h2 h3; omega
  | succ k ih =>
    intro a b h1 h2 h3
    rw [cvF, cvF]
    refine foldl_same _ _ _ (fun c hc best => ?_) _
    have hp := partsOf_in a b 2 h1 h2 c hc
    rw [ih _ _ hp.1.1 hp.1.2.2.1 (by omega), ih _ _ hp.2.1 hp.2.2.2.1 (by omega)]
theorem cvF_eq (wh : Int → Int → Int) (d : Nat) : ∀ (k : Nat) (a b : Int), 1 ≤ a → 1 ≤ b → k = (a + b).toNat + d → cvF wh k a b = cvN wh a b := by
  induction d with
  | zero => intro k a b _ _ hk; rw [hk]; rfl
  | succ d ih =>
    intro k a b h1 h2 hk
    obtain ⟨q, rfl⟩ : ∃ q, k = q + 1 := ⟨k - 1, by omega⟩
    rw [cvF_more wh q a b h1 h2 (by omega)]
    exact ih q a b h1 h2 (by omega)
def cvStep (wh : Int → Int → Int) (a b : Int) (best : Int) (c : S63) : Int := mx best (wrap64 (cvN wh (partsOf a b c).1.1 (partsOf a b c).1.2 + cvN wh (partsOf a b c).2.1 (partsOf a b c).2.2))
theorem cvN_eq (wh : Int → Int → Int) (a b : Int) (h1 : 1 ≤ a) (h2 : 1 ≤ b) : cvN wh a b = (cutsL a.toNat b.toNat 2).foldl (cvStep wh a b) (wh a b) := by
  obtain ⟨q, hq⟩ : ∃ q, (a + b).toNat = q + 1 := ⟨(a + b).toNat - 1, by omega⟩
  unfold cvN
  rw [hq, cvF]
  refine foldl_same _ _ _ (fun c hc best => ?_) _
  have hp := partsOf_in a b 2 h1 h2 c hc
  unfold cvStep
  rw [cvF_eq wh (q - ((partsOf a b c).1.1 + (partsOf a b c).1.2).toNat) q _ _ hp.1.1 hp.1.2.2.1 (by omega), cvF_eq wh (q - ((partsOf a b c).2.1 + (partsOf a b c).2.2).toNat) q _ _ hp.2.1 hp.2.2.2.1 (by omega)]
theorem boardMemo : MemoK Try.prog 71 69 3 boardKv boardKl (.int .i64 0) 24 where
  law := Go.Maps.Keyed.of_law (deep_law_laid boardLaid (m := 2) (by omega) (of_decide_eq_true (by kernel_rfl)) (by kernel_rfl) (by rw [Try.underlying69]))
  ht := Try.underlying71
  key a b ha ha' hb hb' := boardKey a b ha ha' hb hb'
  kinj a b c d h := by simp [boardKv] at h; exact h
  zero w := by kernel_rfl
  small := by omega
def whN (l0 : List S38) (tn : Bool) (a b : Int) : Int := (wholeN a b tn l0 0 0 (-1)).1
def cutV (l0 : List S38) (tn : Bool) (a b : Int) : Value := .int .i64 (cvN (whN l0 tn) a b)
def cutPost (l0 : List S38) (tn : Bool) (B : Nat) (a b : Int) (w : World) (e : Ending) (w' : World) : Prop := e = .returned (.int .i64 (cvN (whN l0 tn) a b)) ∧ Memo Try.prog 69 boardKl 24 (cutV l0 tn) w' B ∧ w.grownBy w' (some B)
/-- a row that is read is as it was, where a map's block alone has changed -/
theorem C_map {α : Type} {d : Kd α} {w w' : World} {B : Nat} {A : Option Addr} {n : Nat} {xs : List α} (hK : ∀ {x cs}, d.K w x cs → d.K w' x cs) (hr : d.C w A n xs) (hs : 0 < d.sz) (hm : ∃ es clock, w.heap[B]? = some (.map es clock)) (hg : w.grownBy w' (some B)) : d.C w' A n xs := by
  refine ⟨hr.1, hr.2.1, fun hn => ?_⟩
  obtain ⟨ad, e, hc⟩ := hr.2.2 hn
  obtain ⟨es, clock, hh⟩ := hm
  refine ⟨ad, e, fun j p hj => ?_⟩
  obtain ⟨c, h1, h2, h3⟩ := hc j p hj
  refine ⟨c, h1, hK h2, fun i u hu => ?_⟩
  have h4 := h3 i u hu
  have hb : (ad.add (j * d.sz + i)).block ≠ B := by
    intro hb
    unfold World.cell? at h4
    rw [hb, hh] at h4
    simp at h4
  rw [← h4]
  unfold World.cell?
  rw [hg.block _ (World.block_lt_of_cell? w _ h4) (by simpa using hb)]
theorem Memo.isMap {P : Program} {k : TypeId} {kl : Int → Int → Lit} {N : Nat} {V : Int → Int → Value} {w : World} {B : Nat} (h : Memo P k kl N V w B) : ∃ es clock, w.heap[B]? = some (.map es clock) := by
  obtain ⟨D, ⟨es, clock, hh, _⟩, _⟩ := h
  exact ⟨es, clock, hh⟩
theorem grown_at {w w' : World} {B : Nat} {a : Addr} {v : Value} (hm : ∃ es clock, w.heap[B]? = some (.map es clock)) (hg : w.grownBy w' (some B)) (h : w.cell? a = some v) : w'.cell? a = some v := by
  obtain ⟨es, clock, hh⟩ := hm
  have hb : a.block ≠ B := by
    intro hb
    unfold World.cell? at h
    rw [hb, hh] at h
    simp at h
  rw [← h]
  unfold World.cell?
  rw [hg.block _ (World.block_lt_of_cell? w _ h) (by simpa using hb)]
theorem k38_any {w w' : World} {x : S38} {cs : List Value} (h : k38.K w x cs) : k38.K w' x cs := h
theorem parts_is (a b : Int) (c : S63) (ha : 1 ≤ a) (ha' : a ≤ 24) (hb : 1 ≤ b) (hb' : b ≤ 24) (hc : 1 ≤ c.f1) (hc' : c.f1 ≤ 24) :
    impl_board_parts.f a b c.f0 c.f1 = some ((partsOf a b c).1.1, (partsOf a b c).1.2, (partsOf a b c).2.1, (partsOf a b c).2.2) := by
  unfold impl_board_parts.f partsOf
  rw [cuts_w64 (by omega) (by omega), cuts_w64 (by omega) (by omega)]
  cases c.f0 <;> rfl
set_option maxHeartbeats 2000000 in
set_option maxRecDepth 100000 in
theorem cutter_value (A0 : Option Addr) (c0 : Nat) (l0 : List S38) (tn : Bool) (B : Nat) (n : Nat) : ∀ (a b : Int) (w : World), (a + b).toNat < n → 1 ≤ a → a ≤ 24 → 1 ≤ b → b ≤ 24 →
    Kd.C k38 w A0 l0.length l0 → Memo Try.prog 69 boardKl 24 (cutV l0 tn) w B →
    Calls Try.prog 70 #[.agg #[.slice A0 l0.length c0, .bool tn, .map (some B)], .agg #[.int .i64 a, .int .i64 b]] w (cutPost l0 tn B a b w) := by
  have hu := Try.underlying80
  have hu2 := Try.underlying69
  have hu3 := Try.underlying63
  induction n with
  | zero => intro a b w h1; omega
  | succ n ih =>
    intro a b w hn ha ha' hb hb' hr hm
    have HR := Aside0.mk hr
    have HM := Aside0.mk hm
    have IH := Aside0.mk ih
    have hBlt := hm.lt
    have HM2 := Aside0.mk (hm.below (below_alloc (below_alloc (Below.refl w.heap.size w) (.cells #[.slice A0 l0.length c0, .bool tn, .map (some B)] 80)) (.cells #[.int .i64 a, .int .i64 b] 69)))
    clear hr hm ih
    rcases Memo.look boardMemo HM2.out (a := a) (b := b) (by omega) (by omega) with hlook | hlook
    · -- it is not there
      simp only [boardKv] at hlook
      go_enter Try.func70, Try.ntmps70
      go_wp2_with fail
      refine (cutter_whole A0 c0 l0 tn (some B) a b _ (Kd.C_below HR.out ?b0)).mono ?_
      case b0 => repeat (first | exact Below.refl _ _ | apply below_alloc | apply pw_below_drewN)
      rintro e w2 ⟨rfl, hb2⟩
      have hc0 : w2.cell? ⟨w.heap.size, 0, none⟩ = some (.slice A0 l0.length c0) := (hb2.cell (by simp; omega)).trans (by simp)
      have hc1 : w2.cell? ⟨w.heap.size, 1, none⟩ = some (.bool tn) := (hb2.cell (by simp; omega)).trans (by simp)
      have hc2 : w2.cell? ⟨w.heap.size, 2, none⟩ = some (.map (some B)) := (hb2.cell (by simp; omega)).trans (by simp)
      have hd0 : w2.cell? ⟨w.heap.size + 1, 0, none⟩ = some (.int .i64 a) := (hb2.cell (by simp)).trans (by simp)
      have hd1 : w2.cell? ⟨w.heap.size + 1, 1, none⟩ = some (.int .i64 b) := (hb2.cell (by simp)).trans (by simp)
      have HB2 := Aside0.mk (show Below w.heap.size w w2 from (show Below w.heap.size w ((w.alloc (.cells #[.slice A0 l0.length c0, .bool tn, .map (some B)] 80)).alloc (.cells #[.int .i64 a, .int .i64 b] 69)) by repeat (first | exact Below.refl _ _ | apply below_alloc | apply pw_below_drewN)).trans (hb2.mono (by simp; omega)))
      clear hb2 hlook HM2
      have hcuts := cuts_is a.toNat b.toNat 2 (by omega) (by omega) (by omega) (by omega)
      rw [show ((a.toNat : Nat) : Int) = a from by omega, show ((b.toNat : Nat) : Int) = b from by omega] at hcuts
      have HCUTS := Aside0.mk hcuts
      clear hcuts
      go_wp2_with fail
      refine (impl_board_cuts.calls 100 a b 2 _ _ HCUTS.out).mono ?_
      rintro e w3 ⟨v, rfl, hR, hb3⟩
      obtain ⟨AC, cc, rfl, hlc, hC⟩ := Kd.R_reads hR
      have HC := Aside0.mk hC
      have hc0' := (hb3.cell (World.block_lt_of_cell? w2 _ hc0)).trans hc0
      have hc1' := (hb3.cell (World.block_lt_of_cell? w2 _ hc1)).trans hc1
      have hc2' := (hb3.cell (World.block_lt_of_cell? w2 _ hc2)).trans hc2
      have hd0' := (hb3.cell (World.block_lt_of_cell? w2 _ hd0)).trans hd0
      have hd1' := (hb3.cell (World.block_lt_of_cell? w2 _ hd1)).trans hd1
      have HB3 := Aside0.mk (HB2.out.trans (hb3.mono HB2.out.size))
      have HM3 := Aside0.mk (HM.out.below HB3.out)
      have HFOLD := Aside0.mk (cvN_eq (whN l0 tn) a b ha hb)
      have HMEM := Aside0.mk (partsOf_in a b 2 ha hb)
      have hlen := cutsL_len a.toNat b.toNat 2 (by omega) (by omega)
      have HBL := Aside0.mk (Nat.lt_of_lt_of_le hBlt HB3.out.size)
      rw [show (2 : Int).toNat = 2 from rfl] at HMEM
      generalize cutsL a.toNat b.toNat 2 = L at HC HFOLD HMEM hlen hlc ⊢
      clear hc0 hc1 hc2 hd0 hd1 hR hC hb3 HB2 HCUTS hlc
      have HC0 := Aside0.mk hc0'
      have HC1 := Aside0.mk hc1'
      have HC2 := Aside0.mk hc2'
      have HD0 := Aside0.mk hd0'
      have HD1 := Aside0.mk hd1'
      clear hc0' hc1' hc2'
      go_wp2_with fail
      go_loopg [7, 31] L.length (fun gg v7 v31 wr => ∃ (kk : Nat) (best : Int), kk ≤ L.length ∧ L.length - kk ≤ gg ∧ v7 = .int .i64 best ∧ v31 = .int .i64 kk ∧ Aside0 ((L.drop kk).foldl (cvStep (whN l0 tn) a b) best = cvN (whN l0 tn) a b) ∧ Aside0 (w3.grownBy wr (some B)) ∧ Aside0 (Memo Try.prog 69 boardKl 24 (cutV l0 tn) wr B))
      case atStart => exact ⟨0, whN l0 tn a b, Nat.zero_le _, by omega, rfl, rfl, ⟨HFOLD.out.symm⟩, ⟨grown_of_below (Below.refl _ _) _⟩, HM3⟩
      case round =>
        clear hd0' hd1'
        obtain ⟨kk, best, hkk, hg, rfl, rfl, HA, HG, HMr⟩ := hrel
        have hMap := HM3.out.isMap
        have c0r := grown_at hMap HG.out HC0.out
        have c1r := grown_at hMap HG.out HC1.out
        have c2r := grown_at hMap HG.out HC2.out
        have d0r := grown_at hMap HG.out HD0.out
        have d1r := grown_at hMap HG.out HD1.out
        by_cases hlt : kk < L.length
        · have hltz : (kk : Int) < (L.length : Int) := by omega
          obtain ⟨ad, rfl, hx0, hx1⟩ := at_T63 HC.out (kk : Int) (by omega) hltz
          rw [show rd_T63 L (kk : Int) = L[kk] by simp [rd_T63, hlt], Int.toNat_natCast] at hx0 hx1
          have hy0 := grown_at hMap HG.out hx0
          have hy1 := grown_at hMap HG.out hx1
          have hstep : (L.drop kk).foldl (cvStep (whN l0 tn) a b) best = (L.drop (kk + 1)).foldl (cvStep (whN l0 tn) a b) (cvStep (whN l0 tn) a b best L[kk]) := by
            rw [List.drop_eq_getElem_cons hlt, List.foldl_cons]
          rw [HA.out] at hstep
          have hmem := HMEM.out L[kk] (List.getElem_mem hlt)
          generalize hcc : L[kk] = c at hy0 hy1 hstep hmem
          clear hcc hx0 hx1 HA hMap
          have hcin : 1 ≤ c.f1 ∧ c.f1 ≤ 24 := by
            have h1 := hmem
            unfold partsOf at h1
            cases hcf : c.f0 <;> rw [hcf] at h1 <;> simp at h1 <;> omega
          have HPARTS := Aside0.mk (parts_is a b c ha ha' hb hb' hcin.1 hcin.2)
          unfold cvStep at hstep
          generalize partsOf a b c = p at HPARTS hmem hstep
          obtain ⟨⟨p1, p2⟩, q1, q2⟩ := p
          simp only at hmem HPARTS hstep
          have HS := Aside0.mk hstep
          clear hstep hcin
          have lift : ∀ {ad : Addr} {v : Value}, wr.cell? ad = some v → (wr.alloc (.cells #[.bool c.f0, .int .i64 c.f1] 63)).cell? ad = some v := fun h => ((below_alloc (Below.refl _ _) _).cell (World.block_lt_of_cell? wr _ h)).trans h
          replace c0r := lift c0r
          replace c1r := lift c1r
          replace c2r := lift c2r
          replace d0r := lift d0r
          replace d1r := lift d1r
          clear lift
          go_wp2_with (go_at_call 65; refine (impl_board_parts.calls a b c.f0 c.f1 _ _ _ _ _ HPARTS.out).mono ?_; rintro e w5 ⟨rfl, hb5⟩; have HB5 := Aside0.mk hb5; clear hb5)
          have c0s := (HB5.out.cell (World.block_lt_of_cell? _ _ c0r)).trans c0r
          have c1s := (HB5.out.cell (World.block_lt_of_cell? _ _ c1r)).trans c1r
          have c2s := (HB5.out.cell (World.block_lt_of_cell? _ _ c2r)).trans c2r
          have lift : ∀ {ad : Addr} {v : Value}, w5.cell? ad = some v → ((w5.alloc (.cells #[.int .i64 p1, .int .i64 p2] 69)).alloc (.cells #[.int .i64 q1, .int .i64 q2] 69)).cell? ad = some v := fun h => ((below_alloc (below_alloc (Below.refl _ _) _) _).cell (World.block_lt_of_cell? w5 _ h)).trans h
          replace c0s := lift c0s
          replace c1s := lift c1s
          replace c2s := lift c2s
          have o0 : ((w5.alloc (.cells #[.int .i64 p1, .int .i64 p2] 69)).alloc (.cells #[.int .i64 q1, .int .i64 q2] 69)).cell? ⟨w5.heap.size, 0, none⟩ = some (.int .i64 p1) := by simp
          have o1 : ((w5.alloc (.cells #[.int .i64 p1, .int .i64 p2] 69)).alloc (.cells #[.int .i64 q1, .int .i64 q2] 69)).cell? ⟨w5.heap.size, 1, none⟩ = some (.int .i64 p2) := by simp
          have t0 : ((w5.alloc (.cells #[.int .i64 p1, .int .i64 p2] 69)).alloc (.cells #[.int .i64 q1, .int .i64 q2] 69)).cell? ⟨w5.heap.size + 1, 0, none⟩ = some (.int .i64 q1) := by simp
          have t1 : ((w5.alloc (.cells #[.int .i64 p1, .int .i64 p2] 69)).alloc (.cells #[.int .i64 q1, .int .i64 q2] 69)).cell? ⟨w5.heap.size + 1, 1, none⟩ = some (.int .i64 q2) := by simp
          have hB9 : Below wr.heap.size wr ((w5.alloc (.cells #[.int .i64 p1, .int .i64 p2] 69)).alloc (.cells #[.int .i64 q1, .int .i64 q2] 69)) := by
            have hbx : Below wr.heap.size wr w5 := (below_alloc (Below.refl wr.heap.size wr) _).trans (HB5.out.mono (by simp))
            exact below_alloc (below_alloc hbx _) _
          have HM9 := Aside0.mk (HMr.out.below hB9)
          have HG9 := Aside0.mk (grown_trans HG.out (grown_of_below hB9 B))
          generalize (w5.alloc (.cells #[.int .i64 p1, .int .i64 p2] 69)).alloc (.cells #[.int .i64 q1, .int .i64 q2] 69) = W9 at c0s c1s c2s o0 o1 t0 t1 HM9 HG9 ⊢
          clear hB9 lift c0r c1r c2r d0r d1r hy0 hy1 HMr HG
          have HR9 := Aside0.mk (C_map k38_any (Kd.C_below HR.out HB3.out) (by decide) HM3.out.isMap HG9.out)
          have HH : Aside0 (∀ w', W9.grownBy w' (some B) → Memo Try.prog 69 boardKl 24 (cutV l0 tn) w' B → (w'.cell? ⟨w.heap.size, 0, none⟩ = some (.slice A0 l0.length c0) ∧ w'.cell? ⟨w.heap.size, 1, none⟩ = some (.bool tn) ∧ w'.cell? ⟨w.heap.size, 2, none⟩ = some (.map (some B)) ∧ w'.cell? ⟨w5.heap.size, 0, none⟩ = some (.int .i64 p1) ∧ w'.cell? ⟨w5.heap.size, 1, none⟩ = some (.int .i64 p2) ∧ w'.cell? ⟨w5.heap.size + 1, 0, none⟩ = some (.int .i64 q1) ∧ w'.cell? ⟨w5.heap.size + 1, 1, none⟩ = some (.int .i64 q2))) :=
            ⟨fun w' hg hm => ⟨grown_at HM9.out.isMap hg c0s, grown_at HM9.out.isMap hg c1s, grown_at HM9.out.isMap hg c2s, grown_at HM9.out.isMap hg o0, grown_at HM9.out.isMap hg o1, grown_at HM9.out.isMap hg t0, grown_at HM9.out.isMap hg t1⟩⟩
          clear c0s c1s c2s o0 o1 t0 t1
          have hs1 : (p1 + p2).toNat < n := by omega
          have hs2 : p1 ≤ 24 := by omega
          have hs3 : p2 ≤ 24 := by omega
          have hs4 : (q1 + q2).toNat < n := by omega
          have hs5 : q1 ≤ 24 := by omega
          have hs6 : q2 ≤ 24 := by omega
          have hsz : 0 < k38.sz := by decide
          go_region_held3 (fun w' => w'.cell? ⟨w.heap.size, 0, none⟩ = some (.slice A0 l0.length c0) ∧ w'.cell? ⟨w.heap.size, 1, none⟩ = some (.bool tn) ∧ w'.cell? ⟨w.heap.size, 2, none⟩ = some (.map (some B)) ∧ w'.cell? ⟨w5.heap.size, 0, none⟩ = some (.int .i64 p1) ∧ w'.cell? ⟨w5.heap.size, 1, none⟩ = some (.int .i64 p2) ∧ w'.cell? ⟨w5.heap.size + 1, 0, none⟩ = some (.int .i64 q1) ∧ w'.cell? ⟨w5.heap.size + 1, 1, none⟩ = some (.int .i64 q2))
            (first | exact HH.out _ (grown_of_below (below_drew (Below.refl _ _)) _) (HM9.out.below (below_drew (Below.refl _ _))) | exact HH.out _ hg7 hm7 | exact HH.out _ hg6 hm6)
            (first | (go_at_call_of 70 (Value.agg #[Value.int IntKind.i64 p1, Value.int IntKind.i64 p2]); refine (IH.out p1 p2 _ hs1 hmem.1.1 hs2 hmem.1.2.2.1 hs3 (Kd.C_below HR9.out (below_drew (Below.refl _ _))) (HM9.out.below (below_drew (Below.refl _ _)))).mono ?_; rintro e w6 ⟨rfl, hm6, hg6'⟩; have hg6 := grown_trans (grown_of_below (below_drew (Below.refl _ _)) B) hg6') | (go_at_call_of 70 (Value.agg #[Value.int IntKind.i64 q1, Value.int IntKind.i64 q2]); refine (IH.out q1 q2 _ hs4 hmem.2.1 hs5 hmem.2.2.2.1 hs6 (C_map k38_any HR9.out hsz HM9.out.isMap hg6) hm6).mono ?_; rintro e w7 ⟨rfl, hm7, hg7'⟩; have hg7 := grown_trans hg6 hg7'))
          have hwrap : IntKind.i64.wrap (cvN (whN l0 tn) p1 p2 + cvN (whN l0 tn) q1 q2) = wrap64 (cvN (whN l0 tn) p1 p2 + cvN (whN l0 tn) q1 q2) := by simp only [i64_w]
          have HSS := HS.out
          unfold mx at HSS
          have HG7 := Aside0.mk (grown_trans HG9.out hg7)
          have HM7 := Aside0.mk hm7
          rw [← hwrap] at HSS
          clear hg6 hm6 hg7 hm7 hwrap HS
          generalize IntKind.i64.wrap (cvN (whN l0 tn) p1 p2 + cvN (whN l0 tn) q1 q2) = sum at HSS ⊢
          by_cases hls : best < sum
          · rw [if_pos hls] at HSS
            have HS := Aside0.mk HSS
            clear HSS
            go_wp2_with fail
            go_roundg (L.length - (kk + 1))
            case measure => omega
            case rel => exact ⟨kk + 1, sum, by omega, by omega, rfl, by go_num, ⟨HS.out.symm⟩, HG7, HM7⟩
          · rw [if_neg hls] at HSS
            have HS := Aside0.mk HSS
            clear HSS
            go_wp2_with fail
            go_roundg (L.length - (kk + 1))
            case measure => omega
            case rel => exact ⟨kk + 1, best, by omega, by omega, rfl, by go_num, ⟨HS.out.symm⟩, HG7, HM7⟩
        · have hk : kk = L.length := by omega
          subst hk
          have hh := HA.out
          rw [List.drop_length, List.foldl_nil] at hh
          obtain ⟨w4, hst, hms, hgs⟩ := Memo.store boardMemo HMr.out (a := a) (b := b) (by omega) (by omega)
          simp only [boardKv, cutV] at hst
          subst hh
          go_wp2_with fail
          go_ret
          exact ⟨rfl, hms, grown_trans (grown_of_below HB3.out _) (grown_trans HG.out hgs)⟩
    · -- it is there
      simp only [boardKv, cutV] at hlook
      have HRES : Aside0 (cutPost l0 tn B a b w = fun e w' => e = .returned (.int .i64 (cvN (whN l0 tn) a b)) ∧ Memo Try.prog 69 boardKl 24 (cutV l0 tn) w' B ∧ w.grownBy w' (some B)) := ⟨rfl⟩
      go_enter Try.func70, Try.ntmps70
      go_wp2_with fail
      go_ret
      exact ⟨rfl, HM.out.below (by repeat (first | exact Below.refl _ _ | apply below_alloc | apply pw_below_drewN)), grown_of_below (by repeat (first | exact Below.refl _ _ | apply below_alloc | apply pw_below_drewN)) _⟩

end Go.Proofs.Ytfpgnnllohhmfaa.Q

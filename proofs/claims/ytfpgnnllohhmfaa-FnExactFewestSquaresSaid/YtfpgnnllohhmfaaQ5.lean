-- Written by the session's program wip/myprint.py (over the kit's print); the given parts by hand.
import Derived.Test.YtfpgnnllohhmfaaQ0
import Derived.Test.YtfpgnnllohhmfaaQ3
import Derived.Test.YtfpgnnllohhmfaaQ4
namespace Go.Proofs.Ytfpgnnllohhmfaa.Q
open Go.RowKit Go.Proofs.YtfpgnnllohhmfaaW.PrintWords Go.Proofs.YtfpgnnllohhmfaaW.PrintLast Go.Proofs.YtfpgnnllohhmfaaW.PrintMore
attribute [local go_sem] max2_int min2_int max_two min_two max_three min_three max_four min_four   -- for this text's walks alone
set_option linter.unusedVariables false
set_option linter.unusedSimpArgs false

-- given: (loop.example/g01334/impl.squares).of
/-! ### (squares).of: by hand -/
def sqF : Nat → Int → Int → Int × S63
  | 0, _, _ => (0, ⟨false, 0⟩)
  | k + 1, a, b => if a = b then (1, ⟨false, 0⟩) else (cutsL a.toNat b.toNat 1).foldl (fun acc c => if acc.1 = 0 ∨ wrap64 ((sqF k (partsOf a b c).1.1 (partsOf a b c).1.2).1 + (sqF k (partsOf a b c).2.1 (partsOf a b c).2.2).1) < acc.1 then (wrap64 ((sqF k (partsOf a b c).1.1 (partsOf a b c).1.2).1 + (sqF k (partsOf a b c).2.1 (partsOf a b c).2.2).1), c) else acc) (0, ⟨false, 0⟩)
theorem sqfoldl_same {α β : Type} (f g : β → α → β) (l : List α) (h : ∀ x ∈ l, ∀ b, f b x = g b x) : ∀ b, l.foldl f b = l.foldl g b := by
  induction l with
  | nil => intro b; rfl
  | cons x l ih =>
    intro b
    rw [List.foldl_cons, List.foldl_cons, h x (by simp), ih (fun y hy => h y (by simp [hy]))]
theorem sqF_eq (j : Nat) : ∀ (k : Nat) (a b : Int), 1 ≤ a → 1 ≤ b → (a + b).toNat + j = k → sqF k a b = sqF (a + b).toNat a b := by
  intro k
  induction k using Nat.strongRecOn generalizing j with
  | ind k ih =>
    intro a b ha hb hk
    obtain ⟨q, hq⟩ : ∃ q, (a + b).toNat = q + 1 := ⟨(a + b).toNat - 1, by omega⟩
    obtain ⟨p, rfl⟩ : ∃ p, k = p + 1 := ⟨k - 1, by omega⟩
    rw [hq, sqF, sqF]
    by_cases hab : a = b
    · rw [if_pos hab, if_pos hab]
    · rw [if_neg hab, if_neg hab]
      refine sqfoldl_same _ _ _ (fun c hc acc => ?_) _
      have hp := partsOf_in a b 1 ha hb c hc
      have e1 : ∀ m, (a + b).toNat ≤ m + 1 → m < p + 1 → sqF m (partsOf a b c).1.1 (partsOf a b c).1.2 = sqF ((partsOf a b c).1.1 + (partsOf a b c).1.2).toNat (partsOf a b c).1.1 (partsOf a b c).1.2 := fun m h1 h2 => ih m h2 (m - ((partsOf a b c).1.1 + (partsOf a b c).1.2).toNat) _ _ hp.1.1 hp.1.2.2.1 (by omega)
      have e2 : ∀ m, (a + b).toNat ≤ m + 1 → m < p + 1 → sqF m (partsOf a b c).2.1 (partsOf a b c).2.2 = sqF ((partsOf a b c).2.1 + (partsOf a b c).2.2).toNat (partsOf a b c).2.1 (partsOf a b c).2.2 := fun m h1 h2 => ih m h2 (m - ((partsOf a b c).2.1 + (partsOf a b c).2.2).toNat) _ _ hp.2.1 hp.2.2.2.1 (by omega)
      rw [e1 p (by omega) (by omega), e2 p (by omega) (by omega), e1 q (by omega) (by omega), e2 q (by omega) (by omega)]
def sqN (a b : Int) : Int × S63 := sqF (a + b).toNat a b
def sqStep (a b : Int) (acc : Int × S63) (c : S63) : Int × S63 := if acc.1 = 0 ∨ wrap64 ((sqN (partsOf a b c).1.1 (partsOf a b c).1.2).1 + (sqN (partsOf a b c).2.1 (partsOf a b c).2.2).1) < acc.1 then (wrap64 ((sqN (partsOf a b c).1.1 (partsOf a b c).1.2).1 + (sqN (partsOf a b c).2.1 (partsOf a b c).2.2).1), c) else acc
theorem sqN_eq (a b : Int) (h1 : 1 ≤ a) (h2 : 1 ≤ b) : sqN a b = if a = b then (1, ⟨false, 0⟩) else (cutsL a.toNat b.toNat 1).foldl (sqStep a b) (0, ⟨false, 0⟩) := by
  obtain ⟨q, hq⟩ : ∃ q, (a + b).toNat = q + 1 := ⟨(a + b).toNat - 1, by omega⟩
  unfold sqN
  rw [hq, sqF]
  by_cases hab : a = b
  · rw [if_pos hab, if_pos hab]
  · rw [if_neg hab, if_neg hab]
    refine sqfoldl_same _ _ _ (fun c hc acc => ?_) _
    have hp := partsOf_in a b 1 h1 h2 c hc
    unfold sqStep sqN
    rw [sqF_eq (q - ((partsOf a b c).1.1 + (partsOf a b c).1.2).toNat) q _ _ hp.1.1 hp.1.2.2.1 (by omega), sqF_eq (q - ((partsOf a b c).2.1 + (partsOf a b c).2.2).toNat) q _ _ hp.2.1 hp.2.2.2.1 (by omega)]
def sqV (a b : Int) : Value := .agg #[.int .i64 (sqN a b).1, .bool (sqN a b).2.f0, .int .i64 (sqN a b).2.f1]
theorem sqMemo : MemoK Try.prog 66 69 92 boardKv boardKl (.agg #[.int .i64 0, .bool false, .int .i64 0]) 24 where
  law := Go.Maps.Keyed.of_law (deep_law_laid boardLaid (m := 2) (by omega) (of_decide_eq_true (by kernel_rfl)) (by kernel_rfl) (by rw [Try.underlying69]))
  ht := Try.underlying66
  key a b ha ha' hb hb' := boardKey a b ha ha' hb hb'
  kinj a b c d h := by simp [boardKv] at h; exact h
  zero w := by kernel_rfl
  small := by omega
def sqPost (B : Nat) (a b : Int) (w : World) (e : Ending) (w' : World) : Prop := e = .returned (.tuple #[.int .i64 (sqN a b).1, .agg #[.bool (sqN a b).2.f0, .int .i64 (sqN a b).2.f1]]) ∧ Memo Try.prog 69 boardKl 24 sqV w' B ∧ w.grownBy w' (some B)
/-- what has changed: block B, block g, new blocks -/
structure Grow2 (w w' : World) (B g : Nat) : Prop where
  size : w.heap.size ≤ w'.heap.size
  block : ∀ k, k < w.heap.size → k ≠ B → k ≠ g → w'.heap[k]? = w.heap[k]?
theorem Grow2.refl (w : World) (B g : Nat) : Grow2 w w B g := ⟨Nat.le_refl _, fun _ _ _ _ => rfl⟩
theorem Grow2.grown {w w1 w2 : World} {B g : Nat} (h : Grow2 w w1 B g) (h2 : w1.grownBy w2 (some B)) : Grow2 w w2 B g :=
  ⟨Nat.le_trans h.size h2.size, fun k hk h3 h4 => (h2.block k (Nat.lt_of_lt_of_le hk h.size) (by simpa using h3)).trans (h.block k hk h3 h4)⟩
theorem Grow2.setRow {w w1 : World} {B g : Nat} {cs : Array Value} (h : Grow2 w w1 B g) : Grow2 w (w1.setRow g cs) B g :=
  ⟨by have := h.size; simpa using this, fun k hk h3 h4 => (heap_setRow_other h4).trans (h.block k hk h3 h4)⟩
theorem Grow2.cell {w w' : World} {B g : Nat} {a : Addr} {v : Value} (hm : ∃ es clock, w.heap[B]? = some (.map es clock)) (hg : Grow2 w w' B g) (hne : a.block ≠ g) (h : w.cell? a = some v) : w'.cell? a = some v := by
  obtain ⟨es, clock, hh⟩ := hm
  have hb : a.block ≠ B := by
    intro hb
    unfold World.cell? at h
    rw [hb, hh] at h
    simp at h
  rw [← h]
  unfold World.cell?
  rw [hg.block _ (World.block_lt_of_cell? w _ h) hb hne]
theorem Grow2.heap {w w' : World} {B g k : Nat} {cs : Array Value} {t : TypeId} (hm : ∃ es clock, w.heap[B]? = some (.map es clock)) (hg : Grow2 w w' B g) (hne : k ≠ g) (h : w.heap[k]? = some (.cells cs t (0, 0))) : w'.heap[k]? = some (.cells cs t (0, 0)) := by
  rw [← h]
  exact hg.block _ (Array.getElem?_eq_some_iff.1 h).1 (fun e => map_ne hm h e.symm) hne
set_option maxHeartbeats 2000000 in
set_option maxRecDepth 100000 in
theorem squares_of (B : Nat) (n : Nat) : ∀ (a b : Int) (w : World), (a + b).toNat < n → 1 ≤ a → a ≤ 24 → 1 ≤ b → b ≤ 24 → Memo Try.prog 69 boardKl 24 sqV w B →
    Calls Try.prog 60 #[.map (some B), .agg #[.int .i64 a, .int .i64 b]] w (sqPost B a b w) := by
  have hu2 := Try.underlying69
  have hu3 := Try.underlying63
  have hu4 := Try.underlying92
  induction n with
  | zero => intro a b w h1; omega
  | succ n ih =>
    intro a b w hn ha ha' hb hb' hm
    have HM := Aside0.mk hm
    have IH := Aside0.mk ih
    have hBlt := hm.lt
    have HM2 := Aside0.mk (hm.below (below_alloc (below_alloc (Below.refl w.heap.size w) (.cells #[.int .i64 a, .int .i64 b] 69)) (.cells #[.bool false, .int .i64 0] 63)))
    clear hm ih
    have hNE := sqN_eq a b ha hb
    rcases Memo.look sqMemo HM2.out (a := a) (b := b) (by omega) (by omega) with hlook | hlook
    · simp only [boardKv] at hlook
      have hbW : Below w.heap.size w ((((w.alloc (.cells #[.int .i64 a, .int .i64 b] 69)).alloc (.cells #[.bool false, .int .i64 0] 63)).alloc (.cells #[.int .i64 0, .bool false, .int .i64 0] 92)).alloc (.cells #[.bool false, .int .i64 0] 63)) := by repeat (first | exact Below.refl _ _ | apply below_alloc | apply pw_below_drewN)
      have HM4 := Aside0.mk (HM.out.below hbW)
      have HBW := Aside0.mk hbW
      have d0 : ((((w.alloc (.cells #[.int .i64 a, .int .i64 b] 69)).alloc (.cells #[.bool false, .int .i64 0] 63)).alloc (.cells #[.int .i64 0, .bool false, .int .i64 0] 92)).alloc (.cells #[.bool false, .int .i64 0] 63)).cell? ⟨w.heap.size, 0, none⟩ = some (.int .i64 a) := ((below_alloc (below_alloc (below_alloc (Below.refl _ _) _) _) _).cell (by simp)).trans (by simp)
      have d1 : ((((w.alloc (.cells #[.int .i64 a, .int .i64 b] 69)).alloc (.cells #[.bool false, .int .i64 0] 63)).alloc (.cells #[.int .i64 0, .bool false, .int .i64 0] 92)).alloc (.cells #[.bool false, .int .i64 0] 63)).cell? ⟨w.heap.size, 1, none⟩ = some (.int .i64 b) := ((below_alloc (below_alloc (below_alloc (Below.refl _ _) _) _) _).cell (by simp)).trans (by simp)
      have h5 : ((((w.alloc (.cells #[.int .i64 a, .int .i64 b] 69)).alloc (.cells #[.bool false, .int .i64 0] 63)).alloc (.cells #[.int .i64 0, .bool false, .int .i64 0] 92)).alloc (.cells #[.bool false, .int .i64 0] 63)).heap[w.heap.size + 1]? = some (.cells #[.bool false, .int .i64 0] 63 (0, 0)) := by
        refine ((below_alloc (below_alloc (Below.refl _ _) _) _).block _ (by simp)).trans ?_
        have hz : (w.alloc (.cells #[.int .i64 a, .int .i64 b] 69)).heap.size = w.heap.size + 1 := by simp
        rw [← hz]
        exact heap_alloc_new _ _
      have h9 : ((((w.alloc (.cells #[.int .i64 a, .int .i64 b] 69)).alloc (.cells #[.bool false, .int .i64 0] 63)).alloc (.cells #[.int .i64 0, .bool false, .int .i64 0] 92)).alloc (.cells #[.bool false, .int .i64 0] 63)).heap[w.heap.size + 1 + 1 + 1]? = some (.cells #[.bool false, .int .i64 0] 63 (0, 0)) := by
        have hz : (((w.alloc (.cells #[.int .i64 a, .int .i64 b] 69)).alloc (.cells #[.bool false, .int .i64 0] 63)).alloc (.cells #[.int .i64 0, .bool false, .int .i64 0] 92)).heap.size = w.heap.size + 1 + 1 + 1 := by simp
        rw [← hz]
        exact heap_alloc_new _ _
      have hs4 : w.heap.size + 1 + 1 + 1 < ((((w.alloc (.cells #[.int .i64 a, .int .i64 b] 69)).alloc (.cells #[.bool false, .int .i64 0] 63)).alloc (.cells #[.int .i64 0, .bool false, .int .i64 0] 92)).alloc (.cells #[.bool false, .int .i64 0] 63)).heap.size := by simp
      cases hab : (a == b) with
      | true =>
        rw [if_pos (beq_iff_eq.mp hab)] at hNE
        obtain ⟨w5, hst, hms, hgs⟩ := Memo.store sqMemo HM4.out (a := a) (b := b) (by omega) (by omega)
        simp only [boardKv, sqV, hNE] at hst
        have HNE := Aside0.mk hNE
        have p0 : w5.cell? ⟨w.heap.size + 1 + 1 + 1, 0, none⟩ = some (.bool false) := cell_of_heap (grown_heap HM4.out.isMap hgs h9) rfl
        have p1 : w5.cell? ⟨w.heap.size + 1 + 1 + 1, 1, none⟩ = some (.int .i64 0) := cell_of_heap (grown_heap HM4.out.isMap hgs h9) rfl
        have H5 := Aside0.mk (grown_heap HM4.out.isMap hgs h5)
        have HMS := Aside0.mk hms
        have HGS := Aside0.mk hgs
        clear hNE hms hgs h5 h9 d0 d1 hbW
        go_enter Try.func60, Try.ntmps60
        go_wp2_with fail
        go_still_tail 3, (by kernel_rfl)
        change wpList _ _ _ _ _ w5.drew
        have H5d : w5.drew.heap[w.heap.size + 1]? = some (.cells #[.bool false, .int .i64 0] 63 (0, 0)) := H5.out
        (with_reducible refine gate_store (t := 63) (p := 5) rfl ?_)
        refine wpList_store_row ?h11 63 (.tmp 5) (.tmp 80) ?h12 (w.heap.size + 1) #[.bool false, .int .i64 0] ?h13 ?h14 63 #[.bool false, .int .i64 0] H5d ?h15 ?h16 ?h17 ?h18
        (case h11 => rfl)
        (case h12 => rfl)
        (case h13 => rfl)
        (case h14 => rfl)
        (case h15 => kernel_rfl)
        (case h16 => rfl)
        (case h17 => first | kernel_rfl | (simp [Value.oneCell']; done))
        go_wp2_with fail
        refine bodyPost_ret (results_tc rfl _ _ (w.heap.size + 1) 63 #[.bool false, .int .i64 0] (0, 0) _ rfl (heap_setRow_same H5d) Try.underlying63 rfl (by kernel_rfl)) rfl ?_
        refine ⟨by rw [HNE.out]; rfl, (HMS.out.below (below_drew (Below.refl _ _))).same (heap_setRow_other (map_ne HMS.out.isMap H5.out)), grown_setRow (grown_trans (grown_trans (grown_of_below HBW.out B) HGS.out) (grown_of_below (below_drew (Below.refl _ _)) B)) (by omega)⟩
      | false =>
        rw [if_neg (by simpa using hab)] at hNE
        have HNE := Aside0.mk hNE
        have hcuts := cuts_is a.toNat b.toNat 1 (by omega) (by omega) (by omega) (by omega)
        rw [show ((a.toNat : Nat) : Int) = a from by omega, show ((b.toNat : Nat) : Int) = b from by omega] at hcuts
        have HCUTS := Aside0.mk hcuts
        clear hcuts hNE hbW
        go_enter Try.func60, Try.ntmps60
        go_wp2_with fail
        generalize ((((w.alloc (.cells #[.int .i64 a, .int .i64 b] 69)).alloc (.cells #[.bool false, .int .i64 0] 63)).alloc (.cells #[.int .i64 0, .bool false, .int .i64 0] 92)).alloc (.cells #[.bool false, .int .i64 0] 63)) = W4 at HM4 HBW d0 d1 h5 h9 hs4 ⊢
        have D0 := Aside0.mk d0
        have D1 := Aside0.mk d1
        have H5 := Aside0.mk h5
        have H9 := Aside0.mk h9
        clear d0 d1 h5 h9 hlook HM2
        refine (impl_board_cuts.calls 100 a b 1 _ _ HCUTS.out).mono ?_
        rintro e w3 ⟨v, rfl, hR, hb3⟩
        have hRB := (Kd.R_bound hR).1
        obtain ⟨AC, cc, rfl, hlc, hC⟩ := Kd.R_reads hR
        have HC := Aside0.mk hC
        have HAC : Aside0 (∀ ad, AC = some ad → W4.heap.size ≤ ad.block) := ⟨fun ad he => by subst he; exact (hRB ad.block (by simp [Value.ownBlock])).2.1⟩
        have HMEM := Aside0.mk (partsOf_in a b 1 ha hb)
        have hlen := cutsL_len a.toNat b.toNat 1 (by omega) (by omega)
        rw [show (1 : Int).toNat = 1 from rfl] at HMEM
        have HD0 := Aside0.mk ((hb3.cell (World.block_lt_of_cell? _ _ D0.out)).trans D0.out)
        have HD1 := Aside0.mk ((hb3.cell (World.block_lt_of_cell? _ _ D1.out)).trans D1.out)
        have H5b := Aside0.mk ((hb3.block _ (by omega)).trans H5.out)
        have H9b := Aside0.mk ((hb3.block _ hs4).trans H9.out)
        have HM3 := Aside0.mk (HM4.out.below hb3)
        have HGc := Aside0.mk (grown_trans (grown_of_below HBW.out B) (grown_of_below hb3 B))
        generalize cutsL a.toNat b.toNat 1 = L at HC HNE HMEM hlen hlc ⊢
        clear hR hC hb3 hlc hRB HCUTS D0 D1 H5 H9
        go_wp2_with fail
        go_loopg [8, 38] L.length (fun gg v8 v38 wr => ∃ (kk : Nat) (acc : Int × S63), kk ≤ L.length ∧ L.length - kk ≤ gg ∧ v8 = .int .i64 acc.1 ∧ v38 = .int .i64 kk ∧ Aside0 ((L.drop kk).foldl (sqStep a b) acc = sqN a b) ∧ Aside0 (Grow2 w3 wr B (w.heap.size + 1 + 1 + 1)) ∧ Aside0 (w.grownBy wr (some B)) ∧ Aside0 (wr.heap[w.heap.size + 1 + 1 + 1]? = some (.cells #[.bool acc.2.f0, .int .i64 acc.2.f1] 63 (0, 0))) ∧ Aside0 (Memo Try.prog 69 boardKl 24 sqV wr B))
        case atStart => exact ⟨0, (0, ⟨false, 0⟩), Nat.zero_le _, by omega, rfl, rfl, ⟨HNE.out.symm⟩, ⟨Grow2.refl _ _ _⟩, HGc, H9b, HM3⟩
        case round =>
          obtain ⟨kk, acc, hkk, hg, rfl, rfl, HA, HG, HW, H9r, HMr⟩ := hrel
          have d0r := HG.out.cell HM3.out.isMap (by simp; omega) HD0.out
          have d1r := HG.out.cell HM3.out.isMap (by simp; omega) HD1.out
          by_cases hlt : kk < L.length
          · have hltz : (kk : Int) < (L.length : Int) := by omega
            obtain ⟨ad, rfl, hx0, hx1⟩ := at_T63 HC.out (kk : Int) (by omega) hltz
            rw [show rd_T63 L (kk : Int) = L[kk] by simp [rd_T63, hlt], Int.toNat_natCast] at hx0 hx1
            have hadne := HAC.out _ rfl
            have hne1 : ∀ j, (ad.add j).block ≠ w.heap.size + 1 + 1 + 1 := fun j => by rw [add_block]; omega
            have hy0 := HG.out.cell HM3.out.isMap (hne1 (kk * 2)) hx0
            have hy1 := Grow2.cell HM3.out.isMap HG.out (by intro e; exact hne1 (kk * 2) e) hx1
            have hstep : (L.drop kk).foldl (sqStep a b) acc = (L.drop (kk + 1)).foldl (sqStep a b) (sqStep a b acc L[kk]) := by
              rw [List.drop_eq_getElem_cons hlt, List.foldl_cons]
            rw [HA.out] at hstep
            have hmem := HMEM.out L[kk] (List.getElem_mem hlt)
            generalize hcc : L[kk] = c at hy0 hy1 hstep hmem
            clear hcc hx0 hx1 HA hadne hne1
            have hcin : 1 ≤ c.f1 ∧ c.f1 ≤ 24 := by
              have h1 := hmem
              unfold partsOf at h1
              cases hcf : c.f0 <;> rw [hcf] at h1 <;> simp at h1 <;> omega
            have HPARTS := Aside0.mk (parts_is a b c ha ha' hb hb' hcin.1 hcin.2)
            unfold sqStep at hstep
            generalize partsOf a b c = p at HPARTS hmem hstep
            obtain ⟨⟨p1, p2⟩, q1, q2⟩ := p
            simp only at hmem HPARTS hstep
            have HS := Aside0.mk hstep
            clear hstep hcin
            have lift : ∀ {ad : Addr} {v : Value}, wr.cell? ad = some v → (wr.alloc (.cells #[.bool c.f0, .int .i64 c.f1] 63)).cell? ad = some v := fun h => ((below_alloc (Below.refl _ _) _).cell (World.block_lt_of_cell? wr _ h)).trans h
            replace d0r := lift d0r
            replace d1r := lift d1r
            clear lift
            go_wp2_with (go_at_call 65; refine (impl_board_parts.calls a b c.f0 c.f1 _ _ _ _ _ HPARTS.out).mono ?_; rintro e w5 ⟨rfl, hb5⟩; have HB5 := Aside0.mk hb5; clear hb5)
            have y0 := (HB5.out.cell (by simp)).trans (by simp : (wr.alloc (.cells #[.bool c.f0, .int .i64 c.f1] 63)).cell? ⟨wr.heap.size, 0, none⟩ = some (.bool c.f0))
            have y1 := (HB5.out.cell (by simp)).trans (by simp : (wr.alloc (.cells #[.bool c.f0, .int .i64 c.f1] 63)).cell? ⟨wr.heap.size, 1, none⟩ = some (.int .i64 c.f1))
            have lift : ∀ {ad : Addr} {v : Value}, w5.cell? ad = some v → ((w5.alloc (.cells #[.int .i64 p1, .int .i64 p2] 69)).alloc (.cells #[.int .i64 q1, .int .i64 q2] 69)).cell? ad = some v := fun h => ((below_alloc (below_alloc (Below.refl _ _) _) _).cell (World.block_lt_of_cell? w5 _ h)).trans h
            have z0 := lift y0
            have z1 := lift y1
            have o0 : ((w5.alloc (.cells #[.int .i64 p1, .int .i64 p2] 69)).alloc (.cells #[.int .i64 q1, .int .i64 q2] 69)).cell? ⟨w5.heap.size, 0, none⟩ = some (.int .i64 p1) := by simp
            have o1 : ((w5.alloc (.cells #[.int .i64 p1, .int .i64 p2] 69)).alloc (.cells #[.int .i64 q1, .int .i64 q2] 69)).cell? ⟨w5.heap.size, 1, none⟩ = some (.int .i64 p2) := by simp
            have t0 : ((w5.alloc (.cells #[.int .i64 p1, .int .i64 p2] 69)).alloc (.cells #[.int .i64 q1, .int .i64 q2] 69)).cell? ⟨w5.heap.size + 1, 0, none⟩ = some (.int .i64 q1) := by simp
            have t1 : ((w5.alloc (.cells #[.int .i64 p1, .int .i64 p2] 69)).alloc (.cells #[.int .i64 q1, .int .i64 q2] 69)).cell? ⟨w5.heap.size + 1, 1, none⟩ = some (.int .i64 q2) := by simp
            have hB9 : Below wr.heap.size wr ((w5.alloc (.cells #[.int .i64 p1, .int .i64 p2] 69)).alloc (.cells #[.int .i64 q1, .int .i64 q2] 69)) := by
              have hbx : Below wr.heap.size wr w5 := (below_alloc (Below.refl wr.heap.size wr) _).trans (HB5.out.mono (by simp))
              exact below_alloc (below_alloc hbx _) _
            have HM9 := Aside0.mk (HMr.out.below hB9)
            have HG9 := Aside0.mk (HG.out.grown (grown_of_below hB9 B))
            have HW9 := Aside0.mk (grown_trans HW.out (grown_of_below hB9 B))
            have hlt9 : w.heap.size + 1 + 1 + 1 < wr.heap.size := (Array.getElem?_eq_some_iff.1 H9r.out).1
            have H99 := Aside0.mk ((hB9.block _ hlt9).trans H9r.out)
            generalize ((w5.alloc (.cells #[.int .i64 p1, .int .i64 p2] 69)).alloc (.cells #[.int .i64 q1, .int .i64 q2] 69)) = W9 at o0 o1 t0 t1 z0 z1 HM9 HG9 HW9 H99 ⊢
            clear hB9 lift y0 y1 d0r d1r hy0 hy1 HMr HG HW H9r hlt9
            have hs1 : (p1 + p2).toNat < n := by omega
            have hs4 : (q1 + q2).toNat < n := by omega
            refine (IH.out p1 p2 _ hs1 hmem.1.1 (by omega) hmem.1.2.2.1 (by omega) HM9.out).mono ?_
            rintro e w6 ⟨rfl, hm6, hg6⟩
            have lf6 : Below w6.heap.size w6 (w6.alloc (.cells #[.bool (sqN p1 p2).2.f0, .int .i64 (sqN p1 p2).2.f1] 63)) := below_alloc (Below.refl _ _) _
            have up6 : ∀ {ad : Addr} {v : Value}, w6.cell? ad = some v → (w6.alloc (.cells #[.bool (sqN p1 p2).2.f0, .int .i64 (sqN p1 p2).2.f1] 63)).cell? ad = some v := fun h => (lf6.cell (World.block_lt_of_cell? w6 _ h)).trans h
            have t0b := up6 (grown_at HM9.out.isMap hg6 t0)
            have t1b := up6 (grown_at HM9.out.isMap hg6 t1)
            have z0b := up6 (grown_at HM9.out.isMap hg6 z0)
            have z1b := up6 (grown_at HM9.out.isMap hg6 z1)
            have HM6 := Aside0.mk (hm6.below lf6)
            have HG6 := Aside0.mk ((HG9.out.grown hg6).grown (grown_of_below lf6 B))
            have HW6 := Aside0.mk (grown_trans (grown_trans HW9.out hg6) (grown_of_below lf6 B))
            have H96 := Aside0.mk (show (w6.alloc (.cells #[.bool (sqN p1 p2).2.f0, .int .i64 (sqN p1 p2).2.f1] 63)).heap[w.heap.size + 1 + 1 + 1]? = _ from (lf6.block _ (Array.getElem?_eq_some_iff.1 (grown_heap HM9.out.isMap hg6 H99.out)).1).trans (grown_heap HM9.out.isMap hg6 H99.out))
            clear hm6 hg6 o0 o1 t0 t1 z0 z1 lf6 up6
            go_wp2_with fail
            generalize (w6.alloc (.cells #[.bool (sqN p1 p2).2.f0, .int .i64 (sqN p1 p2).2.f1] 63)) = W6 at t0b t1b z0b z1b HM6 HG6 HW6 H96 ⊢
            refine (IH.out q1 q2 _ hs4 hmem.2.1 (by omega) hmem.2.2.2.1 (by omega) HM6.out).mono ?_
            rintro e w7 ⟨rfl, hm7, hg7⟩
            have lf7 : Below w7.heap.size w7 (w7.alloc (.cells #[.bool (sqN q1 q2).2.f0, .int .i64 (sqN q1 q2).2.f1] 63)) := below_alloc (Below.refl _ _) _
            have up7 : ∀ {ad : Addr} {v : Value}, w7.cell? ad = some v → (w7.alloc (.cells #[.bool (sqN q1 q2).2.f0, .int .i64 (sqN q1 q2).2.f1] 63)).cell? ad = some v := fun h => (lf7.cell (World.block_lt_of_cell? w7 _ h)).trans h
            have z0c := up7 (grown_at HM6.out.isMap hg7 z0b)
            have z1c := up7 (grown_at HM6.out.isMap hg7 z1b)
            have HM7 := Aside0.mk (hm7.below lf7)
            have HG7 := Aside0.mk ((HG6.out.grown hg7).grown (grown_of_below lf7 B))
            have HW7 := Aside0.mk (grown_trans (grown_trans HW6.out hg7) (grown_of_below lf7 B))
            have H97 := Aside0.mk (show (w7.alloc (.cells #[.bool (sqN q1 q2).2.f0, .int .i64 (sqN q1 q2).2.f1] 63)).heap[w.heap.size + 1 + 1 + 1]? = _ from (lf7.block _ (Array.getElem?_eq_some_iff.1 (grown_heap HM6.out.isMap hg7 H96.out)).1).trans (grown_heap HM6.out.isMap hg7 H96.out))
            clear hm7 hg7 t0b t1b z0b z1b lf7 up7
            have HSS := HS.out
            clear HS
            generalize (sqN p1 p2).1 = m1 at HSS ⊢
            generalize (sqN q1 q2).1 = m2 at HSS ⊢
            cases hz : (acc.1 == 0) with
            | true =>
              rw [if_pos (.inl (beq_iff_eq.mp hz))] at HSS
              have HS := Aside0.mk HSS
              clear HSS
              go_wp2_with fail
              generalize (w7.alloc (.cells #[.bool (sqN q1 q2).2.f0, .int .i64 (sqN q1 q2).2.f1] 63)) = W7 at z0c z1c HM7 HG7 HW7 H97 ⊢
              go_still_tail 5, (by kernel_rfl)
              change wpList _ _ _ _ _ W7.drew
              have H97d : W7.drew.heap[w.heap.size + 1 + 1 + 1]? = some (.cells #[.bool acc.2.f0, .int .i64 acc.2.f1] 63 (0, 0)) := H97.out
              (with_reducible refine gate_store (t := 63) (p := 9) rfl ?_)
              refine wpList_store_row ?n11 63 (.tmp 9) (.tmp 72) ?n12 (w.heap.size + 1 + 1 + 1) #[.bool c.f0, .int .i64 c.f1] ?n13 ?n14 63 #[.bool acc.2.f0, .int .i64 acc.2.f1] H97d ?n15 ?n16 ?n17 ?n18
              (case n11 => rfl)
              (case n12 => rfl)
              (case n13 => rfl)
              (case n14 => rfl)
              (case n15 => kernel_rfl)
              (case n16 => rfl)
              (case n17 => first | kernel_rfl | (simp [Value.oneCell']; done))
              go_wp2_with fail
              go_roundg (L.length - (kk + 1))
              case measure => omega
              case rel => exact ⟨kk + 1, (wrap64 (m1 + m2), c), by omega, by omega, by first | rfl | simp only [i64_w], by go_num, ⟨HS.out.symm⟩, ⟨(HG7.out.grown (grown_of_below (below_drew (Below.refl _ _)) B)).setRow⟩, ⟨grown_setRow (grown_trans HW7.out (grown_of_below (below_drew (Below.refl _ _)) B)) (by omega)⟩, ⟨heap_setRow_same H97d⟩, ⟨(HM7.out.below (below_drew (Below.refl _ _))).same (heap_setRow_other (map_ne HM7.out.isMap H97.out))⟩⟩
            | false =>
              have hz2 : ¬ acc.1 = 0 := by simpa using hz
              by_cases hlt2 : wrap64 (m1 + m2) < acc.1
              · rw [if_pos (.inr hlt2)] at HSS
                have HS := Aside0.mk HSS
                clear HSS hz2
                go_wp2_with fail
                generalize (w7.alloc (.cells #[.bool (sqN q1 q2).2.f0, .int .i64 (sqN q1 q2).2.f1] 63)) = W7 at z0c z1c HM7 HG7 HW7 H97 ⊢
                go_still_tail 5, (by kernel_rfl)
                change wpList _ _ _ _ _ W7.drew
                have H97d : W7.drew.heap[w.heap.size + 1 + 1 + 1]? = some (.cells #[.bool acc.2.f0, .int .i64 acc.2.f1] 63 (0, 0)) := H97.out
                (with_reducible refine gate_store (t := 63) (p := 9) rfl ?_)
                refine wpList_store_row ?n21 63 (.tmp 9) (.tmp 72) ?n22 (w.heap.size + 1 + 1 + 1) #[.bool c.f0, .int .i64 c.f1] ?n23 ?n24 63 #[.bool acc.2.f0, .int .i64 acc.2.f1] H97d ?n25 ?n26 ?n27 ?n28
                (case n21 => rfl)
                (case n22 => rfl)
                (case n23 => rfl)
                (case n24 => rfl)
                (case n25 => kernel_rfl)
                (case n26 => rfl)
                (case n27 => first | kernel_rfl | (simp [Value.oneCell']; done))
                go_wp2_with fail
                go_roundg (L.length - (kk + 1))
                case measure => omega
                case rel => exact ⟨kk + 1, (wrap64 (m1 + m2), c), by omega, by omega, by first | rfl | simp only [i64_w], by go_num, ⟨HS.out.symm⟩, ⟨(HG7.out.grown (grown_of_below (below_drew (Below.refl _ _)) B)).setRow⟩, ⟨grown_setRow (grown_trans HW7.out (grown_of_below (below_drew (Below.refl _ _)) B)) (by omega)⟩, ⟨heap_setRow_same H97d⟩, ⟨(HM7.out.below (below_drew (Below.refl _ _))).same (heap_setRow_other (map_ne HM7.out.isMap H97.out))⟩⟩
              · rw [if_neg (fun h => h.elim hz2 hlt2)] at HSS
                have HS := Aside0.mk HSS
                clear HSS hz2
                go_wp2_with fail
                generalize (w7.alloc (.cells #[.bool (sqN q1 q2).2.f0, .int .i64 (sqN q1 q2).2.f1] 63)) = W7 at z0c z1c HM7 HG7 HW7 H97 ⊢
                go_roundg (L.length - (kk + 1))
                case measure => omega
                case rel => exact ⟨kk + 1, acc, by omega, by omega, rfl, by go_num, ⟨HS.out.symm⟩, HG7, HW7, H97, HM7⟩
          · have hk : kk = L.length := by omega
            subst hk
            have hh := HA.out
            rw [List.drop_length, List.foldl_nil] at hh
            have hlt9 : w.heap.size + 1 + 1 + 1 < wr.heap.size := (Array.getElem?_eq_some_iff.1 H9r.out).1
            obtain ⟨w4, hst, hms, hgs⟩ := Memo.store sqMemo HMr.out (a := a) (b := b) (by omega) (by omega)
            simp only [boardKv, sqV, ← hh] at hst
            have HH := Aside0.mk hh
            have e0 := cell_of_heap (o := 0) H9r.out rfl
            have e1 := cell_of_heap (o := 1) H9r.out rfl
            have p0 := cell_of_heap (o := 0) (grown_heap HMr.out.isMap hgs H9r.out) rfl
            have p1 := cell_of_heap (o := 1) (grown_heap HMr.out.isMap hgs H9r.out) rfl
            have H5r := HG.out.heap HM3.out.isMap (by omega) H5b.out
            have H5 := Aside0.mk (grown_heap HMr.out.isMap hgs H5r)
            have HMS := Aside0.mk hms
            have HGS := Aside0.mk (grown_trans HW.out hgs)
            clear hh hms hgs H5r
            go_wp2_with fail
            go_still_tail 3, (by kernel_rfl)
            change wpList _ _ _ _ _ w4.drew
            have H5d : w4.drew.heap[w.heap.size + 1]? = some (.cells #[.bool false, .int .i64 0] 63 (0, 0)) := H5.out
            (with_reducible refine gate_store (t := 63) (p := 5) rfl ?_)
            refine wpList_store_row ?m11 63 (.tmp 5) (.tmp 80) ?m12 (w.heap.size + 1) #[.bool acc.2.f0, .int .i64 acc.2.f1] ?m13 ?m14 63 #[.bool false, .int .i64 0] H5d ?m15 ?m16 ?m17 ?m18
            (case m11 => rfl)
            (case m12 => rfl)
            (case m13 => rfl)
            (case m14 => rfl)
            (case m15 => kernel_rfl)
            (case m16 => rfl)
            (case m17 => first | kernel_rfl | (simp [Value.oneCell']; done))
            go_wp2_with fail
            refine bodyPost_ret (results_tc rfl _ _ (w.heap.size + 1) 63 #[.bool acc.2.f0, .int .i64 acc.2.f1] (0, 0) _ rfl (heap_setRow_same H5d) Try.underlying63 rfl (by kernel_rfl)) rfl ?_
            refine ⟨by rw [← HH.out]; rfl, (HMS.out.below (below_drew (Below.refl _ _))).same (heap_setRow_other (map_ne HMS.out.isMap H5.out)), grown_setRow (grown_trans HGS.out (grown_of_below (below_drew (Below.refl _ _)) B)) (by omega)⟩
    · simp only [boardKv, sqV] at hlook
      have HRES : Aside0 (sqPost B a b w = fun e w' => e = .returned (.tuple #[.int .i64 (sqN a b).1, .agg #[.bool (sqN a b).2.f0, .int .i64 (sqN a b).2.f1]]) ∧ Memo Try.prog 69 boardKl 24 sqV w' B ∧ w.grownBy w' (some B)) := ⟨rfl⟩
      clear hNE
      generalize sqN a b = sq at hlook HRES
      have h5 : (((w.alloc (.cells #[.int .i64 a, .int .i64 b] 69)).alloc (.cells #[.bool false, .int .i64 0] 63)).alloc (.cells #[.int .i64 sq.1, .bool sq.2.f0, .int .i64 sq.2.f1] 92)).heap[w.heap.size + 1]? = some (.cells #[.bool false, .int .i64 0] 63 (0, 0)) := by
        refine ((below_alloc (Below.refl _ _) _).block _ (by simp)).trans ?_
        have hz : (w.alloc (.cells #[.int .i64 a, .int .i64 b] 69)).heap.size = w.heap.size + 1 := by simp
        rw [← hz]
        exact heap_alloc_new _ _
      have H5 := Aside0.mk h5
      clear h5
      go_enter Try.func60, Try.ntmps60
      go_wp2_with fail
      have hbW : Below w.heap.size w (((w.alloc (.cells #[.int .i64 a, .int .i64 b] 69)).alloc (.cells #[.bool false, .int .i64 0] 63)).alloc (.cells #[.int .i64 sq.1, .bool sq.2.f0, .int .i64 sq.2.f1] 92)) := by repeat (first | exact Below.refl _ _ | apply below_alloc | apply pw_below_drewN)
      have HMX := Aside0.mk (HM.out.below hbW)
      have HBX := Aside0.mk hbW
      have hq : (((w.alloc (.cells #[.int .i64 a, .int .i64 b] 69)).alloc (.cells #[.bool false, .int .i64 0] 63)).alloc (.cells #[.int .i64 sq.1, .bool sq.2.f0, .int .i64 sq.2.f1] 92)).heap[w.heap.size + 1 + 1]? = some (.cells #[.int .i64 sq.1, .bool sq.2.f0, .int .i64 sq.2.f1] 92 (0, 0)) := by
        have hz : ((w.alloc (.cells #[.int .i64 a, .int .i64 b] 69)).alloc (.cells #[.bool false, .int .i64 0] 63)).heap.size = w.heap.size + 1 + 1 := by simp
        rw [← hz]
        exact heap_alloc_new _ _
      have q0 := cell_of_heap (o := 0) hq rfl
      have q1 := cell_of_heap (o := 1) hq rfl
      have q2 := cell_of_heap (o := 2) hq rfl
      clear hq
      clear hbW
      generalize (((w.alloc (.cells #[.int .i64 a, .int .i64 b] 69)).alloc (.cells #[.bool false, .int .i64 0] 63)).alloc (.cells #[.int .i64 sq.1, .bool sq.2.f0, .int .i64 sq.2.f1] 92)) = WX at H5 q0 q1 q2 HMX HBX ⊢
      go_still_tail 5, (by kernel_rfl)
      change wpList _ _ _ _ _ WX.drew
      have H5d : WX.drew.heap[w.heap.size + 1]? = some (.cells #[.bool false, .int .i64 0] 63 (0, 0)) := H5.out
      (with_reducible refine gate_store (t := 63) (p := 5) rfl ?_)
      refine wpList_store_row ?k11 63 (.tmp 5) (.tmp 28) ?k12 (w.heap.size + 1) #[.bool sq.2.f0, .int .i64 sq.2.f1] ?k13 ?k14 63 #[.bool false, .int .i64 0] H5d ?k15 ?k16 ?k17 ?k18
      (case k11 => rfl)
      (case k12 => rfl)
      (case k13 => rfl)
      (case k14 => rfl)
      (case k15 => kernel_rfl)
      (case k16 => rfl)
      (case k17 => first | kernel_rfl | (simp [Value.oneCell']; done))
      go_wp2_with fail
      (try simp only [Exit.inBlock, Exit.then])
      refine bodyPost_ret (results_tc rfl _ _ (w.heap.size + 1) 63 #[.bool sq.2.f0, .int .i64 sq.2.f1] (0, 0) _ rfl (heap_setRow_same H5d) Try.underlying63 rfl (by kernel_rfl)) rfl ?_
      rw [HRES.out]
      exact ⟨rfl, (HMX.out.below (below_drew (Below.refl _ _))).same (heap_setRow_other (map_ne HMX.out.isMap H5.out)), grown_setRow (grown_trans (grown_of_below HBX.out B) (grown_of_below (below_drew (Below.refl _ _)) B)) (by omega)⟩

-- given: loop.example/g01334/impl.FewestSquares

/-! ### impl_FewestSquares: by hand -/
theorem isBoard_in {a b : Int} (h : impl_isBoard.f a b = some true) : (1 ≤ a ∧ a ≤ 24) ∧ 1 ≤ b ∧ b ≤ 24 := by
  unfold impl_isBoard.f at h
  rw [okW_within, okW_within] at h
  cases hq : okW 1 24 a with
  | false => rw [hq] at h; simp at h
  | true =>
    rw [hq] at h
    simp [okW] at hq h
    omega
def impl_FewestSquares.f (a0 : Int) (a1 : Int) : Option (Int × Bool) :=
  (impl_isBoard.f a0 a1).bind fun p => if p = true then some ((sqN a0 a1).1, true) else some (0, false)
set_option maxHeartbeats 1000000 in
theorem impl_FewestSquares.calls (a0 : Int) (a1 : Int) (r1 : Int) (r2 : Bool) (w : World) (h : impl_FewestSquares.f a0 a1 = some (r1, r2)) :
    Calls Try.prog 26 #[.int .i64 a0, .int .i64 a1] w fun e w' => e = .returned (.tuple #[.int .i64 r1, .bool r2]) ∧ Below w.heap.size w w' := by
  cases hp : impl_isBoard.f a0 a1 with
  | none => simp [impl_FewestSquares.f, hp] at h
  | some p =>
    have HP := Aside0.mk hp
    cases p with
    | false =>
      simp [impl_FewestSquares.f, hp] at h
      obtain ⟨rfl, rfl⟩ := h
      clear hp
      go_enter Try.func26, Try.ntmps26
      go_wp2_with (go_at_call 55; refine (impl_isBoard.calls a0 a1 false _ HP.out).mono ?_; rintro e w1 ⟨rfl, ⟨nd, rfl⟩⟩)
      go_ret2
      exact ⟨rfl, by repeat (first | exact Below.refl _ _ | apply below_alloc | apply pw_below_drewN)⟩
    | true =>
      simp only [impl_FewestSquares.f, hp, Option.bind_some, if_true, Option.some.injEq, Prod.mk.injEq] at h
      obtain ⟨rfl, rfl⟩ := h
      clear hp
      have hin := isBoard_in HP.out
      have i1 := hin.1.1
      have i2 := hin.1.2
      have i3 := hin.2.1
      have i4 := hin.2.2
      clear hin
      have hmm := @run_makeMap Try.prog
      go_enter Try.func26, Try.ntmps26
      go_wp2_with (first | (go_at_call 55; refine (impl_isBoard.calls a0 a1 true _ HP.out).mono ?_; rintro e w1 ⟨rfl, ⟨nd, rfl⟩⟩))
      refine (squares_of _ _ a0 a1 _ (Nat.lt_succ_self _) i1 i2 i3 i4 (Memo.made _ _ _ _ _ _)).mono ?_
      rintro e w3 ⟨rfl, hm3, hg3⟩
      have HB3 := Aside0.mk (below_of_grown (n := w.heap.size) (w := w) (by repeat (first | exact Below.refl _ _ | apply below_alloc | apply pw_below_drewN)) (by simp) (by simp) hg3)
      clear hm3 hg3
      go_wp2_with fail
      go_ret2
      exact ⟨rfl, below_alloc HB3.out _⟩

/-! ### laws_FnExactFewestSquares: function 5 -/
def laws_FnExactFewestSquares.f (k : Nat) (a0 : Int) (a1 : Int) : Option (Bool) := (spec_FewestSquares.f k a0 a1).bind fun bt147 => ((impl_FewestSquares.f a0 a1).bind fun bt149 => (if bt149.1 = bt147.1 then (if (bt149.2 != bt147.2) = true then (none) else (some true)) else (none)))
theorem laws_FnExactFewestSquares.mono : ∀ a0 a1 k, LeO (laws_FnExactFewestSquares.f k a0 a1) (laws_FnExactFewestSquares.f (k + 1) a0 a1) := by
  intro a0 a1 k
  unfold laws_FnExactFewestSquares.f
  repeat' first
      | (with_reducible exact spec_FewestSquares.mono _ _ _)
      | (with_reducible exact LeO.refl _)
      | (with_reducible exact LeO.none _)
      | (with_reducible refine LeO.ite ?_ ?_)
      | (with_reducible refine LeO.bind ?_ (fun _ => ?_))
      | exact spec_FewestSquares.mono _ _ _
      | exact LeO.none _
      | refine LeO.ite ?_ ?_
      | refine LeO.bind ?_ (fun _ => ?_)
set_option maxHeartbeats 8000000 in
set_option maxRecDepth 100000 in
theorem laws_FnExactFewestSquares.calls (k : Nat) (a0 : Int) (a1 : Int) (r : Bool) (w : World) (hrt : r = true) (h : laws_FnExactFewestSquares.f k a0 a1 = some r) :
    Calls Try.prog 5 #[.int .i64 a0, .int .i64 a1] w fun e w' => e = .returned (.bool r) ∧ Below w.heap.size w w' := by
  have HRT := Aside0.mk hrt
  clear hrt
  have HB := Aside0.mk (Below.refl w.heap.size w)
  have H : ((spec_FewestSquares.f k a0 a1).bind fun bt147 => ((impl_FewestSquares.f a0 a1).bind fun bt149 => (if bt149.1 = bt147.1 then (if (bt149.2 != bt147.2) = true then (none) else (some true)) else (none)))) = some r := h
  clear h
  replace H := Option.bind_eq_some_iff.mp H
  obtain ⟨⟨t147, t148⟩, A30, H⟩ := H
  replace H : ((impl_FewestSquares.f a0 a1).bind fun bt149 => (if bt149.1 = t147 then (if (bt149.2 != t148) = true then (none) else (some true)) else (none))) = some r := H
  have A3 := Aside0.mk A30
  clear A30
  replace H := Option.bind_eq_some_iff.mp H
  obtain ⟨⟨t149, t150⟩, A40, H⟩ := H
  replace H : (if t149 = t147 then (if (t150 != t148) = true then (none) else (some true)) else (none)) = some r := H
  have A4 := Aside0.mk A40
  clear A40
  by_cases c5 : t149 = t147
  · rw [if_pos c5] at H
    have c5b0 : (t149 == t147) = true := beq_iff_eq.mpr c5
    have c5b1 : (t149 != t147) = false := bne_eq_false_iff_eq.mpr c5
    clear c5
    by_cases c6 : (t150 != t148) = true
    · rw [if_pos c6] at H
      exact absurd H (by simp)
    · rw [if_neg c6] at H
      have c6b0 : (t150 != t148) = false := by simpa using c6
      (try (have c6b1 : decide (t150 = t148) = true := by simpa using c6))
      (try (have c6b2 : (t150 == t148) = true := by simpa using c6))
      clear c6
      obtain rfl := Option.some.inj H
      go_enter Try.func5, Try.ntmps5
      go_wp2_with (first | ((with_reducible refine gate_callee (f := 25) rfl ?_); refine goesL_ (some 12) rfl rfl Try.func25 (by kernel_rfl) rfl #[.int .i64 a0, .int .i64 a1] rfl (by (try simp only [List.map_toArray, List.map_cons, List.map_nil]); first | done | rfl | (simp only [List.length_drop, List.length_take]; rfl)) ?_; (with_reducible refine (spec_FewestSquares.calls k a0 a1 t147 t148 _ A3.out).mono ?_); rintro e w7 ⟨rfl, hb⟩; refine ⟨_, rfl, ?_⟩; have n0_ := Aside0.mk (below_step (by repeat (first | (with_reducible first | exact HB.out | apply below_alloc | apply pw_below_drewN | apply below_drew1) | exact HB.out)) hb); clear HB; have HB := n0_; clear n0_; (try clear hb); (try clear hb2); (try clear hk); (try clear hi)) | ((with_reducible refine gate_callee (f := 26) rfl ?_); refine goesL_ (some 18) rfl rfl Try.func26 (by kernel_rfl) rfl #[.int .i64 a0, .int .i64 a1] rfl (by (try simp only [List.map_toArray, List.map_cons, List.map_nil]); first | done | rfl | (simp only [List.length_drop, List.length_take]; rfl)) ?_; (with_reducible refine (impl_FewestSquares.calls a0 a1 t149 t150 _ A4.out).mono ?_); rintro e w8 ⟨rfl, hb⟩; refine ⟨_, rfl, ?_⟩; have n0_ := Aside0.mk (below_step (by repeat (first | (with_reducible first | exact HB.out | apply below_alloc | apply pw_below_drewN | apply below_drew1) | exact HB.out)) hb); clear HB; have HB := n0_; clear n0_; (try clear hb); (try clear hb2); (try clear hk); (try clear hi)))
      go_ret
      exact ⟨by first | rfl | (simp [errW_none, errW_some] <;> rfl) | (simp [*, errW_none, errW_some] <;> rfl), by repeat (first | (with_reducible first | exact HB.out | apply below_alloc | apply pw_below_drewN | apply below_drew1) | exact HB.out)⟩
  · rw [if_neg c5] at H
    exact absurd H (by simp)

/-- THE ONE PURE STATEMENT of laws_FnExactFewestSquares: yours. -/
def laws_FnExactFewestSquares.Pure : Prop := ∀ (a0 : Int) (a1 : Int), (Lit.int .i64 a0).wf = true → (Lit.int .i64 a1).wf = true → ∃ k, laws_FnExactFewestSquares.f k a0 a1 = some true
theorem laws_FnExactFewestSquares.walk (P : laws_FnExactFewestSquares.Pure) (a0 : Int) (a1 : Int) (w : World) (w0 : (Lit.int .i64 a0).wf = true) (w1 : (Lit.int .i64 a1).wf = true) :
    Calls Try.prog 5 #[.int .i64 a0, .int .i64 a1] w fun e w' => e = .returned (.bool true) ∧ Below w.heap.size w w' := by
  obtain ⟨k, h⟩ := P a0 a1 w0 w1
  refine (laws_FnExactFewestSquares.calls k a0 a1 true w rfl h).mono ?_
  rintro e w' ⟨rfl, hd⟩
  exact ⟨rfl, hd⟩

end Go.Proofs.Ytfpgnnllohhmfaa.Q

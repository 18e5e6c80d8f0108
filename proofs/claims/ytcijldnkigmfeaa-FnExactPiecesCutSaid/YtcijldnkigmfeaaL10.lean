-- Written by the session's program wip/myprint.py (over the kit's print); the given parts by hand.
import Derived.Test.YtcijldnkigmfeaaL0
import Derived.Test.YtcijldnkigmfeaaL2
import Derived.Test.YtcijldnkigmfeaaL3
import Derived.Test.YtcijldnkigmfeaaL7
import Derived.Test.YtcijldnkigmfeaaL8
import Derived.Test.YtcijldnkigmfeaaL9
namespace Go.Proofs.Ytcijldnkigmfeaa.L
open Go.RowKit Go.Proofs.YtcijldnkigmfeaaW.PrintWords Go.Proofs.YtcijldnkigmfeaaW.PrintLast Go.Proofs.YtcijldnkigmfeaaW.PrintMore
attribute [local go_sem] max2_int min2_int max_two min_two max_three min_three max_four min_four   -- for this text's walks alone
set_option linter.unusedVariables false
set_option linter.unusedSimpArgs false

-- given: (loop.example/g01334/impl.cutter).count

/-! ### (cutter).count: by hand -/
theorem own_lt2 {α : Type} {d : Kd α} {e : TypeId} {w : World} {base : Nat} {ok : Nat → Prop} {v : Value} {xs : List α} (h : d.R e w base ok v xs) : ∀ k, v.ownBlock = some k → k < w.heap.size := by
  intro k hk
  obtain ⟨cells, hc⟩ := Kd.R_typed h k hk
  exact (Array.getElem?_eq_some_iff.1 hc).1
/-- two blocks have changed, and there are new ones -/
structure Gr (w w' : World) (B G : Nat) : Prop where
  os : w'.os = w.os
  tape : w'.tape = w.tape
  output : w'.output = w.output
  size : w.heap.size ≤ w'.heap.size
  block : ∀ k, k < w.heap.size → k ≠ B → k ≠ G → w'.heap[k]? = w.heap[k]?
theorem Gr.trans {w w1 w2 : World} {B G : Nat} (h : Gr w w1 B G) (h2 : Gr w1 w2 B G) : Gr w w2 B G :=
  ⟨h2.os.trans h.os, h2.tape.trans h.tape, h2.output.trans h.output, Nat.le_trans h.size h2.size, fun k hk h3 h4 => (h2.block k (Nat.lt_of_lt_of_le hk h.size) h3 h4).trans (h.block k hk h3 h4)⟩
theorem Gr.of_grown {w w' : World} {B : Nat} (G : Nat) (h : w.grownBy w' (some B)) : Gr w w' B G :=
  ⟨h.os, h.tape, h.output, h.size, fun k hk h3 _ => h.block k hk (by simpa using h3)⟩
theorem Gr.of_below {w w' : World} (B G : Nat) (h : Below w.heap.size w w') : Gr w w' B G := ⟨h.os, h.tape, h.output, h.size, fun k hk _ _ => h.block k hk⟩
theorem Gr.set {w w' : World} {B G : Nat} (h : Gr w w' B G) (i : Nat) (v : Value) : Gr w (w'.setCell ⟨G, i, none⟩ v) B G :=
  ⟨h.os, h.tape, h.output, by simpa [World.setCell] using h.size, fun k hk h3 h4 => by rw [← h.block k hk h3 h4]; simp [World.setCell, Array.getElem?_modify, Ne.symm h4]⟩
theorem Gr.cell {w w' : World} {B G : Nat} (h : Gr w w' B G) {b o : Nat} {v : Value} (hB : b ≠ B) (hG : b ≠ G) (hc : w.cell? ⟨b, o, none⟩ = some v) : w'.cell? ⟨b, o, none⟩ = some v := by
  rw [← hc]
  unfold World.cell?
  rw [h.block b (World.block_lt_of_cell? w _ hc) hB hG]
theorem Gr.below {w0 w w' : World} {B G n : Nat} (h0 : Below n w0 w) (h : Gr w w' B G) (hn : n ≤ w.heap.size) (hB : n ≤ B) (hG : n ≤ G) : Below n w0 w' :=
  ⟨h.os.trans h0.os, h.tape.trans h0.tape, h.output.trans h0.output, Nat.le_trans h0.size h.size, fun k hk => (h.block k (by omega) (by omega) (by omega)).trans (h0.block k hk)⟩
def kdN (l0 : List S35) (tn : Bool) (a b : Int) : Int := (wholeN a b tn l0 0 0 (-1)).2
theorem wholeN_kind (a b : Int) (tn : Bool) (n : Int) : ∀ (l : List S35) (i best kind : Int), 0 ≤ i → i + (l.length : Int) ≤ n → -1 ≤ kind → kind < n → -1 ≤ (wholeN a b tn l i best kind).2 ∧ (wholeN a b tn l i best kind).2 < n
  | [], i, best, kind, _, _, h1, h2 => ⟨h1, h2⟩
  | x :: l, i, best, kind, hi, hl, h1, h2 => by
    rw [List.length_cons] at hl
    rw [wholeN]
    split
    · exact wholeN_kind a b tn n l (i + 1) x.f2 i (by omega) (by omega) (by omega) (by omega)
    · exact wholeN_kind a b tn n l (i + 1) best kind (by omega) (by omega) h1 h2
theorem kdN_in (l0 : List S35) (tn : Bool) (a b : Int) (hl : 0 < l0.length) : -1 ≤ kdN l0 tn a b ∧ kdN l0 tn a b < (l0.length : Int) := wholeN_kind a b tn (l0.length : Int) l0 0 0 (-1) (by omega) (by omega) (by omega) (by omega)
theorem firstL_mem (wh : Int → Int → Int) (a b best : Int) : ∀ l, (firstL wh a b best l).2 = true → (firstL wh a b best l).1 ∈ l
  | [], h => by simp [firstL] at h
  | c :: l, h => by
    rw [firstL] at h ⊢
    split
    · exact List.mem_cons_self
    · rename_i hc
      rw [if_neg hc] at h
      exact List.mem_cons_of_mem _ (firstL_mem wh a b best l h)
theorem firstN_mem (wh : Int → Int → Int) (a b : Int) (h : (firstN wh a b).2 = true) : (firstN wh a b).1 ∈ cutsL a.toNat b.toNat 2 := by
  unfold firstN at h ⊢
  split
  · rename_i hc
    rw [if_pos hc] at h
    cases h
  · rename_i hc
    rw [if_neg hc] at h
    exact firstL_mem wh a b _ _ h
def countF (wh kd : Int → Int → Int) : Nat → Int → Int → List Int → List Int
  | 0, _, _, out => out
  | s + 1, a, b, out => if (firstN wh a b).2 = true then countF wh kd s (partsOf a b (firstN wh a b).1).2.1 (partsOf a b (firstN wh a b).1).2.2 (countF wh kd s (partsOf a b (firstN wh a b).1).1.1 (partsOf a b (firstN wh a b).1).1.2 out) else if 0 ≤ kd a b then out.set (kd a b).toNat (wrap64 (out.getD (kd a b).toNat 0 + 1)) else out
theorem countF_len (wh kd : Int → Int → Int) : ∀ (s : Nat) (a b : Int) (out : List Int), (countF wh kd s a b out).length = out.length
  | 0, _, _, _ => rfl
  | s + 1, a, b, out => by
    rw [countF]
    split
    · rw [countF_len wh kd s, countF_len wh kd s]
    · split
      · exact List.length_set
      · rfl
def countPost (l0 : List S35) (tn : Bool) (B G cap n0 : Nat) (res : List Int) (w : World) (e : Ending) (w' : World) : Prop := e = .returned (.tuple #[]) ∧ Memo Try.prog 68 boardKl 24 (cutV l0 tn) w' B ∧ Kd.R (Kd.int .i64) 3 w' n0 (fun _ => True) (.slice (some ⟨G, 0, none⟩) l0.length cap) res ∧ Gr w w' B G
set_option maxHeartbeats 2000000 in
set_option maxRecDepth 100000 in
theorem cutter_count (A0 : Option Addr) (c0 : Nat) (l0 : List S35) (tn : Bool) (B G cap : Nat) (w0 : World) (hr : Kd.C k35 w0 A0 l0.length l0) (hBB : w0.heap.size ≤ B) (hl : 0 < l0.length) :
    ∀ (s : Nat) (a b : Int) (w : World) (out : List Int), (a + b).toNat ≤ s → 1 ≤ a → a ≤ 24 → 1 ≤ b → b ≤ 24 → out.length = l0.length → Below w0.heap.size w0 w → Memo Try.prog 68 boardKl 24 (cutV l0 tn) w B → Kd.R (Kd.int .i64) 3 w w0.heap.size (fun _ => True) (.slice (some ⟨G, 0, none⟩) l0.length cap) out →
    Calls Try.prog 76 #[.agg #[.slice A0 l0.length c0, .bool tn, .map (some B)], .agg #[.int .i64 a, .int .i64 b], .slice (some ⟨G, 0, none⟩) l0.length cap] w (countPost l0 tn B G cap w0.heap.size (countF (whN l0 tn) (kdN l0 tn) s a b out) w) := by
  have hu := Try.underlying79
  have hu2 := Try.underlying68
  have hu3 := Try.underlying62
  have HC := Aside0.mk hr
  clear hr
  intro s
  induction s with
  | zero => intro a b w out hs h1 _ h3; omega
  | succ s ih =>
    intro a b w out hs ha ha' hb hb' hol hbw hm hrow
    have IH := Aside0.mk ih
    have HM := Aside0.mk hm
    have HRW := Aside0.mk hrow
    have HB0 := Aside0.mk hbw
    have hBlt := hm.lt
    have hn0 := hbw.size
    have hGlt : G < w.heap.size := own_lt2 hrow G rfl
    have hGge : w0.heap.size ≤ G := Kd.R_base hrow G rfl
    have hkd := kdN_in l0 tn a b hl
    clear ih hm hrow hbw
    have hnx : countF (whN l0 tn) (kdN l0 tn) (s + 1) a b out = (if (firstN (whN l0 tn) a b).2 = true then countF (whN l0 tn) (kdN l0 tn) s (partsOf a b (firstN (whN l0 tn) a b).1).2.1 (partsOf a b (firstN (whN l0 tn) a b).1).2.2 (countF (whN l0 tn) (kdN l0 tn) s (partsOf a b (firstN (whN l0 tn) a b).1).1.1 (partsOf a b (firstN (whN l0 tn) a b).1).1.2 out) else if 0 ≤ kdN l0 tn a b then out.set (kdN l0 tn a b).toNat (wrap64 (out.getD (kdN l0 tn a b).toNat 0 + 1)) else out) := rfl
    generalize countF (whN l0 tn) (kdN l0 tn) (s + 1) a b out = res at hnx ⊢
    have HN0 := Aside0.mk hnx
    clear hnx
    go_enter Try.func76, Try.ntmps76
    go_wp2_with fail
    have hbW : Below w.heap.size w ((w.alloc (.cells #[.slice A0 l0.length c0, .bool tn, .map (some B)] 79)).alloc (.cells #[.int .i64 a, .int .i64 b] 68)) := by repeat (first | exact Below.refl _ _ | apply below_alloc)
    have hsz1 : ((w.alloc (.cells #[.slice A0 l0.length c0, .bool tn, .map (some B)] 79)).alloc (.cells #[.int .i64 a, .int .i64 b] 68)).heap.size = w.heap.size + 1 + 1 := by simp
    have k0 : ((w.alloc (.cells #[.slice A0 l0.length c0, .bool tn, .map (some B)] 79)).alloc (.cells #[.int .i64 a, .int .i64 b] 68)).cell? ⟨w.heap.size, 0, none⟩ = some (.slice A0 l0.length c0) := by simp
    have k1 : ((w.alloc (.cells #[.slice A0 l0.length c0, .bool tn, .map (some B)] 79)).alloc (.cells #[.int .i64 a, .int .i64 b] 68)).cell? ⟨w.heap.size, 1, none⟩ = some (.bool tn) := by simp
    have k2 : ((w.alloc (.cells #[.slice A0 l0.length c0, .bool tn, .map (some B)] 79)).alloc (.cells #[.int .i64 a, .int .i64 b] 68)).cell? ⟨w.heap.size, 2, none⟩ = some (.map (some B)) := by simp
    have e0 : ((w.alloc (.cells #[.slice A0 l0.length c0, .bool tn, .map (some B)] 79)).alloc (.cells #[.int .i64 a, .int .i64 b] 68)).cell? ⟨w.heap.size + 1, 0, none⟩ = some (.int .i64 a) := by simp
    have e1 : ((w.alloc (.cells #[.slice A0 l0.length c0, .bool tn, .map (some B)] 79)).alloc (.cells #[.int .i64 a, .int .i64 b] 68)).cell? ⟨w.heap.size + 1, 1, none⟩ = some (.int .i64 b) := by simp
    generalize ((w.alloc (.cells #[.slice A0 l0.length c0, .bool tn, .map (some B)] 79)).alloc (.cells #[.int .i64 a, .int .i64 b] 68)) = W1 at hbW hsz1 k0 k1 k2 e0 e1 ⊢
    have HM1 := Aside0.mk (HM.out.below hbW)
    have HR1 := Aside0.mk (Kd.R_below HRW.out hbW)
    have HB1 := Aside0.mk (HB0.out.trans (hbW.mono hn0))
    have HW1 := Aside0.mk hbW
    refine (cutter_first A0 c0 l0 tn B a b W1 ha ha' hb hb' (Kd.C_below HC.out HB1.out) HM1.out).mono ?_
    rintro e w1 ⟨rfl, hm1, hg1⟩
    have c0a := grown_at HM1.out.isMap hg1 k0
    have c1a := grown_at HM1.out.isMap hg1 k1
    have c2a := grown_at HM1.out.isMap hg1 k2
    have d0a := grown_at HM1.out.isMap hg1 e0
    have d1a := grown_at HM1.out.isMap hg1 e1
    have HR2 := Aside0.mk (R_memo HM1.out HR1.out hg1)
    have HM2 := Aside0.mk hm1
    have HG2 := Aside0.mk ((Gr.of_below B G HW1.out).trans (Gr.of_grown G hg1))
    have HB2 := Aside0.mk (Gr.below HB0.out HG2.out hn0 hBB hGge)
    have hsz2 : w.heap.size + 2 ≤ w1.heap.size := by have := hg1.size; omega
    have hmem0 := firstN_mem (whN l0 tn) a b
    clear hbW k0 k1 k2 e0 e1 hm1 hg1 hsz1 HM1 HR1 HB1 HW1
    have hnx := HN0.out
    clear HN0
    generalize firstN (whN l0 tn) a b = fr at hnx hmem0 ⊢
    obtain ⟨c, ok⟩ := fr
    simp only at hmem0 ⊢
    have HN1 := Aside0.mk hnx
    clear hnx
    have hb3 : Below w1.heap.size w1 (w1.alloc (.cells #[.bool c.f0, .int .i64 c.f1] 62)) := below_alloc (Below.refl _ _) _
    have c0b := (hb3.cell (World.block_lt_of_cell? _ _ c0a)).trans c0a
    have c1b := (hb3.cell (World.block_lt_of_cell? _ _ c1a)).trans c1a
    have c2b := (hb3.cell (World.block_lt_of_cell? _ _ c2a)).trans c2a
    have d0b := (hb3.cell (World.block_lt_of_cell? _ _ d0a)).trans d0a
    have d1b := (hb3.cell (World.block_lt_of_cell? _ _ d1a)).trans d1a
    have f0b : (w1.alloc (.cells #[.bool c.f0, .int .i64 c.f1] 62)).cell? ⟨w1.heap.size, 0, none⟩ = some (.bool c.f0) := by simp
    have f1b : (w1.alloc (.cells #[.bool c.f0, .int .i64 c.f1] 62)).cell? ⟨w1.heap.size, 1, none⟩ = some (.int .i64 c.f1) := by simp
    have HR3 := Aside0.mk (Kd.R_below HR2.out hb3)
    have HM3 := Aside0.mk (HM2.out.below hb3)
    have HG3 := Aside0.mk (HG2.out.trans (Gr.of_below B G hb3))
    have HB3 := Aside0.mk (Gr.below HB0.out HG3.out hn0 hBB hGge)
    have HB3' := Aside0.mk hb3
    clear hb3 c0a c1a c2a d0a d1a HR2 HM2 HG2 HB2
    cases ok with
    | true =>
      have hc := hmem0 rfl
      have hin := partsOf_in a b 2 ha hb c hc
      have hcf := cutsL_mem _ _ _ c hc
      have HPARTS := Aside0.mk (parts_is a b c ha ha' hb hb' (by omega) (by omega))
      have hnx := HN1.out
      clear HN1
      rw [if_pos rfl] at hnx
      clear hmem0 hc hcf
      generalize partsOf a b c = p at hin HPARTS hnx
      obtain ⟨⟨p1, p2⟩, q1, q2⟩ := p
      simp only at hin HPARTS
      have HNX := Aside0.mk hnx
      clear hnx
      go_wp2_with (go_at_call 64; refine (impl_board_parts.calls a b c.f0 c.f1 _ _ _ _ _ HPARTS.out).mono ?_; rintro e w5 ⟨rfl, hb5⟩; have c0s : w5.cell? ⟨w.heap.size, 0, none⟩ = some (.slice A0 l0.length c0) := (hb5.cell (World.block_lt_of_cell? _ _ c0b)).trans c0b; have c1s : w5.cell? ⟨w.heap.size, 1, none⟩ = some (.bool tn) := (hb5.cell (World.block_lt_of_cell? _ _ c1b)).trans c1b; have c2s : w5.cell? ⟨w.heap.size, 2, none⟩ = some (.map (some B)) := (hb5.cell (World.block_lt_of_cell? _ _ c2b)).trans c2b; have hz5 : w.heap.size + 2 < w5.heap.size := (by have h7 := hb5.size; simp at h7; omega); have hbx : Below w5.heap.size w5 ((w5.alloc (.cells #[.int .i64 p1, .int .i64 p2] 68)).alloc (.cells #[.int .i64 q1, .int .i64 q2] 68)) := (by repeat (first | exact Below.refl _ _ | apply below_alloc)); have c0t := (hbx.cell (World.block_lt_of_cell? _ _ c0s)).trans c0s; have c1t := (hbx.cell (World.block_lt_of_cell? _ _ c1s)).trans c1s; have c2t := (hbx.cell (World.block_lt_of_cell? _ _ c2s)).trans c2s; clear hbx; have HB5 := Aside0.mk hb5; clear hb5)
      have hb9 : Below (w1.alloc (.cells #[.bool c.f0, .int .i64 c.f1] 62)).heap.size (w1.alloc (.cells #[.bool c.f0, .int .i64 c.f1] 62)) ((w5.alloc (.cells #[.int .i64 p1, .int .i64 p2] 68)).alloc (.cells #[.int .i64 q1, .int .i64 q2] 68)) := HB5.out.trans ((by repeat (first | exact Below.refl _ _ | apply below_alloc) : Below w5.heap.size w5 _).mono HB5.out.size)
      have t0 : ((w5.alloc (.cells #[.int .i64 p1, .int .i64 p2] 68)).alloc (.cells #[.int .i64 q1, .int .i64 q2] 68)).cell? ⟨w5.heap.size + 1, 0, none⟩ = some (.int .i64 q1) := by simp
      have t1 : ((w5.alloc (.cells #[.int .i64 p1, .int .i64 p2] 68)).alloc (.cells #[.int .i64 q1, .int .i64 q2] 68)).cell? ⟨w5.heap.size + 1, 1, none⟩ = some (.int .i64 q2) := by simp
      have HM9 := Aside0.mk (HM3.out.below hb9)
      have HR9 := Aside0.mk (Kd.R_below HR3.out hb9)
      have HG9 := Aside0.mk (HG3.out.trans (Gr.of_below B G hb9))
      clear hb9 c0b c1b c2b d0b d1b f0b f1b c0s c1s c2s
      generalize ((w5.alloc (.cells #[.int .i64 p1, .int .i64 p2] 68)).alloc (.cells #[.int .i64 q1, .int .i64 q2] 68)) = W9 at c0t c1t c2t t0 t1 HM9 HR9 HG9 ⊢
      have HB9 := Aside0.mk (Gr.below HB0.out HG9.out hn0 hBB hGge)
      refine (IH.out p1 p2 W9 out (by omega) hin.1.1 (by omega) hin.1.2.2.1 (by omega) hol HB9.out HM9.out HR9.out).mono ?_
      rintro e w6 ⟨rfl, hm6, hr6, hg6⟩
      have c0u := hg6.cell (by omega) (by omega) c0t
      have c1u := hg6.cell (by omega) (by omega) c1t
      have c2u := hg6.cell (by omega) (by omega) c2t
      have t0u := hg6.cell (by omega) (by omega) t0
      have t1u := hg6.cell (by omega) (by omega) t1
      have HM6 := Aside0.mk hm6
      have HR6 := Aside0.mk hr6
      have HG6 := Aside0.mk (HG9.out.trans hg6)
      have HB6 := Aside0.mk (Gr.below HB0.out HG6.out hn0 hBB hGge)
      clear hm6 hr6 hg6 c0t c1t c2t t0 t1
      go_wp2_with fail
      refine (IH.out q1 q2 w6 _ (by omega) hin.2.1 (by omega) hin.2.2.2.1 (by omega) (by rw [countF_len]; exact hol) HB6.out HM6.out HR6.out).mono ?_
      rintro e w7 ⟨rfl, hm7, hr7, hg7⟩
      have HF := Aside0.mk (And.intro hm7 (And.intro hr7 (HG6.out.trans hg7)))
      clear hm7 hr7 hg7
      go_wp2_with fail
      (try simp only [Exit.inBlock, Exit.then])
      refine bodyPost_ret (results_none rfl _ _ _) rfl ?_
      rw [HNX.out]
      exact ⟨rfl, HF.out⟩
    | false =>
      have hnx := HN1.out
      clear HN1
      rw [if_neg Bool.false_ne_true] at hnx
      have HNX := Aside0.mk hnx
      clear hnx
      go_wp2_with fail
      refine (cutter_whole A0 c0 l0 tn (some B) a b _ (Kd.C_below HC.out HB3.out)).mono ?_
      rintro e w2 ⟨rfl, hb2⟩
      have HR4 := Aside0.mk (Kd.R_below HR3.out hb2)
      have HM4 := Aside0.mk (HM3.out.below hb2)
      have HG4 := Aside0.mk (HG3.out.trans (Gr.of_below B G hb2))
      have hBG : B ≠ G := fun e => memo_ne HM4.out HR4.out (by rw [e]; rfl)
      rw [show kdN l0 tn a b = (wholeN a b tn l0 0 0 (-1)).2 from rfl] at hkd HNX
      clear hb2 c0b c1b c2b d0b d1b f0b f1b HR3 HM3 HG3
      generalize wholeN a b tn l0 0 0 (-1) = wn at hkd HNX ⊢
      obtain ⟨v, kd⟩ := wn
      simp only at hkd HNX ⊢
      by_cases hneg : 0 ≤ kd
      · obtain ⟨k, rfl⟩ := Int.eq_ofNat_of_zero_le hneg
        have q1 : decide (0 ≤ (k : Int)) = true := decide_eq_true hneg
        have p1 : (0 ≤ (k : Int)) = True := eq_true hneg
        have p2 : ((k : Int) < (l0.length : Int)) = True := eq_true hkd.2
        obtain ⟨hcW, hfW⟩ := Kd.R_celln 0 HR4.out (k : Int) (by omega) (by omega)
        rw [Int.toNat_natCast] at hcW hfW
        have hy0 : rdOf 0 out (k : Int) = out.getD k 0 := by simp [rdOf]
        rw [hy0] at hcW
        have hn := HNX.out
        rw [if_pos hneg, Int.toNat_natCast] at hn
        generalize out.getD k 0 = x at hcW hn
        have HN2 := Aside0.mk hn
        have hput := Kd.R_putg HR4.out (k : Int) (wrap64 (x + 1))
        rw [Int.toNat_natCast] at hput
        have HPUT := Aside0.mk hput.1
        clear hn hput hkd hneg HNX hy0
        go_wp2_with fail
        go_end0
        rw [HN2.out]
        exact ⟨rfl, HM4.out.same (by simp [World.setCell, Array.getElem?_modify, Ne.symm hBG]), HPUT.out, HG4.out.set k _⟩
      · have q1 : decide (0 ≤ kd) = false := decide_eq_false hneg
        have hn := HNX.out
        rw [if_neg hneg] at hn
        have HN2 := Aside0.mk hn
        clear hn hneg HNX hkd
        go_wp2_with fail
        go_end0
        rw [HN2.out]
        exact ⟨rfl, HM4.out, HR4.out, HG4.out⟩

-- given: loop.example/g01334/impl.PiecesCut

/-! ### impl_PiecesCut: by hand -/
def impl_PiecesCut.f (a0 : Int) (a1 : Int) (l2 : List S35) (a3 : Bool) : Option (List Int × Bool) :=
  (impl_areCut.f a0 a1 l2).bind fun p => if p = true then (if 0 < l2.length ∧ l2.length ≤ 4 then some (countF (whN l2 a3) (kdN l2 a3) (a0 + a1).toNat a0 a1 (List.replicate l2.length 0), true) else none) else some ([], false)
set_option maxHeartbeats 2000000 in
set_option maxRecDepth 100000 in
theorem impl_PiecesCut.calls (a0 : Int) (a1 : Int) (A2 : Option Addr) (c2 : Nat) (l2 : List S35) (a3 : Bool) (r1 : List Int) (r2 : Bool) (w : World) (hr2 : Kd.C k35 w A2 l2.length l2) (hc2 : l2.length ≤ c2) (h : impl_PiecesCut.f a0 a1 l2 a3 = some (r1, r2)) :
    Calls Try.prog 48 #[.int .i64 a0, .int .i64 a1, .slice A2 l2.length c2, .bool a3] w fun e w' => ∃ v0_ : Value, e = .returned (.tuple #[v0_, .bool r2]) ∧ Kd.R (Kd.int .i64) 3 w' w.heap.size (fun _ => True) v0_ r1 ∧ Below w.heap.size w w' := by
  have hu := Try.underlying68
  have HR0 := Aside0.mk hr2
  have HC0 := Aside0.mk hc2
  clear hr2 hc2
  unfold impl_PiecesCut.f at h
  obtain ⟨p, hp, h⟩ := Option.bind_eq_some_iff.mp h
  have HP := Aside0.mk hp
  cases p with
  | false =>
    obtain ⟨rfl, rfl⟩ := Prod.mk.inj (Option.some.inj h)
    clear hp h
    go_enter Try.func48, Try.ntmps48
    go_wp2_with (go_at_call 67; refine (impl_areCut.calls a0 a1 A2 c2 l2 false _ HR0.out HC0.out HP.out).mono ?_; rintro e w1 ⟨rfl, hb1⟩; have HB1 := Aside0.mk hb1; clear hb1)
    go_ret2
    exact ⟨_, rfl, Kd.R_nil _ _ _ _ _, HB1.out⟩
  | true =>
    by_cases h4 : 0 < l2.length ∧ l2.length ≤ 4
    · simp only [if_true, if_pos h4] at h
      obtain ⟨rfl, rfl⟩ := Prod.mk.inj (Option.some.inj h)
      clear hp h
      obtain ⟨hne, h4⟩ := h4
      have hin := areCut_in HP.out
      have i1 := hin.1.1
      have i2 := hin.1.2
      have i3 := hin.2.1
      have i4 := hin.2.2
      clear hin
      go_enter Try.func48, Try.ntmps48
      go_wp2_with (first | (go_at_call 67; refine (impl_areCut.calls a0 a1 A2 c2 l2 true _ HR0.out HC0.out HP.out).mono ?_; rintro e w1 ⟨rfl, hb1⟩; have HB1 := Aside0.mk hb1; clear hb1) | ((with_reducible refine gate_dst (N := 18) rfl ?_); refine Kd.R_make (Kd.int .i64) (w0 := w) w.heap.size 3 rfl (N := 18) rfl 47 _ _ rfl (l2.length : Int) rfl rfl Try.underlying47 (.int .i64 0) 8 (by kernel_rfl) rfl (by decide) (by omega) 0 (ok := fun _ => True) (okp := fun _ => True) rfl (fun _ hk => hk) trivial (by omega) (by simp; omega) HB1.out HB1.out.size ?_; intro v3 w3 ho hb hg hnew; clear hg hnew; rw [Int.toNat_natCast] at ho; have HO3 := Aside0.mk ho; have HB3 := Aside0.mk hb; clear ho hb; obtain ⟨G, cap, e3, hg1, hg2, hg3⟩ := Kd.R_form HO3.out (by simp; omega); rw [List.length_replicate] at e3; subst e3; clear hg1 hg2 hg3) | (go_at_call 68; refine (cutterOf_calls A2 l2.length c2 a3 (cutV l2 a3) _).mono ?_; rintro e w4 ⟨B, rfl, hb4, hB, hm⟩; have HO4 := Aside0.mk (Kd.R_below HO3.out hb4); have HB4 := Aside0.mk (HB3.out.trans (hb4.mono HB3.out.size)); have HBB := Aside0.mk (Nat.le_trans HB3.out.size hB); have HM := Aside0.mk hm; clear hb4 hB hm) | (go_at_call 76; refine (cutter_count A2 c2 l2 a3 B G cap w HR0.out HBB.out hne (a0 + a1).toNat a0 a1 _ (List.replicate l2.length 0) (Nat.le_refl _) i1 i2 i3 i4 (List.length_replicate ..) HB4.out HM.out HO4.out).mono ?_; rintro e w5 ⟨rfl, hm5, hr5, hg5⟩; have HR5 := Aside0.mk hr5; have HB5 := Aside0.mk (Gr.below HB4.out hg5 HB4.out.size HBB.out (Kd.R_base HO4.out G rfl)); clear hm5 hr5 hg5))
      go_ret2
      exact ⟨_, rfl, HR5.out, HB5.out⟩
    · simp only [if_true, if_neg h4] at h
      exact absurd h (by simp)

/-! ### laws_FnExactPiecesCut: function 14 -/
def laws_FnExactPiecesCut.j0 : Nat → Int → Int → List (S33) → Bool → List Int → Bool → List Int → Bool → Option (Bool)
  | 0, _, _, _, _, _, _, _, _ => none
  | k + 1, x0, x1, x2, x3, x10, x11, x13, x73 => if x73 = true then (some false) else ((laws_markIntS.f k x13 1).bind fun bt248 => ((laws_heldIntS.f k bt248.2 1).bind fun t250 => (if t250 < 0 then (some false) else (if t250 = bt248.1 then ((laws_toPieceS.f k x2).bind fun t251 => ((impl_PiecesCut.f x0 x1 t251 x3).bind fun bt254 => ((laws_eqIntS.f k bt254.1 x10).bind fun t258 => (if t258 = true then (if (bt254.2 != x11) = true then (none) else ((laws_heldIntS.f k bt248.2 1).bind fun t259 => (if t259 < 0 then (some false) else (if t259 = bt248.1 then (some true) else (none))))) else (none))))) else (none)))))
def laws_FnExactPiecesCut.f (k : Nat) (a0 : Int) (a1 : Int) (l2 : List (S33)) (a3 : Bool) : Option (Bool) := (laws_szPieceS.f l2 1048576).bind fun t225 => (if t225 < 0 then (some true) else ((laws_toPieceS.f k l2).bind fun t226 => ((spec_PiecesCut.f k a0 a1 t226 a3).bind fun bt229 => ((laws_toPieceS.f k l2).bind fun t233 => ((impl_PiecesCut.f a0 a1 t233 a3).bind fun bt236 => ((laws_eqIntS.f k bt236.1 bt229.1).bind fun t240 => (if t240 = true then (if (bt236.2 != bt229.2) = true then (none) else ((laws_toPieceS.f k l2).bind fun t241 => ((laws_eqPieceS.f k t233 t241).bind fun t244 => (if t244 = true then ((laws_markPieceS.f k t233 1).bind fun bt245 => (if bt245.1 < 0 then (laws_FnExactPiecesCut.j0 k a0 a1 l2 a3 bt229.1 bt229.2 bt236.1 true) else ((laws_eqIntS.f k bt236.1 bt229.1).bind fun t247 => (if t247 = true then (laws_FnExactPiecesCut.j0 k a0 a1 l2 a3 bt229.1 bt229.2 bt236.1 false) else (none))))) else (none))))) else (none))))))))
theorem laws_FnExactPiecesCut.mono_l : ∀ k, (∀ y0 y1 y2 y3 y4 y5 y6 y7, LeO (laws_FnExactPiecesCut.j0 k y0 y1 y2 y3 y4 y5 y6 y7) (laws_FnExactPiecesCut.j0 (k + 1) y0 y1 y2 y3 y4 y5 y6 y7))
  | 0 => fun _ _ _ _ _ _ _ _ r h => by simp [laws_FnExactPiecesCut.j0] at h
  | k + 1 => by
    have ih0 := laws_FnExactPiecesCut.mono_l k
    · intro y0 y1 y2 y3 y4 y5 y6 y7
      unfold laws_FnExactPiecesCut.j0
      repeat' first
      | (with_reducible exact ih0 _ _ _ _ _ _ _ _)
      | (with_reducible exact laws_eqIntS.mono _ _ _)
      | (with_reducible exact laws_eqPieceS.mono _ _ _)
      | (with_reducible exact laws_heldIntS.mono _ _ _)
      | (with_reducible exact laws_markIntS.mono _ _ _)
      | (with_reducible exact laws_markPieceS.mono _ _ _)
      | (with_reducible exact laws_toPieceS.mono _ _)
      | (with_reducible exact spec_PiecesCut.mono _ _ _ _ _)
      | (with_reducible exact LeO.refl _)
      | (with_reducible exact LeO.none _)
      | (with_reducible refine LeO.ite ?_ ?_)
      | (with_reducible refine LeO.bind ?_ (fun _ => ?_))
      | exact ih0 _ _ _ _ _ _ _ _
      | exact laws_eqIntS.mono _ _ _
      | exact laws_eqPieceS.mono _ _ _
      | exact laws_heldIntS.mono _ _ _
      | exact laws_markIntS.mono _ _ _
      | exact laws_markPieceS.mono _ _ _
      | exact laws_toPieceS.mono _ _
      | exact spec_PiecesCut.mono _ _ _ _ _
      | exact LeO.none _
      | refine LeO.ite ?_ ?_
      | refine LeO.bind ?_ (fun _ => ?_)
theorem laws_FnExactPiecesCut.mono : ∀ a0 a1 a2 a3 k, LeO (laws_FnExactPiecesCut.f k a0 a1 a2 a3) (laws_FnExactPiecesCut.f (k + 1) a0 a1 a2 a3) := by
  intro a0 a1 a2 a3 k
  have ih0 := laws_FnExactPiecesCut.mono_l k
  unfold laws_FnExactPiecesCut.f
  repeat' first
      | (with_reducible exact ih0 _ _ _ _ _ _ _ _)
      | (with_reducible exact laws_eqIntS.mono _ _ _)
      | (with_reducible exact laws_eqPieceS.mono _ _ _)
      | (with_reducible exact laws_heldIntS.mono _ _ _)
      | (with_reducible exact laws_markIntS.mono _ _ _)
      | (with_reducible exact laws_markPieceS.mono _ _ _)
      | (with_reducible exact laws_toPieceS.mono _ _)
      | (with_reducible exact spec_PiecesCut.mono _ _ _ _ _)
      | (with_reducible exact LeO.refl _)
      | (with_reducible exact LeO.none _)
      | (with_reducible refine LeO.ite ?_ ?_)
      | (with_reducible refine LeO.bind ?_ (fun _ => ?_))
      | exact ih0 _ _ _ _ _ _ _ _
      | exact laws_eqIntS.mono _ _ _
      | exact laws_eqPieceS.mono _ _ _
      | exact laws_heldIntS.mono _ _ _
      | exact laws_markIntS.mono _ _ _
      | exact laws_markPieceS.mono _ _ _
      | exact laws_toPieceS.mono _ _
      | exact spec_PiecesCut.mono _ _ _ _ _
      | exact LeO.none _
      | refine LeO.ite ?_ ?_
      | refine LeO.bind ?_ (fun _ => ?_)
set_option maxHeartbeats 8000000 in
set_option maxRecDepth 100000 in
theorem laws_FnExactPiecesCut.calls (k : Nat) (a0 : Int) (a1 : Int) (A2 : Option Addr) (c2 : Nat) (l2 : List (S33)) (a3 : Bool) (r : Bool) (w : World) (hr2 : Kd.C k33 w A2 l2.length l2) (hc2 : l2.length ≤ c2) (hrt : r = true) (h : laws_FnExactPiecesCut.f k a0 a1 l2 a3 = some r) :
    Calls Try.prog 14 #[.int .i64 a0, .int .i64 a1, .slice A2 l2.length c2, .bool a3] w fun e w' => e = .returned (.bool r) ∧ Below w.heap.size w w' := by
  have HRT := Aside0.mk hrt
  clear hrt
  have HR2 := Aside0.mk hr2
  have HC2 := Aside0.mk hc2
  clear hr2 hc2
  have HB := Aside0.mk (Below.refl w.heap.size w)
  have H : ((laws_szPieceS.f l2 1048576).bind fun t225 => (if t225 < 0 then (some true) else ((laws_toPieceS.f k l2).bind fun t226 => ((spec_PiecesCut.f k a0 a1 t226 a3).bind fun bt229 => ((laws_toPieceS.f k l2).bind fun t233 => ((impl_PiecesCut.f a0 a1 t233 a3).bind fun bt236 => ((laws_eqIntS.f k bt236.1 bt229.1).bind fun t240 => (if t240 = true then (if (bt236.2 != bt229.2) = true then (none) else ((laws_toPieceS.f k l2).bind fun t241 => ((laws_eqPieceS.f k t233 t241).bind fun t244 => (if t244 = true then ((laws_markPieceS.f k t233 1).bind fun bt245 => (if bt245.1 < 0 then (laws_FnExactPiecesCut.j0 k a0 a1 l2 a3 bt229.1 bt229.2 bt236.1 true) else ((laws_eqIntS.f k bt236.1 bt229.1).bind fun t247 => (if t247 = true then (laws_FnExactPiecesCut.j0 k a0 a1 l2 a3 bt229.1 bt229.2 bt236.1 false) else (none))))) else (none))))) else (none))))))))) = some r := h
  clear h
  replace H := Option.bind_eq_some_iff.mp H
  obtain ⟨t225, A50, H⟩ := H
  replace H : (if t225 < 0 then (some true) else ((laws_toPieceS.f k l2).bind fun t226 => ((spec_PiecesCut.f k a0 a1 t226 a3).bind fun bt229 => ((laws_toPieceS.f k l2).bind fun t233 => ((impl_PiecesCut.f a0 a1 t233 a3).bind fun bt236 => ((laws_eqIntS.f k bt236.1 bt229.1).bind fun t240 => (if t240 = true then (if (bt236.2 != bt229.2) = true then (none) else ((laws_toPieceS.f k l2).bind fun t241 => ((laws_eqPieceS.f k t233 t241).bind fun t244 => (if t244 = true then ((laws_markPieceS.f k t233 1).bind fun bt245 => (if bt245.1 < 0 then (laws_FnExactPiecesCut.j0 k a0 a1 l2 a3 bt229.1 bt229.2 bt236.1 true) else ((laws_eqIntS.f k bt236.1 bt229.1).bind fun t247 => (if t247 = true then (laws_FnExactPiecesCut.j0 k a0 a1 l2 a3 bt229.1 bt229.2 bt236.1 false) else (none))))) else (none))))) else (none)))))))) = some r := H
  have A5 := Aside0.mk A50
  clear A50
  by_cases c6 : t225 < 0
  · rw [if_pos c6] at H
    have c6b0 : decide (t225 < 0) = true := decide_eq_true c6
    clear c6
    obtain rfl := Option.some.inj H
    go_enter Try.func14, Try.ntmps14
    go_wp2_with (first | ((with_reducible refine gate_callee (f := 16) rfl ?_); refine goesL_ (some 22) rfl rfl Try.func16 (by kernel_rfl) rfl #[.slice A2 l2.length c2, .int .i64 1048576] rfl (by (try simp only [List.map_toArray, List.map_cons, List.map_nil]); first | done | rfl | (simp only [List.length_drop, List.length_take]; rfl)) ?_; (with_reducible refine (laws_szPieceS.calls _ _ l2 1048576 t225 _ ?side1 ?side2 A5.out).mono ?_); (case side1 => repeat (first | exact HR2.out | (with_reducible refine Kd.C_alloc ?_ _) | (with_reducible refine Kd.C_drewN ?_ _) | (with_reducible refine Kd.C_drew ?_))); (case side2 => exact HC2.out); rintro e w' ⟨rfl, ⟨nd, rfl⟩⟩; refine ⟨_, rfl, ?_⟩))
    go_ret
    exact ⟨by first | rfl | (simp [errW_none, errW_some] <;> rfl) | (simp [*, errW_none, errW_some] <;> rfl), by repeat (first | (with_reducible first | exact HB.out | apply below_alloc | apply pw_below_drewN | apply below_drew1) | exact HB.out)⟩
  · rw [if_neg c6] at H
    have c6b0 : decide (t225 < 0) = false := decide_eq_false c6
    clear c6
    replace H := Option.bind_eq_some_iff.mp H
    obtain ⟨t226, A70, H⟩ := H
    replace H : ((spec_PiecesCut.f k a0 a1 t226 a3).bind fun bt229 => ((laws_toPieceS.f k l2).bind fun t233 => ((impl_PiecesCut.f a0 a1 t233 a3).bind fun bt236 => ((laws_eqIntS.f k bt236.1 bt229.1).bind fun t240 => (if t240 = true then (if (bt236.2 != bt229.2) = true then (none) else ((laws_toPieceS.f k l2).bind fun t241 => ((laws_eqPieceS.f k t233 t241).bind fun t244 => (if t244 = true then ((laws_markPieceS.f k t233 1).bind fun bt245 => (if bt245.1 < 0 then (laws_FnExactPiecesCut.j0 k a0 a1 l2 a3 bt229.1 bt229.2 bt236.1 true) else ((laws_eqIntS.f k bt236.1 bt229.1).bind fun t247 => (if t247 = true then (laws_FnExactPiecesCut.j0 k a0 a1 l2 a3 bt229.1 bt229.2 bt236.1 false) else (none))))) else (none))))) else (none)))))) = some r := H
    have A7 := Aside0.mk A70
    clear A70
    replace H := Option.bind_eq_some_iff.mp H
    obtain ⟨⟨t229, t230⟩, A80, H⟩ := H
    replace H : ((laws_toPieceS.f k l2).bind fun t233 => ((impl_PiecesCut.f a0 a1 t233 a3).bind fun bt236 => ((laws_eqIntS.f k bt236.1 t229).bind fun t240 => (if t240 = true then (if (bt236.2 != t230) = true then (none) else ((laws_toPieceS.f k l2).bind fun t241 => ((laws_eqPieceS.f k t233 t241).bind fun t244 => (if t244 = true then ((laws_markPieceS.f k t233 1).bind fun bt245 => (if bt245.1 < 0 then (laws_FnExactPiecesCut.j0 k a0 a1 l2 a3 t229 t230 bt236.1 true) else ((laws_eqIntS.f k bt236.1 t229).bind fun t247 => (if t247 = true then (laws_FnExactPiecesCut.j0 k a0 a1 l2 a3 t229 t230 bt236.1 false) else (none))))) else (none))))) else (none))))) = some r := H
    have A8 := Aside0.mk A80
    clear A80
    replace H := Option.bind_eq_some_iff.mp H
    obtain ⟨t233, A90, H⟩ := H
    replace H : ((impl_PiecesCut.f a0 a1 t233 a3).bind fun bt236 => ((laws_eqIntS.f k bt236.1 t229).bind fun t240 => (if t240 = true then (if (bt236.2 != t230) = true then (none) else ((laws_toPieceS.f k l2).bind fun t241 => ((laws_eqPieceS.f k t233 t241).bind fun t244 => (if t244 = true then ((laws_markPieceS.f k t233 1).bind fun bt245 => (if bt245.1 < 0 then (laws_FnExactPiecesCut.j0 k a0 a1 l2 a3 t229 t230 bt236.1 true) else ((laws_eqIntS.f k bt236.1 t229).bind fun t247 => (if t247 = true then (laws_FnExactPiecesCut.j0 k a0 a1 l2 a3 t229 t230 bt236.1 false) else (none))))) else (none))))) else (none)))) = some r := H
    have A9 := Aside0.mk A90
    clear A90
    replace H := Option.bind_eq_some_iff.mp H
    obtain ⟨⟨t236, t237⟩, A100, H⟩ := H
    replace H : ((laws_eqIntS.f k t236 t229).bind fun t240 => (if t240 = true then (if (t237 != t230) = true then (none) else ((laws_toPieceS.f k l2).bind fun t241 => ((laws_eqPieceS.f k t233 t241).bind fun t244 => (if t244 = true then ((laws_markPieceS.f k t233 1).bind fun bt245 => (if bt245.1 < 0 then (laws_FnExactPiecesCut.j0 k a0 a1 l2 a3 t229 t230 t236 true) else ((laws_eqIntS.f k t236 t229).bind fun t247 => (if t247 = true then (laws_FnExactPiecesCut.j0 k a0 a1 l2 a3 t229 t230 t236 false) else (none))))) else (none))))) else (none))) = some r := H
    have A10 := Aside0.mk A100
    clear A100
    replace H := Option.bind_eq_some_iff.mp H
    obtain ⟨t240, A110, H⟩ := H
    replace H : (if t240 = true then (if (t237 != t230) = true then (none) else ((laws_toPieceS.f k l2).bind fun t241 => ((laws_eqPieceS.f k t233 t241).bind fun t244 => (if t244 = true then ((laws_markPieceS.f k t233 1).bind fun bt245 => (if bt245.1 < 0 then (laws_FnExactPiecesCut.j0 k a0 a1 l2 a3 t229 t230 t236 true) else ((laws_eqIntS.f k t236 t229).bind fun t247 => (if t247 = true then (laws_FnExactPiecesCut.j0 k a0 a1 l2 a3 t229 t230 t236 false) else (none))))) else (none))))) else (none)) = some r := H
    have A11 := Aside0.mk A110
    clear A110
    by_cases c12 : t240 = true
    · subst c12
      have H1 : (if (t237 != t230) = true then (none) else ((laws_toPieceS.f k l2).bind fun t241 => ((laws_eqPieceS.f k t233 t241).bind fun t244 => (if t244 = true then ((laws_markPieceS.f k t233 1).bind fun bt245 => (if bt245.1 < 0 then (laws_FnExactPiecesCut.j0 k a0 a1 l2 a3 t229 t230 t236 true) else ((laws_eqIntS.f k t236 t229).bind fun t247 => (if t247 = true then (laws_FnExactPiecesCut.j0 k a0 a1 l2 a3 t229 t230 t236 false) else (none))))) else (none))))) = some r := by rw [if_pos rfl] at H; exact H
      clear H
      have H := H1
      clear H1
      by_cases c13 : (t237 != t230) = true
      · rw [if_pos c13] at H
        exact absurd H (by simp)
      · rw [if_neg c13] at H
        have c13b0 : (t237 != t230) = false := by simpa using c13
        (try (have c13b1 : decide (t237 = t230) = true := by simpa using c13))
        (try (have c13b2 : (t237 == t230) = true := by simpa using c13))
        clear c13
        replace H := Option.bind_eq_some_iff.mp H
        obtain ⟨t241, A140, H⟩ := H
        replace H : ((laws_eqPieceS.f k t233 t241).bind fun t244 => (if t244 = true then ((laws_markPieceS.f k t233 1).bind fun bt245 => (if bt245.1 < 0 then (laws_FnExactPiecesCut.j0 k a0 a1 l2 a3 t229 t230 t236 true) else ((laws_eqIntS.f k t236 t229).bind fun t247 => (if t247 = true then (laws_FnExactPiecesCut.j0 k a0 a1 l2 a3 t229 t230 t236 false) else (none))))) else (none))) = some r := H
        have A14 := Aside0.mk A140
        clear A140
        replace H := Option.bind_eq_some_iff.mp H
        obtain ⟨t244, A150, H⟩ := H
        replace H : (if t244 = true then ((laws_markPieceS.f k t233 1).bind fun bt245 => (if bt245.1 < 0 then (laws_FnExactPiecesCut.j0 k a0 a1 l2 a3 t229 t230 t236 true) else ((laws_eqIntS.f k t236 t229).bind fun t247 => (if t247 = true then (laws_FnExactPiecesCut.j0 k a0 a1 l2 a3 t229 t230 t236 false) else (none))))) else (none)) = some r := H
        have A15 := Aside0.mk A150
        clear A150
        by_cases c16 : t244 = true
        · subst c16
          have H1 : ((laws_markPieceS.f k t233 1).bind fun bt245 => (if bt245.1 < 0 then (laws_FnExactPiecesCut.j0 k a0 a1 l2 a3 t229 t230 t236 true) else ((laws_eqIntS.f k t236 t229).bind fun t247 => (if t247 = true then (laws_FnExactPiecesCut.j0 k a0 a1 l2 a3 t229 t230 t236 false) else (none))))) = some r := by rw [if_pos rfl] at H; exact H
          clear H
          have H := H1
          clear H1
          replace H := Option.bind_eq_some_iff.mp H
          obtain ⟨⟨t245, t246⟩, A170, H⟩ := H
          replace H : (if t245 < 0 then (laws_FnExactPiecesCut.j0 k a0 a1 l2 a3 t229 t230 t236 true) else ((laws_eqIntS.f k t236 t229).bind fun t247 => (if t247 = true then (laws_FnExactPiecesCut.j0 k a0 a1 l2 a3 t229 t230 t236 false) else (none)))) = some r := H
          have A17 := Aside0.mk A170
          clear A170
          have HC18 := Aside0.mk H
          clear H
          go_enter Try.func14, Try.ntmps14
          go_upto_region 14 with (first | ((with_reducible refine gate_callee (f := 16) rfl ?_); refine goesL_ (some 22) rfl rfl Try.func16 (by kernel_rfl) rfl #[.slice A2 l2.length c2, .int .i64 1048576] rfl (by (try simp only [List.map_toArray, List.map_cons, List.map_nil]); first | done | rfl | (simp only [List.length_drop, List.length_take]; rfl)) ?_; (with_reducible refine (laws_szPieceS.calls _ _ l2 1048576 t225 _ ?side1 ?side2 A5.out).mono ?_); (case side1 => repeat (first | exact HR2.out | (with_reducible refine Kd.C_alloc ?_ _) | (with_reducible refine Kd.C_drewN ?_ _) | (with_reducible refine Kd.C_drew ?_))); (case side2 => exact HC2.out); rintro e w' ⟨rfl, ⟨nd, rfl⟩⟩; refine ⟨_, rfl, ?_⟩) | ((with_reducible refine gate_callee (f := 18) rfl ?_); refine goesL_ (some 29) rfl rfl Try.func18 (by kernel_rfl) rfl #[.slice A2 l2.length c2] rfl (by (try simp only [List.map_toArray, List.map_cons, List.map_nil]); first | done | rfl | (simp only [List.length_drop, List.length_take]; rfl)) ?_; (with_reducible refine (laws_toPieceS.calls k _ _ l2 t226 _ ?side1 ?side2 A7.out).mono ?_); (case side1 => repeat (first | exact HR2.out | (with_reducible refine Kd.C_alloc ?_ _) | (with_reducible refine Kd.C_drewN ?_ _) | (with_reducible refine Kd.C_drew ?_))); (case side2 => exact HC2.out); rintro e w19 ⟨v227, rfl, ho0, hb⟩; refine ⟨_, rfl, ?_⟩; have n0_ := Aside0.mk (Kd.R_lower ho0 (below_size (by repeat (first | (with_reducible first | exact HB.out | apply below_alloc | apply pw_below_drewN | apply below_drew1) | exact HB.out)))); have n1_ := Aside0.mk (below_step (by repeat (first | (with_reducible first | exact HB.out | apply below_alloc | apply pw_below_drewN | apply below_drew1) | exact HB.out)) hb); clear HB; have HO228 := n0_; have HB := n1_; clear n0_ n1_; (try clear hb); (try clear hb2); (try clear hk); (try clear hi); (try clear ho0); obtain ⟨Ao20, co20, eo20⟩ := Kd.R_slice HO228.out; subst eo20) | ((with_reducible refine gate_callee (f := 47) rfl ?_); refine goesL_ (some 31) rfl rfl Try.func47 (by kernel_rfl) rfl #[.int .i64 a0, .int .i64 a1, .slice Ao20 t226.length co20, .bool a3] rfl (by (try simp only [List.map_toArray, List.map_cons, List.map_nil]); first | done | rfl | (simp only [List.length_drop, List.length_take]; rfl)) ?_; (with_reducible refine (spec_PiecesCut.calls k a0 a1 _ _ t226 a3 t229 t230 _ ?side1 ?side2 A8.out).mono ?_); (case side1 => repeat (first | exact (Kd.R_reads' HO228.out).2.2 | (with_reducible refine Kd.C_alloc ?_ _) | (with_reducible refine Kd.C_drewN ?_ _) | (with_reducible refine Kd.C_drew ?_))); (case side2 => exact (Kd.R_reads' HO228.out).2.1); rintro e w21 ⟨v231, rfl, ho0, hb⟩; refine ⟨_, rfl, ?_⟩; have n0_ := Aside0.mk (Kd.R_below (by (with_reducible repeat (first | apply Kd.R_alloc | apply Kd.R_drewN | apply Kd.R_drew)); exact HO228.out) hb); have n1_ := Aside0.mk (Kd.R_lower ho0 (below_size (by repeat (first | (with_reducible first | exact HB.out | apply below_alloc | apply pw_below_drewN | apply below_drew1) | exact HB.out)))); have n2_ := Aside0.mk (below_step (by repeat (first | (with_reducible first | exact HB.out | apply below_alloc | apply pw_below_drewN | apply below_drew1) | exact HB.out)) hb); clear HO228; clear HB; have HO228 := n0_; have HO232 := n1_; have HB := n2_; clear n0_ n1_ n2_; (try clear hb); (try clear hb2); (try clear hk); (try clear hi); (try clear ho0)) | ((with_reducible refine gate_callee (f := 18) rfl ?_); refine goesL_ (some 35) rfl rfl Try.func18 (by kernel_rfl) rfl #[.slice A2 l2.length c2] rfl (by (try simp only [List.map_toArray, List.map_cons, List.map_nil]); first | done | rfl | (simp only [List.length_drop, List.length_take]; rfl)) ?_; (with_reducible refine (laws_toPieceS.calls k _ _ l2 t233 _ ?side1 ?side2 A9.out).mono ?_); (case side1 => repeat (first | exact (Kd.C_below HR2.out HB.out) | (with_reducible refine Kd.C_alloc ?_ _) | (with_reducible refine Kd.C_drewN ?_ _) | (with_reducible refine Kd.C_drew ?_))); (case side2 => exact HC2.out); rintro e w22 ⟨v234, rfl, ho0, hb⟩; refine ⟨_, rfl, ?_⟩; have n0_ := Aside0.mk (Kd.R_elder' (by (with_reducible repeat (first | apply Kd.R_alloc | apply Kd.R_drewN | apply Kd.R_drew)); exact HO228.out) (Kd.R_base ho0) hb); have n1_ := Aside0.mk (Kd.R_below (by (with_reducible repeat (first | apply Kd.R_alloc | apply Kd.R_drewN | apply Kd.R_drew)); exact HO232.out) hb); have n2_ := Aside0.mk (Kd.R_lower (Kd.R_new' ho0 (Kd.R_lt (by (with_reducible repeat (first | apply Kd.R_alloc | apply Kd.R_drewN | apply Kd.R_drew)); exact HO228.out))) (below_size (by repeat (first | (with_reducible first | exact HB.out | apply below_alloc | apply pw_below_drewN | apply below_drew1) | exact HB.out)))); have n3_ := Aside0.mk (below_step (by repeat (first | (with_reducible first | exact HB.out | apply below_alloc | apply pw_below_drewN | apply below_drew1) | exact HB.out)) hb); clear HO228; clear HO232; clear HB; have HO228 := n0_; have HO232 := n1_; have HO235 := n2_; have HB := n3_; clear n0_ n1_ n2_ n3_; (try clear hb); (try clear hb2); (try clear hk); (try clear hi); (try clear ho0); obtain ⟨Ao23, co23, eo23⟩ := Kd.R_slice HO235.out; subst eo23) | ((with_reducible refine gate_callee (f := 48) rfl ?_); refine goesL_ (some 41) rfl rfl Try.func48 (by kernel_rfl) rfl #[.int .i64 a0, .int .i64 a1, .slice Ao23 t233.length co23, .bool a3] rfl (by (try simp only [List.map_toArray, List.map_cons, List.map_nil]); first | done | rfl | (simp only [List.length_drop, List.length_take]; rfl)) ?_; (with_reducible refine (impl_PiecesCut.calls a0 a1 _ _ t233 a3 t236 t237 _ ?side1 ?side2 A10.out).mono ?_); (case side1 => repeat (first | exact (Kd.R_reads' HO235.out).2.2 | (with_reducible refine Kd.C_alloc ?_ _) | (with_reducible refine Kd.C_drewN ?_ _) | (with_reducible refine Kd.C_drew ?_))); (case side2 => exact (Kd.R_reads' HO235.out).2.1); rintro e w24 ⟨v238, rfl, ho0, hb⟩; refine ⟨_, rfl, ?_⟩; have n0_ := Aside0.mk (Kd.R_below (by (with_reducible repeat (first | apply Kd.R_alloc | apply Kd.R_drewN | apply Kd.R_drew)); exact HO228.out) hb); have n1_ := Aside0.mk (Kd.R_elder' (by (with_reducible repeat (first | apply Kd.R_alloc | apply Kd.R_drewN | apply Kd.R_drew)); exact HO232.out) (Kd.R_base ho0) hb); have n2_ := Aside0.mk (Kd.R_below (by (with_reducible repeat (first | apply Kd.R_alloc | apply Kd.R_drewN | apply Kd.R_drew)); exact HO235.out) hb); have n3_ := Aside0.mk (Kd.R_lower (Kd.R_new' ho0 (Kd.R_lt (by (with_reducible repeat (first | apply Kd.R_alloc | apply Kd.R_drewN | apply Kd.R_drew)); exact HO232.out))) (below_size (by repeat (first | (with_reducible first | exact HB.out | apply below_alloc | apply pw_below_drewN | apply below_drew1) | exact HB.out)))); have n4_ := Aside0.mk (below_step (by repeat (first | (with_reducible first | exact HB.out | apply below_alloc | apply pw_below_drewN | apply below_drew1) | exact HB.out)) hb); clear HO228; clear HO232; clear HO235; clear HB; have HO228 := n0_; have HO232 := n1_; have HO235 := n2_; have HO239 := n3_; have HB := n4_; clear n0_ n1_ n2_ n3_ n4_; (try clear hb); (try clear hb2); (try clear hk); (try clear hi); (try clear ho0); obtain ⟨Ao25, co25, eo25⟩ := Kd.R_slice HO239.out; subst eo25; obtain ⟨Ao26, co26, eo26⟩ := Kd.R_slice HO232.out; subst eo26) | ((with_reducible refine gate_callee (f := 42) rfl ?_); refine goesL_ (some 46) rfl rfl Try.func42 (by kernel_rfl) rfl #[.slice Ao25 t236.length co25, .slice Ao26 t229.length co26] rfl (by (try simp only [List.map_toArray, List.map_cons, List.map_nil]); first | done | rfl | (simp only [List.length_drop, List.length_take]; rfl)) ?_; (with_reducible refine (laws_eqIntS.calls k _ _ t236 _ _ t229 true _ ?side1 ?side2 ?side3 ?side4 A11.out).mono ?_); (case side1 => repeat (first | exact (Kd.R_reads' HO239.out).2.2 | (with_reducible refine Kd.C_alloc ?_ _) | (with_reducible refine Kd.C_drewN ?_ _) | (with_reducible refine Kd.C_drew ?_))); (case side2 => exact (Kd.R_reads' HO239.out).2.1); (case side3 => repeat (first | exact (Kd.R_reads' HO232.out).2.2 | (with_reducible refine Kd.C_alloc ?_ _) | (with_reducible refine Kd.C_drewN ?_ _) | (with_reducible refine Kd.C_drew ?_))); (case side4 => exact (Kd.R_reads' HO232.out).2.1); rintro e w' ⟨rfl, ⟨nd, rfl⟩⟩; refine ⟨_, rfl, ?_⟩) | ((with_reducible refine gate_callee (f := 18) rfl ?_); refine goesL_ (some 55) rfl rfl Try.func18 (by kernel_rfl) rfl #[.slice A2 l2.length c2] rfl (by (try simp only [List.map_toArray, List.map_cons, List.map_nil]); first | done | rfl | (simp only [List.length_drop, List.length_take]; rfl)) ?_; (with_reducible refine (laws_toPieceS.calls k _ _ l2 t241 _ ?side1 ?side2 A14.out).mono ?_); (case side1 => repeat (first | exact (Kd.C_below HR2.out (by repeat (first | (with_reducible first | exact HB.out | apply below_alloc | apply pw_below_drewN | apply below_drew1) | exact HB.out))) | (with_reducible refine Kd.C_alloc ?_ _) | (with_reducible refine Kd.C_drewN ?_ _) | (with_reducible refine Kd.C_drew ?_))); (case side2 => exact HC2.out); rintro e w27 ⟨v242, rfl, ho0, hb⟩; refine ⟨_, rfl, ?_⟩; have n0_ := Aside0.mk (Kd.R_elder' (by (with_reducible repeat (first | apply Kd.R_alloc | apply Kd.R_drewN | apply Kd.R_drew)); exact HO228.out) (Kd.R_base ho0) hb); have n1_ := Aside0.mk (Kd.R_below (by (with_reducible repeat (first | apply Kd.R_alloc | apply Kd.R_drewN | apply Kd.R_drew)); exact HO232.out) hb); have n2_ := Aside0.mk (Kd.R_elder' (by (with_reducible repeat (first | apply Kd.R_alloc | apply Kd.R_drewN | apply Kd.R_drew)); exact HO235.out) (Kd.R_base ho0) hb); have n3_ := Aside0.mk (Kd.R_below (by (with_reducible repeat (first | apply Kd.R_alloc | apply Kd.R_drewN | apply Kd.R_drew)); exact HO239.out) hb); have n4_ := Aside0.mk (Kd.R_lower (Kd.R_new' (Kd.R_new' ho0 (Kd.R_lt (by (with_reducible repeat (first | apply Kd.R_alloc | apply Kd.R_drewN | apply Kd.R_drew)); exact HO228.out))) (Kd.R_lt (by (with_reducible repeat (first | apply Kd.R_alloc | apply Kd.R_drewN | apply Kd.R_drew)); exact HO235.out))) (below_size (by repeat (first | (with_reducible first | exact HB.out | apply below_alloc | apply pw_below_drewN | apply below_drew1) | exact HB.out)))); have n5_ := Aside0.mk (below_step (by repeat (first | (with_reducible first | exact HB.out | apply below_alloc | apply pw_below_drewN | apply below_drew1) | exact HB.out)) hb); clear HO228; clear HO232; clear HO235; clear HO239; clear HB; have HO228 := n0_; have HO232 := n1_; have HO235 := n2_; have HO239 := n3_; have HO243 := n4_; have HB := n5_; clear n0_ n1_ n2_ n3_ n4_ n5_; (try clear hb); (try clear hb2); (try clear hk); (try clear hi); (try clear ho0); obtain ⟨Ao28, co28, eo28⟩ := Kd.R_slice HO243.out; subst eo28) | ((with_reducible refine gate_callee (f := 20) rfl ?_); refine goesL_ (some 56) rfl rfl Try.func20 (by kernel_rfl) rfl #[.slice Ao23 t233.length co23, .slice Ao28 t241.length co28] rfl (by (try simp only [List.map_toArray, List.map_cons, List.map_nil]); first | done | rfl | (simp only [List.length_drop, List.length_take]; rfl)) ?_; (with_reducible refine (laws_eqPieceS.calls k _ _ t233 _ _ t241 true _ ?side1 ?side2 ?side3 ?side4 A15.out).mono ?_); (case side1 => repeat (first | exact (Kd.R_reads' HO235.out).2.2 | (with_reducible refine Kd.C_alloc ?_ _) | (with_reducible refine Kd.C_drewN ?_ _) | (with_reducible refine Kd.C_drew ?_))); (case side2 => exact (Kd.R_reads' HO235.out).2.1); (case side3 => repeat (first | exact (Kd.R_reads' HO243.out).2.2 | (with_reducible refine Kd.C_alloc ?_ _) | (with_reducible refine Kd.C_drewN ?_ _) | (with_reducible refine Kd.C_drew ?_))); (case side4 => exact (Kd.R_reads' HO243.out).2.1); rintro e w29 ⟨rfl, hb⟩; refine ⟨_, rfl, ?_⟩; have n0_ := Aside0.mk (Kd.R_below (by (with_reducible repeat (first | apply Kd.R_alloc | apply Kd.R_drewN | apply Kd.R_drew)); exact HO228.out) hb); have n1_ := Aside0.mk (Kd.R_below (by (with_reducible repeat (first | apply Kd.R_alloc | apply Kd.R_drewN | apply Kd.R_drew)); exact HO232.out) hb); have n2_ := Aside0.mk (Kd.R_below (by (with_reducible repeat (first | apply Kd.R_alloc | apply Kd.R_drewN | apply Kd.R_drew)); exact HO235.out) hb); have n3_ := Aside0.mk (Kd.R_below (by (with_reducible repeat (first | apply Kd.R_alloc | apply Kd.R_drewN | apply Kd.R_drew)); exact HO239.out) hb); have n4_ := Aside0.mk (Kd.R_below (by (with_reducible repeat (first | apply Kd.R_alloc | apply Kd.R_drewN | apply Kd.R_drew)); exact HO243.out) hb); have n5_ := Aside0.mk (below_step (by repeat (first | (with_reducible first | exact HB.out | apply below_alloc | apply pw_below_drewN | apply below_drew1) | exact HB.out)) hb); clear HO228; clear HO232; clear HO235; clear HO239; clear HO243; clear HB; have HO228 := n0_; have HO232 := n1_; have HO235 := n2_; have HO239 := n3_; have HO243 := n4_; have HB := n5_; clear n0_ n1_ n2_ n3_ n4_ n5_; (try clear hb); (try clear hb2); (try clear hk); (try clear hi)) | ((with_reducible refine gate_callee (f := 32) rfl ?_); refine goesL_ (some 60) rfl rfl Try.func32 (by kernel_rfl) rfl #[.slice Ao23 t233.length co23, .int .i64 1] rfl (by (try simp only [List.map_toArray, List.map_cons, List.map_nil]); first | done | rfl | (simp only [List.length_drop, List.length_take]; rfl)) ?_; (with_reducible refine (laws_markPieceS.calls k (fun k_ => some k_ = (.slice Ao23 t233.length co23 : Value).ownBlock) (.slice Ao23 t233.length co23) t233 1 t245 t246 w _ ?side1 ?side2 A17.out).mono ?_); (case side1 => repeat (first | (with_reducible first | exact HB.out | apply below_alloc | apply pw_below_drewN | apply below_drew1) | exact HB.out)); (case side2 => exact Kd.R_tight rfl HO235.out); rintro e w30 ⟨rfl, hy0, hb, hkp⟩; refine ⟨_, rfl, ?_⟩; have n0_ := Aside0.mk (Kd.R_mono (ok' := fun k_ => some k_ ≠ (.slice Ao23 t233.length co23 : Value).ownBlock ∧ some k_ ≠ (.slice Ao28 t241.length co28 : Value).ownBlock) (Kd.R_keptB (HO228.out) hkp (fun k_ hk_ hs_ => (hk_.1.2) hs_)) (fun k_ hk_ => ⟨hk_.1.1.2, hk_.1.2⟩)); have n1_ := Aside0.mk (Kd.R_mono (ok' := fun k_ => some k_ ≠ (.slice Ao25 t236.length co25 : Value).ownBlock) (Kd.R_keptB ((Kd.R_apart' HO232.out (Kd.R_typed HO235.out) (by decide))) hkp (fun k_ hk_ hs_ => (hk_.2) hs_)) (fun k_ hk_ => hk_.1.1.2)); have n2_ := Aside0.mk (Kd.R_reok rfl hy0 (fun k_ e_ => HO235.out.1 k_ e_)); have n3_ := Aside0.mk (Kd.R_mono (ok' := fun k_ => some k_ ≠ (.slice Ao26 t229.length co26 : Value).ownBlock) (Kd.R_keptB ((Kd.R_apart' HO239.out (Kd.R_typed HO235.out) (by decide))) hkp (fun k_ hk_ hs_ => (hk_.2) hs_)) (fun k_ hk_ => hk_.1.1.2)); have n4_ := Aside0.mk (Kd.R_mono (ok' := fun k_ => some k_ ≠ (.slice Ao20 t226.length co20 : Value).ownBlock ∧ some k_ ≠ (.slice Ao23 t233.length co23 : Value).ownBlock) (Kd.R_keptB (HO243.out) hkp (fun k_ hk_ hs_ => (hk_.2) hs_)) (fun k_ hk_ => ⟨hk_.1.1.2, hk_.1.2⟩)); have n5_ := Aside0.mk (hb); clear HO228; clear HO232; clear HO235; clear HO239; clear HO243; clear HB; have HO228 := n0_; have HO232 := n1_; have HO235 := n2_; have HO239 := n3_; have HO243 := n4_; have HB := n5_; clear n0_ n1_ n2_ n3_ n4_ n5_; (try clear hb); (try clear hkp); (try clear hy0)))
          (try simp only [Act.put, List.setIfInBounds_toArray, List.set_cons_zero, List.set_cons_succ])
          go_cut [73] (fun v73 wc => ∃ (kq : Nat) (x73_17 : Bool), v73 = .bool x73_17 ∧ Aside0 (laws_FnExactPiecesCut.j0 kq a0 a1 l2 a3 t229 t230 t236 x73_17 = some r) ∧ Aside0 (kq ≤ k) ∧ Aside0 (Kd.R (Kd.int .i64) 3 wc w.heap.size (fun k_ => some k_ ≠ ((.slice Ao25 t236.length co25) : Value).ownBlock) (.slice Ao26 t229.length co26) t229) ∧ Aside0 (Kd.R (Kd.int .i64) 3 wc w.heap.size (fun k_ => some k_ ≠ ((.slice Ao26 t229.length co26) : Value).ownBlock) (.slice Ao25 t236.length co25) t236) ∧ Aside0 (Below w.heap.size w wc))
          case first =>
            have H := HC18.out
            clear HC18
            by_cases c31 : t245 < 0
            · rw [if_pos c31] at H
              have c31b0 : decide (t245 < 0) = true := decide_eq_true c31
              clear c31
              (first | rw [c31b0] | (simp only [i64_w, i32_w]; rw [c31b0]) | skip)
              have H' := Aside0.mk H
              clear H
              go_wp2
              go_meet
              case rel => exact ⟨_, (true), (by first | rfl | (simp; done) | (simp [*]; done)), H', ⟨by first | omega | exact Nat.le_refl _⟩, ⟨by (with_reducible repeat (first | apply Kd.R_alloc | apply Kd.R_drewN | apply Kd.R_drew)); exact HO232.out⟩, ⟨by (with_reducible repeat (first | apply Kd.R_alloc | apply Kd.R_drewN | apply Kd.R_drew)); exact HO239.out⟩, ⟨by repeat (first | (with_reducible first | exact HB.out | apply below_alloc | apply pw_below_drewN | apply below_drew1) | exact HB.out)⟩⟩
            · rw [if_neg c31] at H
              have c31b0 : decide (t245 < 0) = false := decide_eq_false c31
              clear c31
              (first | rw [c31b0] | (simp only [i64_w, i32_w]; rw [c31b0]) | skip)
              replace H := Option.bind_eq_some_iff.mp H
              obtain ⟨t247, A320, H⟩ := H
              replace H : (if t247 = true then (laws_FnExactPiecesCut.j0 k a0 a1 l2 a3 t229 t230 t236 false) else (none)) = some r := H
              have A32 := Aside0.mk A320
              clear A320
              by_cases c33 : t247 = true
              · subst c33
                have H1 : (laws_FnExactPiecesCut.j0 k a0 a1 l2 a3 t229 t230 t236 false) = some r := by rw [if_pos rfl] at H; exact H
                clear H
                have H := H1
                clear H1
                have H' := Aside0.mk H
                clear H
                go_wp2_with (first | (go_at_call 42; (with_reducible refine (laws_eqIntS.calls k _ _ t236 _ _ t229 true _ ?side1 ?side2 ?side3 ?side4 A32.out).mono ?_); (case side1 => repeat (first | exact (Kd.R_reads' HO239.out).2.2 | (with_reducible refine Kd.C_alloc ?_ _) | (with_reducible refine Kd.C_drewN ?_ _) | (with_reducible refine Kd.C_drew ?_))); (case side2 => exact (Kd.R_reads' HO239.out).2.1); (case side3 => repeat (first | exact (Kd.R_reads' HO232.out).2.2 | (with_reducible refine Kd.C_alloc ?_ _) | (with_reducible refine Kd.C_drewN ?_ _) | (with_reducible refine Kd.C_drew ?_))); (case side4 => exact (Kd.R_reads' HO232.out).2.1); rintro e w' ⟨rfl, ⟨nd, rfl⟩⟩))
                go_meet
                case rel => exact ⟨_, (false), (by first | rfl | (simp; done) | (simp [*]; done)), H', ⟨by first | omega | exact Nat.le_refl _⟩, ⟨by (with_reducible repeat (first | apply Kd.R_alloc | apply Kd.R_drewN | apply Kd.R_drew)); exact HO232.out⟩, ⟨by (with_reducible repeat (first | apply Kd.R_alloc | apply Kd.R_drewN | apply Kd.R_drew)); exact HO239.out⟩, ⟨by repeat (first | (with_reducible first | exact HB.out | apply below_alloc | apply pw_below_drewN | apply below_drew1) | exact HB.out)⟩⟩
              · replace c33 := Bool.eq_false_iff.mpr c33
                subst c33
                have H1 : (none) = some r := by rw [if_neg (show ¬ (false = true) by decide)] at H; exact H
                clear H
                have H := H1
                clear H1
                exact absurd H (by simp)
          case rest =>
            clear HC18
            try clear c1
            try clear c2
            try clear p2
            try clear c3
            try clear c4
            try clear c6
            try clear c6b0
            try clear c12
            try clear c13
            try clear c13b0
            try clear c13b1
            try clear c13b2
            try clear c14
            try clear c16
            try clear c18
            try clear c20
            try clear c31
            try clear c31b0
            try clear c32
            try clear c33
            obtain ⟨kq, x73_17, rfl, HA, HJ17, HO_10, HO_13, HB⟩ := hcut
            cases kq with
            | zero => exact absurd HA.out (by simp [laws_FnExactPiecesCut.j0])
            | succ kj17 =>
              have H := HA.out
              clear HA
              simp only [laws_FnExactPiecesCut.j0] at H
              by_cases c34 : x73_17 = true
              · subst c34
                have H1 : (some false) = some r := by rw [if_pos rfl] at H; exact H
                clear H
                have H := H1
                clear H1
                exact absurd ((Option.some.inj H).trans HRT.out) (by decide)
              · replace c34 := Bool.eq_false_iff.mpr c34
                subst c34
                have H1 : ((laws_markIntS.f kj17 t236 1).bind fun bt248 => ((laws_heldIntS.f kj17 bt248.2 1).bind fun t250 => (if t250 < 0 then (some false) else (if t250 = bt248.1 then ((laws_toPieceS.f kj17 l2).bind fun t251 => ((impl_PiecesCut.f a0 a1 t251 a3).bind fun bt254 => ((laws_eqIntS.f kj17 bt254.1 t229).bind fun t258 => (if t258 = true then (if (bt254.2 != t230) = true then (none) else ((laws_heldIntS.f kj17 bt248.2 1).bind fun t259 => (if t259 < 0 then (some false) else (if t259 = bt248.1 then (some true) else (none))))) else (none))))) else (none))))) = some r := by rw [if_neg (show ¬ (false = true) by decide)] at H; exact H
                clear H
                have H := H1
                clear H1
                replace H := Option.bind_eq_some_iff.mp H
                obtain ⟨⟨t248, t249⟩, A350, H⟩ := H
                replace H : ((laws_heldIntS.f kj17 t249 1).bind fun t250 => (if t250 < 0 then (some false) else (if t250 = t248 then ((laws_toPieceS.f kj17 l2).bind fun t251 => ((impl_PiecesCut.f a0 a1 t251 a3).bind fun bt254 => ((laws_eqIntS.f kj17 bt254.1 t229).bind fun t258 => (if t258 = true then (if (bt254.2 != t230) = true then (none) else ((laws_heldIntS.f kj17 t249 1).bind fun t259 => (if t259 < 0 then (some false) else (if t259 = t248 then (some true) else (none))))) else (none))))) else (none)))) = some r := H
                have A35 := Aside0.mk A350
                clear A350
                replace H := Option.bind_eq_some_iff.mp H
                obtain ⟨t250, A360, H⟩ := H
                replace H : (if t250 < 0 then (some false) else (if t250 = t248 then ((laws_toPieceS.f kj17 l2).bind fun t251 => ((impl_PiecesCut.f a0 a1 t251 a3).bind fun bt254 => ((laws_eqIntS.f kj17 bt254.1 t229).bind fun t258 => (if t258 = true then (if (bt254.2 != t230) = true then (none) else ((laws_heldIntS.f kj17 t249 1).bind fun t259 => (if t259 < 0 then (some false) else (if t259 = t248 then (some true) else (none))))) else (none))))) else (none))) = some r := H
                have A36 := Aside0.mk A360
                clear A360
                by_cases c37 : t250 < 0
                · rw [if_pos c37] at H
                  have c37b0 : decide (t250 < 0) = true := decide_eq_true c37
                  clear c37
                  exact absurd ((Option.some.inj H).trans HRT.out) (by decide)
                · rw [if_neg c37] at H
                  have c37b0 : decide (t250 < 0) = false := decide_eq_false c37
                  clear c37
                  by_cases c38 : t250 = t248
                  · rw [if_pos c38] at H
                    have c38b0 : (t250 == t248) = true := beq_iff_eq.mpr c38
                    have c38b1 : (t250 != t248) = false := bne_eq_false_iff_eq.mpr c38
                    clear c38
                    replace H := Option.bind_eq_some_iff.mp H
                    obtain ⟨t251, A390, H⟩ := H
                    replace H : ((impl_PiecesCut.f a0 a1 t251 a3).bind fun bt254 => ((laws_eqIntS.f kj17 bt254.1 t229).bind fun t258 => (if t258 = true then (if (bt254.2 != t230) = true then (none) else ((laws_heldIntS.f kj17 t249 1).bind fun t259 => (if t259 < 0 then (some false) else (if t259 = t248 then (some true) else (none))))) else (none)))) = some r := H
                    have A39 := Aside0.mk A390
                    clear A390
                    replace H := Option.bind_eq_some_iff.mp H
                    obtain ⟨⟨t254, t255⟩, A400, H⟩ := H
                    replace H : ((laws_eqIntS.f kj17 t254 t229).bind fun t258 => (if t258 = true then (if (t255 != t230) = true then (none) else ((laws_heldIntS.f kj17 t249 1).bind fun t259 => (if t259 < 0 then (some false) else (if t259 = t248 then (some true) else (none))))) else (none))) = some r := H
                    have A40 := Aside0.mk A400
                    clear A400
                    replace H := Option.bind_eq_some_iff.mp H
                    obtain ⟨t258, A410, H⟩ := H
                    replace H : (if t258 = true then (if (t255 != t230) = true then (none) else ((laws_heldIntS.f kj17 t249 1).bind fun t259 => (if t259 < 0 then (some false) else (if t259 = t248 then (some true) else (none))))) else (none)) = some r := H
                    have A41 := Aside0.mk A410
                    clear A410
                    by_cases c42 : t258 = true
                    · subst c42
                      have H1 : (if (t255 != t230) = true then (none) else ((laws_heldIntS.f kj17 t249 1).bind fun t259 => (if t259 < 0 then (some false) else (if t259 = t248 then (some true) else (none))))) = some r := by rw [if_pos rfl] at H; exact H
                      clear H
                      have H := H1
                      clear H1
                      by_cases c43 : (t255 != t230) = true
                      · rw [if_pos c43] at H
                        exact absurd H (by simp)
                      · rw [if_neg c43] at H
                        have c43b0 : (t255 != t230) = false := by simpa using c43
                        (try (have c43b1 : decide (t255 = t230) = true := by simpa using c43))
                        (try (have c43b2 : (t255 == t230) = true := by simpa using c43))
                        clear c43
                        replace H := Option.bind_eq_some_iff.mp H
                        obtain ⟨t259, A440, H⟩ := H
                        replace H : (if t259 < 0 then (some false) else (if t259 = t248 then (some true) else (none))) = some r := H
                        have A44 := Aside0.mk A440
                        clear A440
                        by_cases c45 : t259 < 0
                        · rw [if_pos c45] at H
                          have c45b0 : decide (t259 < 0) = true := decide_eq_true c45
                          clear c45
                          exact absurd ((Option.some.inj H).trans HRT.out) (by decide)
                        · rw [if_neg c45] at H
                          have c45b0 : decide (t259 < 0) = false := decide_eq_false c45
                          clear c45
                          by_cases c46 : t259 = t248
                          · rw [if_pos c46] at H
                            have c46b0 : (t259 == t248) = true := beq_iff_eq.mpr c46
                            have c46b1 : (t259 != t248) = false := bne_eq_false_iff_eq.mpr c46
                            clear c46
                            obtain rfl := Option.some.inj H
                            go_wp2_with (first | ((with_reducible refine gate_callee (f := 43) rfl ?_); refine goesL_ (some 76) rfl rfl Try.func43 (by kernel_rfl) rfl #[.slice Ao25 t236.length co25, .int .i64 1] rfl (by (try simp only [List.map_toArray, List.map_cons, List.map_nil]); first | done | rfl | (simp only [List.length_drop, List.length_take]; rfl)) ?_; (with_reducible refine (laws_markIntS.calls kj17 (fun k_ => some k_ = (.slice Ao25 t236.length co25 : Value).ownBlock) (.slice Ao25 t236.length co25) t236 1 t248 t249 w _ ?side1 ?side2 A35.out).mono ?_); (case side1 => repeat (first | (with_reducible first | exact HB.out | apply below_alloc | apply pw_below_drewN | apply below_drew1) | exact HB.out)); (case side2 => exact Kd.R_tight rfl HO_13.out); rintro e w47 ⟨rfl, hy0, hb, hkp⟩; refine ⟨_, rfl, ?_⟩; have n0_ := Aside0.mk (Kd.R_mono (ok' := fun k_ => some k_ ≠ (.slice Ao25 t236.length co25 : Value).ownBlock) (Kd.R_keptB (HO_10.out) hkp (fun k_ hk_ hs_ => (hk_) hs_)) (fun k_ hk_ => hk_.1)); have n1_ := Aside0.mk (Kd.R_reok rfl hy0 (fun k_ e_ => HO_13.out.1 k_ e_)); have n2_ := Aside0.mk (hb); clear HO_10; clear HO_13; clear HB; have HO_10 := n0_; have HO_13 := n1_; have HB := n2_; clear n0_ n1_ n2_; (try clear hb); (try clear hkp); (try clear hy0)) | ((with_reducible refine gate_callee (f := 44) rfl ?_); refine goesL_ (some 79) rfl rfl Try.func44 (by kernel_rfl) rfl #[.slice Ao25 t249.length co25, .int .i64 1] rfl (by (try simp only [List.map_toArray, List.map_cons, List.map_nil]); first | done | (rw [show t249.length = t236.length from (Kd.R_reads' HO_13.out).1.symm] <;> rfl) | rfl | (simp only [List.length_drop, List.length_take]; rfl)) ?_; (with_reducible refine (laws_heldIntS.calls kj17 _ _ t249 1 t250 _ ?side1 ?side2 A36.out).mono ?_); (case side1 => repeat (first | exact (Kd.R_reads' HO_13.out).2.2 | (with_reducible refine Kd.C_alloc ?_ _) | (with_reducible refine Kd.C_drewN ?_ _) | (with_reducible refine Kd.C_drew ?_))); (case side2 => rw [show t249.length = t236.length from (Kd.R_reads' HO_13.out).1.symm]; exact (Kd.R_reads' HO_13.out).2.1); rintro e w' ⟨rfl, ⟨nd, rfl⟩⟩; refine ⟨_, rfl, ?_⟩) | ((with_reducible refine gate_callee (f := 18) rfl ?_); refine goesL_ (some 89) rfl rfl Try.func18 (by kernel_rfl) rfl #[.slice A2 l2.length c2] rfl (by (try simp only [List.map_toArray, List.map_cons, List.map_nil]); first | done | rfl | (simp only [List.length_drop, List.length_take]; rfl)) ?_; (with_reducible refine (laws_toPieceS.calls kj17 _ _ l2 t251 _ ?side1 ?side2 A39.out).mono ?_); (case side1 => repeat (first | exact (Kd.C_below HR2.out (by repeat (first | (with_reducible first | exact HB.out | apply below_alloc | apply pw_below_drewN | apply below_drew1) | exact HB.out))) | (with_reducible refine Kd.C_alloc ?_ _) | (with_reducible refine Kd.C_drewN ?_ _) | (with_reducible refine Kd.C_drew ?_))); (case side2 => exact HC2.out); rintro e w48 ⟨v252, rfl, ho0, hb⟩; refine ⟨_, rfl, ?_⟩; have n0_ := Aside0.mk (Kd.R_below (by (with_reducible repeat (first | apply Kd.R_alloc | apply Kd.R_drewN | apply Kd.R_drew)); exact HO_10.out) hb); have n1_ := Aside0.mk (Kd.R_below (by (with_reducible repeat (first | apply Kd.R_alloc | apply Kd.R_drewN | apply Kd.R_drew)); exact HO_13.out) hb); have n2_ := Aside0.mk (Kd.R_lower ho0 (below_size (by repeat (first | (with_reducible first | exact HB.out | apply below_alloc | apply pw_below_drewN | apply below_drew1) | exact HB.out)))); have n3_ := Aside0.mk (below_step (by repeat (first | (with_reducible first | exact HB.out | apply below_alloc | apply pw_below_drewN | apply below_drew1) | exact HB.out)) hb); clear HO_10; clear HO_13; clear HB; have HO_10 := n0_; have HO_13 := n1_; have HO253 := n2_; have HB := n3_; clear n0_ n1_ n2_ n3_; (try clear hb); (try clear hb2); (try clear hk); (try clear hi); (try clear ho0); obtain ⟨Ao49, co49, eo49⟩ := Kd.R_slice HO253.out; subst eo49) | ((with_reducible refine gate_callee (f := 48) rfl ?_); refine goesL_ (some 91) rfl rfl Try.func48 (by kernel_rfl) rfl #[.int .i64 a0, .int .i64 a1, .slice Ao49 t251.length co49, .bool a3] rfl (by (try simp only [List.map_toArray, List.map_cons, List.map_nil]); first | done | rfl | (simp only [List.length_drop, List.length_take]; rfl)) ?_; (with_reducible refine (impl_PiecesCut.calls a0 a1 _ _ t251 a3 t254 t255 _ ?side1 ?side2 A40.out).mono ?_); (case side1 => repeat (first | exact (Kd.R_reads' HO253.out).2.2 | (with_reducible refine Kd.C_alloc ?_ _) | (with_reducible refine Kd.C_drewN ?_ _) | (with_reducible refine Kd.C_drew ?_))); (case side2 => exact (Kd.R_reads' HO253.out).2.1); rintro e w50 ⟨v256, rfl, ho0, hb⟩; refine ⟨_, rfl, ?_⟩; have n0_ := Aside0.mk (Kd.R_elder' (by (with_reducible repeat (first | apply Kd.R_alloc | apply Kd.R_drewN | apply Kd.R_drew)); exact HO_10.out) (Kd.R_base ho0) hb); have n1_ := Aside0.mk (Kd.R_elder' (by (with_reducible repeat (first | apply Kd.R_alloc | apply Kd.R_drewN | apply Kd.R_drew)); exact HO_13.out) (Kd.R_base ho0) hb); have n2_ := Aside0.mk (Kd.R_below (by (with_reducible repeat (first | apply Kd.R_alloc | apply Kd.R_drewN | apply Kd.R_drew)); exact HO253.out) hb); have n3_ := Aside0.mk (Kd.R_lower (Kd.R_new' (Kd.R_new' ho0 (Kd.R_lt (by (with_reducible repeat (first | apply Kd.R_alloc | apply Kd.R_drewN | apply Kd.R_drew)); exact HO_10.out))) (Kd.R_lt (by (with_reducible repeat (first | apply Kd.R_alloc | apply Kd.R_drewN | apply Kd.R_drew)); exact HO_13.out))) (below_size (by repeat (first | (with_reducible first | exact HB.out | apply below_alloc | apply pw_below_drewN | apply below_drew1) | exact HB.out)))); have n4_ := Aside0.mk (below_step (by repeat (first | (with_reducible first | exact HB.out | apply below_alloc | apply pw_below_drewN | apply below_drew1) | exact HB.out)) hb); clear HO_10; clear HO_13; clear HO253; clear HB; have HO_10 := n0_; have HO_13 := n1_; have HO253 := n2_; have HO257 := n3_; have HB := n4_; clear n0_ n1_ n2_ n3_ n4_; (try clear hb); (try clear hb2); (try clear hk); (try clear hi); (try clear ho0); obtain ⟨Ao51, co51, eo51⟩ := Kd.R_slice HO257.out; subst eo51) | ((with_reducible refine gate_callee (f := 42) rfl ?_); refine goesL_ (some 96) rfl rfl Try.func42 (by kernel_rfl) rfl #[.slice Ao51 t254.length co51, .slice Ao26 t229.length co26] rfl (by (try simp only [List.map_toArray, List.map_cons, List.map_nil]); first | done | rfl | (simp only [List.length_drop, List.length_take]; rfl)) ?_; (with_reducible refine (laws_eqIntS.calls kj17 _ _ t254 _ _ t229 true _ ?side1 ?side2 ?side3 ?side4 A41.out).mono ?_); (case side1 => repeat (first | exact (Kd.R_reads' HO257.out).2.2 | (with_reducible refine Kd.C_alloc ?_ _) | (with_reducible refine Kd.C_drewN ?_ _) | (with_reducible refine Kd.C_drew ?_))); (case side2 => exact (Kd.R_reads' HO257.out).2.1); (case side3 => repeat (first | exact (Kd.R_reads' HO_10.out).2.2 | (with_reducible refine Kd.C_alloc ?_ _) | (with_reducible refine Kd.C_drewN ?_ _) | (with_reducible refine Kd.C_drew ?_))); (case side4 => exact (Kd.R_reads' HO_10.out).2.1); rintro e w' ⟨rfl, ⟨nd, rfl⟩⟩; refine ⟨_, rfl, ?_⟩) | ((with_reducible refine gate_callee (f := 44) rfl ?_); refine goesL_ (some 105) rfl rfl Try.func44 (by kernel_rfl) rfl #[.slice Ao25 t249.length co25, .int .i64 1] rfl (by (try simp only [List.map_toArray, List.map_cons, List.map_nil]); first | done | (rw [show t249.length = t236.length from (Kd.R_reads' HO_13.out).1.symm] <;> rfl) | rfl | (simp only [List.length_drop, List.length_take]; rfl)) ?_; (with_reducible refine (laws_heldIntS.calls kj17 _ _ t249 1 t259 _ ?side1 ?side2 A44.out).mono ?_); (case side1 => repeat (first | exact (Kd.R_reads' HO_13.out).2.2 | (with_reducible refine Kd.C_alloc ?_ _) | (with_reducible refine Kd.C_drewN ?_ _) | (with_reducible refine Kd.C_drew ?_))); (case side2 => rw [show t249.length = t236.length from (Kd.R_reads' HO_13.out).1.symm]; exact (Kd.R_reads' HO_13.out).2.1); rintro e w' ⟨rfl, ⟨nd, rfl⟩⟩; refine ⟨_, rfl, ?_⟩))
                            go_ret
                            exact ⟨by first | rfl | (simp [errW_none, errW_some] <;> rfl) | (simp [*, errW_none, errW_some] <;> rfl), by repeat (first | (with_reducible first | exact HB.out | apply below_alloc | apply pw_below_drewN | apply below_drew1) | exact HB.out)⟩
                          · rw [if_neg c46] at H
                            exact absurd H (by simp)
                    · replace c42 := Bool.eq_false_iff.mpr c42
                      subst c42
                      have H1 : (none) = some r := by rw [if_neg (show ¬ (false = true) by decide)] at H; exact H
                      clear H
                      have H := H1
                      clear H1
                      exact absurd H (by simp)
                  · rw [if_neg c38] at H
                    exact absurd H (by simp)
        · replace c16 := Bool.eq_false_iff.mpr c16
          subst c16
          have H1 : (none) = some r := by rw [if_neg (show ¬ (false = true) by decide)] at H; exact H
          clear H
          have H := H1
          clear H1
          exact absurd H (by simp)
    · replace c12 := Bool.eq_false_iff.mpr c12
      subst c12
      have H1 : (none) = some r := by rw [if_neg (show ¬ (false = true) by decide)] at H; exact H
      clear H
      have H := H1
      clear H1
      exact absurd H (by simp)

end Go.Proofs.Ytcijldnkigmfeaa.L

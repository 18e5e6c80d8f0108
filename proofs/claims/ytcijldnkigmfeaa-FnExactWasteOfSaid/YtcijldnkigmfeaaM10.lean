-- Written by the session's program wip/myprint.py (over the kit's print); the given parts by hand.
import Derived.Test.YtcijldnkigmfeaaM0
import Derived.Test.YtcijldnkigmfeaaM2
import Derived.Test.YtcijldnkigmfeaaM7
import Derived.Test.YtcijldnkigmfeaaM8
import Derived.Test.YtcijldnkigmfeaaM9
namespace Go.Proofs.Ytcijldnkigmfeaa.M
open Go.RowKit Go.Proofs.YtcijldnkigmfeaaW.PrintWords Go.Proofs.YtcijldnkigmfeaaW.PrintLast Go.Proofs.YtcijldnkigmfeaaW.PrintMore
attribute [local go_sem] max2_int min2_int max_two min_two max_three min_three max_four min_four   -- for this text's walks alone
set_option linter.unusedVariables false
set_option linter.unusedSimpArgs false

-- given: (loop.example/g01334/impl.cutter).count

/-! ### (cutter).count: by hand -/
theorem own_lt2 {α : Type} {d : Kd α} {e : TypeId} {w : World} {base : Nat} {ok : Nat → Prop} {v : Value} {xs : List α} (h : d.R e w base ok v xs) : ∀ k, v.ownBlock = some k → k < w.heap.size := by
  intro k hk
  obtain ⟨cells, hc⟩ := Kd.R_typed h k hk
  exact (Array.getElem?_eq_some_iff.1 hc).1
/-- two blocks have changed, and there are new ones -/
structure Gr (w w' : World) (B G : Nat) : Prop where
  os : w'.os = w.os
  tape : w'.tape = w.tape
  output : w'.output = w.output
  size : w.heap.size ≤ w'.heap.size
  block : ∀ k, k < w.heap.size → k ≠ B → k ≠ G → w'.heap[k]? = w.heap[k]?
theorem Gr.trans {w w1 w2 : World} {B G : Nat} (h : Gr w w1 B G) (h2 : Gr w1 w2 B G) : Gr w w2 B G :=
  ⟨h2.os.trans h.os, h2.tape.trans h.tape, h2.output.trans h.output, Nat.le_trans h.size h2.size, fun k hk h3 h4 => (h2.block k (Nat.lt_of_lt_of_le hk h.size) h3 h4).trans (h.block k hk h3 h4)⟩
theorem Gr.of_grown {w w' : World} {B : Nat} (G : Nat) (h : w.grownBy w' (some B)) : Gr w w' B G :=
  ⟨h.os, h.tape, h.output, h.size, fun k hk h3 _ => h.block k hk (by simpa using h3)⟩
theorem Gr.of_below {w w' : World} (B G : Nat) (h : Below w.heap.size w w') : Gr w w' B G := ⟨h.os, h.tape, h.output, h.size, fun k hk _ _ => h.block k hk⟩
theorem Gr.set {w w' : World} {B G : Nat} (h : Gr w w' B G) (i : Nat) (v : Value) : Gr w (w'.setCell ⟨G, i, none⟩ v) B G :=
  ⟨h.os, h.tape, h.output, by simpa [World.setCell] using h.size, fun k hk h3 h4 => by rw [← h.block k hk h3 h4]; simp [World.setCell, Array.getElem?_modify, Ne.symm h4]⟩
theorem Gr.cell {w w' : World} {B G : Nat} (h : Gr w w' B G) {b o : Nat} {v : Value} (hB : b ≠ B) (hG : b ≠ G) (hc : w.cell? ⟨b, o, none⟩ = some v) : w'.cell? ⟨b, o, none⟩ = some v := by
  rw [← hc]
  unfold World.cell?
  rw [h.block b (World.block_lt_of_cell? w _ hc) hB hG]
theorem Gr.below {w0 w w' : World} {B G n : Nat} (h0 : Below n w0 w) (h : Gr w w' B G) (hn : n ≤ w.heap.size) (hB : n ≤ B) (hG : n ≤ G) : Below n w0 w' :=
  ⟨h.os.trans h0.os, h.tape.trans h0.tape, h.output.trans h0.output, Nat.le_trans h0.size h.size, fun k hk => (h.block k (by omega) (by omega) (by omega)).trans (h0.block k hk)⟩
def kdN (l0 : List S35) (tn : Bool) (a b : Int) : Int := (wholeN a b tn l0 0 0 (-1)).2
theorem wholeN_kind (a b : Int) (tn : Bool) (n : Int) : ∀ (l : List S35) (i best kind : Int), 0 ≤ i → i + (l.length : Int) ≤ n → -1 ≤ kind → kind < n → -1 ≤ (wholeN a b tn l i best kind).2 ∧ (wholeN a b tn l i best kind).2 < n
  | [], i, best, kind, _, _, h1, h2 => ⟨h1, h2⟩
  | x :: l, i, best, kind, hi, hl, h1, h2 => by
    rw [List.length_cons] at hl
    rw [wholeN]
    split
    · exact wholeN_kind a b tn n l (i + 1) x.f2 i (by omega) (by omega) (by omega) (by omega)
    · exact wholeN_kind a b tn n l (i + 1) best kind (by omega) (by omega) h1 h2
theorem kdN_in (l0 : List S35) (tn : Bool) (a b : Int) (hl : 0 < l0.length) : -1 ≤ kdN l0 tn a b ∧ kdN l0 tn a b < (l0.length : Int) := wholeN_kind a b tn (l0.length : Int) l0 0 0 (-1) (by omega) (by omega) (by omega) (by omega)
theorem firstL_mem (wh : Int → Int → Int) (a b best : Int) : ∀ l, (firstL wh a b best l).2 = true → (firstL wh a b best l).1 ∈ l
  | [], h => by simp [firstL] at h
  | c :: l, h => by
    rw [firstL] at h ⊢
    split
    · exact List.mem_cons_self
    · rename_i hc
      rw [if_neg hc] at h
      exact List.mem_cons_of_mem _ (firstL_mem wh a b best l h)
theorem firstN_mem (wh : Int → Int → Int) (a b : Int) (h : (firstN wh a b).2 = true) : (firstN wh a b).1 ∈ cutsL a.toNat b.toNat 2 := by
  unfold firstN at h ⊢
  split
  · rename_i hc
    rw [if_pos hc] at h
    cases h
  · rename_i hc
    rw [if_neg hc] at h
    exact firstL_mem wh a b _ _ h
def countF (wh kd : Int → Int → Int) : Nat → Int → Int → List Int → List Int
  | 0, _, _, out => out
  | s + 1, a, b, out => if (firstN wh a b).2 = true then countF wh kd s (partsOf a b (firstN wh a b).1).2.1 (partsOf a b (firstN wh a b).1).2.2 (countF wh kd s (partsOf a b (firstN wh a b).1).1.1 (partsOf a b (firstN wh a b).1).1.2 out) else if 0 ≤ kd a b then out.set (kd a b).toNat (wrap64 (out.getD (kd a b).toNat 0 + 1)) else out
theorem countF_len (wh kd : Int → Int → Int) : ∀ (s : Nat) (a b : Int) (out : List Int), (countF wh kd s a b out).length = out.length
  | 0, _, _, _ => rfl
  | s + 1, a, b, out => by
    rw [countF]
    split
    · rw [countF_len wh kd s, countF_len wh kd s]
    · split
      · exact List.length_set
      · rfl
def countPost (l0 : List S35) (tn : Bool) (B G cap n0 : Nat) (res : List Int) (w : World) (e : Ending) (w' : World) : Prop := e = .returned (.tuple #[]) ∧ Memo Try.prog 68 boardKl 24 (cutV l0 tn) w' B ∧ Kd.R (Kd.int .i64) 3 w' n0 (fun _ => True) (.slice (some ⟨G, 0, none⟩) l0.length cap) res ∧ Gr w w' B G
set_option maxHeartbeats 2000000 in
set_option maxRecDepth 100000 in
theorem cutter_count (A0 : Option Addr) (c0 : Nat) (l0 : List S35) (tn : Bool) (B G cap : Nat) (w0 : World) (hr : Kd.C k35 w0 A0 l0.length l0) (hBB : w0.heap.size ≤ B) (hl : 0 < l0.length) :
    ∀ (s : Nat) (a b : Int) (w : World) (out : List Int), (a + b).toNat ≤ s → 1 ≤ a → a ≤ 24 → 1 ≤ b → b ≤ 24 → out.length = l0.length → Below w0.heap.size w0 w → Memo Try.prog 68 boardKl 24 (cutV l0 tn) w B → Kd.R (Kd.int .i64) 3 w w0.heap.size (fun _ => True) (.slice (some ⟨G, 0, none⟩) l0.length cap) out →
    Calls Try.prog 76 #[.agg #[.slice A0 l0.length c0, .bool tn, .map (some B)], .agg #[.int .i64 a, .int .i64 b], .slice (some ⟨G, 0, none⟩) l0.length cap] w (countPost l0 tn B G cap w0.heap.size (countF (whN l0 tn) (kdN l0 tn) s a b out) w) := by
  have hu := Try.underlying79
  have hu2 := Try.underlying68
  have hu3 := Try.underlying62
  have HC := Aside0.mk hr
  clear hr
  intro s
  induction s with
  | zero => intro a b w out hs h1 _ h3; omega
  | succ s ih =>
    intro a b w out hs ha ha' hb hb' hol hbw hm hrow
    have IH := Aside0.mk ih
    have HM := Aside0.mk hm
    have HRW := Aside0.mk hrow
    have HB0 := Aside0.mk hbw
    have hBlt := hm.lt
    have hn0 := hbw.size
    have hGlt : G < w.heap.size := own_lt2 hrow G rfl
    have hGge : w0.heap.size ≤ G := Kd.R_base hrow G rfl
    have hkd := kdN_in l0 tn a b hl
    clear ih hm hrow hbw
    have hnx : countF (whN l0 tn) (kdN l0 tn) (s + 1) a b out = (if (firstN (whN l0 tn) a b).2 = true then countF (whN l0 tn) (kdN l0 tn) s (partsOf a b (firstN (whN l0 tn) a b).1).2.1 (partsOf a b (firstN (whN l0 tn) a b).1).2.2 (countF (whN l0 tn) (kdN l0 tn) s (partsOf a b (firstN (whN l0 tn) a b).1).1.1 (partsOf a b (firstN (whN l0 tn) a b).1).1.2 out) else if 0 ≤ kdN l0 tn a b then out.set (kdN l0 tn a b).toNat (wrap64 (out.getD (kdN l0 tn a b).toNat 0 + 1)) else out) := rfl
    generalize countF (whN l0 tn) (kdN l0 tn) (s + 1) a b out = res at hnx ⊢
    have HN0 := Aside0.mk hnx
    clear hnx
    go_enter Try.func76, Try.ntmps76
    go_wp2_with fail
    have hbW : Below w.heap.size w ((w.alloc (.cells #[.slice A0 l0.length c0, .bool tn, .map (some B)] 79)).alloc (.cells #[.int .i64 a, .int .i64 b] 68)) := by repeat (first | exact Below.refl _ _ | apply below_alloc)
    have hsz1 : ((w.alloc (.cells #[.slice A0 l0.length c0, .bool tn, .map (some B)] 79)).alloc (.cells #[.int .i64 a, .int .i64 b] 68)).heap.size = w.heap.size + 1 + 1 := by simp
    have k0 : ((w.alloc (.cells #[.slice A0 l0.length c0, .bool tn, .map (some B)] 79)).alloc (.cells #[.int .i64 a, .int .i64 b] 68)).cell? ⟨w.heap.size, 0, none⟩ = some (.slice A0 l0.length c0) := by simp
    have k1 : ((w.alloc (.cells #[.slice A0 l0.length c0, .bool tn, .map (some B)] 79)).alloc (.cells #[.int .i64 a, .int .i64 b] 68)).cell? ⟨w.heap.size, 1, none⟩ = some (.bool tn) := by simp
    have k2 : ((w.alloc (.cells #[.slice A0 l0.length c0, .bool tn, .map (some B)] 79)).alloc (.cells #[.int .i64 a, .int .i64 b] 68)).cell? ⟨w.heap.size, 2, none⟩ = some (.map (some B)) := by simp
    have e0 : ((w.alloc (.cells #[.slice A0 l0.length c0, .bool tn, .map (some B)] 79)).alloc (.cells #[.int .i64 a, .int .i64 b] 68)).cell? ⟨w.heap.size + 1, 0, none⟩ = some (.int .i64 a) := by simp
    have e1 : ((w.alloc (.cells #[.slice A0 l0.length c0, .bool tn, .map (some B)] 79)).alloc (.cells #[.int .i64 a, .int .i64 b] 68)).cell? ⟨w.heap.size + 1, 1, none⟩ = some (.int .i64 b) := by simp
    generalize ((w.alloc (.cells #[.slice A0 l0.length c0, .bool tn, .map (some B)] 79)).alloc (.cells #[.int .i64 a, .int .i64 b] 68)) = W1 at hbW hsz1 k0 k1 k2 e0 e1 ⊢
    have HM1 := Aside0.mk (HM.out.below hbW)
    have HR1 := Aside0.mk (Kd.R_below HRW.out hbW)
    have HB1 := Aside0.mk (HB0.out.trans (hbW.mono hn0))
    have HW1 := Aside0.mk hbW
    refine (cutter_first A0 c0 l0 tn B a b W1 ha ha' hb hb' (Kd.C_below HC.out HB1.out) HM1.out).mono ?_
    rintro e w1 ⟨rfl, hm1, hg1⟩
    have c0a := grown_at HM1.out.isMap hg1 k0
    have c1a := grown_at HM1.out.isMap hg1 k1
    have c2a := grown_at HM1.out.isMap hg1 k2
    have d0a := grown_at HM1.out.isMap hg1 e0
    have d1a := grown_at HM1.out.isMap hg1 e1
    have HR2 := Aside0.mk (R_memo HM1.out HR1.out hg1)
    have HM2 := Aside0.mk hm1
    have HG2 := Aside0.mk ((Gr.of_below B G HW1.out).trans (Gr.of_grown G hg1))
    have HB2 := Aside0.mk (Gr.below HB0.out HG2.out hn0 hBB hGge)
    have hsz2 : w.heap.size + 2 ≤ w1.heap.size := by have := hg1.size; omega
    have hmem0 := firstN_mem (whN l0 tn) a b
    clear hbW k0 k1 k2 e0 e1 hm1 hg1 hsz1 HM1 HR1 HB1 HW1
    have hnx := HN0.out
    clear HN0
    generalize firstN (whN l0 tn) a b = fr at hnx hmem0 ⊢
    obtain ⟨c, ok⟩ := fr
    simp only at hmem0 ⊢
    have HN1 := Aside0.mk hnx
    clear hnx
    have hb3 : Below w1.heap.size w1 (w1.alloc (.cells #[.bool c.f0, .int .i64 c.f1] 62)) := below_alloc (Below.refl _ _) _
    have c0b := (hb3.cell (World.block_lt_of_cell? _ _ c0a)).trans c0a
    have c1b := (hb3.cell (World.block_lt_of_cell? _ _ c1a)).trans c1a
    have c2b := (hb3.cell (World.block_lt_of_cell? _ _ c2a)).trans c2a
    have d0b := (hb3.cell (World.block_lt_of_cell? _ _ d0a)).trans d0a
    have d1b := (hb3.cell (World.block_lt_of_cell? _ _ d1a)).trans d1a
    have f0b : (w1.alloc (.cells #[.bool c.f0, .int .i64 c.f1] 62)).cell? ⟨w1.heap.size, 0, none⟩ = some (.bool c.f0) := by simp
    have f1b : (w1.alloc (.cells #[.bool c.f0, .int .i64 c.f1] 62)).cell? ⟨w1.heap.size, 1, none⟩ = some (.int .i64 c.f1) := by simp
    have HR3 := Aside0.mk (Kd.R_below HR2.out hb3)
    have HM3 := Aside0.mk (HM2.out.below hb3)
    have HG3 := Aside0.mk (HG2.out.trans (Gr.of_below B G hb3))
    have HB3 := Aside0.mk (Gr.below HB0.out HG3.out hn0 hBB hGge)
    have HB3' := Aside0.mk hb3
    clear hb3 c0a c1a c2a d0a d1a HR2 HM2 HG2 HB2
    cases ok with
    | true =>
      have hc := hmem0 rfl
      have hin := partsOf_in a b 2 ha hb c hc
      have hcf := cutsL_mem _ _ _ c hc
      have HPARTS := Aside0.mk (parts_is a b c ha ha' hb hb' (by omega) (by omega))
      have hnx := HN1.out
      clear HN1
      rw [if_pos rfl] at hnx
      clear hmem0 hc hcf
      generalize partsOf a b c = p at hin HPARTS hnx
      obtain ⟨⟨p1, p2⟩, q1, q2⟩ := p
      simp only at hin HPARTS
      have HNX := Aside0.mk hnx
      clear hnx
      go_wp2_with (go_at_call 64; refine (impl_board_parts.calls a b c.f0 c.f1 _ _ _ _ _ HPARTS.out).mono ?_; rintro e w5 ⟨rfl, hb5⟩; have c0s : w5.cell? ⟨w.heap.size, 0, none⟩ = some (.slice A0 l0.length c0) := (hb5.cell (World.block_lt_of_cell? _ _ c0b)).trans c0b; have c1s : w5.cell? ⟨w.heap.size, 1, none⟩ = some (.bool tn) := (hb5.cell (World.block_lt_of_cell? _ _ c1b)).trans c1b; have c2s : w5.cell? ⟨w.heap.size, 2, none⟩ = some (.map (some B)) := (hb5.cell (World.block_lt_of_cell? _ _ c2b)).trans c2b; have hz5 : w.heap.size + 2 < w5.heap.size := (by have h7 := hb5.size; simp at h7; omega); have hbx : Below w5.heap.size w5 ((w5.alloc (.cells #[.int .i64 p1, .int .i64 p2] 68)).alloc (.cells #[.int .i64 q1, .int .i64 q2] 68)) := (by repeat (first | exact Below.refl _ _ | apply below_alloc)); have c0t := (hbx.cell (World.block_lt_of_cell? _ _ c0s)).trans c0s; have c1t := (hbx.cell (World.block_lt_of_cell? _ _ c1s)).trans c1s; have c2t := (hbx.cell (World.block_lt_of_cell? _ _ c2s)).trans c2s; clear hbx; have HB5 := Aside0.mk hb5; clear hb5)
      have hb9 : Below (w1.alloc (.cells #[.bool c.f0, .int .i64 c.f1] 62)).heap.size (w1.alloc (.cells #[.bool c.f0, .int .i64 c.f1] 62)) ((w5.alloc (.cells #[.int .i64 p1, .int .i64 p2] 68)).alloc (.cells #[.int .i64 q1, .int .i64 q2] 68)) := HB5.out.trans ((by repeat (first | exact Below.refl _ _ | apply below_alloc) : Below w5.heap.size w5 _).mono HB5.out.size)
      have t0 : ((w5.alloc (.cells #[.int .i64 p1, .int .i64 p2] 68)).alloc (.cells #[.int .i64 q1, .int .i64 q2] 68)).cell? ⟨w5.heap.size + 1, 0, none⟩ = some (.int .i64 q1) := by simp
      have t1 : ((w5.alloc (.cells #[.int .i64 p1, .int .i64 p2] 68)).alloc (.cells #[.int .i64 q1, .int .i64 q2] 68)).cell? ⟨w5.heap.size + 1, 1, none⟩ = some (.int .i64 q2) := by simp
      have HM9 := Aside0.mk (HM3.out.below hb9)
      have HR9 := Aside0.mk (Kd.R_below HR3.out hb9)
      have HG9 := Aside0.mk (HG3.out.trans (Gr.of_below B G hb9))
      clear hb9 c0b c1b c2b d0b d1b f0b f1b c0s c1s c2s
      generalize ((w5.alloc (.cells #[.int .i64 p1, .int .i64 p2] 68)).alloc (.cells #[.int .i64 q1, .int .i64 q2] 68)) = W9 at c0t c1t c2t t0 t1 HM9 HR9 HG9 ⊢
      have HB9 := Aside0.mk (Gr.below HB0.out HG9.out hn0 hBB hGge)
      refine (IH.out p1 p2 W9 out (by omega) hin.1.1 (by omega) hin.1.2.2.1 (by omega) hol HB9.out HM9.out HR9.out).mono ?_
      rintro e w6 ⟨rfl, hm6, hr6, hg6⟩
      have c0u := hg6.cell (by omega) (by omega) c0t
      have c1u := hg6.cell (by omega) (by omega) c1t
      have c2u := hg6.cell (by omega) (by omega) c2t
      have t0u := hg6.cell (by omega) (by omega) t0
      have t1u := hg6.cell (by omega) (by omega) t1
      have HM6 := Aside0.mk hm6
      have HR6 := Aside0.mk hr6
      have HG6 := Aside0.mk (HG9.out.trans hg6)
      have HB6 := Aside0.mk (Gr.below HB0.out HG6.out hn0 hBB hGge)
      clear hm6 hr6 hg6 c0t c1t c2t t0 t1
      go_wp2_with fail
      refine (IH.out q1 q2 w6 _ (by omega) hin.2.1 (by omega) hin.2.2.2.1 (by omega) (by rw [countF_len]; exact hol) HB6.out HM6.out HR6.out).mono ?_
      rintro e w7 ⟨rfl, hm7, hr7, hg7⟩
      have HF := Aside0.mk (And.intro hm7 (And.intro hr7 (HG6.out.trans hg7)))
      clear hm7 hr7 hg7
      go_wp2_with fail
      (try simp only [Exit.inBlock, Exit.then])
      refine bodyPost_ret (results_none rfl _ _ _) rfl ?_
      rw [HNX.out]
      exact ⟨rfl, HF.out⟩
    | false =>
      have hnx := HN1.out
      clear HN1
      rw [if_neg Bool.false_ne_true] at hnx
      have HNX := Aside0.mk hnx
      clear hnx
      go_wp2_with fail
      refine (cutter_whole A0 c0 l0 tn (some B) a b _ (Kd.C_below HC.out HB3.out)).mono ?_
      rintro e w2 ⟨rfl, hb2⟩
      have HR4 := Aside0.mk (Kd.R_below HR3.out hb2)
      have HM4 := Aside0.mk (HM3.out.below hb2)
      have HG4 := Aside0.mk (HG3.out.trans (Gr.of_below B G hb2))
      have hBG : B ≠ G := fun e => memo_ne HM4.out HR4.out (by rw [e]; rfl)
      rw [show kdN l0 tn a b = (wholeN a b tn l0 0 0 (-1)).2 from rfl] at hkd HNX
      clear hb2 c0b c1b c2b d0b d1b f0b f1b HR3 HM3 HG3
      generalize wholeN a b tn l0 0 0 (-1) = wn at hkd HNX ⊢
      obtain ⟨v, kd⟩ := wn
      simp only at hkd HNX ⊢
      by_cases hneg : 0 ≤ kd
      · obtain ⟨k, rfl⟩ := Int.eq_ofNat_of_zero_le hneg
        have q1 : decide (0 ≤ (k : Int)) = true := decide_eq_true hneg
        have p1 : (0 ≤ (k : Int)) = True := eq_true hneg
        have p2 : ((k : Int) < (l0.length : Int)) = True := eq_true hkd.2
        obtain ⟨hcW, hfW⟩ := Kd.R_celln 0 HR4.out (k : Int) (by omega) (by omega)
        rw [Int.toNat_natCast] at hcW hfW
        have hy0 : rdOf 0 out (k : Int) = out.getD k 0 := by simp [rdOf]
        rw [hy0] at hcW
        have hn := HNX.out
        rw [if_pos hneg, Int.toNat_natCast] at hn
        generalize out.getD k 0 = x at hcW hn
        have HN2 := Aside0.mk hn
        have hput := Kd.R_putg HR4.out (k : Int) (wrap64 (x + 1))
        rw [Int.toNat_natCast] at hput
        have HPUT := Aside0.mk hput.1
        clear hn hput hkd hneg HNX hy0
        go_wp2_with fail
        go_end0
        rw [HN2.out]
        exact ⟨rfl, HM4.out.same (by simp [World.setCell, Array.getElem?_modify, Ne.symm hBG]), HPUT.out, HG4.out.set k _⟩
      · have q1 : decide (0 ≤ kd) = false := decide_eq_false hneg
        have hn := HNX.out
        rw [if_neg hneg] at hn
        have HN2 := Aside0.mk hn
        clear hn hneg HNX hkd
        go_wp2_with fail
        go_end0
        rw [HN2.out]
        exact ⟨rfl, HM4.out, HR4.out, HG4.out⟩

-- given: loop.example/g01334/impl.PiecesCut

/-! ### impl_PiecesCut: by hand -/
def impl_PiecesCut.f (a0 : Int) (a1 : Int) (l2 : List S35) (a3 : Bool) : Option (List Int × Bool) :=
  (impl_areCut.f a0 a1 l2).bind fun p => if p = true then (if 0 < l2.length ∧ l2.length ≤ 4 then some (countF (whN l2 a3) (kdN l2 a3) (a0 + a1).toNat a0 a1 (List.replicate l2.length 0), true) else none) else some ([], false)
set_option maxHeartbeats 2000000 in
set_option maxRecDepth 100000 in
theorem impl_PiecesCut.calls (a0 : Int) (a1 : Int) (A2 : Option Addr) (c2 : Nat) (l2 : List S35) (a3 : Bool) (r1 : List Int) (r2 : Bool) (w : World) (hr2 : Kd.C k35 w A2 l2.length l2) (hc2 : l2.length ≤ c2) (h : impl_PiecesCut.f a0 a1 l2 a3 = some (r1, r2)) :
    Calls Try.prog 48 #[.int .i64 a0, .int .i64 a1, .slice A2 l2.length c2, .bool a3] w fun e w' => ∃ v0_ : Value, e = .returned (.tuple #[v0_, .bool r2]) ∧ Kd.R (Kd.int .i64) 3 w' w.heap.size (fun _ => True) v0_ r1 ∧ Below w.heap.size w w' := by
  have hu := Try.underlying68
  have HR0 := Aside0.mk hr2
  have HC0 := Aside0.mk hc2
  clear hr2 hc2
  unfold impl_PiecesCut.f at h
  obtain ⟨p, hp, h⟩ := Option.bind_eq_some_iff.mp h
  have HP := Aside0.mk hp
  cases p with
  | false =>
    obtain ⟨rfl, rfl⟩ := Prod.mk.inj (Option.some.inj h)
    clear hp h
    go_enter Try.func48, Try.ntmps48
    go_wp2_with (go_at_call 67; refine (impl_areCut.calls a0 a1 A2 c2 l2 false _ HR0.out HC0.out HP.out).mono ?_; rintro e w1 ⟨rfl, hb1⟩; have HB1 := Aside0.mk hb1; clear hb1)
    go_ret2
    exact ⟨_, rfl, Kd.R_nil _ _ _ _ _, HB1.out⟩
  | true =>
    by_cases h4 : 0 < l2.length ∧ l2.length ≤ 4
    · simp only [if_true, if_pos h4] at h
      obtain ⟨rfl, rfl⟩ := Prod.mk.inj (Option.some.inj h)
      clear hp h
      obtain ⟨hne, h4⟩ := h4
      have hin := areCut_in HP.out
      have i1 := hin.1.1
      have i2 := hin.1.2
      have i3 := hin.2.1
      have i4 := hin.2.2
      clear hin
      go_enter Try.func48, Try.ntmps48
      go_wp2_with (first | (go_at_call 67; refine (impl_areCut.calls a0 a1 A2 c2 l2 true _ HR0.out HC0.out HP.out).mono ?_; rintro e w1 ⟨rfl, hb1⟩; have HB1 := Aside0.mk hb1; clear hb1) | ((with_reducible refine gate_dst (N := 18) rfl ?_); refine Kd.R_make (Kd.int .i64) (w0 := w) w.heap.size 3 rfl (N := 18) rfl 47 _ _ rfl (l2.length : Int) rfl rfl Try.underlying47 (.int .i64 0) 8 (by kernel_rfl) rfl (by decide) (by omega) 0 (ok := fun _ => True) (okp := fun _ => True) rfl (fun _ hk => hk) trivial (by omega) (by simp; omega) HB1.out HB1.out.size ?_; intro v3 w3 ho hb hg hnew; clear hg hnew; rw [Int.toNat_natCast] at ho; have HO3 := Aside0.mk ho; have HB3 := Aside0.mk hb; clear ho hb; obtain ⟨G, cap, e3, hg1, hg2, hg3⟩ := Kd.R_form HO3.out (by simp; omega); rw [List.length_replicate] at e3; subst e3; clear hg1 hg2 hg3) | (go_at_call 68; refine (cutterOf_calls A2 l2.length c2 a3 (cutV l2 a3) _).mono ?_; rintro e w4 ⟨B, rfl, hb4, hB, hm⟩; have HO4 := Aside0.mk (Kd.R_below HO3.out hb4); have HB4 := Aside0.mk (HB3.out.trans (hb4.mono HB3.out.size)); have HBB := Aside0.mk (Nat.le_trans HB3.out.size hB); have HM := Aside0.mk hm; clear hb4 hB hm) | (go_at_call 76; refine (cutter_count A2 c2 l2 a3 B G cap w HR0.out HBB.out hne (a0 + a1).toNat a0 a1 _ (List.replicate l2.length 0) (Nat.le_refl _) i1 i2 i3 i4 (List.length_replicate ..) HB4.out HM.out HO4.out).mono ?_; rintro e w5 ⟨rfl, hm5, hr5, hg5⟩; have HR5 := Aside0.mk hr5; have HB5 := Aside0.mk (Gr.below HB4.out hg5 HB4.out.size HBB.out (Kd.R_base HO4.out G rfl)); clear hm5 hr5 hg5))
      go_ret2
      exact ⟨_, rfl, HR5.out, HB5.out⟩
    · simp only [if_true, if_neg h4] at h
      exact absurd h (by simp)

/-! ### impl_WasteOf: function 46 -/
def impl_WasteOf.l0 : Nat → List (S35) → Int → List Int → Int → Int → Option (Int × Bool)
  | 0, _, _, _, _, _ => none
  | k + 1, x2, x12, x28, x29, x30 => if x30 < x29 then (if 0 ≤ x30 then (if x30 < (x28.length : Int) then (if x30 < (x2.length : Int) then (impl_WasteOf.l0 k x2 (wrap64 (x12 - (wrap64 ((wrap64 ((rd x28 x30) * ((rd_T35 x2 x30).f0))) * ((rd_T35 x2 x30).f1))))) x28 x29 (wrap64 (x30 + 1))) else (none)) else (none)) else (none)) else (some (x12, true))
def impl_WasteOf.f (k : Nat) (a0 : Int) (a1 : Int) (l2 : List (S35)) (a3 : Bool) : Option (Int × Bool) := (impl_PiecesCut.f a0 a1 l2 a3).bind fun bt221 => (if bt221.2 = true then (impl_WasteOf.l0 k l2 (wrap64 (a0 * a1)) bt221.1 (bt221.1.length : Int) 0) else (some (0, false)))
theorem impl_WasteOf.mono_l : ∀ k, (∀ y0 y1 y2 y3 y4, LeO (impl_WasteOf.l0 k y0 y1 y2 y3 y4) (impl_WasteOf.l0 (k + 1) y0 y1 y2 y3 y4))
  | 0 => fun _ _ _ _ _ r h => by simp [impl_WasteOf.l0] at h
  | k + 1 => by
    have ih0 := impl_WasteOf.mono_l k
    · intro y0 y1 y2 y3 y4
      unfold impl_WasteOf.l0
      repeat' first
      | (with_reducible exact ih0 _ _ _ _ _)
      | (with_reducible exact LeO.refl _)
      | (with_reducible exact LeO.none _)
      | (with_reducible refine LeO.ite ?_ ?_)
      | (with_reducible refine LeO.bind ?_ (fun _ => ?_))
      | exact ih0 _ _ _ _ _
      | exact LeO.none _
      | refine LeO.ite ?_ ?_
      | refine LeO.bind ?_ (fun _ => ?_)
theorem impl_WasteOf.mono : ∀ a0 a1 a2 a3 k, LeO (impl_WasteOf.f k a0 a1 a2 a3) (impl_WasteOf.f (k + 1) a0 a1 a2 a3) := by
  intro a0 a1 a2 a3 k
  have ih0 := impl_WasteOf.mono_l k
  unfold impl_WasteOf.f
  repeat' first
      | (with_reducible exact ih0 _ _ _ _ _)
      | (with_reducible exact LeO.refl _)
      | (with_reducible exact LeO.none _)
      | (with_reducible refine LeO.ite ?_ ?_)
      | (with_reducible refine LeO.bind ?_ (fun _ => ?_))
      | exact ih0 _ _ _ _ _
      | exact LeO.none _
      | refine LeO.ite ?_ ?_
      | refine LeO.bind ?_ (fun _ => ?_)
set_option maxHeartbeats 8000000 in
set_option maxRecDepth 100000 in
theorem impl_WasteOf.calls (k : Nat) (a0 : Int) (a1 : Int) (A2 : Option Addr) (c2 : Nat) (l2 : List (S35)) (a3 : Bool) (r1 : Int) (r2 : Bool) (w : World) (hr2 : Kd.C k35 w A2 l2.length l2) (hc2 : l2.length ≤ c2) (h : impl_WasteOf.f k a0 a1 l2 a3 = some (r1, r2)) :
    Calls Try.prog 46 #[.int .i64 a0, .int .i64 a1, .slice A2 l2.length c2, .bool a3] w fun e w' => e = .returned (.tuple #[.int .i64 r1, .bool r2]) ∧ Below w.heap.size w w' := by
  have HR2 := Aside0.mk hr2
  have HC2 := Aside0.mk hc2
  clear hr2 hc2
  have HB := Aside0.mk (Below.refl w.heap.size w)
  have H : ((impl_PiecesCut.f a0 a1 l2 a3).bind fun bt221 => (if bt221.2 = true then (impl_WasteOf.l0 k l2 (wrap64 (a0 * a1)) bt221.1 (bt221.1.length : Int) 0) else (some (0, false)))) = some (r1, r2) := h
  clear h
  replace H := Option.bind_eq_some_iff.mp H
  obtain ⟨⟨t221, t222⟩, A50, H⟩ := H
  replace H : (if t222 = true then (impl_WasteOf.l0 k l2 (wrap64 (a0 * a1)) t221 (t221.length : Int) 0) else (some (0, false))) = some (r1, r2) := H
  have A5 := Aside0.mk A50
  clear A50
  by_cases c6 : t222 = true
  · subst c6
    have H1 : (impl_WasteOf.l0 k l2 (wrap64 (a0 * a1)) t221 (t221.length : Int) 0) = some (r1, r2) := by rw [if_pos rfl] at H; exact H
    clear H
    have H := H1
    clear H1
    have H' := Aside0.mk H
    clear H
    go_enter Try.func46, Try.ntmps46
    go_wp2_with (first | (go_at_call 48; (with_reducible refine (impl_PiecesCut.calls a0 a1 _ _ l2 a3 t221 true _ ?side1 ?side2 A5.out).mono ?_); (case side1 => repeat (first | exact HR2.out | (with_reducible refine Kd.C_alloc ?_ _) | (with_reducible refine Kd.C_drewN ?_ _) | (with_reducible refine Kd.C_drew ?_))); (case side2 => exact HC2.out); rintro e w7 ⟨v223, rfl, ho0, hb⟩; have n0_ := Aside0.mk (Kd.R_lower ho0 (below_size (by repeat (first | (with_reducible first | exact HB.out | apply below_alloc | apply pw_below_drewN | apply below_drew1) | exact HB.out)))); have n1_ := Aside0.mk (below_step (by repeat (first | (with_reducible first | exact HB.out | apply below_alloc | apply pw_below_drewN | apply below_drew1) | exact HB.out)) hb); clear HB; have HO224 := n0_; have HB := n1_; clear n0_ n1_; (try clear hb); (try clear hb2); (try clear hk); (try clear hi); (try clear ho0); obtain ⟨Ao8, co8, eo8⟩ := Kd.R_slice HO224.out; subst eo8))
    repeat (go_quiet (first | (go_at_call 48; (with_reducible refine (impl_PiecesCut.calls a0 a1 _ _ l2 a3 t221 true _ ?side1 ?side2 A5.out).mono ?_); (case side1 => repeat (first | exact HR2.out | (with_reducible refine Kd.C_alloc ?_ _) | (with_reducible refine Kd.C_drewN ?_ _) | (with_reducible refine Kd.C_drew ?_))); (case side2 => exact HC2.out); rintro e w7 ⟨v223, rfl, ho0, hb⟩; have n0_ := Aside0.mk (Kd.R_lower ho0 (below_size (by repeat (first | (with_reducible first | exact HB.out | apply below_alloc | apply pw_below_drewN | apply below_drew1) | exact HB.out)))); have n1_ := Aside0.mk (below_step (by repeat (first | (with_reducible first | exact HB.out | apply below_alloc | apply pw_below_drewN | apply below_drew1) | exact HB.out)) hb); clear HB; have HO224 := n0_; have HB := n1_; clear n0_ n1_; (try clear hb); (try clear hb2); (try clear hk); (try clear hi); (try clear ho0); obtain ⟨Ao8, co8, eo8⟩ := Kd.R_slice HO224.out; subst eo8)); try go_wp2_with (first | (go_at_call 48; (with_reducible refine (impl_PiecesCut.calls a0 a1 _ _ l2 a3 t221 true _ ?side1 ?side2 A5.out).mono ?_); (case side1 => repeat (first | exact HR2.out | (with_reducible refine Kd.C_alloc ?_ _) | (with_reducible refine Kd.C_drewN ?_ _) | (with_reducible refine Kd.C_drew ?_))); (case side2 => exact HC2.out); rintro e w7 ⟨v223, rfl, ho0, hb⟩; have n0_ := Aside0.mk (Kd.R_lower ho0 (below_size (by repeat (first | (with_reducible first | exact HB.out | apply below_alloc | apply pw_below_drewN | apply below_drew1) | exact HB.out)))); have n1_ := Aside0.mk (below_step (by repeat (first | (with_reducible first | exact HB.out | apply below_alloc | apply pw_below_drewN | apply below_drew1) | exact HB.out)) hb); clear HB; have HO224 := n0_; have HB := n1_; clear n0_ n1_; (try clear hb); (try clear hb2); (try clear hk); (try clear hi); (try clear ho0); obtain ⟨Ao8, co8, eo8⟩ := Kd.R_slice HO224.out; subst eo8)))
    go_loopg [12, 30] k (fun kq v12 v30 w' => ∃ (x12_1 : Int) (x30_1 : Int), v12 = .int .i64 x12_1 ∧ v30 = .int .i64 x30_1 ∧ Aside0 (impl_WasteOf.l0 kq l2 x12_1 t221 (t221.length : Int) x30_1 = some (r1, r2)) ∧ Aside0 (kq ≤ k) ∧ Aside0 (Kd.R (Kd.int .i64) 3 w' w.heap.size (fun _ => True) (.slice Ao8 t221.length co8) t221) ∧ Aside0 (Below w.heap.size w w'))
    case atStart => exact ⟨(wrap64 (a0 * a1)), (0), (by first | rfl | (simp; done) | (simp [*]; done)), (by first | rfl | (simp; done) | (simp [*]; done)), H', ⟨Nat.le_refl _⟩, ⟨by (with_reducible repeat (first | apply Kd.R_alloc | apply Kd.R_drewN | apply Kd.R_drew)); exact HO224.out⟩, ⟨by repeat (first | (with_reducible first | exact HB.out | apply below_alloc | apply pw_below_drewN | apply below_drew1) | exact HB.out)⟩⟩
    case round =>
      clear H'
      try clear c2
      try clear p2
      try clear c4
      try clear c6
      try clear p6
      obtain ⟨x12_1, x30_1, rfl, rfl, HA, HK1, HO_28, HB⟩ := hrel
      cases gk with
      | zero => exact absurd HA.out (by simp [impl_WasteOf.l0])
      | succ k1 =>
        have H := HA.out
        clear HA
        simp only [impl_WasteOf.l0] at H
        by_cases c9 : x30_1 < (t221.length : Int)
        · rw [if_pos c9] at H
          have c9b0 : decide (x30_1 < (t221.length : Int)) = true := decide_eq_true c9
          clear c9
          by_cases c10 : 0 ≤ x30_1
          · rw [if_pos c10] at H
            have c10b0 : decide (0 ≤ x30_1) = true := decide_eq_true c10
            clear c10
            by_cases c11 : x30_1 < (t221.length : Int)
            · rw [if_pos c11] at H
              have c11b0 : decide (x30_1 < (t221.length : Int)) = true := decide_eq_true c11
              clear c11
              by_cases c12 : x30_1 < (l2.length : Int)
              · rw [if_pos c12] at H
                have c12b0 : decide (x30_1 < (l2.length : Int)) = true := decide_eq_true c12
                clear c12
                have H' := Aside0.mk H
                clear H
                have p225 : 0 ≤ (x30_1 : Int) := of_decide_eq_true (by first | (with_reducible assumption) | assumption)
                have q225 : x30_1 < (t221.length : Int) := of_decide_eq_true (by first | (with_reducible assumption) | assumption)
                obtain ⟨ad225, e225, hx225_0⟩ := Kd.at_int (Kd.R_reads' HO_28.out).2.2 x30_1 p225 q225
                cases e225
                replace p225 := eq_true p225
                replace q225 := eq_true q225
                have p226 : 0 ≤ (x30_1 : Int) := of_decide_eq_true (by first | (with_reducible assumption) | assumption)
                have q226 : x30_1 < (l2.length : Int) := of_decide_eq_true (by first | (with_reducible assumption) | assumption)
                obtain ⟨ad226, e226, hx226_0, hx226_1, hx226_2⟩ := at_T35 HR2.out x30_1 p226 q226
                cases e226
                replace hx226_0 := (HB.out.cell (World.block_lt_of_cell? w _ hx226_0)).trans hx226_0
                replace hx226_1 := (HB.out.cell (World.block_lt_of_cell? w _ hx226_1)).trans hx226_1
                replace hx226_2 := (HB.out.cell (World.block_lt_of_cell? w _ hx226_2)).trans hx226_2
                replace p226 := eq_true p226
                replace q226 := eq_true q226
                have p227 : 0 ≤ (x30_1 : Int) := of_decide_eq_true (by first | (with_reducible assumption) | assumption)
                have q227 : x30_1 < (l2.length : Int) := of_decide_eq_true (by first | (with_reducible assumption) | assumption)
                obtain ⟨ad227, e227, hx227_0, hx227_1, hx227_2⟩ := at_T35 HR2.out x30_1 p227 q227
                obtain rfl : ad226 = ad227 := (by injection e227)
                replace hx227_0 := (HB.out.cell (World.block_lt_of_cell? w _ hx227_0)).trans hx227_0
                replace hx227_1 := (HB.out.cell (World.block_lt_of_cell? w _ hx227_1)).trans hx227_1
                replace hx227_2 := (HB.out.cell (World.block_lt_of_cell? w _ hx227_2)).trans hx227_2
                replace p227 := eq_true p227
                replace q227 := eq_true q227
                go_wp2
                repeat (go_quiet (fail); try go_wp2)
                go_roundg k1
                case measure => have := HK1.out; omega
                case rel => exact ⟨(wrap64 (x12_1 - (wrap64 ((wrap64 ((rd t221 x30_1) * ((rd_T35 l2 x30_1).f0))) * ((rd_T35 l2 x30_1).f1))))), (wrap64 (x30_1 + 1)), (by first | rfl | (simp; done) | (simp [*]; done)), (by first | rfl | (simp; done) | (simp [*]; done)), H', ⟨by have := HK1.out; omega⟩, ⟨by (with_reducible repeat (first | apply Kd.R_alloc | apply Kd.R_drewN | apply Kd.R_drew)); exact HO_28.out⟩, ⟨by repeat (first | (with_reducible first | exact HB.out | apply below_alloc | apply pw_below_drewN | apply below_drew1) | exact HB.out)⟩⟩
              · rw [if_neg c12] at H
                exact absurd H (by simp)
            · rw [if_neg c11] at H
              exact absurd H (by simp)
          · rw [if_neg c10] at H
            exact absurd H (by simp)
        · rw [if_neg c9] at H
          have c9b0 : decide (x30_1 < (t221.length : Int)) = false := decide_eq_false c9
          clear c9
          simp only [Option.some.injEq, Prod.mk.injEq] at H
          obtain ⟨rfl, rfl⟩ := H
          go_wp2
          repeat (go_quiet (fail); try go_wp2)
          go_ret2
          exact ⟨by first | rfl | (simp [errW_none, errW_some] <;> rfl) | (simp [*, errW_none, errW_some] <;> rfl), by repeat (first | (with_reducible first | exact HB.out | apply below_alloc | apply pw_below_drewN | apply below_drew1) | exact HB.out)⟩
  · replace c6 := Bool.eq_false_iff.mpr c6
    subst c6
    have H1 : (some (0, false)) = some (r1, r2) := by rw [if_neg (show ¬ (false = true) by decide)] at H; exact H
    clear H
    have H := H1
    clear H1
    simp only [Option.some.injEq, Prod.mk.injEq] at H
    obtain ⟨rfl, rfl⟩ := H
    go_enter Try.func46, Try.ntmps46
    go_wp2_with (first | (go_at_call 48; (with_reducible refine (impl_PiecesCut.calls a0 a1 _ _ l2 a3 t221 false _ ?side1 ?side2 A5.out).mono ?_); (case side1 => repeat (first | exact HR2.out | (with_reducible refine Kd.C_alloc ?_ _) | (with_reducible refine Kd.C_drewN ?_ _) | (with_reducible refine Kd.C_drew ?_))); (case side2 => exact HC2.out); rintro e w13 ⟨v223, rfl, ho0, hb⟩; have n0_ := Aside0.mk (Kd.R_lower ho0 (below_size (by repeat (first | (with_reducible first | exact HB.out | apply below_alloc | apply pw_below_drewN | apply below_drew1) | exact HB.out)))); have n1_ := Aside0.mk (below_step (by repeat (first | (with_reducible first | exact HB.out | apply below_alloc | apply pw_below_drewN | apply below_drew1) | exact HB.out)) hb); clear HB; have HO224 := n0_; have HB := n1_; clear n0_ n1_; (try clear hb); (try clear hb2); (try clear hk); (try clear hi); (try clear ho0)))
    repeat (go_quiet (first | (go_at_call 48; (with_reducible refine (impl_PiecesCut.calls a0 a1 _ _ l2 a3 t221 false _ ?side1 ?side2 A5.out).mono ?_); (case side1 => repeat (first | exact HR2.out | (with_reducible refine Kd.C_alloc ?_ _) | (with_reducible refine Kd.C_drewN ?_ _) | (with_reducible refine Kd.C_drew ?_))); (case side2 => exact HC2.out); rintro e w13 ⟨v223, rfl, ho0, hb⟩; have n0_ := Aside0.mk (Kd.R_lower ho0 (below_size (by repeat (first | (with_reducible first | exact HB.out | apply below_alloc | apply pw_below_drewN | apply below_drew1) | exact HB.out)))); have n1_ := Aside0.mk (below_step (by repeat (first | (with_reducible first | exact HB.out | apply below_alloc | apply pw_below_drewN | apply below_drew1) | exact HB.out)) hb); clear HB; have HO224 := n0_; have HB := n1_; clear n0_ n1_; (try clear hb); (try clear hb2); (try clear hk); (try clear hi); (try clear ho0))); try go_wp2_with (first | (go_at_call 48; (with_reducible refine (impl_PiecesCut.calls a0 a1 _ _ l2 a3 t221 false _ ?side1 ?side2 A5.out).mono ?_); (case side1 => repeat (first | exact HR2.out | (with_reducible refine Kd.C_alloc ?_ _) | (with_reducible refine Kd.C_drewN ?_ _) | (with_reducible refine Kd.C_drew ?_))); (case side2 => exact HC2.out); rintro e w13 ⟨v223, rfl, ho0, hb⟩; have n0_ := Aside0.mk (Kd.R_lower ho0 (below_size (by repeat (first | (with_reducible first | exact HB.out | apply below_alloc | apply pw_below_drewN | apply below_drew1) | exact HB.out)))); have n1_ := Aside0.mk (below_step (by repeat (first | (with_reducible first | exact HB.out | apply below_alloc | apply pw_below_drewN | apply below_drew1) | exact HB.out)) hb); clear HB; have HO224 := n0_; have HB := n1_; clear n0_ n1_; (try clear hb); (try clear hb2); (try clear hk); (try clear hi); (try clear ho0))))
    go_ret2
    exact ⟨by first | rfl | (simp [errW_none, errW_some] <;> rfl) | (simp [*, errW_none, errW_some] <;> rfl), by repeat (first | (with_reducible first | exact HB.out | apply below_alloc | apply pw_below_drewN | apply below_drew1) | exact HB.out)⟩

/-! ### laws_FnExactWasteOf: function 13 -/
def laws_FnExactWasteOf.f (k : Nat) (a0 : Int) (a1 : Int) (l2 : List (S33)) (a3 : Bool) : Option (Bool) := (laws_szPieceS.f l2 1048576).bind fun t228 => (if t228 < 0 then (some true) else ((laws_toPieceS.f k l2).bind fun t229 => ((spec_WasteOf.f k a0 a1 t229 a3).bind fun bt232 => ((laws_toPieceS.f k l2).bind fun t234 => ((impl_WasteOf.f k a0 a1 t234 a3).bind fun bt237 => (if bt237.1 = bt232.1 then (if (bt237.2 != bt232.2) = true then (none) else ((laws_toPieceS.f k l2).bind fun t239 => ((laws_eqPieceS.f k t234 t239).bind fun t242 => (if t242 = true then (some true) else (none))))) else (none)))))))
theorem laws_FnExactWasteOf.mono : ∀ a0 a1 a2 a3 k, LeO (laws_FnExactWasteOf.f k a0 a1 a2 a3) (laws_FnExactWasteOf.f (k + 1) a0 a1 a2 a3) := by
  intro a0 a1 a2 a3 k
  unfold laws_FnExactWasteOf.f
  repeat' first
      | (with_reducible exact impl_WasteOf.mono _ _ _ _ _)
      | (with_reducible exact laws_eqPieceS.mono _ _ _)
      | (with_reducible exact laws_toPieceS.mono _ _)
      | (with_reducible exact spec_WasteOf.mono _ _ _ _ _)
      | (with_reducible exact LeO.refl _)
      | (with_reducible exact LeO.none _)
      | (with_reducible refine LeO.ite ?_ ?_)
      | (with_reducible refine LeO.bind ?_ (fun _ => ?_))
      | exact impl_WasteOf.mono _ _ _ _ _
      | exact laws_eqPieceS.mono _ _ _
      | exact laws_toPieceS.mono _ _
      | exact spec_WasteOf.mono _ _ _ _ _
      | exact LeO.none _
      | refine LeO.ite ?_ ?_
      | refine LeO.bind ?_ (fun _ => ?_)
set_option maxHeartbeats 8000000 in
set_option maxRecDepth 100000 in
theorem laws_FnExactWasteOf.calls (k : Nat) (a0 : Int) (a1 : Int) (A2 : Option Addr) (c2 : Nat) (l2 : List (S33)) (a3 : Bool) (r : Bool) (w : World) (hr2 : Kd.C k33 w A2 l2.length l2) (hc2 : l2.length ≤ c2) (hrt : r = true) (h : laws_FnExactWasteOf.f k a0 a1 l2 a3 = some r) :
    Calls Try.prog 13 #[.int .i64 a0, .int .i64 a1, .slice A2 l2.length c2, .bool a3] w fun e w' => e = .returned (.bool r) ∧ Below w.heap.size w w' := by
  have HRT := Aside0.mk hrt
  clear hrt
  have HR2 := Aside0.mk hr2
  have HC2 := Aside0.mk hc2
  clear hr2 hc2
  have HB := Aside0.mk (Below.refl w.heap.size w)
  have H : ((laws_szPieceS.f l2 1048576).bind fun t228 => (if t228 < 0 then (some true) else ((laws_toPieceS.f k l2).bind fun t229 => ((spec_WasteOf.f k a0 a1 t229 a3).bind fun bt232 => ((laws_toPieceS.f k l2).bind fun t234 => ((impl_WasteOf.f k a0 a1 t234 a3).bind fun bt237 => (if bt237.1 = bt232.1 then (if (bt237.2 != bt232.2) = true then (none) else ((laws_toPieceS.f k l2).bind fun t239 => ((laws_eqPieceS.f k t234 t239).bind fun t242 => (if t242 = true then (some true) else (none))))) else (none)))))))) = some r := h
  clear h
  replace H := Option.bind_eq_some_iff.mp H
  obtain ⟨t228, A50, H⟩ := H
  replace H : (if t228 < 0 then (some true) else ((laws_toPieceS.f k l2).bind fun t229 => ((spec_WasteOf.f k a0 a1 t229 a3).bind fun bt232 => ((laws_toPieceS.f k l2).bind fun t234 => ((impl_WasteOf.f k a0 a1 t234 a3).bind fun bt237 => (if bt237.1 = bt232.1 then (if (bt237.2 != bt232.2) = true then (none) else ((laws_toPieceS.f k l2).bind fun t239 => ((laws_eqPieceS.f k t234 t239).bind fun t242 => (if t242 = true then (some true) else (none))))) else (none))))))) = some r := H
  have A5 := Aside0.mk A50
  clear A50
  by_cases c6 : t228 < 0
  · rw [if_pos c6] at H
    have c6b0 : decide (t228 < 0) = true := decide_eq_true c6
    clear c6
    obtain rfl := Option.some.inj H
    go_enter Try.func13, Try.ntmps13
    go_wp2_with (first | ((with_reducible refine gate_callee (f := 16) rfl ?_); refine goesL_ (some 17) rfl rfl Try.func16 (by kernel_rfl) rfl #[.slice A2 l2.length c2, .int .i64 1048576] rfl (by (try simp only [List.map_toArray, List.map_cons, List.map_nil]); first | done | rfl | (simp only [List.length_drop, List.length_take]; rfl)) ?_; (with_reducible refine (laws_szPieceS.calls _ _ l2 1048576 t228 _ ?side1 ?side2 A5.out).mono ?_); (case side1 => repeat (first | exact HR2.out | (with_reducible refine Kd.C_alloc ?_ _) | (with_reducible refine Kd.C_drewN ?_ _) | (with_reducible refine Kd.C_drew ?_))); (case side2 => exact HC2.out); rintro e w' ⟨rfl, ⟨nd, rfl⟩⟩; refine ⟨_, rfl, ?_⟩))
    go_ret
    exact ⟨by first | rfl | (simp [errW_none, errW_some] <;> rfl) | (simp [*, errW_none, errW_some] <;> rfl), by repeat (first | (with_reducible first | exact HB.out | apply below_alloc | apply pw_below_drewN | apply below_drew1) | exact HB.out)⟩
  · rw [if_neg c6] at H
    have c6b0 : decide (t228 < 0) = false := decide_eq_false c6
    clear c6
    replace H := Option.bind_eq_some_iff.mp H
    obtain ⟨t229, A70, H⟩ := H
    replace H : ((spec_WasteOf.f k a0 a1 t229 a3).bind fun bt232 => ((laws_toPieceS.f k l2).bind fun t234 => ((impl_WasteOf.f k a0 a1 t234 a3).bind fun bt237 => (if bt237.1 = bt232.1 then (if (bt237.2 != bt232.2) = true then (none) else ((laws_toPieceS.f k l2).bind fun t239 => ((laws_eqPieceS.f k t234 t239).bind fun t242 => (if t242 = true then (some true) else (none))))) else (none))))) = some r := H
    have A7 := Aside0.mk A70
    clear A70
    replace H := Option.bind_eq_some_iff.mp H
    obtain ⟨⟨t232, t233⟩, A80, H⟩ := H
    replace H : ((laws_toPieceS.f k l2).bind fun t234 => ((impl_WasteOf.f k a0 a1 t234 a3).bind fun bt237 => (if bt237.1 = t232 then (if (bt237.2 != t233) = true then (none) else ((laws_toPieceS.f k l2).bind fun t239 => ((laws_eqPieceS.f k t234 t239).bind fun t242 => (if t242 = true then (some true) else (none))))) else (none)))) = some r := H
    have A8 := Aside0.mk A80
    clear A80
    replace H := Option.bind_eq_some_iff.mp H
    obtain ⟨t234, A90, H⟩ := H
    replace H : ((impl_WasteOf.f k a0 a1 t234 a3).bind fun bt237 => (if bt237.1 = t232 then (if (bt237.2 != t233) = true then (none) else ((laws_toPieceS.f k l2).bind fun t239 => ((laws_eqPieceS.f k t234 t239).bind fun t242 => (if t242 = true then (some true) else (none))))) else (none))) = some r := H
    have A9 := Aside0.mk A90
    clear A90
    replace H := Option.bind_eq_some_iff.mp H
    obtain ⟨⟨t237, t238⟩, A100, H⟩ := H
    replace H : (if t237 = t232 then (if (t238 != t233) = true then (none) else ((laws_toPieceS.f k l2).bind fun t239 => ((laws_eqPieceS.f k t234 t239).bind fun t242 => (if t242 = true then (some true) else (none))))) else (none)) = some r := H
    have A10 := Aside0.mk A100
    clear A100
    by_cases c11 : t237 = t232
    · rw [if_pos c11] at H
      have c11b0 : (t237 == t232) = true := beq_iff_eq.mpr c11
      have c11b1 : (t237 != t232) = false := bne_eq_false_iff_eq.mpr c11
      clear c11
      by_cases c12 : (t238 != t233) = true
      · rw [if_pos c12] at H
        exact absurd H (by simp)
      · rw [if_neg c12] at H
        have c12b0 : (t238 != t233) = false := by simpa using c12
        (try (have c12b1 : decide (t238 = t233) = true := by simpa using c12))
        (try (have c12b2 : (t238 == t233) = true := by simpa using c12))
        clear c12
        replace H := Option.bind_eq_some_iff.mp H
        obtain ⟨t239, A130, H⟩ := H
        replace H : ((laws_eqPieceS.f k t234 t239).bind fun t242 => (if t242 = true then (some true) else (none))) = some r := H
        have A13 := Aside0.mk A130
        clear A130
        replace H := Option.bind_eq_some_iff.mp H
        obtain ⟨t242, A140, H⟩ := H
        replace H : (if t242 = true then (some true) else (none)) = some r := H
        have A14 := Aside0.mk A140
        clear A140
        by_cases c15 : t242 = true
        · subst c15
          have H1 : (some true) = some r := by rw [if_pos rfl] at H; exact H
          clear H
          have H := H1
          clear H1
          obtain rfl := Option.some.inj H
          go_enter Try.func13, Try.ntmps13
          go_wp2_with (first | ((with_reducible refine gate_callee (f := 16) rfl ?_); refine goesL_ (some 17) rfl rfl Try.func16 (by kernel_rfl) rfl #[.slice A2 l2.length c2, .int .i64 1048576] rfl (by (try simp only [List.map_toArray, List.map_cons, List.map_nil]); first | done | rfl | (simp only [List.length_drop, List.length_take]; rfl)) ?_; (with_reducible refine (laws_szPieceS.calls _ _ l2 1048576 t228 _ ?side1 ?side2 A5.out).mono ?_); (case side1 => repeat (first | exact HR2.out | (with_reducible refine Kd.C_alloc ?_ _) | (with_reducible refine Kd.C_drewN ?_ _) | (with_reducible refine Kd.C_drew ?_))); (case side2 => exact HC2.out); rintro e w' ⟨rfl, ⟨nd, rfl⟩⟩; refine ⟨_, rfl, ?_⟩) | ((with_reducible refine gate_callee (f := 18) rfl ?_); refine goesL_ (some 24) rfl rfl Try.func18 (by kernel_rfl) rfl #[.slice A2 l2.length c2] rfl (by (try simp only [List.map_toArray, List.map_cons, List.map_nil]); first | done | rfl | (simp only [List.length_drop, List.length_take]; rfl)) ?_; (with_reducible refine (laws_toPieceS.calls k _ _ l2 t229 _ ?side1 ?side2 A7.out).mono ?_); (case side1 => repeat (first | exact HR2.out | (with_reducible refine Kd.C_alloc ?_ _) | (with_reducible refine Kd.C_drewN ?_ _) | (with_reducible refine Kd.C_drew ?_))); (case side2 => exact HC2.out); rintro e w16 ⟨v230, rfl, ho0, hb⟩; refine ⟨_, rfl, ?_⟩; have n0_ := Aside0.mk (Kd.R_lower ho0 (below_size (by repeat (first | (with_reducible first | exact HB.out | apply below_alloc | apply pw_below_drewN | apply below_drew1) | exact HB.out)))); have n1_ := Aside0.mk (below_step (by repeat (first | (with_reducible first | exact HB.out | apply below_alloc | apply pw_below_drewN | apply below_drew1) | exact HB.out)) hb); clear HB; have HO231 := n0_; have HB := n1_; clear n0_ n1_; (try clear hb); (try clear hb2); (try clear hk); (try clear hi); (try clear ho0); obtain ⟨Ao17, co17, eo17⟩ := Kd.R_slice HO231.out; subst eo17) | ((with_reducible refine gate_callee (f := 45) rfl ?_); refine goesL_ (some 26) rfl rfl Try.func45 (by kernel_rfl) rfl #[.int .i64 a0, .int .i64 a1, .slice Ao17 t229.length co17, .bool a3] rfl (by (try simp only [List.map_toArray, List.map_cons, List.map_nil]); first | done | rfl | (simp only [List.length_drop, List.length_take]; rfl)) ?_; (with_reducible refine (spec_WasteOf.calls k a0 a1 _ _ t229 a3 t232 t233 _ ?side1 ?side2 A8.out).mono ?_); (case side1 => repeat (first | exact (Kd.R_reads' HO231.out).2.2 | (with_reducible refine Kd.C_alloc ?_ _) | (with_reducible refine Kd.C_drewN ?_ _) | (with_reducible refine Kd.C_drew ?_))); (case side2 => exact (Kd.R_reads' HO231.out).2.1); rintro e w18 ⟨rfl, hb⟩; refine ⟨_, rfl, ?_⟩; have n0_ := Aside0.mk (Kd.R_below (by (with_reducible repeat (first | apply Kd.R_alloc | apply Kd.R_drewN | apply Kd.R_drew)); exact HO231.out) hb); have n1_ := Aside0.mk (below_step (by repeat (first | (with_reducible first | exact HB.out | apply below_alloc | apply pw_below_drewN | apply below_drew1) | exact HB.out)) hb); clear HO231; clear HB; have HO231 := n0_; have HB := n1_; clear n0_ n1_; (try clear hb); (try clear hb2); (try clear hk); (try clear hi)) | ((with_reducible refine gate_callee (f := 18) rfl ?_); refine goesL_ (some 30) rfl rfl Try.func18 (by kernel_rfl) rfl #[.slice A2 l2.length c2] rfl (by (try simp only [List.map_toArray, List.map_cons, List.map_nil]); first | done | rfl | (simp only [List.length_drop, List.length_take]; rfl)) ?_; (with_reducible refine (laws_toPieceS.calls k _ _ l2 t234 _ ?side1 ?side2 A9.out).mono ?_); (case side1 => repeat (first | exact (Kd.C_below HR2.out HB.out) | (with_reducible refine Kd.C_alloc ?_ _) | (with_reducible refine Kd.C_drewN ?_ _) | (with_reducible refine Kd.C_drew ?_))); (case side2 => exact HC2.out); rintro e w19 ⟨v235, rfl, ho0, hb⟩; refine ⟨_, rfl, ?_⟩; have n0_ := Aside0.mk (Kd.R_elder' (by (with_reducible repeat (first | apply Kd.R_alloc | apply Kd.R_drewN | apply Kd.R_drew)); exact HO231.out) (Kd.R_base ho0) hb); have n1_ := Aside0.mk (Kd.R_lower (Kd.R_new' ho0 (Kd.R_lt (by (with_reducible repeat (first | apply Kd.R_alloc | apply Kd.R_drewN | apply Kd.R_drew)); exact HO231.out))) (below_size (by repeat (first | (with_reducible first | exact HB.out | apply below_alloc | apply pw_below_drewN | apply below_drew1) | exact HB.out)))); have n2_ := Aside0.mk (below_step (by repeat (first | (with_reducible first | exact HB.out | apply below_alloc | apply pw_below_drewN | apply below_drew1) | exact HB.out)) hb); clear HO231; clear HB; have HO231 := n0_; have HO236 := n1_; have HB := n2_; clear n0_ n1_ n2_; (try clear hb); (try clear hb2); (try clear hk); (try clear hi); (try clear ho0); obtain ⟨Ao20, co20, eo20⟩ := Kd.R_slice HO236.out; subst eo20) | ((with_reducible refine gate_callee (f := 46) rfl ?_); refine goesL_ (some 36) rfl rfl Try.func46 (by kernel_rfl) rfl #[.int .i64 a0, .int .i64 a1, .slice Ao20 t234.length co20, .bool a3] rfl (by (try simp only [List.map_toArray, List.map_cons, List.map_nil]); first | done | rfl | (simp only [List.length_drop, List.length_take]; rfl)) ?_; (with_reducible refine (impl_WasteOf.calls k a0 a1 _ _ t234 a3 t237 t238 _ ?side1 ?side2 A10.out).mono ?_); (case side1 => repeat (first | exact (Kd.R_reads' HO236.out).2.2 | (with_reducible refine Kd.C_alloc ?_ _) | (with_reducible refine Kd.C_drewN ?_ _) | (with_reducible refine Kd.C_drew ?_))); (case side2 => exact (Kd.R_reads' HO236.out).2.1); rintro e w21 ⟨rfl, hb⟩; refine ⟨_, rfl, ?_⟩; have n0_ := Aside0.mk (Kd.R_below (by (with_reducible repeat (first | apply Kd.R_alloc | apply Kd.R_drewN | apply Kd.R_drew)); exact HO231.out) hb); have n1_ := Aside0.mk (Kd.R_below (by (with_reducible repeat (first | apply Kd.R_alloc | apply Kd.R_drewN | apply Kd.R_drew)); exact HO236.out) hb); have n2_ := Aside0.mk (below_step (by repeat (first | (with_reducible first | exact HB.out | apply below_alloc | apply pw_below_drewN | apply below_drew1) | exact HB.out)) hb); clear HO231; clear HO236; clear HB; have HO231 := n0_; have HO236 := n1_; have HB := n2_; clear n0_ n1_ n2_; (try clear hb); (try clear hb2); (try clear hk); (try clear hi)) | ((with_reducible refine gate_callee (f := 18) rfl ?_); refine goesL_ (some 49) rfl rfl Try.func18 (by kernel_rfl) rfl #[.slice A2 l2.length c2] rfl (by (try simp only [List.map_toArray, List.map_cons, List.map_nil]); first | done | rfl | (simp only [List.length_drop, List.length_take]; rfl)) ?_; (with_reducible refine (laws_toPieceS.calls k _ _ l2 t239 _ ?side1 ?side2 A13.out).mono ?_); (case side1 => repeat (first | exact (Kd.C_below HR2.out HB.out) | (with_reducible refine Kd.C_alloc ?_ _) | (with_reducible refine Kd.C_drewN ?_ _) | (with_reducible refine Kd.C_drew ?_))); (case side2 => exact HC2.out); rintro e w22 ⟨v240, rfl, ho0, hb⟩; refine ⟨_, rfl, ?_⟩; have n0_ := Aside0.mk (Kd.R_elder' (by (with_reducible repeat (first | apply Kd.R_alloc | apply Kd.R_drewN | apply Kd.R_drew)); exact HO231.out) (Kd.R_base ho0) hb); have n1_ := Aside0.mk (Kd.R_elder' (by (with_reducible repeat (first | apply Kd.R_alloc | apply Kd.R_drewN | apply Kd.R_drew)); exact HO236.out) (Kd.R_base ho0) hb); have n2_ := Aside0.mk (Kd.R_lower (Kd.R_new' (Kd.R_new' ho0 (Kd.R_lt (by (with_reducible repeat (first | apply Kd.R_alloc | apply Kd.R_drewN | apply Kd.R_drew)); exact HO231.out))) (Kd.R_lt (by (with_reducible repeat (first | apply Kd.R_alloc | apply Kd.R_drewN | apply Kd.R_drew)); exact HO236.out))) (below_size (by repeat (first | (with_reducible first | exact HB.out | apply below_alloc | apply pw_below_drewN | apply below_drew1) | exact HB.out)))); have n3_ := Aside0.mk (below_step (by repeat (first | (with_reducible first | exact HB.out | apply below_alloc | apply pw_below_drewN | apply below_drew1) | exact HB.out)) hb); clear HO231; clear HO236; clear HB; have HO231 := n0_; have HO236 := n1_; have HO241 := n2_; have HB := n3_; clear n0_ n1_ n2_ n3_; (try clear hb); (try clear hb2); (try clear hk); (try clear hi); (try clear ho0); obtain ⟨Ao23, co23, eo23⟩ := Kd.R_slice HO241.out; subst eo23) | ((with_reducible refine gate_callee (f := 20) rfl ?_); refine goesL_ (some 50) rfl rfl Try.func20 (by kernel_rfl) rfl #[.slice Ao20 t234.length co20, .slice Ao23 t239.length co23] rfl (by (try simp only [List.map_toArray, List.map_cons, List.map_nil]); first | done | rfl | (simp only [List.length_drop, List.length_take]; rfl)) ?_; (with_reducible refine (laws_eqPieceS.calls k _ _ t234 _ _ t239 true _ ?side1 ?side2 ?side3 ?side4 A14.out).mono ?_); (case side1 => repeat (first | exact (Kd.R_reads' HO236.out).2.2 | (with_reducible refine Kd.C_alloc ?_ _) | (with_reducible refine Kd.C_drewN ?_ _) | (with_reducible refine Kd.C_drew ?_))); (case side2 => exact (Kd.R_reads' HO236.out).2.1); (case side3 => repeat (first | exact (Kd.R_reads' HO241.out).2.2 | (with_reducible refine Kd.C_alloc ?_ _) | (with_reducible refine Kd.C_drewN ?_ _) | (with_reducible refine Kd.C_drew ?_))); (case side4 => exact (Kd.R_reads' HO241.out).2.1); rintro e w24 ⟨rfl, hb⟩; refine ⟨_, rfl, ?_⟩; have n0_ := Aside0.mk (Kd.R_below (by (with_reducible repeat (first | apply Kd.R_alloc | apply Kd.R_drewN | apply Kd.R_drew)); exact HO231.out) hb); have n1_ := Aside0.mk (Kd.R_below (by (with_reducible repeat (first | apply Kd.R_alloc | apply Kd.R_drewN | apply Kd.R_drew)); exact HO236.out) hb); have n2_ := Aside0.mk (Kd.R_below (by (with_reducible repeat (first | apply Kd.R_alloc | apply Kd.R_drewN | apply Kd.R_drew)); exact HO241.out) hb); have n3_ := Aside0.mk (below_step (by repeat (first | (with_reducible first | exact HB.out | apply below_alloc | apply pw_below_drewN | apply below_drew1) | exact HB.out)) hb); clear HO231; clear HO236; clear HO241; clear HB; have HO231 := n0_; have HO236 := n1_; have HO241 := n2_; have HB := n3_; clear n0_ n1_ n2_ n3_; (try clear hb); (try clear hb2); (try clear hk); (try clear hi)))
          go_ret
          exact ⟨by first | rfl | (simp [errW_none, errW_some] <;> rfl) | (simp [*, errW_none, errW_some] <;> rfl), by repeat (first | (with_reducible first | exact HB.out | apply below_alloc | apply pw_below_drewN | apply below_drew1) | exact HB.out)⟩
        · replace c15 := Bool.eq_false_iff.mpr c15
          subst c15
          have H1 : (none) = some r := by rw [if_neg (show ¬ (false = true) by decide)] at H; exact H
          clear H
          have H := H1
          clear H1
          exact absurd H (by simp)
    · rw [if_neg c11] at H
      exact absurd H (by simp)

end Go.Proofs.Ytcijldnkigmfeaa.M

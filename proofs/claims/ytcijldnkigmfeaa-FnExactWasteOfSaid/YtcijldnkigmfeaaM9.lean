-- Written by the session's program wip/myprint.py (over the kit's print); the given parts by hand.
import Derived.Test.YtcijldnkigmfeaaM0
import Derived.Test.YtcijldnkigmfeaaM8
namespace Go.Proofs.Ytcijldnkigmfeaa.M
open Go.RowKit Go.Proofs.YtcijldnkigmfeaaW.PrintWords Go.Proofs.YtcijldnkigmfeaaW.PrintLast Go.Proofs.YtcijldnkigmfeaaW.PrintMore
attribute [local go_sem] max2_int min2_int max_two min_two max_three min_three max_four min_four   -- for this text's walks alone
set_option linter.unusedVariables false
set_option linter.unusedSimpArgs false

-- given: (loop.example/g01334/impl.cutter).whole

/-! ### (cutter).whole: by hand -/
def justB (a b : Int) (tn : Bool) (x : S35) : Bool := (a == x.f0 && b == x.f1) || (tn && (a == x.f1 && b == x.f0))
theorem isJust_is (a b : Int) (x : S35) (tn : Bool) : impl_board_isJust.f a b x.f0 x.f1 x.f2 tn = some (justB a b tn x) := by
  unfold impl_board_isJust.f justB
  cases h : (a == x.f0 && (b == x.f1)) <;> cases tn <;> simp [h]
def wholeN (a b : Int) (tn : Bool) : List S35 → Int → Int → Int → Int × Int
  | [], _, best, kind => (best, kind)
  | x :: l, i, best, kind => if justB a b tn x && decide (best < x.f2) then wholeN a b tn l (i + 1) x.f2 i else wholeN a b tn l (i + 1) best kind
set_option maxHeartbeats 1000000 in
set_option maxRecDepth 100000 in
theorem cutter_whole (A0 : Option Addr) (c0 : Nat) (l0 : List S35) (tn : Bool) (m : Option Nat) (a b : Int) (w : World) (hr0 : Kd.C k35 w A0 l0.length l0) :
    Calls Try.prog 85 #[.agg #[.slice A0 l0.length c0, .bool tn, .map m], .agg #[.int .i64 a, .int .i64 b]] w fun e w' => e = .returned (.tuple #[.int .i64 (wholeN a b tn l0 0 0 (-1)).1, .int .i64 (wholeN a b tn l0 0 0 (-1)).2]) ∧ Below w.heap.size w w' := by
  have hu := Try.underlying79
  have hu2 := Try.underlying35
  have hu3 := Try.underlying68
  have HR0 := Aside0.mk hr0
  have hl := hr0.2.1
  clear hr0
  go_enter Try.func85, Try.ntmps85
  go_wp2
  have c1 : ((w.alloc (.cells #[.slice A0 l0.length c0, .bool tn, .map m] 79)).alloc (.cells #[.int .i64 a, .int .i64 b] 68)).cell? ⟨w.heap.size, 1, none⟩ = some (.bool tn) := by simp
  have b0 : ((w.alloc (.cells #[.slice A0 l0.length c0, .bool tn, .map m] 79)).alloc (.cells #[.int .i64 a, .int .i64 b] 68)).cell? ⟨w.heap.size + 1, 0, none⟩ = some (.int .i64 a) := by simp
  have b1 : ((w.alloc (.cells #[.slice A0 l0.length c0, .bool tn, .map m] 79)).alloc (.cells #[.int .i64 a, .int .i64 b] 68)).cell? ⟨w.heap.size + 1, 1, none⟩ = some (.int .i64 b) := by simp
  have HB0 := Aside0.mk (below_alloc (below_alloc (Below.refl w.heap.size w) (.cells #[.slice A0 l0.length c0, .bool tn, .map m] 79)) (.cells #[.int .i64 a, .int .i64 b] 68))
  generalize (w.alloc (.cells #[.slice A0 l0.length c0, .bool tn, .map m] 79)).alloc (.cells #[.int .i64 a, .int .i64 b] 68) = W0 at c1 b0 b1 HB0 ⊢
  have HC1 := Aside0.mk c1
  have HB_0 := Aside0.mk b0
  have HB_1 := Aside0.mk b1
  clear c1 b0 b1
  go_loopg [6, 7, 13] l0.length (fun gg v6 v7 v13 wr => ∃ (kk : Nat) (best kind : Int), kk ≤ l0.length ∧ l0.length - kk ≤ gg ∧ v6 = .int .i64 best ∧ v7 = .int .i64 kind ∧ v13 = .int .i64 kk ∧ Aside0 (wholeN a b tn (l0.drop kk) (kk : Int) best kind = wholeN a b tn l0 0 0 (-1)) ∧ Aside0 (Below W0.heap.size W0 wr))
  case atStart => exact ⟨0, 0, -1, Nat.zero_le _, by omega, rfl, rfl, rfl, ⟨rfl⟩, ⟨Below.refl _ _⟩⟩
  case round =>
    obtain ⟨kk, best, kind, hkk, hg, rfl, rfl, rfl, HA, HB⟩ := hrel
    have c1 := (HB.out.cell (World.block_lt_of_cell? W0 _ HC1.out)).trans HC1.out
    have b0 := (HB.out.cell (World.block_lt_of_cell? W0 _ HB_0.out)).trans HB_0.out
    have b1 := (HB.out.cell (World.block_lt_of_cell? W0 _ HB_1.out)).trans HB_1.out
    by_cases hlt : kk < l0.length
    · have hltz : (kk : Int) < (l0.length : Int) := by omega
      have hrw := Kd.C_below HR0.out (HB0.out.trans (HB.out.mono HB0.out.size))
      obtain ⟨ad, rfl, hx0, hx1, hx2⟩ := at_T35 hrw (kk : Int) (by omega) hltz
      rw [show rd_T35 l0 (kk : Int) = l0[kk] by simp [rd_T35, hlt], Int.toNat_natCast] at hx0 hx1 hx2
      have hstep : wholeN a b tn (l0.drop kk) (kk : Int) best kind = if justB a b tn l0[kk] && decide (best < l0[kk].f2) then wholeN a b tn (l0.drop (kk + 1)) ((kk : Int) + 1) l0[kk].f2 kk else wholeN a b tn (l0.drop (kk + 1)) ((kk : Int) + 1) best kind := by
        rw [List.drop_eq_getElem_cons hlt, wholeN]
      rw [HA.out] at hstep
      have HJ := Aside0.mk (isJust_is a b l0[kk] tn)
      generalize hy : l0[kk] = y at hx0 hx1 hx2 hstep HJ
      clear hy hrw HA
      have hWp : ∀ {ad : Addr} {v : Value}, wr.cell? ad = some v → (wr.alloc (.cells #[.int .i64 y.f0, .int .i64 y.f1, .int .i64 y.f2] 35)).cell? ad = some v := fun h => ((below_alloc (Below.refl _ _) _).cell (World.block_lt_of_cell? wr _ h)).trans h
      replace c1 := hWp c1
      replace b0 := hWp b0
      replace b1 := hWp b1
      clear hWp
      cases hq : justB a b tn y with
      | true =>
        rw [hq] at HJ
        cases hd : decide (best < y.f2) with
        | true =>
          rw [hq, hd, Bool.true_and, if_pos rfl] at hstep
          have HN := Aside0.mk hstep
          clear hq hstep
          go_wp2_with (go_at_call 90; refine (impl_board_isJust.calls a b y.f0 y.f1 y.f2 tn true _ HJ.out).mono ?_; rintro e w' ⟨rfl, hb⟩; have HB2 := Aside0.mk hb; have hp2 : w'.cell? ⟨wr.heap.size, 2, none⟩ = some (.int .i64 y.f2) := (hb.cell (by simp)).trans (by simp); clear hb)
          go_roundg (l0.length - (kk + 1))
          case measure => omega
          case rel => exact ⟨kk + 1, y.f2, kk, by omega, by omega, rfl, rfl, by go_num, ⟨HN.out.symm⟩, ⟨HB.out.trans ((by repeat (first | exact Below.refl _ _ | apply below_alloc | apply pw_below_drewN) : Below wr.heap.size wr _).mono HB.out.size |>.trans (HB2.out.mono (by have := HB.out.size; simp; omega)))⟩⟩
        | false =>
          rw [hq, hd, Bool.and_false, if_neg (by decide)] at hstep
          have HN := Aside0.mk hstep
          clear hq hstep
          go_wp2_with (go_at_call 90; refine (impl_board_isJust.calls a b y.f0 y.f1 y.f2 tn true _ HJ.out).mono ?_; rintro e w' ⟨rfl, hb⟩; have HB2 := Aside0.mk hb; have hp2 : w'.cell? ⟨wr.heap.size, 2, none⟩ = some (.int .i64 y.f2) := (hb.cell (by simp)).trans (by simp); clear hb)
          go_roundg (l0.length - (kk + 1))
          case measure => omega
          case rel => exact ⟨kk + 1, best, kind, by omega, by omega, rfl, rfl, by go_num, ⟨HN.out.symm⟩, ⟨HB.out.trans ((by repeat (first | exact Below.refl _ _ | apply below_alloc | apply pw_below_drewN) : Below wr.heap.size wr _).mono HB.out.size |>.trans (HB2.out.mono (by have := HB.out.size; simp; omega)))⟩⟩
      | false =>
        rw [hq] at HJ
        rw [hq, Bool.false_and, if_neg (by decide)] at hstep
        have HN := Aside0.mk hstep
        clear hq hstep
        go_wp2_with (go_at_call 90; refine (impl_board_isJust.calls a b y.f0 y.f1 y.f2 tn false _ HJ.out).mono ?_; rintro e w' ⟨rfl, hb⟩; have HB2 := Aside0.mk hb; have hp2 : w'.cell? ⟨wr.heap.size, 2, none⟩ = some (.int .i64 y.f2) := (hb.cell (by simp)).trans (by simp); clear hb)
        go_roundg (l0.length - (kk + 1))
        case measure => omega
        case rel => exact ⟨kk + 1, best, kind, by omega, by omega, rfl, rfl, by go_num, ⟨HN.out.symm⟩, ⟨HB.out.trans ((by repeat (first | exact Below.refl _ _ | apply below_alloc | apply pw_below_drewN) : Below wr.heap.size wr _).mono HB.out.size |>.trans (HB2.out.mono (by have := HB.out.size; simp; omega)))⟩⟩
    · have hk : kk = l0.length := by omega
      subst hk
      go_wp2
      go_ret2
      have hh := HA.out
      rw [List.drop_length, wholeN] at hh
      exact ⟨by rw [← hh]; rfl, HB0.out.trans (HB.out.mono HB0.out.size)⟩

-- given: part memo
/-! ### a map that a function keeps what it has reckoned in: keys of two whole numbers, 0..N each; at each key that is there lies what V says -/
open Go.Maps (Keyed)
def hR (v : Value) : Option (DataW Value × List MemPlace) := some (.held v, [])
structure MemoK (P : Program) (t k e : TypeId) (kv : Int → Int → Value) (kl : Int → Int → Lit) (z0 : Value) (N : Nat) : Prop where
  law : Keyed P k
  ht : P.underlying t = some (.map k e)
  key : ∀ a b : Int, 0 ≤ a → a ≤ N → 0 ≤ b → b ≤ N → keyOf P k (kv a b) = some (kl a b)
  kinj : ∀ a b c d : Int, kv a b = kv c d → a = c ∧ b = d
  zero : ∀ w : World, (zeroValue e).run P w = .ok z0 w
  small : N ≤ 1000
def pairsN (N : Nat) : List (Nat × Nat) := (List.range (N + 1)).flatMap fun a => (List.range (N + 1)).map fun b => (a, b)
theorem mem_pairsN {N a b : Nat} (ha : a ≤ N) (hb : b ≤ N) : (a, b) ∈ pairsN N := by
  simp [pairsN, List.mem_flatMap, List.mem_map, List.mem_range]
  omega
theorem length_pairsN (N : Nat) : (pairsN N).length = (N + 1) * (N + 1) := by
  simp [pairsN, List.length_flatMap, List.map_const', List.sum_replicate_nat]
def lacks (kl : Int → Int → Lit) (N : Nat) (D : DataW Value) : Nat := ((pairsN N).filter fun u => !(Maps.has D (kl u.1 u.2))).length
theorem filter_le {α : Type} (p q : α → Bool) (h : ∀ x, q x = true → p x = true) : ∀ l : List α, (l.filter q).length ≤ (l.filter p).length
  | [] => by simp
  | x :: l => by
    have ih := filter_le p q h l
    cases hq : q x with
    | true => simp [List.filter_cons, hq, h x hq, ih]
    | false =>
      cases hp : p x with
      | true => simp [List.filter_cons, hq, hp]; omega
      | false => simp [List.filter_cons, hq, hp, ih]
theorem filter_lt {α : Type} (p q : α → Bool) (h : ∀ x, q x = true → p x = true) {u : α} (hp : p u = true) (hq : q u = false) : ∀ l : List α, u ∈ l → (l.filter q).length + 1 ≤ (l.filter p).length
  | [], hu => by simp at hu
  | x :: l, hu => by
    have hl := filter_le p q h l
    rcases List.mem_cons.1 hu with rfl | hu
    · simp [List.filter_cons, hq, hp, hl]
    · have ih := filter_lt p q h hp hq l hu
      cases hqx : q x with
      | true => simp [List.filter_cons, hqx, h x hqx]; omega
      | false =>
        cases hpx : p x with
        | true => simp [List.filter_cons, hqx, hpx]; omega
        | false => simp [List.filter_cons, hqx, hpx]; omega
section
variable {P : Program} {t k e : TypeId} {kv : Int → Int → Value} {kl : Int → Int → Lit} {z0 : Value} {N : Nat}
theorem MemoK.linj (M : MemoK P t k e kv kl z0 N) {a b c d : Int} (ha : 0 ≤ a ∧ a ≤ N) (hb : 0 ≤ b ∧ b ≤ N) (hc : 0 ≤ c ∧ c ≤ N) (hd : 0 ≤ d ∧ d ≤ N) (h : kl a b = kl c d) : a = c ∧ b = d := by
  have h1 := M.key a b ha.1 ha.2 hb.1 hb.2
  have h2 := M.key c d hc.1 hc.2 hd.1 hd.2
  rw [h] at h1
  exact M.kinj a b c d (M.law.inj h1 h2)
/-- what the map in block B holds -/
def Memo (P : Program) (k : TypeId) (kl : Int → Int → Lit) (N : Nat) (V : Int → Int → Value) (w : World) (B : Nat) : Prop :=
  ∃ D : DataW Value, w.ownsMap P k hR B (Maps.size D) D ∧ Maps.size D + lacks kl N D ≤ (N + 1) * (N + 1) ∧ ∀ a b : Int, 0 ≤ a → a ≤ N → 0 ≤ b → b ≤ N → Maps.has D (kl a b) = true → ∀ z, D.atKey (kl a b) z = .held (V a b)
variable {V : Int → Int → Value}
theorem owns_same {H : Type} {R : Value → Option (DataW H × List MemPlace)} {w w' : World} {b n : Nat} {D : DataW H} (h : w.ownsMap P k R b n D) (hb : w'.heap[b]? = w.heap[b]?) : w'.ownsMap P k R b n D := by
  obtain ⟨es, clock, hh, F, hs, hD⟩ := h
  exact ⟨es, clock, hb.trans hh, F, hs, hD⟩
theorem Memo.same {w w' : World} {B : Nat} (h : Memo P k kl N V w B) (hb : w'.heap[B]? = w.heap[B]?) : Memo P k kl N V w' B := by
  obtain ⟨D, h1, h2, h3⟩ := h
  exact ⟨D, owns_same h1 hb, h2, h3⟩
theorem Memo.lt {w : World} {B : Nat} (h : Memo P k kl N V w B) : B < w.heap.size := by
  obtain ⟨D, h1, _⟩ := h
  exact h1.lt
theorem Memo.below {w w' : World} {B : Nat} (h : Memo P k kl N V w B) (hb : Below w.heap.size w w') : Memo P k kl N V w' B := h.same (hb.block B h.lt)
theorem Memo.made (w : World) (P : Program) (k : TypeId) (kl : Int → Int → Lit) (N : Nat) (V : Int → Int → Value) : Memo P k kl N V (w.alloc (.map #[] 0)) w.heap.size := by
  refine ⟨.map [], World.ownsMap_made w P k hR, ?_, fun a b _ _ _ _ h => by simp [Maps.has] at h⟩
  have h1 := List.length_filter_le (fun u : Nat × Nat => !(Maps.has (.map [] : DataW Value) (kl u.1 u.2))) (pairsN N)
  rw [length_pairsN] at h1
  simp only [Maps.size, List.length_nil, lacks]
  omega
/-- a look-up: the key isn't there, or it is and V's value comes back -/
theorem Memo.look (M : MemoK P t k e kv kl z0 N) {w : World} {B : Nat} (h : Memo P k kl N V w B) {a b : Int} (ha : 0 ≤ a ∧ a ≤ N) (hb : 0 ≤ b ∧ b ≤ N) :
    (Instr.lookup t (.map (some B)) (kv a b) true).run P w = .ok (.tuple #[z0, .bool false]) w ∨ (Instr.lookup t (.map (some B)) (kv a b) true).run P w = .ok (.tuple #[V a b, .bool true]) w := by
  obtain ⟨D, h1, h2, h3⟩ := h
  obtain ⟨v, ps, hrun, hv⟩ := h1.look_ok M.law M.ht (M.zero w) (zd := .held z0) (zp := []) rfl (M.key a b ha.1 ha.2 hb.1 hb.2)
  simp only [hR, Option.some.injEq, Prod.mk.injEq] at hv
  obtain ⟨hv, _⟩ := hv
  cases hh : Maps.has D (kl a b) with
  | true =>
    right
    rw [h3 a b ha.1 ha.2 hb.1 hb.2 hh] at hv
    simp only [DataW.held.injEq] at hv
    rw [hrun, hh, hv]
  | false =>
    left
    rw [Maps.atKey_of_not_has hh] at hv
    simp only [DataW.held.injEq] at hv
    rw [hrun, hh, hv]
/-- a store of what V says -/
theorem Memo.store (M : MemoK P t k e kv kl z0 N) {w : World} {B : Nat} (h : Memo P k kl N V w B) {a b : Int} (ha : 0 ≤ a ∧ a ≤ N) (hb : 0 ≤ b ∧ b ≤ N) :
    ∃ w', (Instr.mapUpdate t (.map (some B)) (kv a b) (V a b)).run P w = .ok () w' ∧ Memo P k kl N V w' B ∧ w.grownBy w' (some B) := by
  obtain ⟨D, h1, h2, h3⟩ := h
  have hsm := M.small
  have hbig : (N + 1) * (N + 1) ≤ 1001 * 1001 := Nat.mul_le_mul (by omega) (by omega)
  have hkey := M.key a b ha.1 ha.2 hb.1 hb.2
  have hkl : WideAt.IsKeyLit (kl a b) := M.law.key hkey
  obtain ⟨w', hrun, hown, hg⟩ := h1.update M.law M.ht (by unfold maxLen; omega) hkey (d := .held (V a b)) (ps := []) rfl
  have htidy := h1.tidy M.law
  have hsame := Maps.has_put_same htidy.isMap hkl (.held (V a b))
  have hoth : ∀ c d : Int, kl c d ≠ kl a b → Maps.has (D.put (kl a b) (.held (V a b))) (kl c d) = Maps.has D (kl c d) := fun c d hne => Maps.has_put_other hne _
  have hmono : ∀ u : Nat × Nat, (!(Maps.has (D.put (kl a b) (.held (V a b))) (kl u.1 u.2))) = true → (!(Maps.has D (kl u.1 u.2))) = true := by
    intro u hu
    by_cases hne : kl u.1 u.2 = kl a b
    · rw [hne, hsame] at hu; simp at hu
    · rwa [hoth _ _ hne] at hu
  have hsize := Maps.size_put (k := kl a b) htidy (.held (V a b))
  have hcount : Maps.size (D.put (kl a b) (.held (V a b))) + lacks kl N (D.put (kl a b) (.held (V a b))) ≤ (N + 1) * (N + 1) := by
    cases hh : Maps.has D (kl a b) with
    | true =>
      rw [hsize, if_pos hh]
      have := filter_le (fun u : Nat × Nat => !(Maps.has D (kl u.1 u.2))) (fun u : Nat × Nat => !(Maps.has (D.put (kl a b) (.held (V a b))) (kl u.1 u.2))) hmono (pairsN N)
      simp only [lacks] at h2 ⊢
      omega
    | false =>
      rw [hsize, if_neg (by rw [hh]; decide)]
      obtain ⟨na, hna⟩ := Int.eq_ofNat_of_zero_le ha.1
      obtain ⟨nb, hnb⟩ := Int.eq_ofNat_of_zero_le hb.1
      subst hna hnb
      have := filter_lt (fun u : Nat × Nat => !(Maps.has D (kl u.1 u.2))) (fun u : Nat × Nat => !(Maps.has (D.put (kl na nb) (.held (V na nb))) (kl u.1 u.2))) hmono (u := (na, nb)) (by simp [hh]) (by simp [hsame]) (pairsN N) (mem_pairsN (by omega) (by omega))
      simp only [lacks] at h2 ⊢
      omega
  refine ⟨w', hrun, ⟨D.put (kl a b) (.held (V a b)), ?_, hcount, ?_⟩, hg⟩
  · obtain ⟨es, clock, hh, F, hs, hD⟩ := hown
    refine ⟨es, clock, hh, F, ?_, hD⟩
    rw [hD, Maps.size_eq, length_sorted]
    simp
  · intro c d hc0 hc1 hd0 hd1 hhas z
    by_cases hne : kl c d = kl a b
    · obtain ⟨rfl, rfl⟩ := M.linj ⟨hc0, hc1⟩ ⟨hd0, hd1⟩ ha hb hne
      exact Maps.atKey_put_same htidy.isMap hkl _ z
    · rw [Maps.atKey_put_other hne]
      rw [hoth c d hne] at hhas
      exact h3 c d hc0 hc1 hd0 hd1 hhas z
end
theorem grown_cell {w w' : World} {B b o : Nat} {v : Value} (hg : w.grownBy w' (some B)) (hne : b ≠ B) (h : w.cell? ⟨b, o, none⟩ = some v) : w'.cell? ⟨b, o, none⟩ = some v := by
  rw [← h]
  unfold World.cell?
  rw [hg.block b (World.block_lt_of_cell? w _ h) (by simpa using hne)]
theorem grown_trans {w w1 w2 : World} {B : Nat} (h : w.grownBy w1 (some B)) (h2 : w1.grownBy w2 (some B)) : w.grownBy w2 (some B) := World.grownBy.trans h h2
theorem grown_blw {w w1 w2 : World} {B : Nat} (h : Below w.heap.size w w1) (h2 : w1.grownBy w2 (some B)) : w.grownBy w2 (some B) := World.grownBy.trans (grown_of_below h _) h2
theorem memo_ne {kl : Int → Int → Lit} {N : Nat} {V : Int → Int → Value} {P : Program} {k : TypeId} {w : World} {B : Nat} (hm : Memo P k kl N V w B) {e base : Nat} {ok : Nat → Prop} {v : Value} {xs : List Int} (h : (Kd.int .i64).R e w base ok v xs) : some B ≠ v.ownBlock := by
  obtain ⟨D, ⟨es, clock, hh, _⟩, _⟩ := hm
  intro hB
  obtain ⟨cells, hc⟩ := Kd.R_typed h B hB.symm
  rw [hh] at hc
  simp at hc
theorem R_memo {kl : Int → Int → Lit} {N : Nat} {V : Int → Int → Value} {P : Program} {k : TypeId} {w w' : World} {B : Nat} (hm : Memo P k kl N V w B) {e base : Nat} {v : Value} {xs : List Int} (h : (Kd.int .i64).R e w base (fun _ => True) v xs) (hg : w.grownBy w' (some B)) : (Kd.int .i64).R e w' base (fun _ => True) v xs := by
  have hne := memo_ne hm h
  have h1 : (Kd.int .i64).R e w base (fun k => some k = v.ownBlock) v xs := by
    refine Kd.R_flat (d := Kd.int .i64) (fun h => h) h (fun k hk _ => hk.symm)
  exact Kd.R_mono (Kd.R_grown h1 hg (fun k hk => by rw [hk]; exact fun hh => hne hh.symm)) (fun _ _ => trivial)
theorem below_of_grown {n B : Nat} {w w1 w2 : World} (h1 : Below n w w1) (hn : n ≤ w1.heap.size) (hB : n ≤ B) (h2 : w1.grownBy w2 (some B)) : Below n w w2 :=
  ⟨h2.os.trans h1.os, h2.tape.trans h1.tape, h2.output.trans h1.output, Nat.le_trans h1.size h2.size, fun k hk => (h2.block k (by omega) (by simp; omega)).trans (h1.block k hk)⟩
/-- a row that is read is as it was, where a map's block alone has changed -/
theorem C_map {α : Type} {d : Kd α} {w w' : World} {B : Nat} {A : Option Addr} {n : Nat} {xs : List α} (hK : ∀ {x cs}, d.K w x cs → d.K w' x cs) (hr : d.C w A n xs) (hs : 0 < d.sz) (hm : ∃ es clock, w.heap[B]? = some (.map es clock)) (hg : w.grownBy w' (some B)) : d.C w' A n xs := by
  refine ⟨hr.1, hr.2.1, fun hn => ?_⟩
  obtain ⟨ad, e, hc⟩ := hr.2.2 hn
  obtain ⟨es, clock, hh⟩ := hm
  refine ⟨ad, e, fun j p hj => ?_⟩
  obtain ⟨c, h1, h2, h3⟩ := hc j p hj
  refine ⟨c, h1, hK h2, fun i u hu => ?_⟩
  have h4 := h3 i u hu
  have hb : (ad.add (j * d.sz + i)).block ≠ B := by
    intro hb
    unfold World.cell? at h4
    rw [hb, hh] at h4
    simp at h4
  rw [← h4]
  unfold World.cell?
  rw [hg.block _ (World.block_lt_of_cell? w _ h4) (by simpa using hb)]
theorem Memo.isMap {P : Program} {k : TypeId} {kl : Int → Int → Lit} {N : Nat} {V : Int → Int → Value} {w : World} {B : Nat} (h : Memo P k kl N V w B) : ∃ es clock, w.heap[B]? = some (.map es clock) := by
  obtain ⟨D, ⟨es, clock, hh, _⟩, _⟩ := h
  exact ⟨es, clock, hh⟩
theorem grown_at {w w' : World} {B : Nat} {a : Addr} {v : Value} (hm : ∃ es clock, w.heap[B]? = some (.map es clock)) (hg : w.grownBy w' (some B)) (h : w.cell? a = some v) : w'.cell? a = some v := by
  obtain ⟨es, clock, hh⟩ := hm
  have hb : a.block ≠ B := by
    intro hb
    unfold World.cell? at h
    rw [hb, hh] at h
    simp at h
  rw [← h]
  unfold World.cell?
  rw [hg.block _ (World.block_lt_of_cell? w _ h) (by simpa using hb)]

-- given: part boardmemo
/-! ### a map over boards -/
def boardKv (a b : Int) : Value := .agg #[.int .i64 a, .int .i64 b]
def boardKl (a b : Int) : Lit := .string (keyBytes [.int .i64 a, .int .i64 b])
theorem boardLaid : laidOutB Try.prog = true := by kernel_rfl
theorem boardKey (a b : Int) (ha : 0 ≤ a) (ha' : a ≤ 24) (hb : 0 ≤ b) (hb' : b ≤ 24) : keyOf Try.prog 68 (boardKv a b) = some (boardKl a b) := by
  have hk : Try.prog.keyType 68 = true := by kernel_rfl
  have hc : Try.prog.cellsOf 68 = 2 := by kernel_rfl
  have hc3 : Try.prog.cellsOf 3 = 1 := by kernel_rfl
  have hsz : ∃ m, Try.prog.types.size = m + 1 := ⟨Try.prog.types.size - 1, by kernel_rfl⟩
  have hu := Try.underlying68
  have hi := Try.underlying3
  have wa : (Lit.int .i64 a).wf = true := WalkArith.wf_i64 (by omega)
  have wb : (Lit.int .i64 b).wf = true := WalkArith.wf_i64 (by omega)
  obtain ⟨m, hm⟩ := hsz
  unfold keyOf boardKv boardKl
  simp only [hu]
  rw [if_pos (by simp [hk, Value.formed, hu, hc]), hm]
  unfold Program.keyLits
  simp only [hu, Value.cells]
  rw [if_pos ⟨by rw [hc]; rfl, by kernel_rfl⟩]
  simp [List.mapM_cons, hc3, Program.keyLits, hi, wa, wb]
theorem grown_heap {w w' : World} {B g : Nat} {cs : Array Value} {t : TypeId} (hm : ∃ es clock, w.heap[B]? = some (.map es clock)) (hg : w.grownBy w' (some B)) (h : w.heap[g]? = some (.cells cs t (0, 0))) : w'.heap[g]? = some (.cells cs t (0, 0)) := by
  obtain ⟨es, clock, hh⟩ := hm
  have hb : g ≠ B := by
    intro hb
    rw [hb, hh] at h
    simp at h
  have hlt : g < w.heap.size := by
    obtain ⟨hlt, _⟩ := Array.getElem?_eq_some_iff.1 h
    exact hlt
  rw [← h]
  exact hg.block _ hlt (by simpa using hb)
theorem heap_setRow_same {w : World} {g : Nat} {old cs : Array Value} {t : TypeId} (h : w.heap[g]? = some (.cells old t (0, 0))) : (w.setRow g cs).heap[g]? = some (.cells cs t (0, 0)) := by
  have hlt : g < w.heap.size := by
    obtain ⟨hlt, _⟩ := Array.getElem?_eq_some_iff.1 h
    exact hlt
  have h2 := (Array.getElem?_eq_some_iff.1 h).2
  simp [World.setRow, hlt, Array.getElem_modify, h2]
theorem heap_setRow_other {w : World} {g k : Nat} {cs : Array Value} (h : k ≠ g) : (w.setRow g cs).heap[k]? = w.heap[k]? := by
  simp [World.setRow, Array.getElem?_modify, Ne.symm h]
theorem grown_setRow {w w2 : World} {B g : Nat} {cs : Array Value} (hg : w.grownBy w2 (some B)) (h : w.heap.size ≤ g) : w.grownBy (w2.setRow g cs) (some B) :=
  ⟨hg.os, hg.tape, hg.output, by have := hg.size; simpa using this, fun k hk hn => (heap_setRow_other (by omega)).trans (hg.block k hk hn)⟩
theorem map_ne {w : World} {B g : Nat} {cs : Array Value} {t : TypeId} (hm : ∃ es clock, w.heap[B]? = some (.map es clock)) (h : w.heap[g]? = some (.cells cs t (0, 0))) : B ≠ g := by
  obtain ⟨es, clock, hh⟩ := hm
  intro hb
  rw [hb, h] at hh
  simp at hh
theorem cell_of_heap {w : World} {g o : Nat} {cs : Array Value} {t : TypeId} {v : Value} (h : w.heap[g]? = some (.cells cs t (0, 0))) (hv : cs[o]? = some v) : w.cell? ⟨g, o, none⟩ = some v := by
  simp [World.cell?, h, hv]

-- given: (loop.example/g01334/impl.cutter).value

/-! ### (cutter).value: by hand -/
def cvF (wh : Int → Int → Int) : Nat → Int → Int → Int
  | 0, _, _ => 0
  | k + 1, a, b => (cutsL a.toNat b.toNat 2).foldl (fun best c => mx best (wrap64 (cvF wh k (partsOf a b c).1.1 (partsOf a b c).1.2 + cvF wh k (partsOf a b c).2.1 (partsOf a b c).2.2))) (wh a b)
def cvN (wh : Int → Int → Int) (a b : Int) : Int := cvF wh (a + b).toNat a b
theorem foldl_same {α β : Type} (f g : β → α → β) (l : List α) (h : ∀ x ∈ l, ∀ y, f y x = g y x) : ∀ z, l.foldl f z = l.foldl g z := by
  induction l with
  | nil => intro z; rfl
  | cons x l ih =>
    intro z
    rw [List.foldl_cons, List.foldl_cons, h x (by simp) z]
    exact ih (fun y hy => h y (by simp [hy])) _
theorem cvF_more (wh : Int → Int → Int) (k : Nat) : ∀ a b : Int, 1 ≤ a → 1 ≤ b → a + b ≤ (k : Int) → cvF wh (k + 1) a b = cvF wh k a b := by
  induction k with
  | zero => intro a b h1 h2 h3; omega
  | succ k ih =>
    intro a b h1 h2 h3
    rw [cvF, cvF]
    refine foldl_same _ _ _ (fun c hc best => ?_) _
    have hp := partsOf_in a b 2 h1 h2 c hc
    rw [ih _ _ hp.1.1 hp.1.2.2.1 (by omega), ih _ _ hp.2.1 hp.2.2.2.1 (by omega)]
theorem cvF_eq (wh : Int → Int → Int) (d : Nat) : ∀ (k : Nat) (a b : Int), 1 ≤ a → 1 ≤ b → k = (a + b).toNat + d → cvF wh k a b = cvN wh a b := by
  induction d with
  | zero => intro k a b _ _ hk; rw [hk]; rfl
  | succ d ih =>
    intro k a b h1 h2 hk
    obtain ⟨q, rfl⟩ : ∃ q, k = q + 1 := ⟨k - 1, by omega⟩
    rw [cvF_more wh q a b h1 h2 (by omega)]
    exact ih q a b h1 h2 (by omega)
def cvStep (wh : Int → Int → Int) (a b : Int) (best : Int) (c : S62) : Int := mx best (wrap64 (cvN wh (partsOf a b c).1.1 (partsOf a b c).1.2 + cvN wh (partsOf a b c).2.1 (partsOf a b c).2.2))
theorem cvN_eq (wh : Int → Int → Int) (a b : Int) (h1 : 1 ≤ a) (h2 : 1 ≤ b) : cvN wh a b = (cutsL a.toNat b.toNat 2).foldl (cvStep wh a b) (wh a b) := by
  obtain ⟨q, hq⟩ : ∃ q, (a + b).toNat = q + 1 := ⟨(a + b).toNat - 1, by omega⟩
  unfold cvN
  rw [hq, cvF]
  refine foldl_same _ _ _ (fun c hc best => ?_) _
  have hp := partsOf_in a b 2 h1 h2 c hc
  unfold cvStep
  rw [cvF_eq wh (q - ((partsOf a b c).1.1 + (partsOf a b c).1.2).toNat) q _ _ hp.1.1 hp.1.2.2.1 (by omega), cvF_eq wh (q - ((partsOf a b c).2.1 + (partsOf a b c).2.2).toNat) q _ _ hp.2.1 hp.2.2.2.1 (by omega)]
theorem boardMemo : MemoK Try.prog 70 68 3 boardKv boardKl (.int .i64 0) 24 where
  law := Go.Maps.Keyed.of_law (deep_law_laid boardLaid (m := 2) (by omega) (of_decide_eq_true (by kernel_rfl)) (by kernel_rfl) (by rw [Try.underlying68]))
  ht := Try.underlying70
  key a b ha ha' hb hb' := boardKey a b ha ha' hb hb'
  kinj a b c d h := by simp [boardKv] at h; exact h
  zero w := by kernel_rfl
  small := by omega
def whN (l0 : List S35) (tn : Bool) (a b : Int) : Int := (wholeN a b tn l0 0 0 (-1)).1
def cutV (l0 : List S35) (tn : Bool) (a b : Int) : Value := .int .i64 (cvN (whN l0 tn) a b)
def cutPost (l0 : List S35) (tn : Bool) (B : Nat) (a b : Int) (w : World) (e : Ending) (w' : World) : Prop := e = .returned (.int .i64 (cvN (whN l0 tn) a b)) ∧ Memo Try.prog 68 boardKl 24 (cutV l0 tn) w' B ∧ w.grownBy w' (some B)
theorem k35_any {w w' : World} {x : S35} {cs : List Value} (h : k35.K w x cs) : k35.K w' x cs := h
set_option maxHeartbeats 2000000 in
set_option maxRecDepth 100000 in
theorem cutter_value (A0 : Option Addr) (c0 : Nat) (l0 : List S35) (tn : Bool) (B : Nat) (n : Nat) : ∀ (a b : Int) (w : World), (a + b).toNat < n → 1 ≤ a → a ≤ 24 → 1 ≤ b → b ≤ 24 →
    Kd.C k35 w A0 l0.length l0 → Memo Try.prog 68 boardKl 24 (cutV l0 tn) w B →
    Calls Try.prog 69 #[.agg #[.slice A0 l0.length c0, .bool tn, .map (some B)], .agg #[.int .i64 a, .int .i64 b]] w (cutPost l0 tn B a b w) := by
  have hu := Try.underlying79
  have hu2 := Try.underlying68
  have hu3 := Try.underlying62
  induction n with
  | zero => intro a b w h1; omega
  | succ n ih =>
    intro a b w hn ha ha' hb hb' hr hm
    have HR := Aside0.mk hr
    have HM := Aside0.mk hm
    have IH := Aside0.mk ih
    have hBlt := hm.lt
    have HM2 := Aside0.mk (hm.below (below_alloc (below_alloc (Below.refl w.heap.size w) (.cells #[.slice A0 l0.length c0, .bool tn, .map (some B)] 79)) (.cells #[.int .i64 a, .int .i64 b] 68)))
    clear hr hm ih
    rcases Memo.look boardMemo HM2.out (a := a) (b := b) (by omega) (by omega) with hlook | hlook
    · -- it is not there
      simp only [boardKv] at hlook
      go_enter Try.func69, Try.ntmps69
      go_wp2_with fail
      refine (cutter_whole A0 c0 l0 tn (some B) a b _ (Kd.C_below HR.out ?b0)).mono ?_
      case b0 => repeat (first | exact Below.refl _ _ | apply below_alloc | apply pw_below_drewN)
      rintro e w2 ⟨rfl, hb2⟩
      have hc0 : w2.cell? ⟨w.heap.size, 0, none⟩ = some (.slice A0 l0.length c0) := (hb2.cell (by simp; omega)).trans (by simp)
      have hc1 : w2.cell? ⟨w.heap.size, 1, none⟩ = some (.bool tn) := (hb2.cell (by simp; omega)).trans (by simp)
      have hc2 : w2.cell? ⟨w.heap.size, 2, none⟩ = some (.map (some B)) := (hb2.cell (by simp; omega)).trans (by simp)
      have hd0 : w2.cell? ⟨w.heap.size + 1, 0, none⟩ = some (.int .i64 a) := (hb2.cell (by simp)).trans (by simp)
      have hd1 : w2.cell? ⟨w.heap.size + 1, 1, none⟩ = some (.int .i64 b) := (hb2.cell (by simp)).trans (by simp)
      have HB2 := Aside0.mk (show Below w.heap.size w w2 from (show Below w.heap.size w ((w.alloc (.cells #[.slice A0 l0.length c0, .bool tn, .map (some B)] 79)).alloc (.cells #[.int .i64 a, .int .i64 b] 68)) by repeat (first | exact Below.refl _ _ | apply below_alloc | apply pw_below_drewN)).trans (hb2.mono (by simp; omega)))
      clear hb2 hlook HM2
      have hcuts := cuts_is a.toNat b.toNat 2 (by omega) (by omega) (by omega) (by omega)
      rw [show ((a.toNat : Nat) : Int) = a from by omega, show ((b.toNat : Nat) : Int) = b from by omega] at hcuts
      have HCUTS := Aside0.mk hcuts
      clear hcuts
      go_wp2_with fail
      refine (impl_board_cuts.calls 100 a b 2 _ _ HCUTS.out).mono ?_
      rintro e w3 ⟨v, rfl, hR, hb3⟩
      obtain ⟨AC, cc, rfl, hlc, hC⟩ := Kd.R_reads hR
      have HC := Aside0.mk hC
      have hc0' := (hb3.cell (World.block_lt_of_cell? w2 _ hc0)).trans hc0
      have hc1' := (hb3.cell (World.block_lt_of_cell? w2 _ hc1)).trans hc1
      have hc2' := (hb3.cell (World.block_lt_of_cell? w2 _ hc2)).trans hc2
      have hd0' := (hb3.cell (World.block_lt_of_cell? w2 _ hd0)).trans hd0
      have hd1' := (hb3.cell (World.block_lt_of_cell? w2 _ hd1)).trans hd1
      have HB3 := Aside0.mk (HB2.out.trans (hb3.mono HB2.out.size))
      have HM3 := Aside0.mk (HM.out.below HB3.out)
      have HFOLD := Aside0.mk (cvN_eq (whN l0 tn) a b ha hb)
      have HMEM := Aside0.mk (partsOf_in a b 2 ha hb)
      have hlen := cutsL_len a.toNat b.toNat 2 (by omega) (by omega)
      have HBL := Aside0.mk (Nat.lt_of_lt_of_le hBlt HB3.out.size)
      rw [show (2 : Int).toNat = 2 from rfl] at HMEM
      generalize cutsL a.toNat b.toNat 2 = L at HC HFOLD HMEM hlen hlc ⊢
      clear hc0 hc1 hc2 hd0 hd1 hR hC hb3 HB2 HCUTS hlc
      have HC0 := Aside0.mk hc0'
      have HC1 := Aside0.mk hc1'
      have HC2 := Aside0.mk hc2'
      have HD0 := Aside0.mk hd0'
      have HD1 := Aside0.mk hd1'
      clear hc0' hc1' hc2'
      go_wp2_with fail
      go_loopg [7, 31] L.length (fun gg v7 v31 wr => ∃ (kk : Nat) (best : Int), kk ≤ L.length ∧ L.length - kk ≤ gg ∧ v7 = .int .i64 best ∧ v31 = .int .i64 kk ∧ Aside0 ((L.drop kk).foldl (cvStep (whN l0 tn) a b) best = cvN (whN l0 tn) a b) ∧ Aside0 (w3.grownBy wr (some B)) ∧ Aside0 (Memo Try.prog 68 boardKl 24 (cutV l0 tn) wr B))
      case atStart => exact ⟨0, whN l0 tn a b, Nat.zero_le _, by omega, rfl, rfl, ⟨HFOLD.out.symm⟩, ⟨grown_of_below (Below.refl _ _) _⟩, HM3⟩
      case round =>
        clear hd0' hd1'
        obtain ⟨kk, best, hkk, hg, rfl, rfl, HA, HG, HMr⟩ := hrel
        have hMap := HM3.out.isMap
        have c0r := grown_at hMap HG.out HC0.out
        have c1r := grown_at hMap HG.out HC1.out
        have c2r := grown_at hMap HG.out HC2.out
        have d0r := grown_at hMap HG.out HD0.out
        have d1r := grown_at hMap HG.out HD1.out
        by_cases hlt : kk < L.length
        · have hltz : (kk : Int) < (L.length : Int) := by omega
          obtain ⟨ad, rfl, hx0, hx1⟩ := at_T62 HC.out (kk : Int) (by omega) hltz
          rw [show rd_T62 L (kk : Int) = L[kk] by simp [rd_T62, hlt], Int.toNat_natCast] at hx0 hx1
          have hy0 := grown_at hMap HG.out hx0
          have hy1 := grown_at hMap HG.out hx1
          have hstep : (L.drop kk).foldl (cvStep (whN l0 tn) a b) best = (L.drop (kk + 1)).foldl (cvStep (whN l0 tn) a b) (cvStep (whN l0 tn) a b best L[kk]) := by
            rw [List.drop_eq_getElem_cons hlt, List.foldl_cons]
          rw [HA.out] at hstep
          have hmem := HMEM.out L[kk] (List.getElem_mem hlt)
          generalize hcc : L[kk] = c at hy0 hy1 hstep hmem
          clear hcc hx0 hx1 HA hMap
          have hcin : 1 ≤ c.f1 ∧ c.f1 ≤ 24 := by
            have h1 := hmem
            unfold partsOf at h1
            cases hcf : c.f0 <;> rw [hcf] at h1 <;> simp at h1 <;> omega
          have HPARTS := Aside0.mk (parts_is a b c ha ha' hb hb' hcin.1 hcin.2)
          unfold cvStep at hstep
          generalize partsOf a b c = p at HPARTS hmem hstep
          obtain ⟨⟨p1, p2⟩, q1, q2⟩ := p
          simp only at hmem HPARTS hstep
          have HS := Aside0.mk hstep
          clear hstep hcin
          have lift : ∀ {ad : Addr} {v : Value}, wr.cell? ad = some v → (wr.alloc (.cells #[.bool c.f0, .int .i64 c.f1] 62)).cell? ad = some v := fun h => ((below_alloc (Below.refl _ _) _).cell (World.block_lt_of_cell? wr _ h)).trans h
          replace c0r := lift c0r
          replace c1r := lift c1r
          replace c2r := lift c2r
          replace d0r := lift d0r
          replace d1r := lift d1r
          clear lift
          go_wp2_with (go_at_call 64; refine (impl_board_parts.calls a b c.f0 c.f1 _ _ _ _ _ HPARTS.out).mono ?_; rintro e w5 ⟨rfl, hb5⟩; have HB5 := Aside0.mk hb5; clear hb5)
          have c0s := (HB5.out.cell (World.block_lt_of_cell? _ _ c0r)).trans c0r
          have c1s := (HB5.out.cell (World.block_lt_of_cell? _ _ c1r)).trans c1r
          have c2s := (HB5.out.cell (World.block_lt_of_cell? _ _ c2r)).trans c2r
          have lift : ∀ {ad : Addr} {v : Value}, w5.cell? ad = some v → ((w5.alloc (.cells #[.int .i64 p1, .int .i64 p2] 68)).alloc (.cells #[.int .i64 q1, .int .i64 q2] 68)).cell? ad = some v := fun h => ((below_alloc (below_alloc (Below.refl _ _) _) _).cell (World.block_lt_of_cell? w5 _ h)).trans h
          replace c0s := lift c0s
          replace c1s := lift c1s
          replace c2s := lift c2s
          have o0 : ((w5.alloc (.cells #[.int .i64 p1, .int .i64 p2] 68)).alloc (.cells #[.int .i64 q1, .int .i64 q2] 68)).cell? ⟨w5.heap.size, 0, none⟩ = some (.int .i64 p1) := by simp
          have o1 : ((w5.alloc (.cells #[.int .i64 p1, .int .i64 p2] 68)).alloc (.cells #[.int .i64 q1, .int .i64 q2] 68)).cell? ⟨w5.heap.size, 1, none⟩ = some (.int .i64 p2) := by simp
          have t0 : ((w5.alloc (.cells #[.int .i64 p1, .int .i64 p2] 68)).alloc (.cells #[.int .i64 q1, .int .i64 q2] 68)).cell? ⟨w5.heap.size + 1, 0, none⟩ = some (.int .i64 q1) := by simp
          have t1 : ((w5.alloc (.cells #[.int .i64 p1, .int .i64 p2] 68)).alloc (.cells #[.int .i64 q1, .int .i64 q2] 68)).cell? ⟨w5.heap.size + 1, 1, none⟩ = some (.int .i64 q2) := by simp
          have hB9 : Below wr.heap.size wr ((w5.alloc (.cells #[.int .i64 p1, .int .i64 p2] 68)).alloc (.cells #[.int .i64 q1, .int .i64 q2] 68)) := by
            have hbx : Below wr.heap.size wr w5 := (below_alloc (Below.refl wr.heap.size wr) _).trans (HB5.out.mono (by simp))
            exact below_alloc (below_alloc hbx _) _
          have HM9 := Aside0.mk (HMr.out.below hB9)
          have HG9 := Aside0.mk (grown_trans HG.out (grown_of_below hB9 B))
          generalize (w5.alloc (.cells #[.int .i64 p1, .int .i64 p2] 68)).alloc (.cells #[.int .i64 q1, .int .i64 q2] 68) = W9 at c0s c1s c2s o0 o1 t0 t1 HM9 HG9 ⊢
          clear hB9 lift c0r c1r c2r d0r d1r hy0 hy1 HMr HG
          have HR9 := Aside0.mk (C_map k35_any (Kd.C_below HR.out HB3.out) (by decide) HM3.out.isMap HG9.out)
          have HH : Aside0 (∀ w', W9.grownBy w' (some B) → Memo Try.prog 68 boardKl 24 (cutV l0 tn) w' B → (w'.cell? ⟨w.heap.size, 0, none⟩ = some (.slice A0 l0.length c0) ∧ w'.cell? ⟨w.heap.size, 1, none⟩ = some (.bool tn) ∧ w'.cell? ⟨w.heap.size, 2, none⟩ = some (.map (some B)) ∧ w'.cell? ⟨w5.heap.size, 0, none⟩ = some (.int .i64 p1) ∧ w'.cell? ⟨w5.heap.size, 1, none⟩ = some (.int .i64 p2) ∧ w'.cell? ⟨w5.heap.size + 1, 0, none⟩ = some (.int .i64 q1) ∧ w'.cell? ⟨w5.heap.size + 1, 1, none⟩ = some (.int .i64 q2))) :=
            ⟨fun w' hg hm => ⟨grown_at HM9.out.isMap hg c0s, grown_at HM9.out.isMap hg c1s, grown_at HM9.out.isMap hg c2s, grown_at HM9.out.isMap hg o0, grown_at HM9.out.isMap hg o1, grown_at HM9.out.isMap hg t0, grown_at HM9.out.isMap hg t1⟩⟩
          clear c0s c1s c2s o0 o1 t0 t1
          have hs1 : (p1 + p2).toNat < n := by omega
          have hs2 : p1 ≤ 24 := by omega
          have hs3 : p2 ≤ 24 := by omega
          have hs4 : (q1 + q2).toNat < n := by omega
          have hs5 : q1 ≤ 24 := by omega
          have hs6 : q2 ≤ 24 := by omega
          have hsz : 0 < k35.sz := by decide
          go_region_held3 (fun w' => w'.cell? ⟨w.heap.size, 0, none⟩ = some (.slice A0 l0.length c0) ∧ w'.cell? ⟨w.heap.size, 1, none⟩ = some (.bool tn) ∧ w'.cell? ⟨w.heap.size, 2, none⟩ = some (.map (some B)) ∧ w'.cell? ⟨w5.heap.size, 0, none⟩ = some (.int .i64 p1) ∧ w'.cell? ⟨w5.heap.size, 1, none⟩ = some (.int .i64 p2) ∧ w'.cell? ⟨w5.heap.size + 1, 0, none⟩ = some (.int .i64 q1) ∧ w'.cell? ⟨w5.heap.size + 1, 1, none⟩ = some (.int .i64 q2))
            (first | exact HH.out _ (grown_of_below (below_drew (Below.refl _ _)) _) (HM9.out.below (below_drew (Below.refl _ _))) | exact HH.out _ hg7 hm7 | exact HH.out _ hg6 hm6)
            (first | (go_at_call_of 69 (Value.agg #[Value.int IntKind.i64 p1, Value.int IntKind.i64 p2]); refine (IH.out p1 p2 _ hs1 hmem.1.1 hs2 hmem.1.2.2.1 hs3 (Kd.C_below HR9.out (below_drew (Below.refl _ _))) (HM9.out.below (below_drew (Below.refl _ _)))).mono ?_; rintro e w6 ⟨rfl, hm6, hg6'⟩; have hg6 := grown_trans (grown_of_below (below_drew (Below.refl _ _)) B) hg6') | (go_at_call_of 69 (Value.agg #[Value.int IntKind.i64 q1, Value.int IntKind.i64 q2]); refine (IH.out q1 q2 _ hs4 hmem.2.1 hs5 hmem.2.2.2.1 hs6 (C_map k35_any HR9.out hsz HM9.out.isMap hg6) hm6).mono ?_; rintro e w7 ⟨rfl, hm7, hg7'⟩; have hg7 := grown_trans hg6 hg7'))
          have hwrap : IntKind.i64.wrap (cvN (whN l0 tn) p1 p2 + cvN (whN l0 tn) q1 q2) = wrap64 (cvN (whN l0 tn) p1 p2 + cvN (whN l0 tn) q1 q2) := by simp only [i64_w]
          have HSS := HS.out
          unfold mx at HSS
          have HG7 := Aside0.mk (grown_trans HG9.out hg7)
          have HM7 := Aside0.mk hm7
          rw [← hwrap] at HSS
          clear hg6 hm6 hg7 hm7 hwrap HS
          generalize IntKind.i64.wrap (cvN (whN l0 tn) p1 p2 + cvN (whN l0 tn) q1 q2) = sum at HSS ⊢
          by_cases hls : best < sum
          · rw [if_pos hls] at HSS
            have HS := Aside0.mk HSS
            clear HSS
            go_wp2_with fail
            go_roundg (L.length - (kk + 1))
            case measure => omega
            case rel => exact ⟨kk + 1, sum, by omega, by omega, rfl, by go_num, ⟨HS.out.symm⟩, HG7, HM7⟩
          · rw [if_neg hls] at HSS
            have HS := Aside0.mk HSS
            clear HSS
            go_wp2_with fail
            go_roundg (L.length - (kk + 1))
            case measure => omega
            case rel => exact ⟨kk + 1, best, by omega, by omega, rfl, by go_num, ⟨HS.out.symm⟩, HG7, HM7⟩
        · have hk : kk = L.length := by omega
          subst hk
          have hh := HA.out
          rw [List.drop_length, List.foldl_nil] at hh
          obtain ⟨w4, hst, hms, hgs⟩ := Memo.store boardMemo HMr.out (a := a) (b := b) (by omega) (by omega)
          simp only [boardKv, cutV] at hst
          subst hh
          go_wp2_with fail
          go_ret
          exact ⟨rfl, hms, grown_trans (grown_of_below HB3.out _) (grown_trans HG.out hgs)⟩
    · -- it is there
      simp only [boardKv, cutV] at hlook
      have HRES : Aside0 (cutPost l0 tn B a b w = fun e w' => e = .returned (.int .i64 (cvN (whN l0 tn) a b)) ∧ Memo Try.prog 68 boardKl 24 (cutV l0 tn) w' B ∧ w.grownBy w' (some B)) := ⟨rfl⟩
      go_enter Try.func69, Try.ntmps69
      go_wp2_with fail
      go_ret
      exact ⟨rfl, HM.out.below (by repeat (first | exact Below.refl _ _ | apply below_alloc | apply pw_below_drewN)), grown_of_below (by repeat (first | exact Below.refl _ _ | apply below_alloc | apply pw_below_drewN)) _⟩

-- given: loop.example/g01334/impl.cutterOf

theorem cutterOf_calls (A0 : Option Addr) (n c0 : Nat) (tn : Bool) (V : Int → Int → Value) (w : World) :
    Calls Try.prog 68 #[.slice A0 n c0, .bool tn] w fun e w' => ∃ B, e = .returned (.agg #[.slice A0 n c0, .bool tn, .map (some B)]) ∧ Below w.heap.size w w' ∧ w.heap.size ≤ B ∧ Memo Try.prog 68 boardKl 24 V w' B := by
  have hu := Try.underlying79
  have hmm := @run_makeMap Try.prog
  have hh := Memo.made (w.alloc (.cells #[.slice A0 n c0, .bool tn, .map (some (w.heap.size + 1))] 79)) Try.prog 68 boardKl 24 V
  rw [show (w.alloc (.cells #[.slice A0 n c0, .bool tn, .map (some (w.heap.size + 1))] 79)).heap.size = w.heap.size + 1 from by simp] at hh
  have HM := Aside0.mk hh
  clear hh
  go_enter Try.func68, Try.ntmps68
  go_wp2_with fail
  refine bodyPost_ret (results_cell_row rfl _ _ w.heap.size 79 #[.slice A0 n c0, .bool tn, .map (some (w.heap.size + 1))] (0, 0) _ rfl ((heap_alloc_old _ _ (by simp)).trans (heap_alloc_new _ _)) Try.underlying79 rfl (by kernel_rfl)) rfl ?_
  exact ⟨_, rfl, by repeat (first | exact Below.refl _ _ | apply below_alloc | apply pw_below_drewN), by simp, HM.out⟩
theorem cutter_value1 (A0 : Option Addr) (c0 : Nat) (l0 : List S35) (tn : Bool) (B : Nat) (a b : Int) (w : World) (h1 : 1 ≤ a) (h2 : a ≤ 24) (h3 : 1 ≤ b) (h4 : b ≤ 24)
    (hr : Kd.C k35 w A0 l0.length l0) (hm : Memo Try.prog 68 boardKl 24 (cutV l0 tn) w B) :
    Calls Try.prog 69 #[.agg #[.slice A0 l0.length c0, .bool tn, .map (some B)], .agg #[.int .i64 a, .int .i64 b]] w (cutPost l0 tn B a b w) :=
  cutter_value A0 c0 l0 tn B _ a b w (Nat.lt_succ_self _) h1 h2 h3 h4 hr hm

-- given: (loop.example/g01334/impl.cutter).first

/-! ### (cutter).first: by hand -/
def firstL (wh : Int → Int → Int) (a b best : Int) : List S62 → S62 × Bool
  | [] => (⟨false, 0⟩, false)
  | c :: l => if wrap64 (cvN wh (partsOf a b c).1.1 (partsOf a b c).1.2 + cvN wh (partsOf a b c).2.1 (partsOf a b c).2.2) = best then (c, true) else firstL wh a b best l
def firstN (wh : Int → Int → Int) (a b : Int) : S62 × Bool := if wh a b = cvN wh a b then (⟨false, 0⟩, false) else firstL wh a b (cvN wh a b) (cutsL a.toNat b.toNat 2)
def firstPost (l0 : List S35) (tn : Bool) (B : Nat) (a b : Int) (w : World) (e : Ending) (w' : World) : Prop := e = .returned (.tuple #[.agg #[.bool (firstN (whN l0 tn) a b).1.f0, .int .i64 (firstN (whN l0 tn) a b).1.f1], .bool (firstN (whN l0 tn) a b).2]) ∧ Memo Try.prog 68 boardKl 24 (cutV l0 tn) w' B ∧ w.grownBy w' (some B)
set_option maxHeartbeats 2000000 in
set_option maxRecDepth 100000 in
theorem cutter_first (A0 : Option Addr) (c0 : Nat) (l0 : List S35) (tn : Bool) (B : Nat) (a b : Int) (w : World) (ha : 1 ≤ a) (ha' : a ≤ 24) (hb : 1 ≤ b) (hb' : b ≤ 24)
    (hr : Kd.C k35 w A0 l0.length l0) (hm : Memo Try.prog 68 boardKl 24 (cutV l0 tn) w B) :
    Calls Try.prog 73 #[.agg #[.slice A0 l0.length c0, .bool tn, .map (some B)], .agg #[.int .i64 a, .int .i64 b]] w (firstPost l0 tn B a b w) := by
  have hu := Try.underlying79
  have hu2 := Try.underlying68
  have hu3 := Try.underlying62
  have HR := Aside0.mk hr
  have HM := Aside0.mk hm
  have hBlt := hm.lt
  clear hr hm
  go_enter Try.func73, Try.ntmps73
  go_wp2_with fail
  have hbW : Below w.heap.size w (((w.alloc (.cells #[.slice A0 l0.length c0, .bool tn, .map (some B)] 79)).alloc (.cells #[.int .i64 a, .int .i64 b] 68)).alloc (.cells #[.bool false, .int .i64 0] 62)) := by repeat (first | exact Below.refl _ _ | apply below_alloc | apply pw_below_drewN)
  have HM1 := Aside0.mk (HM.out.below hbW)
  have HR1 := Aside0.mk (Kd.C_below HR.out hbW)
  have HBW := Aside0.mk hbW
  have k0 : (((w.alloc (.cells #[.slice A0 l0.length c0, .bool tn, .map (some B)] 79)).alloc (.cells #[.int .i64 a, .int .i64 b] 68)).alloc (.cells #[.bool false, .int .i64 0] 62)).cell? ⟨w.heap.size, 0, none⟩ = some (.slice A0 l0.length c0) := ((below_alloc (Below.refl _ _) _).cell (by simp <;> omega)).trans (by simp)
  have k1 : (((w.alloc (.cells #[.slice A0 l0.length c0, .bool tn, .map (some B)] 79)).alloc (.cells #[.int .i64 a, .int .i64 b] 68)).alloc (.cells #[.bool false, .int .i64 0] 62)).cell? ⟨w.heap.size, 1, none⟩ = some (.bool tn) := ((below_alloc (Below.refl _ _) _).cell (by simp <;> omega)).trans (by simp)
  have k2 : (((w.alloc (.cells #[.slice A0 l0.length c0, .bool tn, .map (some B)] 79)).alloc (.cells #[.int .i64 a, .int .i64 b] 68)).alloc (.cells #[.bool false, .int .i64 0] 62)).cell? ⟨w.heap.size, 2, none⟩ = some (.map (some B)) := ((below_alloc (Below.refl _ _) _).cell (by simp <;> omega)).trans (by simp)
  have e0 : (((w.alloc (.cells #[.slice A0 l0.length c0, .bool tn, .map (some B)] 79)).alloc (.cells #[.int .i64 a, .int .i64 b] 68)).alloc (.cells #[.bool false, .int .i64 0] 62)).cell? ⟨w.heap.size + 1, 0, none⟩ = some (.int .i64 a) := ((below_alloc (Below.refl _ _) _).cell (by simp <;> omega)).trans (by simp)
  have e1 : (((w.alloc (.cells #[.slice A0 l0.length c0, .bool tn, .map (some B)] 79)).alloc (.cells #[.int .i64 a, .int .i64 b] 68)).alloc (.cells #[.bool false, .int .i64 0] 62)).cell? ⟨w.heap.size + 1, 1, none⟩ = some (.int .i64 b) := ((below_alloc (Below.refl _ _) _).cell (by simp <;> omega)).trans (by simp)
  have h2 : (((w.alloc (.cells #[.slice A0 l0.length c0, .bool tn, .map (some B)] 79)).alloc (.cells #[.int .i64 a, .int .i64 b] 68)).alloc (.cells #[.bool false, .int .i64 0] 62)).heap[w.heap.size + 1 + 1]? = some (.cells #[.bool false, .int .i64 0] 62 (0, 0)) := by
    have hz : ((w.alloc (.cells #[.slice A0 l0.length c0, .bool tn, .map (some B)] 79)).alloc (.cells #[.int .i64 a, .int .i64 b] 68)).heap.size = w.heap.size + 1 + 1 := by simp
    rw [← hz]
    exact heap_alloc_new _ _
  generalize (((w.alloc (.cells #[.slice A0 l0.length c0, .bool tn, .map (some B)] 79)).alloc (.cells #[.int .i64 a, .int .i64 b] 68)).alloc (.cells #[.bool false, .int .i64 0] 62)) = W1 at HM1 HR1 HBW k0 k1 k2 e0 e1 h2 ⊢
  clear hbW
  refine (cutter_value1 A0 c0 l0 tn B a b W1 ha ha' hb hb' HR1.out HM1.out).mono ?_
  rintro e w1 ⟨rfl, hm1, hg1⟩
  have c0a := grown_at HM1.out.isMap hg1 k0
  have c1a := grown_at HM1.out.isMap hg1 k1
  have c2a := grown_at HM1.out.isMap hg1 k2
  have d0a := grown_at HM1.out.isMap hg1 e0
  have d1a := grown_at HM1.out.isMap hg1 e1
  have HRa := Aside0.mk (C_map k35_any HR1.out (by decide) HM1.out.isMap hg1)
  have HMa := Aside0.mk hm1
  have HGa := Aside0.mk hg1
  have H2a := Aside0.mk (grown_heap HM1.out.isMap hg1 h2)
  clear k0 k1 k2 e0 e1 h2 hm1 hg1
  go_wp2_with fail
  refine (cutter_whole A0 c0 l0 tn (some B) a b _ HRa.out).mono ?_
  rintro e w2 ⟨rfl, hb2⟩
  have c0b := (hb2.cell (World.block_lt_of_cell? _ _ c0a)).trans c0a
  have c1b := (hb2.cell (World.block_lt_of_cell? _ _ c1a)).trans c1a
  have c2b := (hb2.cell (World.block_lt_of_cell? _ _ c2a)).trans c2a
  have d0b := (hb2.cell (World.block_lt_of_cell? _ _ d0a)).trans d0a
  have d1b := (hb2.cell (World.block_lt_of_cell? _ _ d1a)).trans d1a
  have hlt2 : w.heap.size + 1 + 1 < w1.heap.size := (Array.getElem?_eq_some_iff.1 H2a.out).1
  have H2b := Aside0.mk ((hb2.block _ hlt2).trans H2a.out)
  have HMb := Aside0.mk (HMa.out.below hb2)
  have HRb := Aside0.mk (Kd.C_below HRa.out hb2)
  have HGb := Aside0.mk (grown_trans (grown_of_below HBW.out B) (grown_trans HGa.out (grown_of_below hb2 B)))
  clear c0a c1a c2a d0a d1a hb2 HGa HRa HMa H2a hlt2
  cases hq : ((wholeN a b tn l0 0 0 (-1)).1 == cvN (whN l0 tn) a b) with
  | true =>
    go_wp2_with ((with_reducible refine gate_store (t := 62) (p := 4) rfl ?_); refine wpList_store_row ?h11 62 (.tmp 4) (.tmp 25) ?h12 (w.heap.size + 1 + 1) #[.bool false, .int .i64 0] ?h13 ?h14 62 #[.bool false, .int .i64 0] H2b.out ?h15 ?h16 ?h17 ?h18; (case h11 => rfl); (case h12 => rfl); (case h13 => rfl); (case h14 => rfl); (case h15 => kernel_rfl); (case h16 => rfl); (case h17 => first | kernel_rfl | (simp [Value.oneCell']; done)))
    refine bodyPost_ret (results_ct rfl _ _ (w.heap.size + 1 + 1) 62 #[.bool false, .int .i64 0] (0, 0) _ rfl (heap_setRow_same H2b.out) Try.underlying62 rfl (by kernel_rfl)) rfl ?_
    have hN : firstN (whN l0 tn) a b = (⟨false, 0⟩, false) := by
      unfold firstN
      rw [if_pos (by simpa [whN] using hq)]
    refine ⟨by rw [hN]; rfl, HMb.out.same (heap_setRow_other (map_ne HMb.out.isMap H2b.out)), grown_setRow HGb.out (by omega)⟩
  | false =>
    have hne : ¬ whN l0 tn a b = cvN (whN l0 tn) a b := by simpa [whN] using hq
    have hFN : firstN (whN l0 tn) a b = firstL (whN l0 tn) a b (cvN (whN l0 tn) a b) (cutsL a.toNat b.toNat 2) := if_neg hne
    have HFN := Aside0.mk hFN
    have hcuts := cuts_is a.toNat b.toNat 2 (by omega) (by omega) (by omega) (by omega)
    rw [show ((a.toNat : Nat) : Int) = a from by omega, show ((b.toNat : Nat) : Int) = b from by omega] at hcuts
    have HCUTS := Aside0.mk hcuts
    clear hcuts hne hFN
    go_wp2_with fail
    refine (impl_board_cuts.calls 100 a b 2 _ _ HCUTS.out).mono ?_
    rintro e w3 ⟨v, rfl, hR, hb3⟩
    obtain ⟨AC, cc, rfl, hlc, hC⟩ := Kd.R_reads hR
    have HC := Aside0.mk hC
    have HC0 := Aside0.mk ((hb3.cell (World.block_lt_of_cell? _ _ c0b)).trans c0b)
    have HC1 := Aside0.mk ((hb3.cell (World.block_lt_of_cell? _ _ c1b)).trans c1b)
    have HC2 := Aside0.mk ((hb3.cell (World.block_lt_of_cell? _ _ c2b)).trans c2b)
    have HD0 := Aside0.mk ((hb3.cell (World.block_lt_of_cell? _ _ d0b)).trans d0b)
    have HD1 := Aside0.mk ((hb3.cell (World.block_lt_of_cell? _ _ d1b)).trans d1b)
    have hlt2 : w.heap.size + 1 + 1 < w2.heap.size := (Array.getElem?_eq_some_iff.1 H2b.out).1
    have H2c := Aside0.mk ((hb3.block _ hlt2).trans H2b.out)
    have HM3 := Aside0.mk (HMb.out.below hb3)
    have HR3 := Aside0.mk (Kd.C_below HRb.out hb3)
    have HGc := Aside0.mk (grown_trans HGb.out (grown_of_below hb3 B))
    have HMEM := Aside0.mk (partsOf_in a b 2 ha hb)
    have hlen := cutsL_len a.toNat b.toNat 2 (by omega) (by omega)
    rw [show (2 : Int).toNat = 2 from rfl] at HMEM
    generalize cutsL a.toNat b.toNat 2 = L at HC HFN HMEM hlen hlc ⊢
    clear c0b c1b c2b d0b d1b hb3 hR hC hlc HCUTS hlt2 H2b HMb HRb HGb
    go_wp2_with fail
    go_loopg [29] L.length (fun gg v29 wr => ∃ (kk : Nat), kk ≤ L.length ∧ L.length - kk ≤ gg ∧ v29 = .int .i64 kk ∧ Aside0 (firstL (whN l0 tn) a b (cvN (whN l0 tn) a b) (L.drop kk) = firstN (whN l0 tn) a b) ∧ Aside0 (w3.grownBy wr (some B)) ∧ Aside0 (Memo Try.prog 68 boardKl 24 (cutV l0 tn) wr B))
    case atStart => exact ⟨0, Nat.zero_le _, by omega, rfl, ⟨HFN.out.symm⟩, ⟨grown_of_below (Below.refl _ _) _⟩, HM3⟩
    case round =>
        obtain ⟨kk, hkk, hg, rfl, HA, HG, HMr⟩ := hrel
        have hMap := HM3.out.isMap
        have c0r := grown_at hMap HG.out HC0.out
        have c1r := grown_at hMap HG.out HC1.out
        have c2r := grown_at hMap HG.out HC2.out
        have d0r := grown_at hMap HG.out HD0.out
        have d1r := grown_at hMap HG.out HD1.out
        by_cases hlt : kk < L.length
        · have hltz : (kk : Int) < (L.length : Int) := by omega
          obtain ⟨ad, rfl, hx0, hx1⟩ := at_T62 HC.out (kk : Int) (by omega) hltz
          rw [show rd_T62 L (kk : Int) = L[kk] by simp [rd_T62, hlt], Int.toNat_natCast] at hx0 hx1
          have hy0 := grown_at hMap HG.out hx0
          have hy1 := grown_at hMap HG.out hx1
          have hstep := HA.out
          rw [List.drop_eq_getElem_cons hlt, firstL] at hstep
          have hmem := HMEM.out L[kk] (List.getElem_mem hlt)
          generalize hcc : L[kk] = c at hy0 hy1 hstep hmem
          clear hcc hx0 hx1 HA hMap
          have hcin : 1 ≤ c.f1 ∧ c.f1 ≤ 24 := by
            have h1 := hmem
            unfold partsOf at h1
            cases hcf : c.f0 <;> rw [hcf] at h1 <;> simp at h1 <;> omega
          have HPARTS := Aside0.mk (parts_is a b c ha ha' hb hb' hcin.1 hcin.2)
          generalize partsOf a b c = p at HPARTS hmem hstep
          obtain ⟨⟨p1, p2⟩, q1, q2⟩ := p
          simp only at hmem HPARTS hstep
          have HS := Aside0.mk hstep
          clear hstep hcin
          have lift : ∀ {ad : Addr} {v : Value}, wr.cell? ad = some v → (wr.alloc (.cells #[.bool c.f0, .int .i64 c.f1] 62)).cell? ad = some v := fun h => ((below_alloc (Below.refl _ _) _).cell (World.block_lt_of_cell? wr _ h)).trans h
          replace c0r := lift c0r
          replace c1r := lift c1r
          replace c2r := lift c2r
          replace d0r := lift d0r
          replace d1r := lift d1r
          clear lift
          go_wp2_with (go_at_call 64; refine (impl_board_parts.calls a b c.f0 c.f1 _ _ _ _ _ HPARTS.out).mono ?_; rintro e w5 ⟨rfl, hb5⟩; have HB5 := Aside0.mk hb5; clear hb5)
          have c0s := (HB5.out.cell (World.block_lt_of_cell? _ _ c0r)).trans c0r
          have c1s := (HB5.out.cell (World.block_lt_of_cell? _ _ c1r)).trans c1r
          have c2s := (HB5.out.cell (World.block_lt_of_cell? _ _ c2r)).trans c2r
          have lift : ∀ {ad : Addr} {v : Value}, w5.cell? ad = some v → ((w5.alloc (.cells #[.int .i64 p1, .int .i64 p2] 68)).alloc (.cells #[.int .i64 q1, .int .i64 q2] 68)).cell? ad = some v := fun h => ((below_alloc (below_alloc (Below.refl _ _) _) _).cell (World.block_lt_of_cell? w5 _ h)).trans h
          replace c0s := lift c0s
          replace c1s := lift c1s
          replace c2s := lift c2s
          have p0s := lift ((HB5.out.cell (by simp)).trans (by simp) : w5.cell? ⟨wr.heap.size, 0, none⟩ = some (.bool c.f0))
          have p1s := lift ((HB5.out.cell (by simp)).trans (by simp) : w5.cell? ⟨wr.heap.size, 1, none⟩ = some (.int .i64 c.f1))
          have o0 : ((w5.alloc (.cells #[.int .i64 p1, .int .i64 p2] 68)).alloc (.cells #[.int .i64 q1, .int .i64 q2] 68)).cell? ⟨w5.heap.size, 0, none⟩ = some (.int .i64 p1) := by simp
          have o1 : ((w5.alloc (.cells #[.int .i64 p1, .int .i64 p2] 68)).alloc (.cells #[.int .i64 q1, .int .i64 q2] 68)).cell? ⟨w5.heap.size, 1, none⟩ = some (.int .i64 p2) := by simp
          have t0 : ((w5.alloc (.cells #[.int .i64 p1, .int .i64 p2] 68)).alloc (.cells #[.int .i64 q1, .int .i64 q2] 68)).cell? ⟨w5.heap.size + 1, 0, none⟩ = some (.int .i64 q1) := by simp
          have t1 : ((w5.alloc (.cells #[.int .i64 p1, .int .i64 p2] 68)).alloc (.cells #[.int .i64 q1, .int .i64 q2] 68)).cell? ⟨w5.heap.size + 1, 1, none⟩ = some (.int .i64 q2) := by simp
          have hB9 : Below wr.heap.size wr ((w5.alloc (.cells #[.int .i64 p1, .int .i64 p2] 68)).alloc (.cells #[.int .i64 q1, .int .i64 q2] 68)) := by
            have hbx : Below wr.heap.size wr w5 := (below_alloc (Below.refl wr.heap.size wr) _).trans (HB5.out.mono (by simp))
            exact below_alloc (below_alloc hbx _) _
          have HM9 := Aside0.mk (HMr.out.below hB9)
          have HG9 := Aside0.mk (grown_trans HG.out (grown_of_below hB9 B))
          generalize (w5.alloc (.cells #[.int .i64 p1, .int .i64 p2] 68)).alloc (.cells #[.int .i64 q1, .int .i64 q2] 68) = W9 at c0s c1s c2s o0 o1 t0 t1 p0s p1s HM9 HG9 ⊢
          have HP0 := Aside0.mk p0s
          have HP1 := Aside0.mk p1s
          clear p0s p1s
          clear hB9 lift c0r c1r c2r d0r d1r hy0 hy1 HMr HG
          have HR9 := Aside0.mk (C_map k35_any HR3.out (by decide) HM3.out.isMap HG9.out)
          have HH : Aside0 (∀ w', W9.grownBy w' (some B) → Memo Try.prog 68 boardKl 24 (cutV l0 tn) w' B → (w'.cell? ⟨w.heap.size, 0, none⟩ = some (.slice A0 l0.length c0) ∧ w'.cell? ⟨w.heap.size, 1, none⟩ = some (.bool tn) ∧ w'.cell? ⟨w.heap.size, 2, none⟩ = some (.map (some B)) ∧ w'.cell? ⟨w5.heap.size, 0, none⟩ = some (.int .i64 p1) ∧ w'.cell? ⟨w5.heap.size, 1, none⟩ = some (.int .i64 p2) ∧ w'.cell? ⟨w5.heap.size + 1, 0, none⟩ = some (.int .i64 q1) ∧ w'.cell? ⟨w5.heap.size + 1, 1, none⟩ = some (.int .i64 q2))) :=
            ⟨fun w' hg hm => ⟨grown_at HM9.out.isMap hg c0s, grown_at HM9.out.isMap hg c1s, grown_at HM9.out.isMap hg c2s, grown_at HM9.out.isMap hg o0, grown_at HM9.out.isMap hg o1, grown_at HM9.out.isMap hg t0, grown_at HM9.out.isMap hg t1⟩⟩
          clear c0s c1s c2s o0 o1 t0 t1
          have hs2 : p1 ≤ 24 := by omega
          have hs3 : p2 ≤ 24 := by omega
          have hs5 : q1 ≤ 24 := by omega
          have hs6 : q2 ≤ 24 := by omega
          have hsz : 0 < k35.sz := by decide
          go_region_held3 (fun w' => w'.cell? ⟨w.heap.size, 0, none⟩ = some (.slice A0 l0.length c0) ∧ w'.cell? ⟨w.heap.size, 1, none⟩ = some (.bool tn) ∧ w'.cell? ⟨w.heap.size, 2, none⟩ = some (.map (some B)) ∧ w'.cell? ⟨w5.heap.size, 0, none⟩ = some (.int .i64 p1) ∧ w'.cell? ⟨w5.heap.size, 1, none⟩ = some (.int .i64 p2) ∧ w'.cell? ⟨w5.heap.size + 1, 0, none⟩ = some (.int .i64 q1) ∧ w'.cell? ⟨w5.heap.size + 1, 1, none⟩ = some (.int .i64 q2))
            (first | exact HH.out _ (grown_of_below (below_drew (Below.refl _ _)) _) (HM9.out.below (below_drew (Below.refl _ _))) | exact HH.out _ hg7 hm7 | exact HH.out _ hg6 hm6)
            (first | (go_at_call_of 69 (Value.agg #[Value.int IntKind.i64 p1, Value.int IntKind.i64 p2]); refine (cutter_value1 A0 c0 l0 tn B p1 p2 _ hmem.1.1 hs2 hmem.1.2.2.1 hs3 (Kd.C_below HR9.out (below_drew (Below.refl _ _))) (HM9.out.below (below_drew (Below.refl _ _)))).mono ?_; rintro e w6 ⟨rfl, hm6, hg6'⟩; have hg6 := grown_trans (grown_of_below (below_drew (Below.refl _ _)) B) hg6') | (go_at_call_of 69 (Value.agg #[Value.int IntKind.i64 q1, Value.int IntKind.i64 q2]); refine (cutter_value1 A0 c0 l0 tn B q1 q2 _ hmem.2.1 hs5 hmem.2.2.2.1 hs6 (C_map k35_any HR9.out hsz HM9.out.isMap hg6) hm6).mono ?_; rintro e w7 ⟨rfl, hm7, hg7'⟩; have hg7 := grown_trans hg6 hg7'))
          have hwrap : IntKind.i64.wrap (cvN (whN l0 tn) p1 p2 + cvN (whN l0 tn) q1 q2) = wrap64 (cvN (whN l0 tn) p1 p2 + cvN (whN l0 tn) q1 q2) := by simp only [i64_w]
          have HSS := HS.out
          have HG7 := Aside0.mk (grown_trans HG9.out hg7)
          have HM7 := Aside0.mk hm7
          have z0 := grown_at HM9.out.isMap hg7 HP0.out
          have z1 := grown_at HM9.out.isMap hg7 HP1.out
          have H27 := Aside0.mk (grown_heap HM3.out.isMap HG7.out H2c.out)
          rw [← hwrap] at HSS
          clear hg6 hm6 hg7 hm7 hwrap HS
          generalize IntKind.i64.wrap (cvN (whN l0 tn) p1 p2 + cvN (whN l0 tn) q1 q2) = sum at HSS ⊢
          cases hsm : (sum == cvN (whN l0 tn) a b) with
          | true =>
            rw [if_pos (beq_iff_eq.mp hsm)] at HSS
            have HS := Aside0.mk HSS
            clear HSS
            go_wp2_with ((with_reducible refine gate_store (t := 62) (p := 4) rfl ?_); refine wpList_store_row ?h21 62 (.tmp 4) (.tmp 48) ?h22 (w.heap.size + 1 + 1) #[.bool c.f0, .int .i64 c.f1] ?h23 ?h24 62 #[.bool false, .int .i64 0] H27.out ?h25 ?h26 ?h27 ?h28; (case h21 => rfl); (case h22 => rfl); (case h23 => rfl); (case h24 => rfl); (case h25 => kernel_rfl); (case h26 => rfl); (case h27 => first | kernel_rfl | (simp [Value.oneCell']; done)))
            (try simp only [Exit.inBlock, Exit.then])
            refine bodyPost_ret (results_ct rfl _ _ (w.heap.size + 1 + 1) 62 #[.bool c.f0, .int .i64 c.f1] (0, 0) _ rfl (heap_setRow_same H27.out) Try.underlying62 rfl (by kernel_rfl)) rfl ?_
            refine ⟨by rw [← HS.out]; rfl, HM7.out.same (heap_setRow_other (map_ne HM7.out.isMap H27.out)), grown_setRow (grown_trans HGc.out HG7.out) (by omega)⟩
          | false =>
            rw [if_neg (beq_eq_false_iff_ne.mp hsm)] at HSS
            have HS := Aside0.mk HSS
            clear HSS
            go_wp2_with fail
            go_roundg (L.length - (kk + 1))
            case measure => omega
            case rel => exact ⟨kk + 1, by omega, by omega, by go_num, HS, HG7, HM7⟩
        · have hk : kk = L.length := by omega
          subst hk
          have hh := HA.out
          rw [List.drop_length, firstL] at hh
          have HH0 := Aside0.mk hh
          have H2r := Aside0.mk (grown_heap HM3.out.isMap HG.out H2c.out)
          clear hh
          go_wp2_with ((with_reducible refine gate_store (t := 62) (p := 4) rfl ?_); refine wpList_store_row ?h31 62 (.tmp 4) (.tmp 50) ?h32 (w.heap.size + 1 + 1) #[.bool false, .int .i64 0] ?h33 ?h34 62 #[.bool false, .int .i64 0] H2r.out ?h35 ?h36 ?h37 ?h38; (case h31 => rfl); (case h32 => rfl); (case h33 => rfl); (case h34 => rfl); (case h35 => kernel_rfl); (case h36 => rfl); (case h37 => first | kernel_rfl | (simp [Value.oneCell']; done)))
          (try simp only [Exit.inBlock, Exit.then])
          refine bodyPost_ret (results_ct rfl _ _ (w.heap.size + 1 + 1) 62 #[.bool false, .int .i64 0] (0, 0) _ rfl (heap_setRow_same H2r.out) Try.underlying62 rfl (by kernel_rfl)) rfl ?_
          refine ⟨by rw [← HH0.out]; rfl, HMr.out.same (heap_setRow_other (map_ne HMr.out.isMap H2r.out)), grown_setRow (grown_trans HGc.out HG.out) (by omega)⟩

end Go.Proofs.Ytcijldnkigmfeaa.M

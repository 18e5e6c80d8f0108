-- Written by the session's program wip/myprint.py (over the kit's print); the given parts by hand.
import Derived.Test.YtfpgnnllohhmfaaQ0
namespace Go.Proofs.Ytfpgnnllohhmfaa.Q
open Go.RowKit Go.Proofs.YtfpgnnllohhmfaaW.PrintWords Go.Proofs.YtfpgnnllohhmfaaW.PrintLast Go.Proofs.YtfpgnnllohhmfaaW.PrintMore
attribute [local go_sem] max2_int min2_int max_two min_two max_three min_three max_four min_four   -- for this text's walks alone
set_option linter.unusedVariables false
set_option linter.unusedSimpArgs false

-- given: part memo
/-! ### a map that a function keeps what it has reckoned in: keys of two whole numbers, 0..N each; at each key that is there lies what V says -/
open Go.Maps (Keyed)
def hR (v : Value) : Option (DataW Value × List MemPlace) := some (.held v, [])
structure MemoK (P : Program) (t k e : TypeId) (kv : Int → Int → Value) (kl : Int → Int → Lit) (z0 : Value) (N : Nat) : Prop where
  law : Keyed P k
  ht : P.underlying t = some (.map k e)
  key : ∀ a b : Int, 0 ≤ a → a ≤ N → 0 ≤ b → b ≤ N → keyOf P k (kv a b) = some (kl a b)
  kinj : ∀ a b c d : Int, kv a b = kv c d → a = c ∧ b = d
  zero : ∀ w : World, (zeroValue e).run P w = .ok z0 w
  small : N ≤ 1000
def pairsN (N : Nat) : List (Nat × Nat) := (List.range (N + 1)).flatMap fun a => (List.range (N + 1)).map fun b => (a, b)
theorem mem_pairsN {N a b : Nat} (ha : a ≤ N) (hb : b ≤ N) : (a, b) ∈ pairsN N := by
  simp [pairsN, List.mem_flatMap, List.mem_map, List.mem_range]
  omega
theorem length_pairsN (N : Nat) : (pairsN N).length = (N + 1) * (N + 1) := by
  simp [pairsN, List.length_flatMap, List.map_const', List.sum_replicate_nat]
def lacks (kl : Int → Int → Lit) (N : Nat) (D : DataW Value) : Nat := ((pairsN N).filter fun u => !(Maps.has D (kl u.1 u.2))).length
theorem filter_le {α : Type} (p q : α → Bool) (h : ∀ x, q x = true → p x = true) : ∀ l : List α, (l.filter q).length ≤ (l.filter p).length
  | [] => by simp
  | x :: l => by
    have ih := filter_le p q h l
    cases hq : q x with
    | true => simp [List.filter_cons, hq, h x hq, ih]
    | false =>
      cases hp : p x with
      | true => simp [List.filter_cons, hq, hp]; omega
      | false => simp [List.filter_cons, hq, hp, ih]
theorem filter_lt {α : Type} (p q : α → Bool) (h : ∀ x, q x = true → p x = true) {u : α} (hp : p u = true) (hq : q u = false) : ∀ l : List α, u ∈ l → (l.filter q).length + 1 ≤ (l.filter p).length
  | [], hu => by simp at hu
  | x :: l, hu => by
    have hl := filter_le p q h l
    rcases List.mem_cons.1 hu with rfl | hu
    · simp [List.filter_cons, hq, hp, hl]
    · have ih := filter_lt p q h hp hq l hu
      cases hqx : q x with
      | true => simp [List.filter_cons, hqx, h x hqx]; omega
      | false =>
        cases hpx : p x with
        | true => simp [List.filter_cons, hqx, hpx]; omega
        | false => simp [List.filter_cons, hqx, hpx]; omega
section
variable {P : Program} {t k e : TypeId} {kv : Int → Int → Value} {kl : Int → Int → Lit} {z0 : Value} {N : Nat}
theorem MemoK.linj (M : MemoK P t k e kv kl z0 N) {a b c d : Int} (ha : 0 ≤ a ∧ a ≤ N) (hb : 0 ≤ b ∧ b ≤ N) (hc : 0 ≤ c ∧ c ≤ N) (hd : 0 ≤ d ∧ d ≤ N) (h : kl a b = kl c d) : a = c ∧ b = d := by
  have h1 := M.key a b ha.1 ha.2 hb.1 hb.2
  have h2 := M.key c d hc.1 hc.2 hd.1 hd.2
  rw [h] at h1
  exact M.kinj a b c d (M.law.inj h1 h2)
/-- what the map in block B holds -/
def Memo (P : Program) (k : TypeId) (kl : Int → Int → Lit) (N : Nat) (V : Int → Int → Value) (w : World) (B : Nat) : Prop :=
  ∃ D : DataW Value, w.ownsMap P k hR B (Maps.size D) D ∧ Maps.size D + lacks kl N D ≤ (N + 1) * (N + 1) ∧ ∀ a b : Int, 0 ≤ a → a ≤ N → 0 ≤ b → b ≤ N → Maps.has D (kl a b) = true → ∀ z, D.atKey (kl a b) z = .held (V a b)
variable {V : Int → Int → Value}
theorem owns_same {H : Type} {R : Value → Option (DataW H × List MemPlace)} {w w' : World} {b n : Nat} {D : DataW H} (h : w.ownsMap P k R b n D) (hb : w'.heap[b]? = w.heap[b]?) : w'.ownsMap P k R b n D := by
  obtain ⟨es, clock, hh, F, hs, hD⟩ := h
  exact ⟨es, clock, hb.trans hh, F, hs, hD⟩
theorem Memo.same {w w' : World} {B : Nat} (h : Memo P k kl N V w B) (hb : w'.heap[B]? = w.heap[B]?) : Memo P k kl N V w' B := by
  obtain ⟨D, h1, h2, h3⟩ := h
  exact ⟨D, owns_same h1 hb, h2, h3⟩
theorem Memo.lt {w : World} {B : Nat} (h : Memo P k kl N V w B) : B < w.heap.size := by
  obtain ⟨D, h1, _⟩ := h
  exact h1.lt
theorem Memo.below {w w' : World} {B : Nat} (h : Memo P k kl N V w B) (hb : Below w.heap.size w w') : Memo P k kl N V w' B := h.same (hb.block B h.lt)
theorem Memo.made (w : World) (P : Program) (k : TypeId) (kl : Int → Int → Lit) (N : Nat) (V : Int → Int → Value) : Memo P k kl N V (w.alloc (.map #[] 0)) w.heap.size := by
  refine ⟨.map [], World.ownsMap_made w P k hR, ?_, fun a b _ _ _ _ h => by simp [Maps.has] at h⟩
  have h1 := List.length_filter_le (fun u : Nat × Nat => !(Maps.has (.map [] : DataW Value) (kl u.1 u.2))) (pairsN N)
  rw [length_pairsN] at h1
  simp only [Maps.size, List.length_nil, lacks]
  omega
/-- a look-up: the key isn't there, or it is and V's value comes back -/
theorem Memo.look (M : MemoK P t k e kv kl z0 N) {w : World} {B : Nat} (h : Memo P k kl N V w B) {a b : Int} (ha : 0 ≤ a ∧ a ≤ N) (hb : 0 ≤ b ∧ b ≤ N) :
    (Instr.lookup t (.map (some B)) (kv a b) true).run P w = .ok (.tuple #[z0, .bool false]) w ∨ (Instr.lookup t (.map (some B)) (kv a b) true).run P w = .ok (.tuple #[V a b, .bool true]) w := by
  obtain ⟨D, h1, h2, h3⟩ := h
  obtain ⟨v, ps, hrun, hv⟩ := h1.look_ok M.law M.ht (M.zero w) (zd := .held z0) (zp := []) rfl (M.key a b ha.1 ha.2 hb.1 hb.2)
  simp only [hR, Option.some.injEq, Prod.mk.injEq] at hv
  obtain ⟨hv, _⟩ := hv
  cases hh : Maps.has D (kl a b) with
  | true =>
    right
    rw [h3 a b ha.1 ha.2 hb.1 hb.2 hh] at hv
    simp only [DataW.held.injEq] at hv
    rw [hrun, hh, hv]
  | false =>
    left
    rw [Maps.atKey_of_not_has hh] at hv
    simp only [DataW.held.injEq] at hv
    rw [hrun, hh, hv]
/-- a store of what V says -/
theorem Memo.store (M : MemoK P t k e kv kl z0 N) {w : World} {B : Nat} (h : Memo P k kl N V w B) {a b : Int} (ha : 0 ≤ a ∧ a ≤ N) (hb : 0 ≤ b ∧ b ≤ N) :
    ∃ w', (Instr.mapUpdate t (.map (some B)) (kv a b) (V a b)).run P w = .ok () w' ∧ Memo P k kl N V w' B ∧ w.grownBy w' (some B) := by
  obtain ⟨D, h1, h2, h3⟩ := h
  have hsm := M.small
  have hbig : (N + 1) * (N + 1) ≤ 1001 * 1001 := Nat.mul_le_mul (by omega) (by omega)
  have hkey := M.key a b ha.1 ha.2 hb.1 hb.2
  have hkl : WideAt.IsKeyLit (kl a b) := M.law.key hkey
  obtain ⟨w', hrun, hown, hg⟩ := h1.update M.law M.ht (by unfold maxLen; omega) hkey (d := .held (V a b)) (ps := []) rfl
  have htidy := h1.tidy M.law
  have hsame := Maps.has_put_same htidy.isMap hkl (.held (V a b))
  have hoth : ∀ c d : Int, kl c d ≠ kl a b → Maps.has (D.put (kl a b) (.held (V a b))) (kl c d) = Maps.has D (kl c d) := fun c d hne => Maps.has_put_other hne _
  have hmono : ∀ u : Nat × Nat, (!(Maps.has (D.put (kl a b) (.held (V a b))) (kl u.1 u.2))) = true → (!(Maps.has D (kl u.1 u.2))) = true := by
    intro u hu
    by_cases hne : kl u.1 u.2 = kl a b
    · rw [hne, hsame] at hu; simp at hu
    · rwa [hoth _ _ hne] at hu
  have hsize := Maps.size_put (k := kl a b) htidy (.held (V a b))
  have hcount : Maps.size (D.put (kl a b) (.held (V a b))) + lacks kl N (D.put (kl a b) (.held (V a b))) ≤ (N + 1) * (N + 1) := by
    cases hh : Maps.has D (kl a b) with
    | true =>
      rw [hsize, if_pos hh]
      have := filter_le (fun u : Nat × Nat => !(Maps.has D (kl u.1 u.2))) (fun u : Nat × Nat => !(Maps.has (D.put (kl a b) (.held (V a b))) (kl u.1 u.2))) hmono (pairsN N)
      simp only [lacks] at h2 ⊢
      omega
    | false =>
      rw [hsize, if_neg (by rw [hh]; decide)]
      obtain ⟨na, hna⟩ := Int.eq_ofNat_of_zero_le ha.1
      obtain ⟨nb, hnb⟩ := Int.eq_ofNat_of_zero_le hb.1
      subst hna hnb
      have := filter_lt (fun u : Nat × Nat => !(Maps.has D (kl u.1 u.2))) (fun u : Nat × Nat => !(Maps.has (D.put (kl na nb) (.held (V na nb))) (kl u.1 u.2))) hmono (u := (na, nb)) (by simp [hh]) (by simp [hsame]) (pairsN N) (mem_pairsN (by omega) (by omega))
      simp only [lacks] at h2 ⊢
      omega
  refine ⟨w', hrun, ⟨D.put (kl a b) (.held (V a b)), ?_, hcount, ?_⟩, hg⟩
  · obtain ⟨es, clock, hh, F, hs, hD⟩ := hown
    refine ⟨es, clock, hh, F, ?_, hD⟩
    rw [hD, Maps.size_eq, length_sorted]
    simp
  · intro c d hc0 hc1 hd0 hd1 hhas z
    by_cases hne : kl c d = kl a b
    · obtain ⟨rfl, rfl⟩ := M.linj ⟨hc0, hc1⟩ ⟨hd0, hd1⟩ ha hb hne
      exact Maps.atKey_put_same htidy.isMap hkl _ z
    · rw [Maps.atKey_put_other hne]
      rw [hoth c d hne] at hhas
      exact h3 c d hc0 hc1 hd0 hd1 hhas z
end
theorem grown_cell {w w' : World} {B b o : Nat} {v : Value} (hg : w.grownBy w' (some B)) (hne : b ≠ B) (h : w.cell? ⟨b, o, none⟩ = some v) : w'.cell? ⟨b, o, none⟩ = some v := by
  rw [← h]
  unfold World.cell?
  rw [hg.block b (World.block_lt_of_cell? w _ h) (by simpa using hne)]
theorem grown_trans {w w1 w2 : World} {B : Nat} (h : w.grownBy w1 (some B)) (h2 : w1.grownBy w2 (some B)) : w.grownBy w2 (some B) := World.grownBy.trans h h2
theorem grown_blw {w w1 w2 : World} {B : Nat} (h : Below w.heap.size w w1) (h2 : w1.grownBy w2 (some B)) : w.grownBy w2 (some B) := World.grownBy.trans (grown_of_below h _) h2

end Go.Proofs.Ytfpgnnllohhmfaa.Q

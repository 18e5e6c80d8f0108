-- Written by the session's program wip/myprint.py (over the kit's print); the given parts by hand.
import Derived.Test.YtbjjmnnbkaoajaaDoorM0
import Derived.Test.YtbjjmnnbkaoajaaDoorM1
import Derived.Test.YtbjjmnnbkaoajaaDoorM2
namespace Go.Proofs.YtbjjmnnbkaoajaaDoor.M
open Go.RowKit Go.Proofs.YtbjjmnnbkaoajaaDoorW.PrintWords Go.Proofs.YtbjjmnnbkaoajaaDoorW.PrintLast Go.Proofs.YtbjjmnnbkaoajaaDoorW.PrintMore
attribute [local go_sem] max2_int min2_int max_two min_two max_three min_three max_four min_four   -- for this text's walks alone
set_option linter.unusedVariables false
set_option linter.unusedSimpArgs false

-- given: loop.example/g01334/impl.stopped
/-! ### impl_stopped: by hand -/
def stC (a1 : Int) : UInt8 := ((wrap64 (48 + a1)) % 256).toNat.toUInt8
def stopM (c : UInt8) (l : List UInt8) : List UInt8 := (l.drop (Lib.indexByte l c).toNat).filter (fun x => x != c)
def stL (srt : Bool) (c : UInt8) (l : List UInt8) : List UInt8 × Nat := if Lib.indexByte l c < 0 then (l, 0) else (l.take (Lib.indexByte l c).toNat ++ (if srt = true then dscF dig9 (stopM c l) else stopM c l), (stopM c l).length)
def impl_stopped.f (a0 : ByteArray) (a1 : Int) (a2 : Bool) : Option (ByteArray × Int) := if a0.size ≤ 1048576 ∧ (a2 = true → a0.size ≤ 12 ∧ a0.data.toList.all (fun x => dig9.contains x) = true) then some (⟨(stL a2 (stC a1) a0.data.toList).1.toArray⟩, ((stL a2 (stC a1) a0.data.toList).2 : Nat)) else none
theorem stC_is (a1 : Int) : (wrap64 (48 + a1)) % 256 = ((stC a1).toNat : Int) := by
  unfold stC
  have h0 : 0 ≤ (wrap64 (48 + a1)) % 256 := Int.emod_nonneg _ (by decide)
  have h1 : (wrap64 (48 + a1)) % 256 < 256 := Int.emod_lt_of_pos _ (by decide)
  generalize (wrap64 (48 + a1)) % 256 = v at h0 h1
  have e : (v.toNat.toUInt8).toNat = v.toNat := by
    show (UInt8.ofNat v.toNat).toNat = v.toNat
    rw [UInt8.toNat_ofNat']
    exact Nat.mod_eq_of_lt (by omega)
  rw [e]
  omega
set_option maxHeartbeats 4000000 in
set_option maxRecDepth 100000 in
theorem stopped_false (a0 : ByteArray) (a1 : Int) (r1 : ByteArray) (r2 : Int) (w : World) (h : impl_stopped.f a0 a1 false = some (r1, r2)) :
    Calls Tryd.prog 26 #[.string a0, .int .i64 a1, .bool false] w fun e w' => e = .returned (.tuple #[.string r1, .int .i64 r2]) ∧ Below w.heap.size w w' := by
  have mixed : Tryd.prog.follows .mixedOrders = true := by kernel_rfl
  unfold impl_stopped.f at h
  by_cases hsz : a0.size ≤ 1048576 ∧ (false = true → a0.size ≤ 12 ∧ a0.data.toList.all (fun x => dig9.contains x) = true)
  · rw [if_pos hsz] at h
    obtain ⟨rfl, rfl⟩ := Prod.mk.inj (Option.some.inj h)
    clear h
    replace hsz := hsz.1
    have hlenL : a0.data.toList.length = a0.size := rfl
    have hc := stC_is a1
    generalize stC a1 = c at hc ⊢
    have HI := Aside0.mk (show strings_IndexByte.f a0 (c.toNat : Int) = some (Lib.indexByte a0.data.toList c) by unfold strings_IndexByte.f; simp)
    by_cases hneg : Lib.indexByte a0.data.toList c < 0
    · have HS := Aside0.mk (show stL false c a0.data.toList = (a0.data.toList, 0) by unfold stL; rw [if_pos hneg])
      generalize Lib.indexByte a0.data.toList c = i at hneg HI
      have q1 : decide (i < 0) = true := decide_eq_true hneg
      go_enter Tryd.func26, Tryd.ntmps26
      go_wp2_with (go_at_call 34; refine (strings_IndexByte.calls a0 (c.toNat : Int) i _ HI.out).mono ?_; rintro e w1 ⟨rfl, ⟨nd, rfl⟩⟩)
      go_ret2
      refine ⟨?_, by repeat (first | exact Below.refl _ _ | apply below_alloc | apply pw_below_drewN)⟩
      rw [HS.out]
      rw [show (⟨a0.data.toList.toArray⟩ : ByteArray) = a0 by cases a0; simp]
      rfl
    · obtain ⟨j, hj⟩ : ∃ j : Nat, Lib.indexByte a0.data.toList c = (j : Int) := ⟨(Lib.indexByte a0.data.toList c).toNat, by omega⟩
      have HS := Aside0.mk (show stL false c a0.data.toList = (a0.data.toList.take j ++ (a0.data.toList.drop j).filter (fun x => x != c), ((a0.data.toList.drop j).filter (fun x => x != c)).length) by unfold stL stopM; rw [if_neg hneg, hj, Int.toNat_natCast, if_neg (by decide)])
      have hjl : j < a0.data.toList.length := by
        have h1 := (Lib.indexByte_some hj).1
        exact (List.getElem?_eq_some_iff.1 h1).1
      rw [hj] at HI
      clear hneg hj
      have q1 : decide ((j : Int) < 0) = false := decide_eq_false (by omega)
      have q2 : (0 ≤ (j : Int)) = True := eq_true (by omega)
      have q3 : ((j : Int) ≤ (a0.size : Int)) = True := eq_true (by omega)
      have hex : (a0.extract j a0.size).data.toList = a0.data.toList.drop j := by
        rw [Lib.extract_data]
        exact List.take_of_length_le (by rw [List.length_drop]; exact Nat.le_refl _)
      have hexs : (a0.extract j a0.size).size = a0.size - j := by simp
      have HR := Aside0.mk (show strings_ReplaceAll.f (a0.extract j a0.size) ⟨#[c]⟩ ⟨#[]⟩ = some ⟨((a0.data.toList.drop j).filter (fun x => x != c)).toArray⟩ by
        unfold strings_ReplaceAll.f strings_Replace.f
        rw [if_pos ⟨rfl, rfl, by omega⟩, if_pos (by decide), hex]
        congr 2
        rw [show (⟨#[c]⟩ : ByteArray).data.toList.headD 0 = c from rfl, cut_more c _ _ ((a0.data.toList.drop j).count c) (by rw [← hex]; exact List.count_le_length) (Nat.le_refl _), cut_all])
      have hml : ((a0.data.toList.drop j).filter (fun x => x != c)).length ≤ a0.size := Nat.le_trans (List.length_filter_le _ _) (by rw [List.length_drop]; omega)
      generalize hm : (a0.data.toList.drop j).filter (fun x => x != c) = m at HS HR hml
      have hlist : (⟨m.toArray⟩ : ByteArray).data.toList = m := by simp
      have hsize : (⟨m.toArray⟩ : ByteArray).size = m.length := by rw [← hlist]; rfl
      generalize (⟨m.toArray⟩ : ByteArray) = s at HR hlist hsize
      have hstr1 := fun (n : Nat) => one_string (W := w.drewN n) (e' := 5) Tryd.underlying38 Tryd.underlying5 Tryd.underlying9 c _ rfl w.heap.size rfl
      have hconv := fun W : World => Lib.run_convert_string_bytes (P := Tryd.prog) W 9 38 5 s Tryd.underlying9 Tryd.underlying38 Tryd.underlying5
      have HL := Aside0.mk (And.intro hlist hsize)
      clear hex hexs hm hlist hsize
      go_enter Tryd.func26, Tryd.ntmps26
      go_wp2_with (go_at_call 34; refine (strings_IndexByte.calls a0 (c.toNat : Int) (j : Int) _ HI.out).mono ?_; rintro e w1 ⟨rfl, ⟨nd, rfl⟩⟩)
      go_region_with (go_at_call 35; refine (strings_ReplaceAll.calls _ _ _ s _ HR.out).mono ?_; rintro e w2 ⟨rfl, hb2⟩; have HB2 := Aside0.mk hb2; clear hb2)
      have hstr2 : ∀ n, (convert 38 9 (.slice (some ⟨w2.heap.size, 0, none⟩) s.size (grownCap w2 s.size 0 5))).run Tryd.prog ((Lib.bytesWorld w2 5 s).drewN n) = .ok (.string s) ((Lib.bytesWorld w2 5 s).drewN n) := by
        intro n
        have h1 := run_convert_bytes_arg ((Lib.bytesWorld w2 5 s).drewN n) 38 5 Tryd.underlying38 Tryd.underlying5 w2.heap.size 0 s.size (grownCap w2 s.size 0 5) (s.data.toList.map fun x => (x.toNat : Int)) (by rw [List.length_map]; rfl) (fun i hi => by
          rw [Nat.zero_add]
          refine ((BytesAt.made w2 5 s) i hi).trans ?_
          congr 2
          rw [List.getD_eq_getElem?_getD, List.getElem?_map, List.getElem?_eq_getElem (show i < s.data.toList.length from hi)]
          rfl) 9 Tryd.underlying9
        rw [h1, strOf_map]
      obtain ⟨pre, hpre⟩ : ∃ pre, a0.extract 0 j = pre := ⟨_, rfl⟩
      have hcat : (pre ++ s : ByteArray).data.toList = a0.data.toList.take j ++ m := by
        rw [← hpre, ByteArray.data_append, Array.toList_append, HL.out.1, Lib.extract_data]
        simp
      have hszs : pre.size = j := by rw [← hpre]; simp; omega
      have p1 : (pre.size + s.size ≤ 9223372036854775807) = True := eq_true (by have := HL.out.2; omega)
      have p3 : (9223372036854775807 < pre.size + s.size) = False := eq_false (by have := HL.out.2; omega)
      have HCat := Aside0.mk hcat
      have HBW := Aside0.mk (below_bytes w2 5 s)
      clear hcat hszs hconv hstr1
      generalize hcapE : grownCap w2 s.size 0 5 = cap0 at hstr2
      clear hcapE
      generalize Lib.bytesWorld w2 5 s = W at hstr2 HBW ⊢
      go_wp2_with fail
      go_quiet (fail)
      go_wp2_with fail
      go_ret2
      refine ⟨?_, ?_⟩
      · rw [HS.out]
        show Ending.returned (.tuple #[.string (pre ++ s), .int .i64 (s.size : Int)]) = .returned (.tuple #[.string ⟨(a0.data.toList.take j ++ m).toArray⟩, .int .i64 ((m.length : Nat) : Int)])
        rw [← HCat.out, ← HL.out.2, show (⟨(pre ++ s : ByteArray).data.toList.toArray⟩ : ByteArray) = pre ++ s from by cases (pre ++ s : ByteArray); simp]
      · have h1 : Below w.heap.size w w2 := (by repeat (first | exact Below.refl _ _ | apply below_alloc | apply pw_below_drewN) : Below w.heap.size w ((w.drewN (nd + 1)).alloc (.cells #[.int .u8 (c.toNat : Int)] 5))).trans (HB2.out.mono (by simp))
        exact pw_below_drewN (h1.trans (HBW.out.mono h1.size)) nq
  · rw [if_neg hsz] at h
    exact absurd h (by simp)
set_option maxHeartbeats 4000000 in
set_option maxRecDepth 100000 in
theorem stopped_true (a0 : ByteArray) (a1 : Int) (r1 : ByteArray) (r2 : Int) (w : World) (h : impl_stopped.f a0 a1 true = some (r1, r2)) :
    Calls Tryd.prog 26 #[.string a0, .int .i64 a1, .bool true] w fun e w' => e = .returned (.tuple #[.string r1, .int .i64 r2]) ∧ Below w.heap.size w w' := by
  have mixed : Tryd.prog.follows .mixedOrders = true := by kernel_rfl
  unfold impl_stopped.f at h
  by_cases hsz : a0.size ≤ 1048576 ∧ (true = true → a0.size ≤ 12 ∧ a0.data.toList.all (fun x => dig9.contains x) = true)
  · rw [if_pos hsz] at h
    obtain ⟨rfl, rfl⟩ := Prod.mk.inj (Option.some.inj h)
    clear h
    obtain ⟨hsz, hdd⟩ := hsz
    obtain ⟨h12, hall⟩ := hdd rfl
    have HD : Aside0 (∀ x ∈ a0.data.toList, x ∈ dig9) := ⟨fun x hx => by rw [List.all_eq_true] at hall; simpa using hall x hx⟩
    clear hall hdd
    have hlenL : a0.data.toList.length = a0.size := rfl
    have hc := stC_is a1
    generalize stC a1 = c at hc ⊢
    have HI := Aside0.mk (show strings_IndexByte.f a0 (c.toNat : Int) = some (Lib.indexByte a0.data.toList c) by unfold strings_IndexByte.f; simp)
    by_cases hneg : Lib.indexByte a0.data.toList c < 0
    · have HS := Aside0.mk (show stL true c a0.data.toList = (a0.data.toList, 0) by unfold stL; rw [if_pos hneg])
      generalize Lib.indexByte a0.data.toList c = i at hneg HI
      have q1 : decide (i < 0) = true := decide_eq_true hneg
      go_enter Tryd.func26, Tryd.ntmps26
      go_wp2_with (go_at_call 34; refine (strings_IndexByte.calls a0 (c.toNat : Int) i _ HI.out).mono ?_; rintro e w1 ⟨rfl, ⟨nd, rfl⟩⟩)
      go_ret2
      refine ⟨?_, by repeat (first | exact Below.refl _ _ | apply below_alloc | apply pw_below_drewN)⟩
      rw [HS.out]
      rw [show (⟨a0.data.toList.toArray⟩ : ByteArray) = a0 by cases a0; simp]
      rfl
    · obtain ⟨j, hj⟩ : ∃ j : Nat, Lib.indexByte a0.data.toList c = (j : Int) := ⟨(Lib.indexByte a0.data.toList c).toNat, by omega⟩
      have HS := Aside0.mk (show stL true c a0.data.toList = (a0.data.toList.take j ++ dscF dig9 ((a0.data.toList.drop j).filter (fun x => x != c)), ((a0.data.toList.drop j).filter (fun x => x != c)).length) by unfold stL stopM; rw [if_neg hneg, hj, Int.toNat_natCast, if_pos rfl])
      have HDM : Aside0 (∀ x ∈ (a0.data.toList.drop j).filter (fun x => x != c), x ∈ dig9) := ⟨fun x hx => HD.out x (List.mem_of_mem_drop (List.mem_filter.1 hx).1)⟩
      have hjl : j < a0.data.toList.length := by
        have h1 := (Lib.indexByte_some hj).1
        exact (List.getElem?_eq_some_iff.1 h1).1
      rw [hj] at HI
      clear hneg hj
      have q1 : decide ((j : Int) < 0) = false := decide_eq_false (by omega)
      have q2 : (0 ≤ (j : Int)) = True := eq_true (by omega)
      have q3 : ((j : Int) ≤ (a0.size : Int)) = True := eq_true (by omega)
      have hex : (a0.extract j a0.size).data.toList = a0.data.toList.drop j := by
        rw [Lib.extract_data]
        exact List.take_of_length_le (by rw [List.length_drop]; exact Nat.le_refl _)
      have hexs : (a0.extract j a0.size).size = a0.size - j := by simp
      have HR := Aside0.mk (show strings_ReplaceAll.f (a0.extract j a0.size) ⟨#[c]⟩ ⟨#[]⟩ = some ⟨((a0.data.toList.drop j).filter (fun x => x != c)).toArray⟩ by
        unfold strings_ReplaceAll.f strings_Replace.f
        rw [if_pos ⟨rfl, rfl, by omega⟩, if_pos (by decide), hex]
        congr 2
        rw [show (⟨#[c]⟩ : ByteArray).data.toList.headD 0 = c from rfl, cut_more c _ _ ((a0.data.toList.drop j).count c) (by rw [← hex]; exact List.count_le_length) (Nat.le_refl _), cut_all])
      have hml : ((a0.data.toList.drop j).filter (fun x => x != c)).length ≤ a0.size := Nat.le_trans (List.length_filter_le _ _) (by rw [List.length_drop]; omega)
      generalize hm : (a0.data.toList.drop j).filter (fun x => x != c) = m at HS HR hml HDM
      have hlist : (⟨m.toArray⟩ : ByteArray).data.toList = m := by simp
      have hsize : (⟨m.toArray⟩ : ByteArray).size = m.length := by rw [← hlist]; rfl
      generalize (⟨m.toArray⟩ : ByteArray) = s at HR hlist hsize
      have hstr1 := fun (n : Nat) => one_string (W := w.drewN n) (e' := 5) Tryd.underlying38 Tryd.underlying5 Tryd.underlying9 c _ rfl w.heap.size rfl
      have hconv := fun W : World => Lib.run_convert_string_bytes (P := Tryd.prog) W 9 38 5 s Tryd.underlying9 Tryd.underlying38 Tryd.underlying5
      have HL := Aside0.mk (And.intro hlist hsize)
      clear hex hexs hm hlist hsize
      go_enter Tryd.func26, Tryd.ntmps26
      go_wp2_with (go_at_call 34; refine (strings_IndexByte.calls a0 (c.toNat : Int) (j : Int) _ HI.out).mono ?_; rintro e w1 ⟨rfl, ⟨nd, rfl⟩⟩)
      go_region_with (go_at_call 35; refine (strings_ReplaceAll.calls _ _ _ s _ HR.out).mono ?_; rintro e w2 ⟨rfl, hb2⟩; have HB2 := Aside0.mk hb2; clear hb2)
      obtain ⟨pre, hpre⟩ : ∃ pre, a0.extract 0 j = pre := ⟨_, rfl⟩
      have hszs : pre.size = j := by rw [← hpre]; simp; omega
      have hpl : pre.data.toList = a0.data.toList.take j := by rw [← hpre, Lib.extract_data]; simp
      have hb1 : Below w.heap.size w w2 := (by repeat (first | exact Below.refl _ _ | apply below_alloc | apply pw_below_drewN) : Below w.heap.size w ((w.drewN (nd + 1)).alloc (.cells #[.int .u8 (c.toNat : Int)] 5))).trans (HB2.out.mono (by simp))
      have HB1 := Aside0.mk hb1
      have HRM : Aside0 (RowF (Lib.bytesWorld w2 5 s) w2.heap.size s.size (fun t => (m.map fun x => (x.toNat : Int)).getD t 0)) := by
        have h1 := rowF_made w2 5 s
        rw [HL.out.1] at h1
        exact ⟨h1⟩
      have HBW := Aside0.mk (hb1.trans ((below_bytes w2 5 s).mono hb1.size))
      have HSB := Aside0.mk hb1.size
      have hs12 : s.size ≤ 12 := by have := HL.out.2; omega
      have HPL := Aside0.mk hpl
      clear hconv hstr1 hb1 hpl
      generalize hcapE : grownCap w2 s.size 0 5 = cap0
      clear hcapE
      generalize Lib.bytesWorld w2 5 s = W at HRM HBW ⊢
      go_wp2_with (first | (go_at_call 30; refine (sort_calls w2.heap.size s.size cap0 w.heap.size (m.map fun x => (x.toNat : Int)) _ (by rw [List.length_map]; exact HL.out.2.symm) hs12 HRM.out HSB.out HBW.out.size).mono ?_; rintro e w4 ⟨rfl, ⟨ys, hyp, hyu, hyr⟩, hb4, hs4⟩; have HY := Aside0.mk (And.intro hyp hyu); have HYR := Aside0.mk hyr; have HB4 := Aside0.mk (HBW.out.trans hb4); clear hyp hyu hyr hb4 hs4) | (go_at_call 31; refine (rev_calls w2.heap.size s.size cap0 w.heap.size (fun t => ys.getD t 0) _ (by omega) HYR.out HSB.out HB4.out.size).mono ?_; rintro e w5 ⟨rfl, hr5, hb5, hs5⟩; have HR5 := Aside0.mk hr5; have HB5 := Aside0.mk (HB4.out.trans hb5); clear hr5 hb5 hs5))
      have hstr2 : ∀ n, (convert 38 9 (.slice (some ⟨w2.heap.size, 0, none⟩) s.size cap0)).run Tryd.prog (w5.drewN n) = .ok (.string ⟨(dscF dig9 m).toArray⟩) (w5.drewN n) := fun n =>
        conv_dsc (w5.drewN n) w2.heap.size s.size cap0 m ys HL.out.2.symm HDM.out HY.out.1 HY.out.2 (RowF.below HR5.out (pw_below_drewN (Below.refl _ _) n))
      have hdl : (dscF dig9 m).length = s.size := by
        have h1 := congrArg List.length (dsc_nums m ys HDM.out HY.out.1 (fun s t h1 h2 => HY.out.2 s t h1 (by have := HY.out.1.length_eq; rw [List.length_map] at this; have := HL.out.2; omega) h2))
        rw [List.length_map, List.length_reverse, HY.out.1.length_eq, List.length_map] at h1
        rw [h1]
        exact HL.out.2.symm
      have hrl : (⟨(dscF dig9 m).toArray⟩ : ByteArray).data.toList = dscF dig9 m := by simp
      have hrs : (⟨(dscF dig9 m).toArray⟩ : ByteArray).size = s.size := by rw [← hdl, ← hrl]; rfl
      generalize (⟨(dscF dig9 m).toArray⟩ : ByteArray) = r at hstr2 hrl hrs
      have hcat : (pre ++ r : ByteArray).data.toList = a0.data.toList.take j ++ dscF dig9 m := by
        rw [ByteArray.data_append, Array.toList_append, HPL.out, hrl]
      have p1 : (pre.size + r.size ≤ 9223372036854775807) = True := eq_true (by omega)
      have p3 : (9223372036854775807 < pre.size + r.size) = False := eq_false (by omega)
      have HCat := Aside0.mk hcat
      clear hcat hszs hdl hrl hrs
      go_wp2_with fail
      go_quiet (fail)
      go_wp2_with fail
      go_ret2
      refine ⟨?_, pw_below_drewN HB5.out nq⟩
      rw [HS.out]
      show Ending.returned (.tuple #[.string (pre ++ r), .int .i64 (s.size : Int)]) = .returned (.tuple #[.string ⟨(a0.data.toList.take j ++ dscF dig9 m).toArray⟩, .int .i64 ((m.length : Nat) : Int)])
      rw [← HCat.out, ← HL.out.2, show (⟨(pre ++ r : ByteArray).data.toList.toArray⟩ : ByteArray) = pre ++ r from by cases (pre ++ r : ByteArray); simp]
  · rw [if_neg hsz] at h
    exact absurd h (by simp)
theorem impl_stopped.calls (a0 : ByteArray) (a1 : Int) (a2 : Bool) (r1 : ByteArray) (r2 : Int) (w : World) (h : impl_stopped.f a0 a1 a2 = some (r1, r2)) :
    Calls Tryd.prog 26 #[.string a0, .int .i64 a1, .bool a2] w fun e w' => e = .returned (.tuple #[.string r1, .int .i64 r2]) ∧ Below w.heap.size w w' := by
  cases a2 with
  | false => exact stopped_false a0 a1 r1 r2 w h
  | true => exact stopped_true a0 a1 r1 r2 w h

/-! ### impl_moves: function 28 -/
def impl_moves.l0 : Nat → ByteArray → Bool → Int → Int → Option (Int)
  | 0, _, _, _, _ => none
  | k + 1, x0, x1, x5, x6 => if x6 ≤ 9 then ((impl_stopped.f x0 x6 x1).bind fun bt110 => (impl_moves.l0 k bt110.1 x1 (wrap64 (x5 + bt110.2)) (wrap64 (x6 + 1)))) else (some x5)
def impl_moves.f (k : Nat) (a0 : ByteArray) (a1 : Bool) : Option (Int) := impl_moves.l0 k a0 a1 0 1
theorem impl_moves.mono_l : ∀ k, (∀ y0 y1 y2 y3, LeO (impl_moves.l0 k y0 y1 y2 y3) (impl_moves.l0 (k + 1) y0 y1 y2 y3))
  | 0 => fun _ _ _ _ r h => by simp [impl_moves.l0] at h
  | k + 1 => by
    have ih0 := impl_moves.mono_l k
    · intro y0 y1 y2 y3
      unfold impl_moves.l0
      repeat' first
      | (with_reducible exact ih0 _ _ _ _)
      | (with_reducible exact LeO.refl _)
      | (with_reducible exact LeO.none _)
      | (with_reducible refine LeO.ite ?_ ?_)
      | (with_reducible refine LeO.bind ?_ (fun _ => ?_))
      | exact ih0 _ _ _ _
      | exact LeO.none _
      | refine LeO.ite ?_ ?_
      | refine LeO.bind ?_ (fun _ => ?_)
theorem impl_moves.mono : ∀ a0 a1 k, LeO (impl_moves.f k a0 a1) (impl_moves.f (k + 1) a0 a1) := by
  intro a0 a1 k
  have ih0 := impl_moves.mono_l k
  unfold impl_moves.f
  repeat' first
      | (with_reducible exact ih0 _ _ _ _)
      | (with_reducible exact LeO.refl _)
      | (with_reducible exact LeO.none _)
      | (with_reducible refine LeO.ite ?_ ?_)
      | (with_reducible refine LeO.bind ?_ (fun _ => ?_))
      | exact ih0 _ _ _ _
      | exact LeO.none _
      | refine LeO.ite ?_ ?_
      | refine LeO.bind ?_ (fun _ => ?_)
set_option maxHeartbeats 8000000 in
set_option maxRecDepth 100000 in
theorem impl_moves.calls (k : Nat) (a0 : ByteArray) (a1 : Bool) (r : Int) (w : World) (h : impl_moves.f k a0 a1 = some r) :
    Calls Tryd.prog 28 #[.string a0, .bool a1] w fun e w' => e = .returned (.int .i64 r) ∧ Below w.heap.size w w' := by
  have HB := Aside0.mk (Below.refl w.heap.size w)
  have H : (impl_moves.l0 k a0 a1 0 1) = some r := h
  clear h
  have H' := Aside0.mk H
  clear H
  go_enter Tryd.func28, Tryd.ntmps28
  go_wp2
  go_loopg [0, 5, 6] k (fun kq v0 v5 v6 w' => ∃ (x0_1 : ByteArray) (x5_1 : Int) (x6_1 : Int), v0 = .string x0_1 ∧ v5 = .int .i64 x5_1 ∧ v6 = .int .i64 x6_1 ∧ Aside0 (impl_moves.l0 kq x0_1 a1 x5_1 x6_1 = some r) ∧ Aside0 (kq ≤ k) ∧ Aside0 (Below w.heap.size w w'))
  case atStart => exact ⟨(a0), (0), (1), (by first | rfl | (simp; done) | (simp [*]; done)), (by first | rfl | (simp; done) | (simp [*]; done)), (by first | rfl | (simp; done) | (simp [*]; done)), H', ⟨Nat.le_refl _⟩, ⟨by repeat (first | (with_reducible first | exact HB.out | apply below_alloc | apply pw_below_drewN | apply below_drew1) | exact HB.out)⟩⟩
  case round =>
    clear H'
    try clear c2
    try clear p2
    obtain ⟨x0_1, x5_1, x6_1, rfl, rfl, rfl, HA, HK1, HB⟩ := hrel
    cases gk with
    | zero => exact absurd HA.out (by simp [impl_moves.l0])
    | succ k1 =>
      have H := HA.out
      clear HA
      simp only [impl_moves.l0] at H
      by_cases c3 : x6_1 ≤ 9
      · rw [if_pos c3] at H
        have c3b0 : decide (x6_1 ≤ 9) = true := decide_eq_true c3
        clear c3
        replace H := Option.bind_eq_some_iff.mp H
        obtain ⟨⟨t110, t111⟩, A40, H⟩ := H
        replace H : (impl_moves.l0 k1 t110 a1 (wrap64 (x5_1 + t111)) (wrap64 (x6_1 + 1))) = some r := H
        have A4 := Aside0.mk A40
        clear A40
        have H' := Aside0.mk H
        clear H
        go_wp2_with (first | ((with_reducible refine gate_callee (f := 26) rfl ?_); refine goesL_ (some 17) rfl rfl Tryd.func26 (by kernel_rfl) rfl #[.string x0_1, .int .i64 x6_1, .bool a1] rfl (by (try simp only [List.map_toArray, List.map_cons, List.map_nil]); first | done | rfl | (simp only [List.length_drop, List.length_take]; rfl)) ?_; (with_reducible refine (impl_stopped.calls x0_1 x6_1 a1 t110 t111 _ A4.out).mono ?_); rintro e w5 ⟨rfl, hb⟩; refine ⟨_, rfl, ?_⟩; have n0_ := Aside0.mk (below_step (by repeat (first | (with_reducible first | exact HB.out | apply below_alloc | apply pw_below_drewN | apply below_drew1) | exact HB.out)) hb); clear HB; have HB := n0_; clear n0_; (try clear hb); (try clear hb2); (try clear hk); (try clear hi)))
        go_roundg k1
        case measure => have := HK1.out; omega
        case rel => exact ⟨(t110), (wrap64 (x5_1 + t111)), (wrap64 (x6_1 + 1)), (by first | rfl | (simp; done) | (simp [*]; done)), (by first | rfl | (simp; done) | (simp [*]; done)), (by first | rfl | (simp; done) | (simp [*]; done)), H', ⟨by have := HK1.out; omega⟩, ⟨by repeat (first | (with_reducible first | exact HB.out | apply below_alloc | apply pw_below_drewN | apply below_drew1) | exact HB.out)⟩⟩
      · rw [if_neg c3] at H
        have c3b0 : decide (x6_1 ≤ 9) = false := decide_eq_false c3
        clear c3
        obtain rfl := Option.some.inj H
        go_wp2
        go_ret
        exact ⟨by first | rfl | (simp [errW_none, errW_some] <;> rfl) | (simp [*, errW_none, errW_some] <;> rfl), by repeat (first | (with_reducible first | exact HB.out | apply below_alloc | apply pw_below_drewN | apply below_drew1) | exact HB.out)⟩

/-! ### impl_ExtraBySorting: function 12 -/
def impl_ExtraBySorting.f (k : Nat) (a0 : ByteArray) : Option (Int × Bool) := (impl_IsLoading.f a0).bind fun t112 => (if t112 = true then ((impl_moves.f k a0 true).bind fun t113 => (some (t113, true))) else (some (0, false)))
theorem impl_ExtraBySorting.mono : ∀ a0 k, LeO (impl_ExtraBySorting.f k a0) (impl_ExtraBySorting.f (k + 1) a0) := by
  intro a0 k
  unfold impl_ExtraBySorting.f
  repeat' first
      | (with_reducible exact impl_moves.mono _ _ _)
      | (with_reducible exact LeO.refl _)
      | (with_reducible exact LeO.none _)
      | (with_reducible refine LeO.ite ?_ ?_)
      | (with_reducible refine LeO.bind ?_ (fun _ => ?_))
      | exact impl_moves.mono _ _ _
      | exact LeO.none _
      | refine LeO.ite ?_ ?_
      | refine LeO.bind ?_ (fun _ => ?_)
set_option maxHeartbeats 8000000 in
set_option maxRecDepth 100000 in
theorem impl_ExtraBySorting.calls (k : Nat) (a0 : ByteArray) (r1 : Int) (r2 : Bool) (w : World) (h : impl_ExtraBySorting.f k a0 = some (r1, r2)) :
    Calls Tryd.prog 12 #[.string a0] w fun e w' => e = .returned (.tuple #[.int .i64 r1, .bool r2]) ∧ Below w.heap.size w w' := by
  have HB := Aside0.mk (Below.refl w.heap.size w)
  have H : ((impl_IsLoading.f a0).bind fun t112 => (if t112 = true then ((impl_moves.f k a0 true).bind fun t113 => (some (t113, true))) else (some (0, false)))) = some (r1, r2) := h
  clear h
  replace H := Option.bind_eq_some_iff.mp H
  obtain ⟨t112, A20, H⟩ := H
  replace H : (if t112 = true then ((impl_moves.f k a0 true).bind fun t113 => (some (t113, true))) else (some (0, false))) = some (r1, r2) := H
  have A2 := Aside0.mk A20
  clear A20
  by_cases c3 : t112 = true
  · subst c3
    have H1 : ((impl_moves.f k a0 true).bind fun t113 => (some (t113, true))) = some (r1, r2) := by rw [if_pos rfl] at H; exact H
    clear H
    have H := H1
    clear H1
    replace H := Option.bind_eq_some_iff.mp H
    obtain ⟨t113, A40, H⟩ := H
    replace H : (some (t113, true)) = some (r1, r2) := H
    have A4 := Aside0.mk A40
    clear A40
    simp only [Option.some.injEq, Prod.mk.injEq] at H
    obtain ⟨rfl, rfl⟩ := H
    go_enter Tryd.func12, Tryd.ntmps12
    go_wp2_with (first | ((with_reducible refine gate_callee (f := 24) rfl ?_); refine goesL_ (some 5) rfl rfl Tryd.func24 (by kernel_rfl) rfl #[.string a0] rfl (by (try simp only [List.map_toArray, List.map_cons, List.map_nil]); first | done | rfl | (simp only [List.length_drop, List.length_take]; rfl)) ?_; (with_reducible refine (impl_IsLoading.calls a0 true _ A2.out).mono ?_); rintro e w5 ⟨rfl, hb⟩; refine ⟨_, rfl, ?_⟩; have n0_ := Aside0.mk (below_step (by repeat (first | (with_reducible first | exact HB.out | apply below_alloc | apply pw_below_drewN | apply below_drew1) | exact HB.out)) hb); clear HB; have HB := n0_; clear n0_; (try clear hb); (try clear hb2); (try clear hk); (try clear hi)) | ((with_reducible refine gate_callee (f := 28) rfl ?_); refine goesL_ (some 8) rfl rfl Tryd.func28 (by kernel_rfl) rfl #[.string a0, .bool true] rfl (by (try simp only [List.map_toArray, List.map_cons, List.map_nil]); first | done | rfl | (simp only [List.length_drop, List.length_take]; rfl)) ?_; (with_reducible refine (impl_moves.calls k a0 true t113 _ A4.out).mono ?_); rintro e w6 ⟨rfl, hb⟩; refine ⟨_, rfl, ?_⟩; have n0_ := Aside0.mk (below_step (by repeat (first | (with_reducible first | exact HB.out | apply below_alloc | apply pw_below_drewN | apply below_drew1) | exact HB.out)) hb); clear HB; have HB := n0_; clear n0_; (try clear hb); (try clear hb2); (try clear hk); (try clear hi)))
    go_ret2
    exact ⟨by first | rfl | (simp [errW_none, errW_some] <;> rfl) | (simp [*, errW_none, errW_some] <;> rfl), by repeat (first | (with_reducible first | exact HB.out | apply below_alloc | apply pw_below_drewN | apply below_drew1) | exact HB.out)⟩
  · replace c3 := Bool.eq_false_iff.mpr c3
    subst c3
    have H1 : (some (0, false)) = some (r1, r2) := by rw [if_neg (show ¬ (false = true) by decide)] at H; exact H
    clear H
    have H := H1
    clear H1
    simp only [Option.some.injEq, Prod.mk.injEq] at H
    obtain ⟨rfl, rfl⟩ := H
    go_enter Tryd.func12, Tryd.ntmps12
    go_wp2_with (first | ((with_reducible refine gate_callee (f := 24) rfl ?_); refine goesL_ (some 5) rfl rfl Tryd.func24 (by kernel_rfl) rfl #[.string a0] rfl (by (try simp only [List.map_toArray, List.map_cons, List.map_nil]); first | done | rfl | (simp only [List.length_drop, List.length_take]; rfl)) ?_; (with_reducible refine (impl_IsLoading.calls a0 false _ A2.out).mono ?_); rintro e w7 ⟨rfl, hb⟩; refine ⟨_, rfl, ?_⟩; have n0_ := Aside0.mk (below_step (by repeat (first | (with_reducible first | exact HB.out | apply below_alloc | apply pw_below_drewN | apply below_drew1) | exact HB.out)) hb); clear HB; have HB := n0_; clear n0_; (try clear hb); (try clear hb2); (try clear hk); (try clear hi)))
    go_ret2
    exact ⟨by first | rfl | (simp [errW_none, errW_some] <;> rfl) | (simp [*, errW_none, errW_some] <;> rfl), by repeat (first | (with_reducible first | exact HB.out | apply below_alloc | apply pw_below_drewN | apply below_drew1) | exact HB.out)⟩

/-! ### laws_FnExactExtraBySorting: function 4 -/
def laws_FnExactExtraBySorting.f (k : Nat) (a0 : ByteArray) : Option (Bool) := if (a0.size : Int) > 1048576 then (some true) else ((spec_ExtraBySorting.f k a0).bind fun bt114 => ((impl_ExtraBySorting.f k a0).bind fun bt116 => (if bt116.1 = bt114.1 then (if (bt116.2 != bt114.2) = true then (none) else (some true)) else (none))))
theorem laws_FnExactExtraBySorting.mono : ∀ a0 k, LeO (laws_FnExactExtraBySorting.f k a0) (laws_FnExactExtraBySorting.f (k + 1) a0) := by
  intro a0 k
  unfold laws_FnExactExtraBySorting.f
  repeat' first
      | (with_reducible exact impl_ExtraBySorting.mono _ _)
      | (with_reducible exact spec_ExtraBySorting.mono _ _)
      | (with_reducible exact LeO.refl _)
      | (with_reducible exact LeO.none _)
      | (with_reducible refine LeO.ite ?_ ?_)
      | (with_reducible refine LeO.bind ?_ (fun _ => ?_))
      | exact impl_ExtraBySorting.mono _ _
      | exact spec_ExtraBySorting.mono _ _
      | exact LeO.none _
      | refine LeO.ite ?_ ?_
      | refine LeO.bind ?_ (fun _ => ?_)
set_option maxHeartbeats 8000000 in
set_option maxRecDepth 100000 in
theorem laws_FnExactExtraBySorting.calls (k : Nat) (a0 : ByteArray) (r : Bool) (w : World) (hrt : r = true) (h : laws_FnExactExtraBySorting.f k a0 = some r) :
    Calls Tryd.prog 4 #[.string a0] w fun e w' => e = .returned (.bool r) ∧ Below w.heap.size w w' := by
  have HRT := Aside0.mk hrt
  clear hrt
  have HB := Aside0.mk (Below.refl w.heap.size w)
  have H : (if (a0.size : Int) > 1048576 then (some true) else ((spec_ExtraBySorting.f k a0).bind fun bt114 => ((impl_ExtraBySorting.f k a0).bind fun bt116 => (if bt116.1 = bt114.1 then (if (bt116.2 != bt114.2) = true then (none) else (some true)) else (none))))) = some r := h
  clear h
  by_cases c2 : (a0.size : Int) > 1048576
  · rw [if_pos c2] at H
    have c2b0 : decide (1048576 < (a0.size : Int)) = true := decide_eq_true c2
    have c2b1 : decide (1048576 < a0.size) = true := decide_eq_true (by omega)
    clear c2
    obtain rfl := Option.some.inj H
    go_enter Tryd.func4, Tryd.ntmps4
    go_wp2
    go_ret
    exact ⟨by first | rfl | (simp [errW_none, errW_some] <;> rfl) | (simp [*, errW_none, errW_some] <;> rfl), by repeat (first | (with_reducible first | exact HB.out | apply below_alloc | apply pw_below_drewN | apply below_drew1) | exact HB.out)⟩
  · rw [if_neg c2] at H
    have c2b0 : decide (1048576 < (a0.size : Int)) = false := decide_eq_false c2
    have c2b1 : decide (1048576 < a0.size) = false := decide_eq_false (by omega)
    clear c2
    replace H := Option.bind_eq_some_iff.mp H
    obtain ⟨⟨t114, t115⟩, A30, H⟩ := H
    replace H : ((impl_ExtraBySorting.f k a0).bind fun bt116 => (if bt116.1 = t114 then (if (bt116.2 != t115) = true then (none) else (some true)) else (none))) = some r := H
    have A3 := Aside0.mk A30
    clear A30
    replace H := Option.bind_eq_some_iff.mp H
    obtain ⟨⟨t116, t117⟩, A40, H⟩ := H
    replace H : (if t116 = t114 then (if (t117 != t115) = true then (none) else (some true)) else (none)) = some r := H
    have A4 := Aside0.mk A40
    clear A40
    by_cases c5 : t116 = t114
    · rw [if_pos c5] at H
      have c5b0 : (t116 == t114) = true := beq_iff_eq.mpr c5
      have c5b1 : (t116 != t114) = false := bne_eq_false_iff_eq.mpr c5
      clear c5
      by_cases c6 : (t117 != t115) = true
      · rw [if_pos c6] at H
        exact absurd H (by simp)
      · rw [if_neg c6] at H
        have c6b0 : (t117 != t115) = false := by simpa using c6
        (try (have c6b1 : decide (t117 = t115) = true := by simpa using c6))
        (try (have c6b2 : (t117 == t115) = true := by simpa using c6))
        clear c6
        obtain rfl := Option.some.inj H
        go_enter Tryd.func4, Tryd.ntmps4
        go_wp2_with (first | ((with_reducible refine gate_callee (f := 11) rfl ?_); refine goesL_ (some 12) rfl rfl Tryd.func11 (by kernel_rfl) rfl #[.string a0] rfl (by (try simp only [List.map_toArray, List.map_cons, List.map_nil]); first | done | rfl | (simp only [List.length_drop, List.length_take]; rfl)) ?_; (with_reducible refine (spec_ExtraBySorting.calls k a0 t114 t115 _ A3.out).mono ?_); rintro e w' ⟨rfl, ⟨nd, rfl⟩⟩; refine ⟨_, rfl, ?_⟩) | ((with_reducible refine gate_callee (f := 12) rfl ?_); refine goesL_ (some 17) rfl rfl Tryd.func12 (by kernel_rfl) rfl #[.string a0] rfl (by (try simp only [List.map_toArray, List.map_cons, List.map_nil]); first | done | rfl | (simp only [List.length_drop, List.length_take]; rfl)) ?_; (with_reducible refine (impl_ExtraBySorting.calls k a0 t116 t117 _ A4.out).mono ?_); rintro e w7 ⟨rfl, hb⟩; refine ⟨_, rfl, ?_⟩; have n0_ := Aside0.mk (below_step (by repeat (first | (with_reducible first | exact HB.out | apply below_alloc | apply pw_below_drewN | apply below_drew1) | exact HB.out)) hb); clear HB; have HB := n0_; clear n0_; (try clear hb); (try clear hb2); (try clear hk); (try clear hi)))
        go_ret
        exact ⟨by first | rfl | (simp [errW_none, errW_some] <;> rfl) | (simp [*, errW_none, errW_some] <;> rfl), by repeat (first | (with_reducible first | exact HB.out | apply below_alloc | apply pw_below_drewN | apply below_drew1) | exact HB.out)⟩
    · rw [if_neg c5] at H
      exact absurd H (by simp)

/-- THE ONE PURE STATEMENT of laws_FnExactExtraBySorting: yours. -/
def laws_FnExactExtraBySorting.Pure : Prop := ∀ (a0 : ByteArray), a0.size ≤ 140737488351232 → ∃ k, laws_FnExactExtraBySorting.f k a0 = some true
theorem laws_FnExactExtraBySorting.walk (P : laws_FnExactExtraBySorting.Pure) (a0 : ByteArray) (w : World) (w0 : a0.size ≤ 140737488351232) :
    Calls Tryd.prog 4 #[.string a0] w fun e w' => e = .returned (.bool true) ∧ Below w.heap.size w w' := by
  obtain ⟨k, h⟩ := P a0 w0
  refine (laws_FnExactExtraBySorting.calls k a0 true w rfl h).mono ?_
  rintro e w' ⟨rfl, hd⟩
  exact ⟨rfl, hd⟩

end Go.Proofs.YtbjjmnnbkaoajaaDoor.M

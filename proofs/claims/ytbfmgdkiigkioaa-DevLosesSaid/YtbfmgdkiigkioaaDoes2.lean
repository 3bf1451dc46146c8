/- The walk of does where both devices are one: Read and Plan; every call. -/
import Derived.Test.YtbfmgdkiigkioaaRefRead
import Derived.Test.YtbfmgdkiigkioaaPlan
import Derived.Test.YtbfmgdkiigkioaaOpens
namespace Go.Proofs.Ytbfmgdkiigkioaa
open Go.RowKit Go.LawEnd

def slen : Value → Nat
  | .slice _ n _ => n
  | _ => 0
theorem rowI_own {w : World} {v : Value} {fs : List Int} (h : w.ownsRow 0 3 1 v fs.length (ints fs)) : RowI w v fs := by
  rcases h.2 with ⟨rfl, h0⟩ | ⟨g, cap, cur, rfl, _, hh, _⟩
  · exact .inl ⟨List.eq_nil_of_length_eq_zero h0, rfl⟩
  · refine .inr ⟨g, 0, cap, rfl, lt_of_obj hh, fun j hj => ?_⟩
    rw [Nat.zero_add, h.cellAt j (by omega)]
    simp [ints, List.getElem?_eq_getElem hj]
set_option maxRecDepth 100000 in
set_option maxHeartbeats 3200000 in
theorem fates_any (m0 : Int) (w : World) : Calls Try.prog 40 #[.int .i64 m0] w fun e w' => ∃ vK fs, e = .returned vK ∧ Hv w No [rowA vK 3 1 fs.length (ints fs)] w' ∧ (fs.length ≤ 3 ∧ ∀ f ∈ fs, 0 ≤ f) := by
  go_enter Try.func40, Try.ntmps40
  go_wp2_with fail
  go_loopw [0, 3] (fun a o wr => ∃ (m : Int) (fs : List Int), a = .int .i64 m ∧ slen o = fs.length ∧ Hid (fs.length ≤ 3 ∧ ∀ f ∈ fs, 0 ≤ f) ∧ Hid (Hv w No [rowA o 3 1 fs.length (ints fs)] wr)) (fun _ o _ => 3 - slen o)
  case atStart => exact ⟨m0, [], rfl, rfl, ⟨by decide, fun _ h => by cases h⟩, (Hv.begin w).nilRow 3 1⟩
  case round =>
    rename_i a o
    obtain ⟨m, fs, rfl, hsl, HF, HV⟩ := hrel
    obtain ⟨A, c, rfl⟩ := row_form (HV.out.row (i := 0) rfl)
    obtain ⟨L, hL⟩ : ∃ L, L = fs.length := ⟨_, rfl⟩
    have HLL := Lib.hid hL
    by_cases hm : 0 < m
    · have d1 : decide (0 < m) = true := decide_eq_true hm
      by_cases hl : fs.length < 3
      · have d2 : decide ((L : Int) < 3) = true := decide_eq_true (by omega)
        obtain ⟨i0, hi0, hz0, hz1, hz2⟩ := infoInt
        obtain ⟨g, cap, W2, hE, hH, _, _⟩ := HV.out.append (P := Try.prog) 50 50 3 (i := i0) (bytes := 8) Try.underlying50 hi0 hz0 hz1 hz2 rfl (by omega) 1 (by omega) #[.int .i64 (m.tmod 4)] rfl (by intro u hu; simp at hu; subst hu; rfl) (by unfold maxLen; omega) (by omega)
        have h2 : Hv w No [rowA (.slice (some ⟨g, 0, none⟩) (L + 1) cap) 3 1 (fs ++ [m.tmod 4]).length (ints (fs ++ [m.tmod 4]))] W2 := by
          have e1 : (fs ++ [m.tmod 4]).length = fs.length + 1 := by simp
          have e2 : ints (fs ++ [m.tmod 4]) = ints fs ++ [.int .i64 (m.tmod 4)] := by simp [ints]
          rw [e1, e2, hL]
          exact hH
        have H2 := Lib.hid h2
        have HF2 : Hid ((fs ++ [m.tmod 4]).length ≤ 3 ∧ ∀ f ∈ fs ++ [m.tmod 4], 0 ≤ f) := by
          refine ⟨by simp; omega, fun f hf => ?_⟩
          rcases List.mem_append.1 hf with h | h
          · exact HF.out.2 f h
          · rw [List.mem_singleton.1 h]; exact Int.tmod_nonneg 4 (by omega)
        have HS2 : Hid (L + 1 = (fs ++ [m.tmod 4]).length) := by show _ = _; rw [hL]; simp
        rw [← hL] at hE hl hsl ⊢
        have HE := Lib.hid hE
        clear hE hH h2 hi0 hz0 hz1 hz2 hm hL HV hsl
        go_wp2_with (at_builtin; refine wpList_append_run rfl (.tmp 11) (.tmp 14) _ rfl HE.out ?_)
        go_roundw
        case rel => exact ⟨_, _, rfl, HS2.out, HF2, H2⟩
        case measure => show 3 - (L + 1) < 3 - L; omega
      · have d2 : decide ((L : Int) < 3) = false := decide_eq_false (by omega)
        have HRR := HV
        rw [← hL] at HRR hsl ⊢
        clear HV hm hl hL hsl
        go_wp2_with fail
        go_ret
        exact ⟨_, fs, rfl, by rw [← HLL.out]; exact HRR.out, HF.out⟩
    · have d1 : decide (0 < m) = false := decide_eq_false hm
      have HRR := HV
      rw [← hL] at HRR hsl ⊢
      clear HV hm hL hsl
      go_wp2_with fail
      go_ret
      exact ⟨_, fs, rfl, by rw [← HLL.out]; exact HRR.out, HF.out⟩
def fewF (f : Int) : Bool := decide (f ≤ 2)
set_option maxRecDepth 100000 in
set_option maxHeartbeats 3200000 in
theorem plans_any {vK : Value} (fs : List Int) (w : World) (hK : Hid (RowI w vK fs)) (hb : fs.length ≤ 100000) :
    Calls Try.prog 41 #[vK] w fun e w' => e = .returned (.bool (fs.all fewF)) ∧ w = w' := by
  obtain ⟨A, c, rfl, hc⟩ := hK.out.form
  obtain ⟨n, hn⟩ : ∃ n, n = fs.length := ⟨_, rfl⟩
  have HN := Lib.hid hn
  have HC := Lib.hid hc
  rw [← hn] at hb ⊢
  clear hn hc hK
  go_enter Try.func41, Try.ntmps41
  go_wp2_with fail
  go_loopw [3] (fun i wr => ∃ k : Nat, k ≤ n ∧ i = .int .i64 k ∧ wr = w ∧ Hid ((fs.take k).all fewF = true)) (fun i _ => n - (intOf i).toNat)
  case atStart => exact ⟨0, by omega, rfl, rfl, by show _ = _; simp⟩
  case round =>
    obtain ⟨k, hk, rfl, rfl, HT⟩ := hrel
    by_cases hkl : k < n
    · have hk' : k < fs.length := by rw [← HN.out]; exact hkl
      obtain ⟨kb, ko, rfl, c0⟩ := HC.out k hk'
      obtain ⟨f, hf⟩ : ∃ f, f = fs[k] := ⟨_, rfl⟩
      rw [← hf] at c0
      have HF : Hid (fs[k]? = some f) := by show _ = _; rw [hf, List.getElem?_eq_getElem hk']
      clear hf hk'
      by_cases h2 : 2 < f
      · have d1 : decide (2 < f) = true := decide_eq_true h2
        have HA : Hid (fs.all fewF = false) := by
          show _ = _
          rw [List.all_eq_false]
          exact ⟨f, List.mem_of_getElem? HF.out, by unfold fewF; rw [decide_eq_false (by omega)]; simp⟩
        clear h2
        go_wp2_with fail
        go_ret
        exact ⟨by (first | (rw [HA.out]; done) | (rw [HA.out]; rfl)), rfl⟩
      · have d1 : decide (2 < f) = false := decide_eq_false h2
        have HT2 : Hid ((fs.take (k + 1)).all fewF = true) := by
          show _ = _
          rw [List.take_add_one, HF.out, List.all_append, HT.out]
          simp [fewF]; omega
        clear h2
        go_wp2_with fail
        go_roundw
        case rel => exact ⟨k + 1, by omega, rfl, trivial, HT2⟩
        case measure => simp [intOf]; omega
    · obtain rfl : k = n := by omega
      have HA : Hid (fs.all fewF = true) := by
        have := HT.out
        rw [HN.out, List.take_length] at this
        exact this
      go_wp2
      go_ret
      exact ⟨by (first | (rw [HA.out]; done) | (rw [HA.out]; rfl)), rfl⟩
theorem few_ok {fs : List Int} (h : ∀ f ∈ fs, 0 ≤ f) : fs.all fewF = fs.all okFate := by
  induction fs with
  | nil => rfl
  | cons f fs ih =>
    rw [List.all_cons, List.all_cons, ih fun g hg => h g (List.mem_cons_of_mem _ hg)]
    congr 1
    unfold fewF okFate
    rw [decide_eq_true (h f (List.mem_cons_self ..)), Bool.true_and]
section
variable {T : Nat → Prop} {d r : Nat} {D : Dv} {w : World}
set_option maxRecDepth 100000 in
set_option maxHeartbeats 6400000 in
theorem does_read (s n : Int) (lD : Hid (D.opn.length ≤ 100000)) (hb : Hid (OkB D)) (h : Hid (Sep [devA d D, refA r D] w T)) :
    Calls Try.prog 20 #[.pointer (some ⟨d, 0, none⟩), .pointer (some ⟨r, 0, none⟩), .agg #[.int .i64 1, .int .i64 s, .int .i64 n]] w fun e w' =>
      e = .returned (.bool true) ∧ Hv w T [devA d (readF D s).2.2, refA r (readF D s).2.2] w' := by
  have hz := zero34
  have hml := markC_length
  have hlb := laid_bl
  go_enter Try.func20, Try.ntmps20
  go_upto_region 5 with (fail)
  obtain ⟨P5, hP5⟩ : ∃ y, y = w.heap.size := ⟨_, rfl⟩
  obtain ⟨V, hV⟩ : ∃ y, y = w.alloc (.cells #[.int .i64 1, .int .i64 s, .int .i64 n] 31) := ⟨_, rfl⟩
  have hv := (Hv.start h.out).alloc 31 #[.int .i64 1, .int .i64 s, .int .i64 n]
  rw [← hV, ← hP5] at hv
  rw [← hV, ← hP5]
  have HX : Hid (Hv w T [devA d D, refA r D, blkA P5 31 #[.int .i64 1, .int .i64 s, .int .i64 n]] V) := hv.pick [1, 2, 0]
  have k1 : V.cell? ⟨P5, 1, none⟩ = some (.int .i64 s) := by simpa using (hv.blk (i := 0) rfl).cell 1
  clear hV hP5 hv h
  have HZR : 0 ≤ (readF D s).1 ∧ (readF D s).1 < 256 := by
    unfold readF
    split
    · split
      · exact ⟨Int.le_refl 0, by show (0 : Int) < 256; omega⟩
      · exact shown_byte hb.out
    · exact ⟨Int.le_refl 0, by show (0 : Int) < 256; omega⟩
  have hev := fun w => eql_block HZR HZR w
  rw [show decide ((readF D s).1 = (readF D s).1) = true from decide_eq_true rfl] at hev
  obtain ⟨D', hD'⟩ : ∃ y, y = (readF D s).2.2 := ⟨_, rfl⟩
  obtain ⟨z, hzz⟩ : ∃ y, y = (readF D s).1 := ⟨_, rfl⟩
  obtain ⟨q, hqq⟩ : ∃ y, y = (readF D s).2.1 := ⟨_, rfl⟩
  rw [← hzz] at hev
  have HZZ := Lib.hid hzz
  have HQQ := Lib.hid hqq
  have HDD := Lib.hid hD'
  clear hzz hqq hD'
  go_wp2_with fail
  obtain ⟨T1, hT1, hJ1⟩ := Hv.use [devA d D] _ HX.out
  refine (read_any s lD (Lib.hid hT1)).mono ?_
  rintro e W2 ⟨rfl, h2⟩
  rw [← HZZ.out, ← HQQ.out]
  rw [← HDD.out] at h2
  have HX2 : Hid (Hv w T [devA d D', refA r D, blkA P5 31 #[.int .i64 1, .int .i64 s, .int .i64 n]] W2) := hJ1 _ _ h2
  have k1 : (W2.alloc (.cells (markC z).toArray 34)).cell? ⟨P5, 1, none⟩ = some (.int .i64 s) := by simpa using ((HX2.out.alloc_ (.cells (markC z).toArray 34)).blk (i := 2) rfl).cell 1
  clear h2 hT1 hJ1 HX HZR
  go_wp2_with fail
  obtain ⟨P7, hP7⟩ : ∃ y, y = W2.heap.size := ⟨_, rfl⟩
  obtain ⟨W3, hW3⟩ : ∃ y, y = W2.alloc (.cells (markC z).toArray 34) := ⟨_, rfl⟩
  have h3 := HX2.out.alloc 34 (markC z).toArray
  rw [← hW3, ← hP7] at h3
  rw [← hW3, ← hP7]
  have HX3 : Hid (Hv w T [refA r D, devA d D', blkA P7 34 (markC z).toArray] W3) := h3.pick [2, 1, 0]
  clear h3 hW3 hP7 HX2 k1
  obtain ⟨T1, hT1, hJ1⟩ := Hv.use [refA r D] _ HX3.out
  refine (rread_any s lD (Lib.hid hT1)).mono ?_
  rintro e W4 ⟨rfl, h4⟩
  rw [← HZZ.out, ← HQQ.out]
  rw [← HDD.out] at h4
  have HX4 : Hid (Hv w T [refA r D', devA d D', blkA P7 34 (markC z).toArray] W4) := hJ1 _ _ h4
  clear h4 hT1 hJ1 HX3
  go_upto_region 7 with (fail)
  obtain ⟨P9, hP9⟩ : ∃ y, y = W4.heap.size := ⟨_, rfl⟩
  obtain ⟨W5, hW5⟩ : ∃ y, y = W4.alloc (.cells (markC z).toArray 34) := ⟨_, rfl⟩
  have h5 := HX4.out.alloc 34 (markC z).toArray
  rw [← hW5, ← hP9] at h5
  rw [← hW5, ← hP9]
  have hr7 : W5.rangeAt P7 0 (markC z) := blk_range (h5.blk (i := 3) rfl)
  have hr9 : W5.rangeAt P9 0 (markC z) := blk_range (h5.blk (i := 0) rfl)
  have HX5 : Hid (Hv w T [devA d D', refA r D'] W5) := h5.pick [2, 1]
  clear h5 hW5 hP9 HX4
  go_wp2_with (first
    | (refine step_load_block hr7 rfl (.tmp 7) rfl rfl ?_)
    | (refine step_load_block hr9 rfl (.tmp 9) rfl rfl ?_)
    | fail)
  go_ret
  exact ⟨rfl, by rw [← HDD.out]; exact HX5.out⟩
set_option maxRecDepth 100000 in
set_option maxHeartbeats 6400000 in
theorem does_plan (a s n : Int) (ha : Hid (a ≠ 0 ∧ a ≠ 1 ∧ a ≠ 2)) (lp : Hid (D.plan.length ≤ 50000)) (h : Hid (Sep [devA d D, refA r D] w T)) :
    Calls Try.prog 20 #[.pointer (some ⟨d, 0, none⟩), .pointer (some ⟨r, 0, none⟩), .agg #[.int .i64 a, .int .i64 s, .int .i64 n]] w fun e w' =>
      ∃ fs : List Int, e = .returned (.bool true) ∧ fs.length ≤ 3 ∧ Hv w T [devA d (planF D fs).2, refA r (planF D fs).2] w' := by
  have a0 : (a == 0) = false := by rw [beq_eq_false_iff_ne]; exact ha.out.1
  have a1 : (a == 1) = false := by rw [beq_eq_false_iff_ne]; exact ha.out.2.1
  have a2 : (a == 2) = false := by rw [beq_eq_false_iff_ne]; exact ha.out.2.2
  go_enter Try.func20, Try.ntmps20
  go_wp2_with fail
  have HX : Hid (Hv w T [devA d D, refA r D] (w.alloc (.cells #[.int .i64 a, .int .i64 s, .int .i64 n] 31))) := (Hv.start h.out).alloc_ _
  refine (fates_any n _).mono ?_
  rintro e W1 ⟨vK, fs, rfl, hK, ⟨hl, hf⟩⟩
  have HX1 : Hid (Hv w T [rowA vK 3 1 fs.length (ints fs), devA d D, refA r D] W1) := HX.out.add hK
  have HF := Lib.hid hf
  have HL := Lib.hid hl
  obtain ⟨A, c, rfl⟩ := row_form (HX1.out.row (i := 0) rfl)
  clear hK HX h hf
  go_wp2_with fail
  obtain ⟨T1, hT1, hJ1⟩ := Hv.use [devA d D] _ (HX1.out.pick [1, 0, 2])
  refine (plan_any (R := []) fs (Lib.hid (rowI_own (HX1.out.row (i := 0) rfl))) (Lib.hid (by have := lp.out; omega)) (Lib.hid hT1)).mono ?_
  rintro e W2 ⟨rfl, h2⟩
  have HX2 : Hid (Hv w T [rowA (.slice A fs.length c) 3 1 fs.length (ints fs), refA r D, devA d (planF D fs).2] W2) := (hJ1 _ _ h2).pick [1, 2, 0]
  clear h2 hT1 hJ1 HX1
  go_wp2_with fail
  refine (plans_any fs _ (Lib.hid (rowI_own (HX2.out.row (i := 0) rfl))) (by omega)).mono ?_
  rintro e W3 ⟨rfl, rfl⟩
  rw [few_ok HF.out]
  cases hz : fs.all okFate with
  | false =>
    have HPF : Hid (planF D fs = (1, D)) := by show _ = _; unfold planF; rw [hz]; rfl
    rw [HPF.out] at HX2 ⊢
    clear hz
    go_wp2_with fail
    go_ret
    exact ⟨fs, rfl, HL.out, by rw [HPF.out]; exact HX2.out.pick [2, 1]⟩
  | true =>
    have HPF : Hid (planF D fs = (0, planD D fs)) := by show _ = _; unfold planF; rw [hz]; rfl
    rw [HPF.out] at HX2 ⊢
    obtain ⟨AF, cF, AO, cO, AP, cP, k0, k1, k2, hv⟩ := ref_cells (HX2.out.pick [1, 0, 2])
    obtain ⟨A', c', W4, hE, hH⟩ := app_plan (hv.pick [3, 0, 1, 2, 4, 5]) (rowI_own (HX2.out.row (i := 0) rfl)) (by have := lp.out; omega)
    have HE := Lib.hid hE
    have hH2 : Hv w T [blkA r 52 #[.slice AF D.firm.length cF, .slice AO D.opn.length cO, .slice AP D.plan.length cP], winA (.slice A' (D.plan ++ fs).length c') 3 (D.plan ++ fs).length (ints (D.plan ++ fs)), blA (.slice AF D.firm.length cF) D.firm, rwA (.slice AO D.opn.length cO) D.opn, devA d (planD D fs)] W4 := hH.pick [1, 0, 2, 3, 5]
    have c0 := (hH2.blk (i := 0) rfl).frozen 2
    have c1 : W4.cell? ⟨r, 2, none⟩ = some (.slice AP D.plan.length cP) := by simpa using (hH2.blk (i := 0) rfl).cell 2
    have h3 := hH2.set 2 (.slice A' (D.plan ++ fs).length c')
    have H3 : Hid (Hv w T [devA d (planD D fs), refA r (planD D fs)] (W4.setCell ⟨r, 2, none⟩ (.slice A' (D.plan ++ fs).length c'))) := by
      have h4 : Hv w T [refA r (planD D fs), devA d (planD D fs)] (W4.setCell ⟨r, 2, none⟩ (.slice A' (D.plan ++ fs).length c')) := by
        refine ref_close (D := planD D fs) (vF := .slice AF D.firm.length cF) (vO := .slice AO D.opn.length cO) (vP := .slice A' (D.plan ++ fs).length c') ?_
        exact h3.pick [0, 2, 3, 1, 4]
      exact h4.pick [1, 0]
    obtain ⟨p0, hp0⟩ : ∃ p, p = D.plan.length := ⟨_, rfl⟩
    obtain ⟨p1, hp1⟩ : ∃ p, p = (D.plan ++ fs).length := ⟨_, rfl⟩
    rw [← hp0] at k2 c1 HE
    rw [← hp1] at HE H3
    clear hE hH hH2 h3 hz hp0 hp1 hv k0 k1 HX2
    go_wp2_with (at_builtin; refine wpList_append_run rfl (.tmp 78) (.tmp 79) _ rfl HE.out ?_)
    go_ret
    exact ⟨fs, rfl, HL.out, by rw [HPF.out]; exact H3.out⟩
/-- what stays of both, behind k calls -/
structure Inv2 (n k : Nat) (D : Dv) : Prop where
  ok : OkD D
  okb : OkB D
  flen : D.firm.length = n
  olen : D.opn.length ≤ k
  plen : D.plan.length ≤ 3 * k
theorem inv2_new (n : Nat) : Inv2 n 0 (D0 n) := ⟨(fun _ h => (by cases h)), ⟨(fun x hx => (by rw [List.eq_of_mem_replicate hx]; decide)), (fun _ h => (by cases h))⟩, List.length_replicate .., Nat.le_refl _, Nat.le_refl _⟩
theorem Inv2.rest {n k : Nat} (h : Inv2 n k D) : Inv2 n (k + 1) (restD D) := ⟨h.ok, h.okb, h.flen, Nat.le_succ_of_le h.olen, by have := h.plen; show D.plan.tail.length ≤ _; rw [List.length_tail]; omega⟩
theorem Inv2.write {n k : Nat} (h : Inv2 n k D) (s z : Int) (hz : 0 ≤ z ∧ z < 256) : Inv2 n (k + 1) (writeF D s z).2 := by
  unfold writeF
  split
  · rename_i hs
    split
    · exact h.rest
    · split
      · have hr := h.rest
        refine ⟨fun p hp => ?_, ⟨h.okb.1, fun p hp => ?_⟩, h.flen, by have := h.olen; show (D.opn ++ _).length ≤ _; simp; omega, hr.plen⟩
        · rcases List.mem_append.1 hp with h' | h'
          · exact h.ok p h'
          · rw [List.mem_singleton.1 h']; exact there_lt hs
        · rcases List.mem_append.1 hp with h' | h'
          · exact h.okb.2 p h'
          · rw [List.mem_singleton.1 h']; exact hz
      · exact h.rest
  · exact ⟨h.ok, h.okb, h.flen, Nat.le_succ_of_le h.olen, by have := h.plen; show D.plan.length ≤ _; omega⟩
theorem Inv2.read {n k : Nat} (h : Inv2 n k D) (s : Int) : Inv2 n (k + 1) (readF D s).2.2 := by
  unfold readF
  split
  · split
    · exact h.rest
    · exact h.rest
  · exact ⟨h.ok, h.okb, h.flen, Nat.le_succ_of_le h.olen, by have := h.plen; show D.plan.length ≤ _; omega⟩
theorem Inv2.flush {n k : Nat} (h : Inv2 n k D) : Inv2 n (k + 1) (flushF D).2 := by
  unfold flushF
  split
  · exact h.rest
  · split
    · have hr := h.rest
      exact ⟨fun _ hp => (by cases hp), ⟨flushL_mem h.okb.1 h.okb.2, fun _ hp => (by cases hp)⟩, by show (flushL _ _).length = n; rw [flushL_length]; exact h.flen, Nat.zero_le _, hr.plen⟩
    · exact h.rest
theorem Inv2.plan {n k : Nat} (h : Inv2 n k D) (fs : List Int) (hl : fs.length ≤ 3) : Inv2 n (k + 1) (planF D fs).2 := by
  unfold planF
  split
  · exact ⟨h.ok, h.okb, h.flen, Nat.le_succ_of_le h.olen, by have := h.plen; show (D.plan ++ fs).length ≤ _; rw [List.length_append]; omega⟩
  · exact ⟨h.ok, h.okb, h.flen, Nat.le_succ_of_le h.olen, by have := h.plen; show D.plan.length ≤ _; omega⟩
/-- every call -/
theorem does_all {n k : Nat} (hk : k ≤ 1000) (a s m : Int) (hi : Hid (Inv2 n k D)) (h : Hid (Sep [devA d D, refA r D] w T)) :
    Calls Try.prog 20 #[.pointer (some ⟨d, 0, none⟩), .pointer (some ⟨r, 0, none⟩), .agg #[.int .i64 a, .int .i64 s, .int .i64 m]] w fun e w' =>
      ∃ D' : Dv, e = .returned (.bool true) ∧ Inv2 n (k + 1) D' ∧ Hv w T [devA d D', refA r D'] w' := by
  have lo : D.opn.length ≤ 100000 := by have := hi.out.olen; omega
  by_cases h0 : a = 0
  · subst h0
    refine (does_write s m (m % 256) rfl lo lo h).mono ?_
    rintro e w' ⟨rfl, h'⟩
    exact ⟨_, by rw [decide_eq_true rfl], hi.out.write s (m % 256) (by omega), h'⟩
  by_cases h1 : a = 1
  · subst h1
    refine (does_read s m lo (Lib.hid hi.out.okb) h).mono ?_
    rintro e w' ⟨rfl, h'⟩
    exact ⟨_, rfl, hi.out.read s, h'⟩
  by_cases h2 : a = 2
  · subst h2
    refine (does_flush s m lo lo (Lib.hid hi.out.ok) (Lib.hid hi.out.ok) h).mono ?_
    rintro e w' ⟨rfl, h'⟩
    exact ⟨_, by rw [decide_eq_true rfl], hi.out.flush, h'⟩
  refine (does_plan a s m (Lib.hid ⟨h0, h1, h2⟩) (Lib.hid (by have := hi.out.plen; omega)) h).mono ?_
  rintro e w' ⟨fs, rfl, hl, h'⟩
  exact ⟨_, rfl, hi.out.plan fs hl, h'⟩
end
end Go.Proofs.Ytbfmgdkiigkioaa

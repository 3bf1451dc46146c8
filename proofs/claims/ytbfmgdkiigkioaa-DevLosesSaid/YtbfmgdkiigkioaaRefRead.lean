/- The document's Shown and Read. -/
import Derived.Test.YtbfmgdkiigkioaaRefFlush
import Derived.Test.YtbfmgdkiigkioaaReadsP
namespace Go.Proofs.Ytbfmgdkiigkioaa
open Go.RowKit Go.LawEnd

section
variable {T : Nat → Prop} {d : Nat} {D : Dv} {w : World}
set_option maxRecDepth 100000 in
set_option maxHeartbeats 6400000 in
theorem rshown_any (s : Int) (hth : Hid (there D s = true)) (HLE : Hid (D.opn.length ≤ 100000)) (h : Hid (Sep [refA d D] w T)) :
    Calls Try.prog 50 #[.pointer (some ⟨d, 0, none⟩), .int .i64 s] w fun e w' => e = .returned (.agg (markC (shownF D s)).toArray) ∧ Hv w T [refA d D] w' := by
  have hz := zero34
  have hml := markC_length
  have hlb := laid_bl
  go_enter Try.func50, Try.ntmps50
  go_upto_region 1 with (fail)
  obtain ⟨P4, hP4⟩ : ∃ y, y = w.heap.size := ⟨_, rfl⟩
  obtain ⟨V, hV⟩ : ∃ y, y = w.alloc (.cells (markC 0).toArray 34) := ⟨_, rfl⟩
  have h1 := (Hv.start h.out).alloc 34 (markC 0).toArray
  rw [← hV, ← hP4] at h1
  rw [← hV, ← hP4]
  clear hV hP4 h
  obtain ⟨h0, h2⟩ := there_lt hth.out
  obtain ⟨AF, cF, AO, cO, AP, cP, k0, k1, k2, hv⟩ := ref_cells (show Hv w T [refA d D, blkA P4 34 (markC 0).toArray] V from h1.pick [1, 0])
  obtain ⟨g, rfl, hg, hr, _⟩ := firm_range hv (i := 1) rfl s.toNat (by omega)
  obtain ⟨z, hz2⟩ : ∃ z, z = D.firm[s.toNat] := ⟨_, rfl⟩
  rw [← hz2] at hr
  have HZ : Hid (firmAt D s = z) := by show _ = _; unfold firmAt; rw [if_pos hth.out, hz2, List.getElem?_eq_getElem (by omega)]; rfl
  have HL : Hid (s.toNat < D.firm.length) := by show _ < _; omega
  have d2 : decide (s < (D.firm.length : Int)) = true := decide_eq_true (by omega)
  have d3 : decide (0 ≤ s) = true := decide_eq_true (by omega)
  have HV := Lib.hid hv
  clear hv h1 hz2 k1 k2
  go_wp2_with (refine step_load_block hr rfl _ rfl rfl ?_)
  obtain ⟨P5, hP5⟩ : ∃ y, y = V.heap.size := ⟨_, rfl⟩
  obtain ⟨W1, hW1⟩ : ∃ y, y = V.alloc (.cells (markC z).toArray 34) := ⟨_, rfl⟩
  have h1 := HV.out.alloc 34 (markC z).toArray
  rw [← hW1, ← hP5] at h1
  rw [← hW1, ← hP5]
  obtain ⟨m, hm⟩ : ∃ m, m = D.opn.length := ⟨_, rfl⟩
  have hmb := HLE.out
  have HM := Lib.hid hm
  obtain ⟨nF, hnF⟩ : ∃ m, m = D.firm.length := ⟨_, rfl⟩
  rw [← hm, ← hnF] at h1
  rw [← hm] at hmb
  rw [← hnF]
  have H0 : Hid (Hv w T [blkA P5 34 (markC ((lastOf (D.opn.take 0) s).getD z)).toArray, blkA d 52 #[.slice (some ⟨g, 0, none⟩) nF cF, .slice AO m cO, .slice AP D.plan.length cP], blA (.slice (some ⟨g, 0, none⟩) nF cF) D.firm, rwA (.slice AO m cO) D.opn, plA (.slice AP D.plan.length cP) D.plan, blkA P4 34 (markC 0).toArray] W1) := h1
  have HNF := Lib.hid hnF
  clear h1 hW1 hP5 hm hnF HV hr hg k0
  go_loopw [6] (fun i wr => ∃ k : Nat, k ≤ m ∧ i = .int .i64 k ∧ Hv w T [blkA P5 34 (markC ((lastOf (D.opn.take k) s).getD z)).toArray, blkA d 52 #[.slice (some ⟨g, 0, none⟩) nF cF, .slice AO m cO, .slice AP D.plan.length cP], blA (.slice (some ⟨g, 0, none⟩) nF cF) D.firm, rwA (.slice AO m cO) D.opn, plA (.slice AP D.plan.length cP) D.plan, blkA P4 34 (markC 0).toArray] wr) (fun i _ => m - (intOf i).toNat)
  case atStart => exact ⟨0, by omega, rfl, H0.out⟩
  case round =>
    clear H0
    obtain ⟨k, hk, rfl, hi⟩ := hrel
    have HI := Lib.hid hi
    clear hi
    have c1 : wr.cell? ⟨d, 1, none⟩ = some (.slice AO m cO) := by simpa using (HI.out.blk (i := 1) rfl).cell 1
    by_cases hkl : k < m
    · have hkl' : k < D.opn.length := by rw [← HM.out]; exact hkl
      have hrow := HI.out.row (i := 3) rfl
      rw [HM.out] at hrow
      obtain ⟨b, rfl, hb, hr, _⟩ := row_range hrow k hkl'
      obtain ⟨y, hy⟩ : ∃ y, y = D.opn[k] := ⟨_, rfl⟩
      rw [← hy] at hr
      have HT : Hid (D.opn.take (k + 1) = D.opn.take k ++ [y]) := by show _ = _; rw [List.take_add_one, List.getElem?_eq_getElem hkl', hy]; rfl
      obtain ⟨y0, y1⟩ := y
      obtain ⟨c2, hr2⟩ := range_split hr
      have hkm : decide ((k : Int) < (m : Int)) = true := decide_eq_true (by omega)
      clear hy hrow hr hkl'
      by_cases he : y0 = s
      · subst he
        have HST : Hid ((lastOf (D.opn.take (k + 1)) y0).getD z = y1) := by show _ = _; rw [HT.out, last_add, if_pos rfl]; rfl
        have hs6 := HI.out.sets (markC y1) 0
        rw [setMany_all (by simp [markC_length])] at hs6
        have hst : (storeCells ⟨P5, 0, none⟩ (markC y1)).run Try.prog wr = .ok () (wr.setCells P5 0 (markC y1)) := cells_block (blk_there (HI.out.blk (i := 0) rfl) (n := 64) (by simp [markC_length]))
        obtain ⟨W6, hW6⟩ : ∃ y, y = wr.setCells P5 0 (markC y1) := ⟨_, rfl⟩
        rw [← hW6] at hst hs6
        have H6 := Lib.hid hs6
        clear hW6 hs6
        go_wp2_with (refine step_load_block hr2 rfl _ rfl rfl ?_)
        go_roundw
        case rel => exact ⟨k + 1, by omega, rfl, by rw [HST.out]; exact H6.out⟩
        case measure => simp [intOf]; omega
      · have b1 : (y0 == s) = false := by rw [beq_eq_false_iff_ne]; exact he
        have HST : Hid ((lastOf (D.opn.take (k + 1)) s).getD z = (lastOf (D.opn.take k) s).getD z) := by show _ = _; rw [HT.out, last_add, if_neg he]
        clear he
        go_wp2_with fail
        go_roundw
        case rel => exact ⟨k + 1, by omega, rfl, by rw [HST.out]; exact HI.out⟩
        case measure => simp [intOf]; omega
    · obtain rfl : k = m := by omega
      obtain ⟨zz, hzz⟩ : ∃ y, y = (lastOf (D.opn.take k) s).getD z := ⟨_, rfl⟩
      have HZZ : Hid (shownF D s = zz) := by show _ = _; rw [hzz, HM.out, List.take_length, ← HZ.out]; rfl
      rw [← hzz] at HI
      have hr9 : wr.rangeAt P5 0 (markC zz) := blk_range (HI.out.blk (i := 0) rfl)
      obtain ⟨h4, hst, hl2⟩ := fill_out (HI.out.pick [5, 0, 1, 2, 3, 4]) zz
      obtain ⟨W9, hW9⟩ : ∃ y, y = wr.setCells P4 0 (markC zz) := ⟨_, rfl⟩
      rw [← hW9] at hst h4 hl2
      have HV9 : Hid (Hv w T [refA d D] W9) := by
        have h5 : Hv w T [blkA d 52 #[.slice (some ⟨g, 0, none⟩) nF cF, .slice AO k cO, .slice AP D.plan.length cP], blA (.slice (some ⟨g, 0, none⟩) nF cF) D.firm, rwA (.slice AO k cO) D.opn, plA (.slice AP D.plan.length cP) D.plan] W9 := h4.pick [2, 3, 4, 5]
        exact ref_close (R := []) (D := D) h5
      clear h4 hW9 hzz HI
      go_wp2_with (refine step_load_block hr9 rfl _ rfl rfl ?_)
      refine bodyPost_ret (v := .agg (markC zz).toArray) ?_ rfl ⟨by rw [HZZ.out], HV9.out⟩
      refine (results_cell_one rfl _ _ _).trans ?_
      simp [asAddr, Result.andThen, hl2]
set_option maxRecDepth 100000 in
set_option maxHeartbeats 3200000 in
theorem rread_any (s : Int) (HLE : Hid (D.opn.length ≤ 100000)) (h : Hid (Sep [refA d D] w T)) :
    Calls Try.prog 38 #[.pointer (some ⟨d, 0, none⟩), .int .i64 s] w fun e w' => e = .returned (.tuple #[.agg (markC (readF D s).1).toArray, .int .i64 (readF D s).2.1]) ∧ Hv w T [refA d (readF D s).2.2] w' := by
  have hz := zero34
  have hml := markC_length
  go_enter Try.func38, Try.ntmps38
  go_wp2_with fail
  obtain ⟨P4, hP4⟩ : ∃ y, y = w.heap.size := ⟨_, rfl⟩
  obtain ⟨V, hV⟩ : ∃ y, y = w.alloc (.cells (markC 0).toArray 34) := ⟨_, rfl⟩
  have h1 := (Hv.start h.out).alloc 34 (markC 0).toArray
  rw [← hV, ← hP4] at h1
  rw [← hV, ← hP4]
  have HV := Lib.hid h1
  clear hV hP4 h h1
  obtain ⟨T1, hT1, hJ1⟩ := (show Hv w T [refA d D, blkA P4 34 (markC 0).toArray] V from HV.out.pick [1, 0]).all
  have HT1 := Lib.hid hT1
  have HJ1 := Lib.hid hJ1
  clear hT1 hJ1
  refine (rthere_any s HT1).mono ?_
  rintro e w2 ⟨rfl, rfl⟩
  obtain ⟨q, hq⟩ : ∃ q, q = there D s := ⟨_, rfl⟩
  rw [← hq]
  cases q with
  | false =>
    have HF : Hid (readF D s = (0, 10, D)) := by show _ = _; unfold readF; rw [← hq]; rfl
    obtain ⟨hv4, hst, hl2⟩ := fill_out HV.out 0
    have HV4 := Lib.hid hv4
    clear hv4 hq
    go_wp2_with fail
    refine bodyPost_ret (v := .tuple #[.agg (markC 0).toArray, .int .i64 10]) ?_ rfl ⟨by rw [HF.out], by rw [HF.out]; exact HV4.out.pick [1]⟩
    rw [results_cell_tmp rfl]
    simp [asAddr, Result.andThen, hl2]
  | true =>
    have HTH : Hid (there D s = true) := hq.symm
    clear hq
    go_wp2_with fail
    refine (rfate_any HT1).mono ?_
    rintro e w2 ⟨rfl, hw2⟩
    have HV2 := Lib.hid (HJ1.out _ _ hw2)
    clear hw2 HJ1 HT1 HV
    by_cases h1 : fateD D = 1
    · have HF : Hid (readF D s = (0, 19, restD D)) := by show _ = _; unfold readF; rw [if_pos HTH.out, if_pos h1]
      rw [h1]
      obtain ⟨hv4, hst, hl2⟩ := fill_out (HV2.out.pick [1, 0]) 0
      have HV4 := Lib.hid hv4
      clear h1 hv4
      go_wp2_with fail
      refine bodyPost_ret (v := .tuple #[.agg (markC 0).toArray, .int .i64 19]) ?_ rfl ⟨by rw [HF.out], by rw [HF.out]; exact HV4.out.pick [1]⟩
      rw [results_cell_tmp rfl]
      simp [asAddr, Result.andThen, hl2]
    · have HF : Hid (readF D s = (shownF D s, 0, restD D)) := by show _ = _; unfold readF; rw [if_pos HTH.out, if_neg h1]
      have b1 : (fateD D == 1) = false := by rw [beq_eq_false_iff_ne]; exact h1
      obtain ⟨f, hf⟩ : ∃ f, f = fateD D := ⟨_, rfl⟩
      rw [← hf] at b1 ⊢
      clear hf h1
      go_wp2_with fail
      obtain ⟨T3, hT3, hJ3⟩ := Hv.use [refA d (restD D)] _ HV2.out
      have HJ3 := Lib.hid hJ3
      refine (rshown_any (D := restD D) s HTH HLE (Lib.hid hT3)).mono ?_
      rintro e w3 ⟨rfl, hw3⟩
      have HS : Hid (shownF (restD D) s = shownF D s) := rfl
      rw [HS.out]
      obtain ⟨zz, hzz⟩ : ∃ y, y = shownF D s := ⟨_, rfl⟩
      rw [← hzz] at HF ⊢
      have hv4 := (HJ3.out _ _ hw3).pick [1, 0]
      obtain ⟨hv5, hst, hl2⟩ := fill_out hv4 zz
      have HV5 := Lib.hid hv5
      clear hw3 hv4 hv5 hzz hT3 hJ3 HJ3 HV2
      go_wp2_with fail
      refine bodyPost_ret (v := .tuple #[.agg (markC zz).toArray, .int .i64 0]) ?_ rfl ⟨by rw [HF.out], by rw [HF.out]; exact HV5.out.pick [1]⟩
      rw [results_cell_tmp rfl]
      simp [asAddr, Result.andThen, hl2]
end
end Go.Proofs.Ytbfmgdkiigkioaa

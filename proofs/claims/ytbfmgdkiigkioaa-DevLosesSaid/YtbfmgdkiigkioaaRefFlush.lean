/- The document's Flush. -/
import Derived.Test.YtbfmgdkiigkioaaRefWrite
namespace Go.Proofs.Ytbfmgdkiigkioaa
open Go.RowKit Go.LawEnd

section
variable {T : Nat → Prop} {d : Nat} {D : Dv} {w : World}
set_option maxRecDepth 100000 in
set_option maxHeartbeats 6400000 in
theorem rflush_any (HLE : Hid (D.opn.length ≤ 100000)) (HOK : Hid (OkD D)) (h : Hid (Sep [refA d D] w T)) :
    Calls Try.prog 39 #[.pointer (some ⟨d, 0, none⟩)] w fun e w' => e = .returned (.int .i64 (flushF D).1) ∧ Hv w T [refA d (flushF D).2] w' := by
  go_enter Try.func39, Try.ntmps39
  go_wp2_with fail
  refine (rfate_any h).mono ?_
  rintro e w2 ⟨rfl, hw2⟩
  have HV2 := Lib.hid hw2
  clear hw2 h
  by_cases h1 : fateD D = 1
  · have HF : Hid (flushF D = (21, restD D)) := by show _ = _; unfold flushF; rw [if_pos h1]
    rw [h1]
    clear h1
    go_wp2_with fail
    go_ret
    exact ⟨by (first | (rw [HF.out]; done) | (rw [HF.out]; rfl)), by rw [HF.out]; exact HV2.out⟩
  · by_cases h0 : fateD D = 0
    · have HF : Hid (flushF D = (0, flushD (restD D))) := by show _ = _; unfold flushF; rw [if_neg h1, if_pos h0]
      rw [h0]
      clear h0 h1
      obtain ⟨D', hD'⟩ : ∃ y, y = restD D := ⟨_, rfl⟩
      have HLE2 : Hid (D'.opn.length ≤ 100000) := by show _ ≤ _; rw [hD']; exact HLE.out
      have HOK2 : Hid (OkD D') := by show OkD _; rw [hD']; exact HOK.out
      rw [← hD'] at HV2 HF
      clear hD' HLE HOK
      obtain ⟨AF, cF, AO, cO, AP, cP, k0, k1, k2, hv⟩ := ref_cells HV2.out
      have H0 : Hid (Hv w T [blA (.slice AF D'.firm.length cF) (flushL D'.firm (D'.opn.take 0)), blkA d 52 #[.slice AF D'.firm.length cF, .slice AO D'.opn.length cO, .slice AP D'.plan.length cP], rwA (.slice AO D'.opn.length cO) D'.opn, plA (.slice AP D'.plan.length cP) D'.plan] w2) := hv.pick [1, 0, 2, 3]
      obtain ⟨m, hm⟩ : ∃ m, m = D'.opn.length := ⟨_, rfl⟩
      obtain ⟨nF, hnF⟩ : ∃ m, m = D'.firm.length := ⟨_, rfl⟩
      have HM := Lib.hid hm
      have HNF := Lib.hid hnF
      have hmb := HLE2.out
      rw [← hm] at H0 hmb
      rw [← hnF] at H0
      clear hm hnF hv k0 k1 k2 HV2
      have hml := markC_length
      go_wp2_with fail
      go_loopw [4] (fun i wr => ∃ k : Nat, k ≤ m ∧ i = .int .i64 k ∧ Hv w T [blA (.slice AF nF cF) (flushL D'.firm (D'.opn.take k)), blkA d 52 #[.slice AF nF cF, .slice AO m cO, .slice AP D'.plan.length cP], rwA (.slice AO m cO) D'.opn, plA (.slice AP D'.plan.length cP) D'.plan] wr) (fun i _ => m - (intOf i).toNat)
      case atStart => exact ⟨0, by omega, rfl, H0.out⟩
      case round =>
        clear H0
        obtain ⟨k, hk, rfl, hi⟩ := hrel
        have HI := Lib.hid hi
        clear hi
        have c1 : wr.cell? ⟨d, 1, none⟩ = some (.slice AO m cO) := by simpa using (HI.out.blk (i := 1) rfl).cell 1
        by_cases hkl : k < m
        · have hkl' : k < D'.opn.length := by rw [← HM.out]; exact hkl
          have hok := HOK2.out D'.opn[k] (List.getElem_mem hkl')
          have hstep := flushL_take D'.firm D'.opn k hkl'
          obtain ⟨y, hy⟩ : ∃ y, y = D'.opn[k] := ⟨_, rfl⟩
          rw [← hy] at hok hstep
          have HY : Hid (D'.opn[k]? = some y) := by show _ = _; rw [hy, List.getElem?_eq_getElem hkl']
          obtain ⟨fk, hfk⟩ : ∃ f, f = flushL D'.firm (D'.opn.take k) := ⟨_, rfl⟩
          have hfl : fk.length = nF := by rw [hfk, flushL_length, HNF.out]
          rw [← hfk] at HI hstep
          have HST := Lib.hid hstep
          clear hstep hy hfk hkl'
          obtain ⟨y0, z⟩ := y
          have hok0 : 0 ≤ y0 := hok.1
          have hok1 : y0 < (nF : Int) := by rw [HNF.out]; exact hok.2
          have HYL : Hid (y0.toNat < fk.length) := by show _ < _; omega
          have HFL := Lib.hid hfl
          clear hok hfl
          have HKP : Hid (∀ (l : List Int) (W : World), Hv w T [blA (.slice AF nF cF) l, blkA d 52 #[.slice AF nF cF, .slice AO m cO, .slice AP D'.plan.length cP], rwA (.slice AO m cO) D'.opn, plA (.slice AP D'.plan.length cP) D'.plan] W →
              ∃ b, AO = some ⟨b, 0, none⟩ ∧ (W.cell? ⟨d, 0, none⟩ = some (.slice AF nF cF) ∧ W.cell? ⟨d, 1, none⟩ = some (.slice AO m cO) ∧ W.cell? ⟨b, k * 65, none⟩ = some (.int .i64 y0) ∧ W.rangeAt b (k * 65 + 1) (markC z))) := fun l W hv => by
            have r2 := hv.row (i := 2) rfl
            have hko : k < D'.opn.length := (List.getElem?_eq_some_iff.1 HY.out).1
            rw [HM.out] at r2
            obtain ⟨b, e, _, hr, _⟩ := row_range r2 k hko
            have hy : D'.opn[k] = (y0, z) := by
              have := HY.out
              rw [List.getElem?_eq_getElem hko] at this
              injection this
            rw [hy] at hr
            have hs := range_split hr
            exact ⟨b, e, by simpa using (hv.blk (i := 1) rfl).cell 0, by simpa using (hv.blk (i := 1) rfl).cell 1, hs.1, hs.2⟩
          obtain ⟨b, rfl, _⟩ := HKP.out _ _ HI.out
          have HKQ : Hid (∀ (l : List Int) (W : World), Hv w T [blA (.slice AF nF cF) l, blkA d 52 #[.slice AF nF cF, .slice (some ⟨b, 0, none⟩) m cO, .slice AP D'.plan.length cP], rwA (.slice (some ⟨b, 0, none⟩) m cO) D'.opn, plA (.slice AP D'.plan.length cP) D'.plan] W →
              (W.cell? ⟨d, 0, none⟩ = some (.slice AF nF cF) ∧ W.cell? ⟨d, 1, none⟩ = some (.slice (some ⟨b, 0, none⟩) m cO) ∧ W.cell? ⟨b, k * 65, none⟩ = some (.int .i64 y0) ∧ W.rangeAt b (k * 65 + 1) (markC z))) := fun l W hv => by
            obtain ⟨b', e, h⟩ := HKP.out l W hv
            injection e with e
            injection e with e
            subst e
            exact h
          clear HKP
          obtain ⟨g, rfl, _, _, hth⟩ := firm_range HI.out.drew (i := 0) rfl y0.toNat HYL.out
          have hst : (storeCells ⟨g, y0.toNat * 64, none⟩ (markC z)).run Try.prog wr.drew = .ok () (wr.drew.setCells g (y0.toNat * 64) (markC z)) := cells_block hth
          have h3 := set_firm HFL.out HI.out.drew y0.toNat HYL.out z
          obtain ⟨W3, hW3⟩ : ∃ y, y = wr.drew.setCells g (y0.toNat * 64) (markC z) := ⟨_, rfl⟩
          rw [← hW3] at h3 hst
          have H3 := Lib.hid h3
          obtain ⟨e1, e2, e3, e4⟩ := HKQ.out _ _ HI.out
          have d2 : decide (y0 < (nF : Int)) = true := decide_eq_true hok1
          have d3 : decide (0 ≤ y0) = true := decide_eq_true hok0
          have d4 : decide ((k : Int) < (m : Int)) = true := decide_eq_true (by omega)
          clear h3 hW3 hth c1
          go_wp2_with fail
          refine wp_region_noPanic ?_
          refine wp_region_held_drew (S := (fun W => W.cell? ⟨d, 0, none⟩ = some (.slice (some ⟨g, 0, none⟩) nF cF) ∧ W.cell? ⟨d, 1, none⟩ = some (.slice (some ⟨b, 0, none⟩) m cO) ∧ W.cell? ⟨b, k * 65, none⟩ = some (.int .i64 y0) ∧ W.rangeAt b (k * 65 + 1) (markC z))) (by kernel_rfl) ⟨e1, e2, e3, e4⟩ (fun hHeld => ?_)
          refine wpAnyH_take (i := 0) (v := ?v0) rfl (by kernel_rfl) (by kernel_rfl) (by kernel_rfl) (fun _ _ _ h => h) (Or.inl ⟨by rfl, ?hy0⟩) (by assumption) ?rest0
          case hy0 =>
            intro w hSw
            (try dsimp only at hSw)
            go_simp
            try with_reducible rfl
          try simp only [Act.put, List.getElem_toArray, List.getElem_cons_zero, List.setIfInBounds_toArray, List.set_cons_zero, List.set_cons_succ]
          refine wpAnyH_take (i := 1) (v := ?v1) rfl (by kernel_rfl) (by kernel_rfl) (by kernel_rfl) (fun _ _ _ h => h) (Or.inl ⟨by rfl, ?hy1⟩) (by assumption) ?rest1
          case hy1 =>
            intro w hSw
            (try dsimp only at hSw)
            go_simp
            try with_reducible rfl
          try simp only [Act.put, List.getElem_toArray, List.getElem_cons_zero, List.getElem_cons_succ, List.setIfInBounds_toArray, List.set_cons_zero, List.set_cons_succ]
          refine wpAnyH_take (i := 2) (v := ?v2) rfl (by kernel_rfl) (by kernel_rfl) (by kernel_rfl) (fun _ _ _ h => h) (Or.inl ⟨by rfl, ?hy2⟩) (by assumption) ?rest2
          case hy2 =>
            intro w hSw
            (try dsimp only at hSw)
            go_simp
            try with_reducible rfl
          try simp only [Act.put, List.getElem_toArray, List.getElem_cons_zero, List.getElem_cons_succ, List.setIfInBounds_toArray, List.set_cons_zero, List.set_cons_succ]
          refine wpAnyH_take (i := 3) (v := ?v3) rfl (by kernel_rfl) (by kernel_rfl) (by kernel_rfl) (fun _ _ _ h => h) (Or.inl ⟨by rfl, ?hy3⟩) (by assumption) ?rest3
          case hy3 =>
            intro w hSw
            (try dsimp only at hSw)
            go_simp
            try with_reducible rfl
          try simp only [Act.put, List.getElem_toArray, List.getElem_cons_zero, List.getElem_cons_succ, List.setIfInBounds_toArray, List.set_cons_zero, List.set_cons_succ]
          refine wpAnyH_take (i := 4) (v := ?v4) rfl (by kernel_rfl) (by kernel_rfl) (by kernel_rfl) (fun _ _ _ h => h) (Or.inl ⟨by rfl, ?hy4⟩) (by assumption) ?rest4
          case hy4 =>
            intro w hSw
            (try dsimp only at hSw)
            go_simp
            try with_reducible rfl
          try simp only [Act.put, List.getElem_toArray, List.getElem_cons_zero, List.getElem_cons_succ, List.setIfInBounds_toArray, List.set_cons_zero, List.set_cons_succ]
          refine wpAnyH_take (i := 5) (v := ?v5) rfl (by kernel_rfl) (by kernel_rfl) (by kernel_rfl) (fun _ _ _ h => h) (Or.inl ⟨by rfl, ?hy5⟩) (by assumption) ?rest5
          case hy5 =>
            intro w hSw
            (try dsimp only at hSw)
            go_simp
            try with_reducible rfl
          try simp only [Act.put, List.getElem_toArray, List.getElem_cons_zero, List.getElem_cons_succ, List.setIfInBounds_toArray, List.set_cons_zero, List.set_cons_succ]
          refine wpAnyH_take (i := 6) (v := ?v6) rfl (by kernel_rfl) (by kernel_rfl) (by kernel_rfl) (fun _ _ _ h => h) (Or.inl ⟨by rfl, ?hy6⟩) (by assumption) ?rest6
          case hy6 =>
            intro w hSw
            (try dsimp only at hSw)
            go_simp
            try with_reducible rfl
          try simp only [Act.put, List.getElem_toArray, List.getElem_cons_zero, List.getElem_cons_succ, List.setIfInBounds_toArray, List.set_cons_zero, List.set_cons_succ]
          refine wpAnyH_take (i := 7) (v := ?v7) rfl (by kernel_rfl) (by kernel_rfl) (by kernel_rfl) (fun _ _ _ h => h) (Or.inl ⟨by rfl, ?hy7⟩) (by assumption) ?rest7
          case hy7 =>
            intro w hSw
            (try dsimp only at hSw)
            go_simp
            try with_reducible rfl
          try simp only [Act.put, List.getElem_toArray, List.getElem_cons_zero, List.getElem_cons_succ, List.setIfInBounds_toArray, List.set_cons_zero, List.set_cons_succ]
          refine wpAnyH_take (i := 8) (v := ?v8) rfl (by kernel_rfl) (by kernel_rfl) (by kernel_rfl) (fun _ _ _ h => h) (Or.inl ⟨by rfl, ?hy8⟩) (by assumption) ?rest8
          case hy8 =>
            intro w hSw
            (try dsimp only at hSw)
            go_simp
            try with_reducible rfl
          try simp only [Act.put, List.getElem_toArray, List.getElem_cons_zero, List.getElem_cons_succ, List.setIfInBounds_toArray, List.set_cons_zero, List.set_cons_succ]
          refine wpAnyH_take (i := 9) (v := ?v9) rfl (by kernel_rfl) (by kernel_rfl) (by kernel_rfl) (fun _ _ _ h => h) (Or.inl ⟨by rfl, ?hy9⟩) (by assumption) ?rest9
          case hy9 =>
            intro w hSw
            (try dsimp only at hSw)
            go_simp
            try with_reducible rfl
          try simp only [Act.put, List.getElem_toArray, List.getElem_cons_zero, List.getElem_cons_succ, List.setIfInBounds_toArray, List.set_cons_zero, List.set_cons_succ]
          refine wpAnyH_take (i := 10) (v := ?v10) rfl (by kernel_rfl) (by kernel_rfl) (by kernel_rfl) (fun _ _ _ h => h) (Or.inl ⟨by rfl, ?hy10⟩) (by assumption) ?rest10
          case hy10 =>
            intro w hSw
            (try dsimp only at hSw)
            go_simp
            try with_reducible rfl
          try simp only [Act.put, List.getElem_toArray, List.getElem_cons_zero, List.getElem_cons_succ, List.setIfInBounds_toArray, List.set_cons_zero, List.set_cons_succ]
          refine wpAnyH_take (i := 11) (v := ?v11) rfl (by kernel_rfl) (by kernel_rfl) (by kernel_rfl) (fun _ _ _ h => h) (Or.inl ⟨by rfl, ?hy11⟩) (by assumption) ?rest11
          case hy11 =>
            intro w hSw
            (try dsimp only at hSw)
            go_simp
            try with_reducible rfl
          try simp only [Act.put, List.getElem_toArray, List.getElem_cons_zero, List.getElem_cons_succ, List.setIfInBounds_toArray, List.set_cons_zero, List.set_cons_succ]
          refine wpAnyH_take (i := 12) (v := ?v12) rfl (by kernel_rfl) (by kernel_rfl) (by kernel_rfl) (fun _ _ _ h => h) (Or.inl ⟨by rfl, ?hy12⟩) (by assumption) ?rest12
          case hy12 =>
            intro w hSw
            (try dsimp only at hSw)
            go_simp
            try with_reducible rfl
          try simp only [Act.put, List.getElem_toArray, List.getElem_cons_zero, List.getElem_cons_succ, List.setIfInBounds_toArray, List.set_cons_zero, List.set_cons_succ]
          refine wpAnyH_take (i := 13) (v := ?v13) rfl (by kernel_rfl) (by kernel_rfl) (by kernel_rfl) (fun _ _ _ h => h) (Or.inl ⟨by rfl, ?hy13⟩) (by assumption) ?rest13
          case hy13 =>
            intro w hSw
            (try dsimp only at hSw)
            go_simp
            try with_reducible rfl
          try simp only [Act.put, List.getElem_toArray, List.getElem_cons_zero, List.getElem_cons_succ, List.setIfInBounds_toArray, List.set_cons_zero, List.set_cons_succ]
          refine wpAnyH_take (i := 14) (v := ?v14) rfl (by kernel_rfl) (by kernel_rfl) (by kernel_rfl) (fun _ _ _ h => h) (Or.inl ⟨by rfl, ?hy14⟩) (by assumption) ?rest14
          case hy14 =>
            intro w hSw
            (try dsimp only at hSw)
            go_simp
            try with_reducible rfl
          try simp only [Act.put, List.getElem_toArray, List.getElem_cons_zero, List.getElem_cons_succ, List.setIfInBounds_toArray, List.set_cons_zero, List.set_cons_succ]
          refine wpAnyH_take (i := 15) (v := ?v15) rfl (by kernel_rfl) (by kernel_rfl) (by kernel_rfl) (fun _ _ _ h => h) (Or.inl ⟨by rfl, ?hy15⟩) (by assumption) ?rest15
          case hy15 =>
            intro w hSw
            (try dsimp only at hSw)
            go_simp
            try with_reducible rfl
          try simp only [Act.put, List.getElem_toArray, List.getElem_cons_zero, List.getElem_cons_succ, List.setIfInBounds_toArray, List.set_cons_zero, List.set_cons_succ]
          refine wpAnyH_take (i := 16) (v := ?v16) rfl (by kernel_rfl) (by kernel_rfl) (by kernel_rfl) (fun _ _ _ h => h) (Or.inl ⟨by rfl, ?hy16⟩) (by assumption) ?rest16
          case hy16 =>
            intro w hSw
            (try dsimp only at hSw)
            go_simp
            try with_reducible rfl
          try simp only [Act.put, List.getElem_toArray, List.getElem_cons_zero, List.getElem_cons_succ, List.setIfInBounds_toArray, List.set_cons_zero, List.set_cons_succ]
          refine wpAnyH_take (i := 17) (v := ?v17) rfl (by kernel_rfl) (by kernel_rfl) (by kernel_rfl) (fun _ _ _ h => h) (Or.inl ⟨by rfl, ?hy17⟩) (by assumption) ?rest17
          case hy17 =>
            intro w hSw
            (try dsimp only at hSw)
            go_simp
            try with_reducible rfl
          try simp only [Act.put, List.getElem_toArray, List.getElem_cons_zero, List.getElem_cons_succ, List.setIfInBounds_toArray, List.set_cons_zero, List.set_cons_succ]
          refine wpAnyH_take (i := 18) (v := ?v18) rfl (by kernel_rfl) (by kernel_rfl) (by kernel_rfl) (fun _ _ _ h => h) (Or.inl ⟨by rfl, ?hy18⟩) (by assumption) ?rest18
          case hy18 =>
            intro w hSw
            (try dsimp only at hSw)
            go_simp
            try with_reducible rfl
          try simp only [Act.put, List.getElem_toArray, List.getElem_cons_zero, List.getElem_cons_succ, List.setIfInBounds_toArray, List.set_cons_zero, List.set_cons_succ]
          refine wpAnyH_take (i := 19) (v := .agg _) rfl (by kernel_rfl) (by kernel_rfl) (by kernel_rfl) (fun _ _ _ h => h) (yieldsIf_load_mid (by rfl) 34 (.tmp 38) rfl _ _ rfl (markC z) _ (fun w hSw => hSw.2.2.2) Try.underlying34 rfl (by rw [size34, markC_length])) (by assumption) ?_
          try simp only [Act.put, List.getElem_toArray, List.getElem_cons_zero, List.getElem_cons_succ, List.setIfInBounds_toArray, List.set_cons_zero, List.set_cons_succ]
          refine wpAnyH_take (i := 20) (v := ?v20) rfl (by kernel_rfl) (by kernel_rfl) (by kernel_rfl) (fun _ _ _ h => h) (Or.inl ⟨by rfl, ?hy20⟩) (by assumption) ?rest20
          case hy20 =>
            intro w hSw
            (try dsimp only at hSw)
            go_simp
            try with_reducible rfl
          try simp only [Act.put, List.getElem_toArray, List.getElem_cons_zero, List.getElem_cons_succ, List.setIfInBounds_toArray, List.set_cons_zero, List.set_cons_succ]
          refine wpAnyH_ready (rs := [21]) (by kernel_rfl) (by simp) ?_
          refine AllReadyH.cons rfl (fun K hK => ?_) AllReadyH.nil
          go_simp
          refine hK.out _ _ (HKQ.out _ _ H3.out) (fun hHeld3 => ?_)
          clear hK K
          refine wpAnyH_done (by kernel_rfl) ?_ _
          refine NoPanic.normal ?_
          clear hHeld hHeld3 e1 e2 e3 e4 hst HKQ
          go_wp2
          go_roundw
          case rel => exact ⟨k + 1, by omega, rfl, by rw [HST.out]; exact H3.out⟩
          case measure => simp [intOf]; omega
        · obtain rfl : k = m := by omega
          have c4 := (HI.out.blk (i := 1) rfl).frozen 1
          have h3 := ((HI.out.pick [1, 0, 3]).set 1 (.slice none 0 0)).nilRow 74 65
          have H3 : Hid (Hv w T [refA d (flushD D')] (wr.setCell ⟨d, 1, none⟩ (.slice none 0 0))) := by
            refine ref_close (D := flushD D') (vF := .slice AF nF cF) (vO := .slice none 0 0) (vP := .slice AP D'.plan.length cP) ?_
            have e : flushL D'.firm (D'.opn.take k) = (flushD D').firm := by rw [HM.out, List.take_length]; rfl
            rw [e] at h3
            exact h3.pick [1, 2, 0, 3]
          clear h3 HI
          go_wp2
          go_ret
          exact ⟨by (first | (rw [HF.out]; done) | (rw [HF.out]; rfl)), by rw [HF.out]; exact H3.out⟩
    · have HF : Hid (flushF D = (0, restD D)) := by show _ = _; unfold flushF; rw [if_neg h1, if_neg h0]
      have b0 : (fateD D == 0) = false := by rw [beq_eq_false_iff_ne]; exact h0
      have b1 : (fateD D == 1) = false := by rw [beq_eq_false_iff_ne]; exact h1
      obtain ⟨f, hf⟩ : ∃ f, f = fateD D := ⟨_, rfl⟩
      rw [← hf] at b0 b1 ⊢
      clear hf h0 h1
      go_wp2_with fail
      go_ret
      exact ⟨by (first | (rw [HF.out]; done) | (rw [HF.out]; rfl)), by rw [HF.out]; exact HV2.out⟩
end
end Go.Proofs.Ytbfmgdkiigkioaa

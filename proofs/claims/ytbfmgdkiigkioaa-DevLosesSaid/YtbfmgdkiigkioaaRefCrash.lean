/- The document's Crash. -/
import Derived.Test.YtbfmgdkiigkioaaRefRead
import Derived.Test.YtbfmgdkiigkioaaAppAny
namespace Go.Proofs.Ytbfmgdkiigkioaa
open Go.RowKit Go.LawEnd

theorem copy_bl {w : World} {v : Value} {l : List Int} (h : w.ownsRow 0 34 64 v l.length (bls l)) (hl : l.length ≤ 5000) :
    ∃ A c w', (Builtin.append_ #[48, 48] 48 #[.slice none 0 0, v]).run Try.prog w = .ok (.slice A l.length c) w' ∧ Hv w No [blA (.slice A l.length c) l] w' := by
  obtain ⟨i0, hi0, hz0, hz1, hz2⟩ := infoBlock
  obtain ⟨v', w', hr, h2, h3, h4⟩ := run_append_two (P := Try.prog) (w := w) 48 48 0 34 i0 (.agg (markC 0).toArray) 64 64 Try.underlying48 hi0 hz0 hz1 hz2 (by show (markC 0).toArray.size = 64; simp [markC_length]) (by omega) (.slice none 0 0) 0 [] (World.ownsRow_nil w _ _ 64) 0 v l.length (bls l) h (flat_cell markC markC_cell l) (by unfold maxLen; omega) (by omega) (Nat.zero_le _)
  rw [Nat.zero_add, List.nil_append] at h2
  obtain ⟨A, c, rfl⟩ := row_form h2
  refine ⟨A, c, w', hr, hv_fresh (blA (.slice A l.length c) l) (T := fun b => (Value.slice A l.length c).ownBlock = some b) ⟨h2, fun _ => Iff.rfl⟩ (fun b hb => ?_) ⟨h3.os, h3.tape, h3.output, h3.size, fun k hk => h3.block k hk (by simp [Value.ownBlock])⟩⟩
  rcases h4 with h4 | h4
  · rw [h4] at hb; cases hb
  · rw [h4] at hb; injection hb with hb; omega
section
variable {T : Nat → Prop} {d : Nat} {D : Dv} {w : World}
theorem ref_reads {AF AO AP : Option Addr} {cF cO cP : Nat} (hv : Hv w T [blkA d 52 #[.slice AF D.firm.length cF, .slice AO D.opn.length cO, .slice AP D.plan.length cP], blA (.slice AF D.firm.length cF) D.firm, rwA (.slice AO D.opn.length cO) D.opn, plA (.slice AP D.plan.length cP) D.plan] w) (W : World) (hW : Below w.heap.size w W) :
    W.ownsRow 0 34 64 (.slice AF D.firm.length cF) D.firm.length (bls D.firm) ∧ W.ownsRow 0 74 65 (.slice AO D.opn.length cO) D.opn.length (wrs D.opn) ∧
      W.cell? ⟨d, 0, none⟩ = some (.slice AF D.firm.length cF) ∧ W.cell? ⟨d, 1, none⟩ = some (.slice AO D.opn.length cO) := by
  obtain ⟨S', hs, _⟩ := hv
  have h2 := Hv.start (hs.keep fun b hb => hW.block b (Nat.lt_of_lt_of_le (hs.lt hb) (Nat.le_refl _)))
  have h3 := h2.blk (i := 0) rfl
  exact ⟨h2.row (i := 1) rfl, h2.row (i := 2) rfl, by simpa using h3.cell 0, by simpa using h3.cell 1⟩
set_option maxRecDepth 100000 in
set_option maxHeartbeats 6400000 in
theorem rcrash_any {vK : Value} (ks : List Bool) (hK : Hid (RowB w vK ks)) (hmk : Hid (ks.length ≤ D.opn.length)) (HLE : Hid (D.opn.length ≤ 100000)) (hf : Hid (D.firm.length ≤ 5000)) (HOK : Hid (OkD D)) (h : Hid (Sep [refA d D] w T)) :
    Calls Try.prog 25 #[.pointer (some ⟨d, 0, none⟩), vK] w fun e w' => ∃ v : Value, e = .returned v ∧ Hv w No [blA v (flushL D.firm (kept D.opn ks))] w' := by
  obtain ⟨AF, cF, AO, cO, AP, cP, k0, k1, k2, hv⟩ := ref_cells (Hv.start h.out)
  obtain ⟨A, c, rfl, hkc⟩ := hK.out
  have HK : Hid (∀ W, Below w.heap.size w W → ∀ j (hj : j < ks.length), ∃ kb ko, A = some ⟨kb, ko, none⟩ ∧ W.cell? ⟨kb, ko + j, none⟩ = some (.bool ks[j])) := fun W hW j hj => by
    obtain ⟨kb, ko, h1, h2, h3⟩ := hkc j hj
    exact ⟨kb, ko, h1, (hW.cell (p := ⟨kb, ko + j, none⟩) h2).trans h3⟩
  have HROW : Hid (∀ W, Below w.heap.size w W → _) := Lib.hid (ref_reads hv)
  obtain ⟨A1, c1, W1, hE, hH⟩ := copy_bl (hv.row (i := 1) rfl) hf.out
  obtain ⟨m, hm⟩ : ∃ m, m = D.opn.length := ⟨_, rfl⟩
  obtain ⟨n, hn⟩ : ∃ m, m = ks.length := ⟨_, rfl⟩
  obtain ⟨nF, hnF⟩ : ∃ m, m = D.firm.length := ⟨_, rfl⟩
  have hd := hmk.out
  have hmb := HLE.out
  rw [← hm] at k1 hd HROW hmb
  rw [← hn] at hd
  rw [← hnF] at k0 HROW hE
  rw [← hn]
  have HM := Lib.hid hm
  have HN := Lib.hid hn
  have HNF := Lib.hid hnF
  have HE := Lib.hid hE
  have H0 : Hid (Hv w No [blA (.slice A1 nF c1) (flushL D.firm (kept D.opn (ks.take 0)))] W1) := by
    show Hv w No [blA _ _] W1
    rw [List.take_zero, kept_nil, hnF]
    exact hH
  clear hv hm hn hK hnF hkc k2 hE hH
  have hml := markC_length
  go_enter Try.func25, Try.ntmps25
  go_wp2_with (at_builtin; refine wpList_append_run rfl (.tmp 7) (.tmp 11) _ rfl HE.out ?_)
  clear k0 k1 HE
  go_loopw [6] (fun i wr => ∃ k : Nat, k ≤ n ∧ i = .int .i64 k ∧ Hv w No [blA (.slice A1 nF c1) (flushL D.firm (kept D.opn (ks.take k)))] wr) (fun i _ => n - (intOf i).toNat)
  case atStart => exact ⟨0, by omega, rfl, H0.out⟩
  case round =>
    clear H0
    obtain ⟨k, hk, rfl, hi⟩ := hrel
    have HI := Lib.hid hi
    clear hi
    have k1 := (HROW.out wr HI.out.below).2.2.2
    by_cases hkl : k < n
    · have hkl' : k < ks.length := by rw [← HN.out]; exact hkl
      have hko : k < D.opn.length := by rw [← HM.out]; omega
      obtain ⟨kb, ko, rfl, hq⟩ := HK.out wr HI.out.below k hkl'
      have hstep := kept_take D.opn ks k hkl' hko
      obtain ⟨q, hqd⟩ : ∃ q, q = ks[k] := ⟨_, rfl⟩
      rw [← hqd] at hq hstep
      have hok := HOK.out D.opn[k] (List.getElem_mem hko)
      obtain ⟨y, hy⟩ : ∃ y, y = D.opn[k] := ⟨_, rfl⟩
      rw [← hy] at hok hstep
      have HY : Hid (D.opn[k]? = some y) := by show _ = _; rw [hy, List.getElem?_eq_getElem hko]
      have d4 : decide ((k : Int) < (m : Int)) = true := decide_eq_true (by omega)
      have d5 : decide ((k : Int) < (n : Int)) = true := decide_eq_true (by omega)
      have hkm : k < m := by omega
      clear hqd hy hkl' hko
      cases q with
      | false =>
        have HST : Hid (flushL D.firm (kept D.opn (ks.take (k + 1))) = flushL D.firm (kept D.opn (ks.take k))) := by show _ = _; rw [hstep]; simp
        clear hstep hok
        go_wp2
        go_roundw
        case rel => exact ⟨k + 1, by omega, rfl, by rw [HST.out]; exact HI.out⟩
        case measure => simp [intOf]; omega
      | true =>
        obtain ⟨y0, z⟩ := y
        have HST : Hid (flushL D.firm (kept D.opn (ks.take (k + 1))) = (flushL D.firm (kept D.opn (ks.take k))).set y0.toNat z) := by show _ = _; rw [hstep, if_pos rfl, flushL_append]
        have hok0 : 0 ≤ y0 := hok.1
        have hok1 : y0 < (nF : Int) := by rw [HNF.out]; exact hok.2
        clear hstep hok
        obtain ⟨fk, hfk⟩ : ∃ f, f = flushL D.firm (kept D.opn (ks.take k)) := ⟨_, rfl⟩
        have hfl : fk.length = nF := by rw [hfk, flushL_length, HNF.out]
        rw [← hfk] at HI HST
        have HYL : Hid (y0.toNat < fk.length) := by show _ < _; omega
        have HFL := Lib.hid hfl
        clear hfk hfl
        have HKP : Hid (∀ (W : World), Below w.heap.size w W →
            ∃ b, AO = some ⟨b, 0, none⟩ ∧ (W.cell? ⟨d, 1, none⟩ = some (.slice AO m cO) ∧ W.cell? ⟨b, k * 65, none⟩ = some (.int .i64 y0) ∧ W.rangeAt b (k * 65 + 1) (markC z))) := fun W hb => by
          obtain ⟨_, r2, _, r4⟩ := HROW.out W hb
          have hko : k < D.opn.length := (List.getElem?_eq_some_iff.1 HY.out).1
          rw [HM.out] at r2
          obtain ⟨b, e, _, hr, _⟩ := row_range r2 k hko
          have hy : D.opn[k] = (y0, z) := by
            have := HY.out
            rw [List.getElem?_eq_getElem hko] at this
            injection this
          rw [hy] at hr
          have hs := range_split hr
          exact ⟨b, e, r4, hs.1, hs.2⟩
        obtain ⟨b, rfl, _⟩ := HKP.out _ HI.out.below
        have HKQ : Hid (∀ (W : World), Below w.heap.size w W →
            (W.cell? ⟨d, 1, none⟩ = some (.slice (some ⟨b, 0, none⟩) m cO) ∧ W.cell? ⟨b, k * 65, none⟩ = some (.int .i64 y0) ∧ W.rangeAt b (k * 65 + 1) (markC z))) := fun W hb => by
          obtain ⟨b', e, h⟩ := HKP.out W hb
          injection e with e
          injection e with e
          subst e
          exact h
        clear HKP
        obtain ⟨g, rfl, _, _, hth⟩ := firm_range HI.out.drew (i := 0) rfl y0.toNat HYL.out
        have hst : (storeCells ⟨g, y0.toNat * 64, none⟩ (markC z)).run Try.prog wr.drew = .ok () (wr.drew.setCells g (y0.toNat * 64) (markC z)) := cells_block hth
        have h3 := set_firm HFL.out HI.out.drew y0.toNat HYL.out z
        obtain ⟨W3, hW3⟩ : ∃ y, y = wr.drew.setCells g (y0.toNat * 64) (markC z) := ⟨_, rfl⟩
        rw [← hW3] at h3 hst
        have H3 := Lib.hid h3
        obtain ⟨e2, e3, e4⟩ := HKQ.out _ HI.out.below
        have d2 : decide (y0 < (nF : Int)) = true := decide_eq_true hok1
        have d3 : decide (0 ≤ y0) = true := decide_eq_true hok0
        clear h3 hW3 hth
        go_wp2_with fail
        clear hq k1
        refine wp_region_noPanic ?_
        refine wp_region_held_drew (S := (fun W => W.cell? ⟨d, 1, none⟩ = some (.slice (some ⟨b, 0, none⟩) m cO) ∧ W.cell? ⟨b, k * 65, none⟩ = some (.int .i64 y0) ∧ W.rangeAt b (k * 65 + 1) (markC z))) (by kernel_rfl) ⟨e2, e3, e4⟩ (fun hHeld => ?_)
        refine wpAnyH_take (i := 0) (v := ?v0) rfl (by kernel_rfl) (by kernel_rfl) (by kernel_rfl) (fun _ _ _ h => h) (Or.inl ⟨by rfl, ?hy0⟩) (by assumption) ?rest0
        case hy0 =>
          intro w hSw
          (try dsimp only at hSw)
          go_simp
          try with_reducible rfl
        try simp only [Act.put, List.getElem_toArray, List.getElem_cons_zero, List.setIfInBounds_toArray, List.set_cons_zero, List.set_cons_succ]
        refine wpAnyH_take (i := 1) (v := ?v1) rfl (by kernel_rfl) (by kernel_rfl) (by kernel_rfl) (fun _ _ _ h => h) (Or.inl ⟨by rfl, ?hy1⟩) (by assumption) ?rest1
        case hy1 =>
          intro w hSw
          (try dsimp only at hSw)
          go_simp
          try with_reducible rfl
        try simp only [Act.put, List.getElem_toArray, List.getElem_cons_zero, List.getElem_cons_succ, List.setIfInBounds_toArray, List.set_cons_zero, List.set_cons_succ]
        refine wpAnyH_take (i := 2) (v := ?v2) rfl (by kernel_rfl) (by kernel_rfl) (by kernel_rfl) (fun _ _ _ h => h) (Or.inl ⟨by rfl, ?hy2⟩) (by assumption) ?rest2
        case hy2 =>
          intro w hSw
          (try dsimp only at hSw)
          go_simp
          try with_reducible rfl
        try simp only [Act.put, List.getElem_toArray, List.getElem_cons_zero, List.getElem_cons_succ, List.setIfInBounds_toArray, List.set_cons_zero, List.set_cons_succ]
        refine wpAnyH_take (i := 3) (v := ?v3) rfl (by kernel_rfl) (by kernel_rfl) (by kernel_rfl) (fun _ _ _ h => h) (Or.inl ⟨by rfl, ?hy3⟩) (by assumption) ?rest3
        case hy3 =>
          intro w hSw
          (try dsimp only at hSw)
          go_simp
          try with_reducible rfl
        try simp only [Act.put, List.getElem_toArray, List.getElem_cons_zero, List.getElem_cons_succ, List.setIfInBounds_toArray, List.set_cons_zero, List.set_cons_succ]
        refine wpAnyH_take (i := 4) (v := ?v4) rfl (by kernel_rfl) (by kernel_rfl) (by kernel_rfl) (fun _ _ _ h => h) (Or.inl ⟨by rfl, ?hy4⟩) (by assumption) ?rest4
        case hy4 =>
          intro w hSw
          (try dsimp only at hSw)
          go_simp
          try with_reducible rfl
        try simp only [Act.put, List.getElem_toArray, List.getElem_cons_zero, List.getElem_cons_succ, List.setIfInBounds_toArray, List.set_cons_zero, List.set_cons_succ]
        refine wpAnyH_take (i := 5) (v := ?v5) rfl (by kernel_rfl) (by kernel_rfl) (by kernel_rfl) (fun _ _ _ h => h) (Or.inl ⟨by rfl, ?hy5⟩) (by assumption) ?rest5
        case hy5 =>
          intro w hSw
          (try dsimp only at hSw)
          go_simp
          try with_reducible rfl
        try simp only [Act.put, List.getElem_toArray, List.getElem_cons_zero, List.getElem_cons_succ, List.setIfInBounds_toArray, List.set_cons_zero, List.set_cons_succ]
        refine wpAnyH_take (i := 6) (v := ?v6) rfl (by kernel_rfl) (by kernel_rfl) (by kernel_rfl) (fun _ _ _ h => h) (Or.inl ⟨by rfl, ?hy6⟩) (by assumption) ?rest6
        case hy6 =>
          intro w hSw
          (try dsimp only at hSw)
          go_simp
          try with_reducible rfl
        try simp only [Act.put, List.getElem_toArray, List.getElem_cons_zero, List.getElem_cons_succ, List.setIfInBounds_toArray, List.set_cons_zero, List.set_cons_succ]
        refine wpAnyH_take (i := 7) (v := ?v7) rfl (by kernel_rfl) (by kernel_rfl) (by kernel_rfl) (fun _ _ _ h => h) (Or.inl ⟨by rfl, ?hy7⟩) (by assumption) ?rest7
        case hy7 =>
          intro w hSw
          (try dsimp only at hSw)
          go_simp
          try with_reducible rfl
        try simp only [Act.put, List.getElem_toArray, List.getElem_cons_zero, List.getElem_cons_succ, List.setIfInBounds_toArray, List.set_cons_zero, List.set_cons_succ]
        refine wpAnyH_take (i := 8) (v := ?v8) rfl (by kernel_rfl) (by kernel_rfl) (by kernel_rfl) (fun _ _ _ h => h) (Or.inl ⟨by rfl, ?hy8⟩) (by assumption) ?rest8
        case hy8 =>
          intro w hSw
          (try dsimp only at hSw)
          go_simp
          try with_reducible rfl
        try simp only [Act.put, List.getElem_toArray, List.getElem_cons_zero, List.getElem_cons_succ, List.setIfInBounds_toArray, List.set_cons_zero, List.set_cons_succ]
        refine wpAnyH_take (i := 9) (v := ?v9) rfl (by kernel_rfl) (by kernel_rfl) (by kernel_rfl) (fun _ _ _ h => h) (Or.inl ⟨by rfl, ?hy9⟩) (by assumption) ?rest9
        case hy9 =>
          intro w hSw
          (try dsimp only at hSw)
          go_simp
          try with_reducible rfl
        try simp only [Act.put, List.getElem_toArray, List.getElem_cons_zero, List.getElem_cons_succ, List.setIfInBounds_toArray, List.set_cons_zero, List.set_cons_succ]
        refine wpAnyH_take (i := 10) (v := ?v10) rfl (by kernel_rfl) (by kernel_rfl) (by kernel_rfl) (fun _ _ _ h => h) (Or.inl ⟨by rfl, ?hy10⟩) (by assumption) ?rest10
        case hy10 =>
          intro w hSw
          (try dsimp only at hSw)
          go_simp
          try with_reducible rfl
        try simp only [Act.put, List.getElem_toArray, List.getElem_cons_zero, List.getElem_cons_succ, List.setIfInBounds_toArray, List.set_cons_zero, List.set_cons_succ]
        refine wpAnyH_take (i := 11) (v := ?v11) rfl (by kernel_rfl) (by kernel_rfl) (by kernel_rfl) (fun _ _ _ h => h) (Or.inl ⟨by rfl, ?hy11⟩) (by assumption) ?rest11
        case hy11 =>
          intro w hSw
          (try dsimp only at hSw)
          go_simp
          try with_reducible rfl
        try simp only [Act.put, List.getElem_toArray, List.getElem_cons_zero, List.getElem_cons_succ, List.setIfInBounds_toArray, List.set_cons_zero, List.set_cons_succ]
        refine wpAnyH_take (i := 12) (v := ?v12) rfl (by kernel_rfl) (by kernel_rfl) (by kernel_rfl) (fun _ _ _ h => h) (Or.inl ⟨by rfl, ?hy12⟩) (by assumption) ?rest12
        case hy12 =>
          intro w hSw
          (try dsimp only at hSw)
          go_simp
          try with_reducible rfl
        try simp only [Act.put, List.getElem_toArray, List.getElem_cons_zero, List.getElem_cons_succ, List.setIfInBounds_toArray, List.set_cons_zero, List.set_cons_succ]
        refine wpAnyH_take (i := 13) (v := ?v13) rfl (by kernel_rfl) (by kernel_rfl) (by kernel_rfl) (fun _ _ _ h => h) (Or.inl ⟨by rfl, ?hy13⟩) (by assumption) ?rest13
        case hy13 =>
          intro w hSw
          (try dsimp only at hSw)
          go_simp
          try with_reducible rfl
        try simp only [Act.put, List.getElem_toArray, List.getElem_cons_zero, List.getElem_cons_succ, List.setIfInBounds_toArray, List.set_cons_zero, List.set_cons_succ]
        refine wpAnyH_take (i := 14) (v := ?v14) rfl (by kernel_rfl) (by kernel_rfl) (by kernel_rfl) (fun _ _ _ h => h) (Or.inl ⟨by rfl, ?hy14⟩) (by assumption) ?rest14
        case hy14 =>
          intro w hSw
          (try dsimp only at hSw)
          go_simp
          try with_reducible rfl
        try simp only [Act.put, List.getElem_toArray, List.getElem_cons_zero, List.getElem_cons_succ, List.setIfInBounds_toArray, List.set_cons_zero, List.set_cons_succ]
        refine wpAnyH_take (i := 15) (v := ?v15) rfl (by kernel_rfl) (by kernel_rfl) (by kernel_rfl) (fun _ _ _ h => h) (Or.inl ⟨by rfl, ?hy15⟩) (by assumption) ?rest15
        case hy15 =>
          intro w hSw
          (try dsimp only at hSw)
          go_simp
          try with_reducible rfl
        try simp only [Act.put, List.getElem_toArray, List.getElem_cons_zero, List.getElem_cons_succ, List.setIfInBounds_toArray, List.set_cons_zero, List.set_cons_succ]
        refine wpAnyH_take (i := 16) (v := .agg _) rfl (by kernel_rfl) (by kernel_rfl) (by kernel_rfl) (fun _ _ _ h => h) (yieldsIf_load_mid (by rfl) 34 (.tmp 47) rfl _ _ rfl (markC z) _ (fun w hSw => hSw.2.2) Try.underlying34 rfl (by rw [size34, markC_length])) (by assumption) ?_
        try simp only [Act.put, List.getElem_toArray, List.getElem_cons_zero, List.getElem_cons_succ, List.setIfInBounds_toArray, List.set_cons_zero, List.set_cons_succ]
        refine wpAnyH_take (i := 17) (v := ?v17) rfl (by kernel_rfl) (by kernel_rfl) (by kernel_rfl) (fun _ _ _ h => h) (Or.inl ⟨by rfl, ?hy17⟩) (by assumption) ?rest17
        case hy17 =>
          intro w hSw
          (try dsimp only at hSw)
          go_simp
          try with_reducible rfl
        try simp only [Act.put, List.getElem_toArray, List.getElem_cons_zero, List.getElem_cons_succ, List.setIfInBounds_toArray, List.set_cons_zero, List.set_cons_succ]
        refine wpAnyH_ready (rs := [18]) (by kernel_rfl) (by simp) ?_
        refine AllReadyH.cons rfl (fun K hK => ?_) AllReadyH.nil
        go_simp
        refine hK.out _ _ (HKQ.out _ H3.out.below) (fun hHeld3 => ?_)
        clear hK K
        refine wpAnyH_done (by kernel_rfl) ?_ _
        refine NoPanic.normal ?_
        clear hHeld hHeld3 e2 e3 e4 hst HKQ
        go_wp2
        go_roundw
        case rel => exact ⟨k + 1, by omega, rfl, by rw [HST.out]; exact H3.out⟩
        case measure => simp [intOf]; omega
    · obtain rfl : k = n := by omega
      have d5 : decide ((k : Int) < (k : Int)) = false := decide_eq_false (by omega)
      have HX : Hid (Hv w No [blA (.slice A1 nF c1) (flushL D.firm (kept D.opn ks))] wr) := by
        have := HI.out
        rw [HN.out, List.take_length] at this
        exact this
      clear HI
      by_cases hkm : k < m
      · have d4 : decide ((k : Int) < (m : Int)) = true := decide_eq_true (by omega)
        have d6 : decide (k < m) = true := decide_eq_true hkm
        go_wp2
        go_ret
        exact ⟨_, rfl, HX.out⟩
      · have d4 : decide ((k : Int) < (m : Int)) = false := decide_eq_false (by omega)
        have d6 : decide (k < m) = false := decide_eq_false hkm
        go_wp2
        go_ret
        exact ⟨_, rfl, HX.out⟩
end
end Go.Proofs.Ytbfmgdkiigkioaa

/- The document's Write. -/
import Derived.Test.YtbfmgdkiigkioaaRefNew
namespace Go.Proofs.Ytbfmgdkiigkioaa
open Go.RowKit Go.LawEnd

section
variable {w0 W : World} {S : Nat → Prop} {L : List Atom} {v : Value}
theorem app_rw {l : List Wr} (h : Hv w0 S (rwA v l :: L) W) (hl : l.length ≤ 100000) (p : Wr) (te : TypeId) :
    ∃ g cap w', (Builtin.append_ #[49, 49] 49 #[v, .slice (some ⟨W.heap.size, 0, none⟩) 1 1]).run Try.prog (W.alloc (.cells (wrC p).toArray te)) = .ok (.slice (some ⟨g, 0, none⟩) (l.length + 1) cap) w' ∧
      Hv w0 S (rwA (.slice (some ⟨g, 0, none⟩) (l.length + 1) cap) (l ++ [p]) :: L) w' := by
  obtain ⟨i0, hi0, hz0, hz1, hz2⟩ := infoRw
  obtain ⟨g, cap, w', h1, h2, _, _⟩ := h.append (P := Try.prog) 49 49 te (i := i0) (bytes := 72) Try.underlying49 hi0 hz0 hz1 hz2 (by show (wrC (0, 0)).toArray.size = 65; simp [wrC_length]) (by omega) 1 (by omega) (wrC p).toArray (by simp [wrC_length]) (by simpa using wrC_cell p) (by unfold maxLen; omega) (by omega)
  refine ⟨g, cap, w', h1, ?_⟩
  have e1 : (l ++ [p]).length = l.length + 1 := by simp
  unfold rwA
  rw [e1, wrs_append]
  exact h2
end
section
variable {T : Nat → Prop} {d : Nat} {D : Dv} {w : World}
set_option maxRecDepth 100000 in
set_option maxHeartbeats 6400000 in
theorem rwrite_any (s z : Int) (HLE : Hid (D.opn.length ≤ 100000)) (h : Hid (Sep [refA d D] w T)) :
    Calls Try.prog 37 #[.pointer (some ⟨d, 0, none⟩), .int .i64 s, .agg (markC z).toArray] w fun e w' => e = .returned (.int .i64 (writeF D s z).1) ∧ Hv w T [refA d (writeF D s z).2] w' := by
  obtain ⟨w0, hw0⟩ : ∃ y, y = w := ⟨_, rfl⟩
  go_enter Try.func37, Try.ntmps37
  go_wp2_with fail
  obtain ⟨P5, hP5⟩ : ∃ y, y = w.heap.size := ⟨_, rfl⟩
  obtain ⟨V, hV⟩ : ∃ y, y = w.alloc (.cells (markC z).toArray 34) := ⟨_, rfl⟩
  have hv := (Hv.start h.out).alloc 34 (markC z).toArray
  rw [← hV, ← hP5] at hv
  rw [← hV, ← hP5]
  have HV : Hid (Hv w T [refA d D, blkA P5 34 (markC z).toArray] V) := hv.pick [1, 0]
  clear hV hP5 hv h hw0
  obtain ⟨T1, hT1, hJ1⟩ := HV.out.all
  have HT1 := Lib.hid hT1
  have HJ1 := Lib.hid hJ1
  clear hT1 hJ1
  refine (rthere_any s HT1).mono ?_
  rintro e w2 ⟨rfl, rfl⟩
  obtain ⟨q, hq⟩ : ∃ q, q = there D s := ⟨_, rfl⟩
  rw [← hq]
  cases q with
  | false =>
    have HF : Hid (writeF D s z = (10, D)) := by show _ = _; unfold writeF; rw [← hq]; rfl
    clear hq
    go_wp2_with fail
    go_ret
    exact ⟨by (first | (rw [HF.out]; done) | (rw [HF.out]; rfl)), by rw [HF.out]; exact HV.out.pick [0]⟩
  | true =>
    have HTH : Hid (there D s = true) := hq.symm
    clear hq
    go_wp2_with fail
    refine (rfate_any HT1).mono ?_
    rintro e w2 ⟨rfl, hw2⟩
    have HV2 := Lib.hid (HJ1.out _ _ hw2)
    clear hw2 HJ1 HT1 HV
    by_cases h1 : fateD D = 1
    · have HF : Hid (writeF D s z = (20, restD D)) := by show _ = _; unfold writeF; rw [if_pos HTH.out, if_pos h1]
      rw [h1]
      clear h1
      go_wp2_with fail
      go_ret
      exact ⟨by (first | (rw [HF.out]; done) | (rw [HF.out]; rfl)), by rw [HF.out]; exact HV2.out.pick [0]⟩
    · by_cases h0 : fateD D = 0
      · have HF : Hid (writeF D s z = (0, addD (restD D) (s, z))) := by show _ = _; unfold writeF; rw [if_pos HTH.out, if_neg h1, if_pos h0]
        rw [h0]
        clear h0 h1
        obtain ⟨D', hD'⟩ : ∃ y, y = restD D := ⟨_, rfl⟩
        have HLE2 : Hid (D'.opn.length ≤ 100000) := by show _ ≤ _; rw [hD']; exact HLE.out
        rw [← hD'] at HV2 HF
        clear hD' HLE HTH
        obtain ⟨AF, cF, AO, cO, AP, cP, k0, k1, k2, hv⟩ := ref_cells HV2.out
        have HX00 : Hid (Hv w T [rwA (.slice AO D'.opn.length cO) D'.opn, blkA d 52 #[.slice AF D'.firm.length cF, .slice AO D'.opn.length cO, .slice AP D'.plan.length cP]] w2) := hv.pick [2, 0]
        have HX : Hid (Hv w T [rwA (.slice AO D'.opn.length cO) D'.opn, blkA d 52 #[.slice AF D'.firm.length cF, .slice AO D'.opn.length cO, .slice AP D'.plan.length cP], blkA P5 34 (markC z).toArray, blA (.slice AF D'.firm.length cF) D'.firm, plA (.slice AP D'.plan.length cP) D'.plan] w2.drew) := hv.drew.pick [2, 0, 4, 1, 3]
        have HKP : Hid (∀ (u : Value) (l : List Wr) (cs : Array Value) (W : World), Hv w T [rwA u l, blkA d 52 cs, blkA P5 34 (markC z).toArray, blA (.slice AF D'.firm.length cF) D'.firm, plA (.slice AP D'.plan.length cP) D'.plan] W →
          W.rangeAt P5 0 (markC z) ∧ W.frozen? ⟨d, 1, none⟩ = false) := fun u l cs W hv => ⟨blk_range (hv.blk (i := 2) rfl), (hv.blk (i := 1) rfl).frozen 1⟩
        have HST : Hid (∀ (u : Value) (l : List Wr) (cs : Array Value) (W : World), Hv w T [rwA u l, blkA d 52 cs, blkA P5 34 (markC z).toArray, blA (.slice AF D'.firm.length cF) D'.firm, plA (.slice AP D'.plan.length cP) D'.plan] W →
          l = D'.opn ++ [(s, z)] → cs = #[.slice AF D'.firm.length cF, .slice AO D'.opn.length cO, .slice AP D'.plan.length cP] →
          Hv w T [rwA u (D'.opn ++ [(s, z)]), blkA d 52 #[.slice AF D'.firm.length cF, u, .slice AP D'.plan.length cP], blkA P5 34 (markC z).toArray, blA (.slice AF D'.firm.length cF) D'.firm, plA (.slice AP D'.plan.length cP) D'.plan] (W.setCell ⟨d, 1, none⟩ u) ∧
          Hv w T [refA d (addD D' (s, z))] (W.setCell ⟨d, 1, none⟩ u)) := fun u l cs W hv hl hcs => by
            subst hl
            subst hcs
            have h1 := (hv.front 1 (by simp)).set 1 u
            refine ⟨h1.pick [1, 0, 2, 3, 4], ?_⟩
            refine ref_close (D := addD D' (s, z)) (vF := .slice AF D'.firm.length cF) (vO := u) (vP := .slice AP D'.plan.length cP) ?_
            exact h1.pick [0, 3, 1, 4]
        have HBS : Hid (∀ W : World, (Instr.buildSlice 49 1 #[(0, .agg (wrC (s, z)).toArray)]).run Try.prog W = .ok (.slice (some ⟨W.heap.size, 0, none⟩) 1 1) (W.alloc (.cells (wrC (s, z)).toArray 74))) := fun W => by
          obtain ⟨i0, hi0, hz0, hz1, hz2⟩ := infoRw
          exact bslice_run _ 74 W _ i0 _ Try.underlying49 hi0 hz0 (by rw [hz1]; simp [wrC_length]) (by simp [wrC_length]) (by simp [wrC_length])
        obtain ⟨e3, e4⟩ := HKP.out _ _ _ _ (hv.pick [2, 0, 4, 1, 3])
        clear hv k0 k2
        go_wp2_with fail
        refine wp_region_noPanic ?_
        refine wp_region_held_drew (S := (fun W => W.rangeAt P5 0 (markC z) ∧ W.frozen? ⟨d, 1, none⟩ = false)) (by kernel_rfl) ⟨e3, e4⟩ (fun hHeld => ?_)
        refine wpAnyH_take (i := 0) (v := ?v0) rfl (by kernel_rfl) (by kernel_rfl) (by kernel_rfl) (fun _ _ _ h => h) (Or.inl ⟨by rfl, ?hy0⟩) (by assumption) ?rest0
        case hy0 =>
          intro w hSw
          (try dsimp only at hSw)
          go_simp
          try with_reducible rfl
        try simp only [Act.put, List.getElem_toArray, List.getElem_cons_zero, List.setIfInBounds_toArray, List.set_cons_zero, List.set_cons_succ]
        refine wpAnyH_take (i := 1) (v := ?v1) rfl (by kernel_rfl) (by kernel_rfl) (by kernel_rfl) (fun _ _ _ h => h) (Or.inl ⟨by rfl, ?hy1⟩) (by assumption) ?rest1
        case hy1 =>
          intro w hSw
          (try dsimp only at hSw)
          go_simp
          try with_reducible rfl
        try simp only [Act.put, List.getElem_toArray, List.getElem_cons_zero, List.getElem_cons_succ, List.setIfInBounds_toArray, List.set_cons_zero, List.set_cons_succ]
        refine wpAnyH_take (i := 2) (v := ?v2) rfl (by kernel_rfl) (by kernel_rfl) (by kernel_rfl) (fun _ _ _ h => h) (Or.inl ⟨by rfl, ?hy2⟩) (by assumption) ?rest2
        case hy2 =>
          intro w hSw
          (try dsimp only at hSw)
          go_simp
          try with_reducible rfl
        try simp only [Act.put, List.getElem_toArray, List.getElem_cons_zero, List.getElem_cons_succ, List.setIfInBounds_toArray, List.set_cons_zero, List.set_cons_succ]
        refine wpAnyH_take (i := 3) (v := ?v3) rfl (by kernel_rfl) (by kernel_rfl) (by kernel_rfl) (fun _ _ _ h => h) (Or.inl ⟨by rfl, ?hy3⟩) (by assumption) ?rest3
        case hy3 =>
          intro w hSw
          (try dsimp only at hSw)
          go_simp
          try with_reducible rfl
        try simp only [Act.put, List.getElem_toArray, List.getElem_cons_zero, List.getElem_cons_succ, List.setIfInBounds_toArray, List.set_cons_zero, List.set_cons_succ]
        refine wpAnyH_take (i := 5) (v := ?v5) rfl (by kernel_rfl) (by kernel_rfl) (by kernel_rfl) (fun _ _ _ h => h) (Or.inl ⟨by rfl, ?hy5⟩) (by assumption) ?rest5
        case hy5 =>
          intro w hSw
          (try dsimp only at hSw)
          go_simp
          try with_reducible rfl
        try simp only [Act.put, List.getElem_toArray, List.getElem_cons_zero, List.getElem_cons_succ, List.setIfInBounds_toArray, List.set_cons_zero, List.set_cons_succ]
        refine wpAnyH_take (i := 6) (v := .agg _) rfl (by kernel_rfl) (by kernel_rfl) (by kernel_rfl) (fun _ _ _ h => h) (yieldsIf_load_mid (by rfl) 34 (.tmp 5) rfl _ _ rfl (markC z) _ (fun w hSw => hSw.1) Try.underlying34 rfl (by rw [size34, markC_length])) (by assumption) ?_
        try simp only [Act.put, List.getElem_toArray, List.getElem_cons_zero, List.getElem_cons_succ, List.setIfInBounds_toArray, List.set_cons_zero, List.set_cons_succ]
        refine wpAnyH_take (i := 7) (v := .agg _) rfl (by kernel_rfl) (by kernel_rfl) (by kernel_rfl) (fun _ _ _ h => h) (yields_build rfl 74 (.tmp 23) (.tmp 24) rfl _ (built_rw s z)) (by assumption) ?_
        try simp only [Act.put, List.getElem_toArray, List.getElem_cons_zero, List.getElem_cons_succ, List.setIfInBounds_toArray, List.set_cons_zero, List.set_cons_succ]
        refine wpAnyH_ready (rs := [4, 8]) (by kernel_rfl) (by simp) ?_
        refine AllReadyH.cons rfl (fun K hK => ?_) (AllReadyH.cons rfl (fun K hK => ?_) AllReadyH.nil)
        · have c1 := (HX.out.blk (i := 1) rfl).cell 1
          go_simp
          refine hK.out _ _ hHeld (fun hHeld2 => ?_)
          clear hK K
          try simp only [Act.put, List.getElem_toArray, List.getElem_cons_zero, List.getElem_cons_succ, List.setIfInBounds_toArray, List.set_cons_zero, List.set_cons_succ]
          refine wpAnyH_ready (rs := [8]) (by kernel_rfl) (by simp) ?_
          refine AllReadyH.cons rfl (fun K hK => ?_) AllReadyH.nil
          refine step_bslice rfl 49 1 (.tmp 25) rfl (v := .slice (some ⟨w2.drew.heap.size, 0, none⟩) 1 1) (w' := w2.drew.alloc (.cells (wrC (s, z)).toArray 74)) ?_ ?_
          · exact HBS.out w2.drew
          refine hK.out _ _ (HKP.out _ _ _ _ (HX.out.alloc_ _)) (fun hHeld3 => ?_)
          clear hK K
          try simp only [Act.put, List.getElem_toArray, List.getElem_cons_zero, List.getElem_cons_succ, List.setIfInBounds_toArray, List.set_cons_zero, List.set_cons_succ]
          refine wpAnyH_ready (rs := [9]) (by kernel_rfl) (by simp) ?_
          refine AllReadyH.cons rfl (fun K hK => ?_) AllReadyH.nil
          obtain ⟨g2, cap2, W7, hE, hH⟩ := app_rw HX.out HLE2.out (s, z) 74
          refine step_append_run rfl (.tmp 22) (.tmp 26) 49 rfl (v' := .slice (some ⟨g2, 0, none⟩) (D'.opn.length + 1) cap2) (w' := W7) ?_ ?_
          · exact hE
          have HX7 := Lib.hid hH
          clear hE hH
          refine hK.out _ _ (HKP.out _ _ _ _ HX7.out) (fun hHeld4 => ?_)
          clear hK K
          try simp only [Act.put, List.getElem_toArray, List.getElem_cons_zero, List.getElem_cons_succ, List.setIfInBounds_toArray, List.set_cons_zero, List.set_cons_succ]
          refine wpAnyH_take (i := 10) (v := ?vt10) rfl (by kernel_rfl) (by kernel_rfl) (by kernel_rfl) (fun _ _ _ h => h) (Or.inl ⟨by rfl, ?hyt10⟩) (by assumption) ?restt10
          case hyt10 =>
            intro w hSw
            (try dsimp only at hSw)
            go_simp
            try with_reducible rfl
          try simp only [Act.put, List.getElem_toArray, List.getElem_cons_zero, List.getElem_cons_succ, List.setIfInBounds_toArray, List.set_cons_zero, List.set_cons_succ]
          refine wpAnyH_take (i := 11) (v := ?vt11) rfl (by kernel_rfl) (by kernel_rfl) (by kernel_rfl) (fun _ _ _ h => h) (Or.inl ⟨by rfl, ?hyt11⟩) (by assumption) ?restt11
          case hyt11 =>
            intro w hSw
            (try dsimp only at hSw)
            go_simp
            try with_reducible rfl
          try simp only [Act.put, List.getElem_toArray, List.getElem_cons_zero, List.getElem_cons_succ, List.setIfInBounds_toArray, List.set_cons_zero, List.set_cons_succ]
          refine wpAnyH_ready (rs := [12]) (by kernel_rfl) (by simp) ?_
          refine AllReadyH.cons rfl (fun K hK => ?_) AllReadyH.nil
          have c5 := (HKP.out _ _ _ _ HX7.out).2
          have c6 := (HX7.out.blk (i := 1) rfl).cell 1
          go_simp
          have HX8 := Lib.hid (HST.out _ _ _ _ HX7.out rfl rfl)
          refine hK.out _ _ (HKP.out _ _ _ _ HX8.out.1) (fun hHeld5 => ?_)
          clear hK K
          refine wpAnyH_done (by kernel_rfl) ?_ _
          refine NoPanic.normal ?_
          go_wp2
          go_ret
          exact ⟨by (first | (rw [HF.out]; done) | (rw [HF.out]; rfl)), by rw [HF.out]; exact HX8.out.2⟩
        · refine step_bslice rfl 49 1 (.tmp 25) rfl (v := .slice (some ⟨w2.drew.heap.size, 0, none⟩) 1 1) (w' := w2.drew.alloc (.cells (wrC (s, z)).toArray 74)) ?_ ?_
          · exact HBS.out w2.drew
          refine hK.out _ _ (HKP.out _ _ _ _ (HX.out.alloc_ _)) (fun hHeld3 => ?_)
          clear hK K
          try simp only [Act.put, List.getElem_toArray, List.getElem_cons_zero, List.getElem_cons_succ, List.setIfInBounds_toArray, List.set_cons_zero, List.set_cons_succ]
          refine wpAnyH_ready (rs := [4]) (by kernel_rfl) (by simp) ?_
          refine AllReadyH.cons rfl (fun K hK => ?_) AllReadyH.nil
          have c1 : (w2.alloc (.cells (wrC (s, z)).toArray 74)).cell? ⟨d, 1, none⟩ = some (.slice AO D'.opn.length cO) := by
            have := ((HX00.out.alloc_ (.cells (wrC (s, z)).toArray 74)).blk (i := 1) rfl).cell 1
            simpa using this
          go_simp
          refine hK.out _ _ hHeld3 (fun hHeld2 => ?_)
          clear hK K
          try simp only [Act.put, List.getElem_toArray, List.getElem_cons_zero, List.getElem_cons_succ, List.setIfInBounds_toArray, List.set_cons_zero, List.set_cons_succ]
          refine wpAnyH_ready (rs := [9]) (by kernel_rfl) (by simp) ?_
          refine AllReadyH.cons rfl (fun K hK => ?_) AllReadyH.nil
          obtain ⟨g2, cap2, W7, hE, hH⟩ := app_rw HX.out HLE2.out (s, z) 74
          refine step_append_run rfl (.tmp 22) (.tmp 26) 49 rfl (v' := .slice (some ⟨g2, 0, none⟩) (D'.opn.length + 1) cap2) (w' := W7) ?_ ?_
          · exact hE
          have HX7 := Lib.hid hH
          clear hE hH
          refine hK.out _ _ (HKP.out _ _ _ _ HX7.out) (fun hHeld4 => ?_)
          clear hK K
          try simp only [Act.put, List.getElem_toArray, List.getElem_cons_zero, List.getElem_cons_succ, List.setIfInBounds_toArray, List.set_cons_zero, List.set_cons_succ]
          refine wpAnyH_take (i := 10) (v := ?vu10) rfl (by kernel_rfl) (by kernel_rfl) (by kernel_rfl) (fun _ _ _ h => h) (Or.inl ⟨by rfl, ?hyu10⟩) (by assumption) ?restu10
          case hyu10 =>
            intro w hSw
            (try dsimp only at hSw)
            go_simp
            try with_reducible rfl
          try simp only [Act.put, List.getElem_toArray, List.getElem_cons_zero, List.getElem_cons_succ, List.setIfInBounds_toArray, List.set_cons_zero, List.set_cons_succ]
          refine wpAnyH_take (i := 11) (v := ?vu11) rfl (by kernel_rfl) (by kernel_rfl) (by kernel_rfl) (fun _ _ _ h => h) (Or.inl ⟨by rfl, ?hyu11⟩) (by assumption) ?restu11
          case hyu11 =>
            intro w hSw
            (try dsimp only at hSw)
            go_simp
            try with_reducible rfl
          try simp only [Act.put, List.getElem_toArray, List.getElem_cons_zero, List.getElem_cons_succ, List.setIfInBounds_toArray, List.set_cons_zero, List.set_cons_succ]
          refine wpAnyH_ready (rs := [12]) (by kernel_rfl) (by simp) ?_
          refine AllReadyH.cons rfl (fun K hK => ?_) AllReadyH.nil
          have c5 := (HKP.out _ _ _ _ HX7.out).2
          have c6 := (HX7.out.blk (i := 1) rfl).cell 1
          go_simp
          have HX8 := Lib.hid (HST.out _ _ _ _ HX7.out rfl rfl)
          refine hK.out _ _ (HKP.out _ _ _ _ HX8.out.1) (fun hHeld5 => ?_)
          clear hK K
          refine wpAnyH_done (by kernel_rfl) ?_ _
          refine NoPanic.normal ?_
          go_wp2
          go_ret
          exact ⟨by (first | (rw [HF.out]; done) | (rw [HF.out]; rfl)), by rw [HF.out]; exact HX8.out.2⟩
      · have HF : Hid (writeF D s z = (0, restD D)) := by show _ = _; unfold writeF; rw [if_pos HTH.out, if_neg h1, if_neg h0]
        have b0 : (fateD D == 0) = false := by rw [beq_eq_false_iff_ne]; exact h0
        have b1 : (fateD D == 1) = false := by rw [beq_eq_false_iff_ne]; exact h1
        obtain ⟨f, hf⟩ : ∃ f, f = fateD D := ⟨_, rfl⟩
        rw [← hf] at b0 b1 ⊢
        clear hf h0 h1
        go_wp2_with fail
        go_ret
        exact ⟨by (first | (rw [HF.out]; done) | (rw [HF.out]; rfl)), by rw [HF.out]; exact HV2.out.pick [0]⟩
end
end Go.Proofs.Ytbfmgdkiigkioaa
